/- Stf, Ra2, Stg, Stc, Std, Ste, Stn, Rcq: joined by program, for one claim. -/
import Derived.Test.YtfcbajmjaifjlaaGreatMr
import Derived.Test.YtfcbajmjaifjlaaGreatM41
import Derived.Test.YtfcbajmjaifjlaaGreatM21
import Derived.Test.YtfcbajmjaifjlaaGreatM23
import Derived.Test.YtfcbajmjaifjlaaGreatM38
set_option linter.unusedVariables false
set_option linter.unusedSimpArgs false
namespace Go.Proofs.YtfcbajmjaifjlaaGreat
section
open Go.RowKit Go.Sort Go.Maps
open Oct
noncomputable def copyF (F:Pt→Int) (m:Nat) (d:Pt) (T:Tr) (c:Pt):Pt→Int :=
 open Classical in fun p=>if Tr.InC m d p then (match T with | .uni k=>k | _=>F ⟨p.x - d.x+c.x,p.y - d.y+c.y,p.z - d.z+c.z⟩) else F p
open Classical in
noncomputable def stepF (N:Nat) (F:Pt→Int) (s:Stp):Option (Pt→Int) :=
 if s.kd=1 then (if 0≤s.cell∧s.cell≤255 then some (fillF N s.b s.cell F) else none)
 else if s.kd=2 then some (pasteF N s.g s.ys F)
 else if s.kd=3 then (if ∀ c∈s.cs,okChg N c then some (writeF (pts s.cs) F) else none)
 else if partOK N s.c.x s.c.y s.c.z s.cl∧partOK N s.d.x s.d.y s.d.z s.dl∧fitsAt (Tr.can F (s.cl.toNat - 2) s.c) s.dl then some (copyF F (s.dl.toNat - 2) s.d (Tr.can F (s.cl.toNat - 2) s.c) s.c) else none
theorem Done.before {Far:Nat→Prop} {sb:Nat} {most:Int} {ts ts':List Tr} {t:Tr} {w W W':World} {e:Ending} (hb:Below w.heap.size w W) (h:Done Far sb most ts ts' t W e W'):Done Far sb most ts ts' t w e W' :=
 ⟨(Keeps.below hb).trans h.keeps,Nat.le_trans hb.size h.size,h.way⟩
structure PlayR (Far:Nat→Prop) (sb:Nat) (most:Int) (ts:List Tr) (N:Nat) (F:Pt→Int) (s:Stp) (w:World) (e:Ending) (W':World):Prop where
 yes : ∀ F',stepF N F s=some F'→Done Far sb most ts (addn N F' ts) (trF N F') w e W'
 no:stepF N F s=none→e=ret2 0 1∧Below w.heap.size w W'
theorem PlayR.pair {Far:Nat→Prop} {sb:Nat} {most:Int} {ts:List Tr} {N:Nat} {F:Pt→Int} {s:Stp} {w:World} (e:Ending) (W':World) (h:PlayR Far sb most ts N F s w e W') : ∃ a b:Int,e=ret2 a b:=by
 cases hs:stepF N F s with
 | none=>exact ⟨0,1,(h.no hs).1⟩
 | some F' =>
   rcases (h.yes F' hs).way with ⟨_,h2,_⟩ | ⟨_,h2,_⟩
   · exact ⟨_,_,h2⟩
   · exact ⟨_,_,h2⟩
theorem PlayR.of_some {Far:Nat→Prop} {sb:Nat} {most:Int} {ts:List Tr} {N:Nat} {F F':Pt→Int} {s:Stp} {w:World} {e:Ending} {W':World} (hs:stepF N F s=some F') (h:Done Far sb most ts (addn N F' ts) (trF N F') w e W'):PlayR Far sb most ts N F s w e W' :=
 ⟨fun F2 h2=>by rw [hs] at h2;obtain rfl:=Option.some.inj h2;exact h,fun h2=>by rw [hs] at h2;cases h2⟩
theorem PlayR.of_none {Far:Nat→Prop} {sb:Nat} {most:Int} {ts:List Tr} {N:Nat} {F:Pt→Int} {s:Stp} {w:World} {e:Ending} {W':World} (hs:stepF N F s=none) (h:e=ret2 0 1∧Below w.heap.size w W'):PlayR Far sb most ts N F s w e W' :=
 ⟨fun F2 h2=>(by rw [hs] at h2;cases h2),fun _=>h⟩
theorem play_s123 {N:Nat} (hN:N≤12) (F:Pt→Int) (hF:FnC N F) (s:Stp) (h123:s.kd=1∨s.kd=2∨s.kd=3) (hfew:fewS N s=true) (sb:Nat) (most:Int) (ts:List Tr) (hG:Good ts) (ht:trF N F∈ts) (hlen : ∀ F',stepF N F s=some F'→(addn N F' ts).length≤4000000) (w:World) (hok:StpOk w s) (Far:Nat→Prop) (hfx:s.ys ≠ [] → ∀ b,s.ga.map (·.block)=some b→Far b) (hFar : ∀ k,Far k→k<w.heap.size) (hS:StoreIs w Far sb most ts) :
 Calls Tryz.prog 13 #[.pointer (some ⟨sb,0,none⟩),.int .i64 (idn ts N F),.int .i64 ((N:Int)+2),.agg s.arr] w (PlayR Far sb most ts N F s w):=by
 simp only [fewS,Bool.and_eq_true,decide_eq_true_eq] at hfew
 obtain ⟨f1,f2,f3,-⟩:=hfew
 have hfar : ∀ W,Below w.heap.size w W → ∀ k,Far k→k<W.heap.size:=fun W hb k hk=>Nat.lt_of_lt_of_le (hFar k hk) hb.size
 rcases h123 with hk | hk | hk
 · refine play_1 sb (idn ts N F) ((N:Int)+2) s.kd s.b.lo.x s.b.lo.y s.b.lo.z s.b.hi.x s.b.hi.y s.b.hi.z s.cell _ _ _ _ _ _ _ _ _ _ _ _ _ _ _ _ _ _ _ _ hk w _ PlayR.pair (fun W hb=>?_)
   by_cases hc:0≤s.cell∧s.cell≤255
   · have hs:stepF N F s=some (fillF N s.b s.cell F):=by unfold stepF;rw [if_pos hk,if_pos hc]
     have h:=fillbox_any hN sb s.b.lo.x s.b.lo.y s.b.lo.z s.b.hi.x s.b.hi.y s.b.hi.z s.cell hc most F hF.range (fillF_fn hF hc).range W Far ts hG ht (hlen _ hs) (hfar W hb) (hS.later hb)
     exact Calls.mono h fun e W' hd=>.of_some hs (hd.before hb)
   · have hs:stepF N F s=none:=by unfold stepF;rw [if_pos hk,if_neg hc]
     exact Calls.mono (fillbox_bad sb _ _ _ _ _ _ _ _ s.cell hc W) fun e W' hd=>.of_none hs ⟨hd.1,hb.trans (hd.2.mono hb.size)⟩
 · refine play_2 sb (idn ts N F) ((N:Int)+2) s.kd _ _ _ _ _ _ _ s.g.lo.x s.g.lo.y s.g.lo.z s.g.hi.x s.g.hi.y s.g.hi.z s.ga s.ys.length s.gc _ _ _ _ _ _ _ _ _ _ _ hk w _ PlayR.pair (fun W hb=>?_)
   have hs:stepF N F s=some (pasteF N s.g s.ys F):=by unfold stepF;rw [if_neg (by omega),if_pos hk]
   have HX:=goodG_of (hcp:=s.gc) f3 f1 hok.yc
   have h:=tpaste_any hN sb s.g.lo.x s.g.lo.y s.g.lo.z s.g.hi.x s.g.hi.y s.g.hi.z s.ga s.gc s.ys HX.small HX.len (by omega) hok.yc most F hF.range (pasteF_fn HX hF).range W (hok.ys.below hb) Far hfx ts hG ht (hlen _ hs) (hfar W hb) (hS.later hb)
   exact Calls.mono h fun e W' hd=>.of_some hs (hd.before hb)
 · refine play_3 sb (idn ts N F) ((N:Int)+2) s.kd _ _ _ _ _ _ _ _ _ _ _ _ _ _ _ _ s.la s.cs.length s.lc _ _ _ _ _ _ _ _ hk w _ PlayR.pair (fun W hb=>?_)
   by_cases hc : ∀ c∈s.cs,okChg N c
   · have hs:stepF N F s=some (writeF (pts s.cs) F):=by unfold stepF;rw [if_neg (by omega),if_neg (by omega),if_pos hk,if_pos hc]
     have h:=twrite_any hN sb s.la s.lc s.cs (by omega) hok.cc most F hF.range W (hok.cs.below hb) Far ts hG ht (fun _=>⟨(writeF_fn (l:=pts s.cs) (fun x hx=>by
      obtain ⟨c,hcm,rfl⟩:=List.mem_map.1 hx
      exact hc c hcm) hF).range,hlen _ hs⟩) (hfar W hb) (hS.later hb)
     exact Calls.mono h fun e W' hd=>.of_some hs ((hd.ok hc).before hb)
   · have hs:stepF N F s=none:=by unfold stepF;rw [if_neg (by omega),if_neg (by omega),if_pos hk,if_neg hc]
     have h:=twrite_any hN sb s.la s.lc s.cs (by omega) hok.cc most F hF.range W (hok.cs.below hb) Far ts hG ht (fun h=>absurd h hc) (hfar W hb) (hS.later hb)
     exact Calls.mono h fun e W' hd=>.of_none hs ⟨(hd.bad hc).1,hb.trans ((hd.bad hc).2.mono hb.size)⟩
end
section
open Go.RowKit Go.Sort Go.Maps
open Oct
structure RwI (w:World) (gv ov:Array Value) (n cap g1 go:Nat) (la:Option Addr) (cs:List Chg) (xs:List Int) (wr:World):Prop where
 kg:Bk wr w.heap.size gv 28
 kr:Bk wr (w.heap.size+1) #[(0:Int),(0:Int),(0:Int),(0:Int),(0:Int),(0:Int),.slice none 0 0] 28
 ko:Bk wr go ov 28
 own:Own wr (w.heap.size+1+1) 3 .i64 (.slice (some ⟨g1,0,none⟩) n cap) xs
 bel:Below w.heap.size w wr
 sl:SlC wr la cs
 lt:w.heap.size+1<g1∧g1<go
theorem RwI.later {w wr w':World} {gv ov:Array Value} {n cap g1 go:Nat} {la:Option Addr} {cs:List Chg} {xs:List Int} (H:RwI w gv ov n cap g1 go la cs xs wr) (h:Below wr.heap.size wr w'):RwI w gv ov n cap g1 go la cs xs w' :=
 ⟨H.kg.later h,H.kr.later h,H.ko.later h,H.own.below h,H.bel.trans (h.mono H.bel.size),H.sl.below h,H.lt⟩
theorem RwI.put {w wr:World} {gv ov:Array Value} {n cap g1 go:Nat} {la:Option Addr} {cs:List Chg} {xs:List Int} (H:RwI w gv ov n cap g1 go la cs xs wr) (hn:xs.length=n) (h0:0<n) (hf : ∀ b,la.map (·.block)=some b→b<w.heap.size) (k:Nat) (x:Int):RwI w gv ov n cap g1 go la cs (xs.set k x) (wr.setCell ⟨g1,k,none⟩ (.int .i64 x)):=by
 have hlt:=H.lt
 obtain ⟨g',cap',he,-,-,-,-,hst⟩:=H.own.at (by omega)
 rw [hn] at he hst
 injection he with h1 h2 h3
 injection h1 with h1
 injection h1 with h1
 subst h1 h3
 exact ⟨H.kg.other _ _ (by simp only;omega),H.kr.other _ _ (by simp only;omega),H.ko.other _ _ (by simp only;omega),hst k x,H.bel.setCell (by simp only;omega) _,H.sl.of_block fun b hb _=>heap_setCell_other wr _ _ _ (by have:=hf b hb;simp only;omega),hlt⟩
theorem cells_upd {B:Box} {F:Pt→Int} {p:Pt} {c:Int} (hp:inB p B=true):(cellsOf B F).set (indexB B p).toNat c=cellsOf B (Tr.upd F p c):=by
 have hb:=indexB_bd hp
 have hpos:0≤volB B:=by omega
 apply List.ext_getElem?
 intro i
 rw [List.getElem?_set]
 rcases Nat.lt_or_ge i (volB B).toNat with h | h
 · rw [cellsOf_get h,cellsOf_get h]
   by_cases e:(indexB B p).toNat=i
   · rw [if_pos e,if_pos (by rw [cellsOf_length];omega)]
     have:atB B (i:Int)=p:=by rw [←e,Int.toNat_of_nonneg hb.1];exact at_index hp
     unfold Tr.upd
     rw [this,if_pos rfl]
   · rw [if_neg e]
     unfold Tr.upd
     rw [if_neg]
     intro h2
     apply e
     have h3:=(at_nat (b:=B) h).2
     rw [h2] at h3
     omega
 · rw [if_neg (by omega),List.getElem?_eq_none (by rw [cellsOf_length];exact h),List.getElem?_eq_none (by rw [cellsOf_length];exact h)]
theorem write_take {B:Box} {F:Pt→Int} {cs:List Chg} {j:Nat} {c:Chg} (h:cs[j]? = some c):Tr.upd (writeF (pts (cs.take j)) F) c.at c.n=writeF (pts (cs.take (j+1))) F:=by
 obtain ⟨hl,rfl⟩:=List.getElem?_eq_some_iff.1 h
 unfold writeF pts
 rw [List.take_succ_eq_append_getElem hl,List.map_append,List.foldl_append];rfl
set_option maxRecDepth 100000 in
set_option maxHeartbeats 4000000 in
theorem ref_write_any (a b c d e f:Int) (pb po n hcp:Nat) (la:Option Addr) (lc:Nat) (cs:List Chg) (hcl:cs.length≤100000) (hcc:cs.length≤lc) (HS:Small ⟨⟨a,b,c⟩,⟨d,e,f⟩⟩ 1048575) (hV:volB ⟨⟨a,b,c⟩,⟨d,e,f⟩⟩=n) (h0:0<n) (hle:n≤5000) (F0:Pt→Int) (zs:List Int) (hzs:zs=cellsOf ⟨⟨a,b,c⟩,⟨d,e,f⟩⟩ F0) (hin : ∀ x∈cs,inB x.at ⟨⟨a,b,c⟩,⟨d,e,f⟩⟩=true) (w:World) (hsl:Sl w .i64 (some ⟨pb,po,none⟩) zs) (hsc:SlC w la cs) :
 Calls Tryz.prog 32 #[.agg #[a,b,c,d,e,f,.slice (some ⟨pb,po,none⟩) n hcp],.slice la cs.length lc] w fun e' w' => ∃ g cap,e' = .returned (.agg #[a,b,c,d,e,f,.slice (some ⟨g,0,none⟩) n cap])∧Own w' w.heap.size 3 .i64 (.slice (some ⟨g,0,none⟩) n cap) (cellsOf ⟨⟨a,b,c⟩,⟨d,e,f⟩⟩ (writeF (pts cs) F0))∧Below w.heap.size w w':=by
 have hzl:zs.length=n:=by rw [hzs,cellsOf_length];omega
 have hcpd:=Bx.mk fun W (h:Sl W .i64 (some ⟨pb,po,none⟩) zs)=>ref_copied a b c d e f pb po hcp n zs hzl h0 hle W h
 have hlen:=Bx.mk fun (F:Pt→Int)=>(show (cellsOf ⟨⟨a,b,c⟩,⟨d,e,f⟩⟩ F).length=n by rw [cellsOf_length];omega)
 have hix:=Bx.mk fun W px py pz=>ref_index a b c d e f px py pz HS W
 have hbd:=Bx.mk fun (p:Pt) (hp:inB p ⟨⟨a,b,c⟩,⟨d,e,f⟩⟩=true)=>(show 0≤indexB ⟨⟨a,b,c⟩,⟨d,e,f⟩⟩ p∧indexB ⟨⟨a,b,c⟩,⟨d,e,f⟩⟩ p<(n:Int) by have:=indexB_bd hp;omega)
 have hIn:=Bx.mk hin
 have hzero:=Bx.mk (show cellsOf ⟨⟨a,b,c⟩,⟨d,e,f⟩⟩ (writeF (pts (cs.take 0)) F0)=zs from hzs.symm)
 have Hsl:=Bx.mk hsl
 have Hsc:=Bx.mk hsc
 have hfar:=Bx.mk (show cs ≠ [] → ∀ b,la.map (·.block)=some b→b<w.heap.size from fun hx b hb'=>by
  obtain ⟨x,r,rfl⟩:=List.exists_cons_of_ne_nil hx
  obtain ⟨b',off,h1,h2,-⟩:=hsc 0 x rfl
  rw [h1] at hb'
  simp only [Option.map_some,Option.some.injEq] at hb'
  rw [←hb'];exact World.block_lt_of_cell? w _ h2)
 clear hsl hsc HS hV hzs hzl hin
 go_enter Tryz.func32,Tryz.ntmps32
 go_wp2_with fail
 generalize hW:World.alloc (World.alloc w _) _=W
 have hSz:=sz2 hW
 have hB:=bl2 hW
 have kg:Bk W (w.heap.size) #[a,b,c,d,e,f,.slice (some ⟨pb,po,none⟩) n hcp] 28:=bk1 hW
 have kr:Bk W (w.heap.size+1) #[(0:Int),(0:Int),(0:Int),(0:Int),(0:Int),(0:Int),.slice none 0 0] 28:=bk0 hW
 clear hW
 obtain ⟨cg0,cg1,cg2,cg3,cg4,cg5,cg6⟩:=kg.c7
 have q0:True:=trivial
 refine (hcpd.out _ (Hsl.out.below hB)).mono ?_
 rintro _ w1 ⟨g1,cap,rfl,hown,hb1⟩
 have hg1:=hown.lt g1 rfl
 have hSzW:=hSz
 have Hown:=Bx.mk hown
 replace hB:=hB.trans (hb1.mono hB.size)
 replace kg:=kg.later hb1
 replace kr:=kr.later hb1
 replace hSz:=Nat.le_trans hSz hb1.size
 clear hb1
 clear cg0 cg1 cg2 cg3 cg4 cg5 cg6
 clear hown q0
 go_wp2_with fail
 generalize hW1:World.alloc w1 _=V1
 have hb9:=bl1 hW1
 have ko:Bk V1 w1.heap.size #[a,b,c,d,e,f,.slice (some ⟨g1,0,none⟩) n cap] 28:=bk0 hW1 rfl
 have HI:Bx (RwI w #[a,b,c,d,e,f,.slice (some ⟨pb,po,none⟩) n hcp] #[a,b,c,d,e,f,.slice (some ⟨g1,0,none⟩) n cap] n cap g1 w1.heap.size la cs (cellsOf ⟨⟨a,b,c⟩,⟨d,e,f⟩⟩ (writeF (pts (cs.take 0)) F0)) V1):=⟨by
  rw [hzero.out]
  exact ⟨kg.later hb9,kr.later hb9,ko,(Hown.out.base (by omega)).below hb9,hB.trans (hb9.mono hB.size),Hsc.out.below (hB.trans (hb9.mono hB.size)),by omega⟩⟩
 clear hW1 hb9 ko kg kr hB hSz hSzW Hown hg1 hzero hcpd Hsl Hsc
 generalize w1.heap.size=go at *
 go_loopw [6] (fun v6 wr => ∃ k:Nat,k≤cs.length∧v6 = .int .i64 k∧Bx (RwI w #[a,b,c,d,e,f,.slice (some ⟨pb,po,none⟩) n hcp] #[a,b,c,d,e,f,.slice (some ⟨g1,0,none⟩) n cap] n cap g1 go la cs (cellsOf ⟨⟨a,b,c⟩,⟨d,e,f⟩⟩ (writeF (pts (cs.take k)) F0)) wr)) (fun i _=>cs.length - (intOf i).toNat)
 case atStart=>exact ⟨0,Nat.zero_le _,rfl,HI⟩
 case round =>
  clear HI
  obtain ⟨k,hk,rfl,HI⟩:=hrel
  by_cases hlt:k<cs.length
  · have t0:decide ((k:Int)<(cs.length:Int))=true:=by simp;omega
    have hne:cs ≠ []:=List.ne_nil_of_length_pos (by omega)
    obtain ⟨ch,hch⟩ : ∃ ch,cs[k]? = some ch:=⟨_,List.getElem?_eq_getElem hlt⟩
    have hci:=hIn.out ch (List.mem_of_getElem? hch)
    have hbi:=hbd.out _ hci
    have Hst:=Bx.mk ((cells_upd (B:=⟨⟨a,b,c⟩,⟨d,e,f⟩⟩) (F:=writeF (pts (cs.take k)) F0) (c:=ch.n) hci).trans (congrArg _ (write_take (B:=⟨⟨a,b,c⟩,⟨d,e,f⟩⟩) hch)))
    have z1:=Bx.mk fun W=>hix.out W ch.x ch.y ch.z
    obtain ⟨px,py,pz,pq,pn⟩:=ch
    obtain ⟨bk,off,rfl,y0,y1,y2,y3,y4⟩:=HI.out.sl k _ hch
    simp only [Chg.at] at hbi Hst z1 y0 y1 y2 y4
    generalize hix0:indexB ⟨⟨a,b,c⟩,⟨d,e,f⟩⟩ ⟨px,py,pz⟩=ix at *
    obtain ⟨m,rfl⟩ : ∃ m:Nat,ix=(m:Int):=⟨ix.toNat,(Int.toNat_of_nonneg hbi.1).symm⟩
    rw [Int.toNat_natCast] at Hst
    have tge:decide ((0:Int)≤(m:Int))=true:=by simp
    have b1:(0:Int)≤(k:Int):=by omega
    have b2:(k:Int)<(cs.length:Int):=by omega
    obtain ⟨ch0,ch1,ch2,ch3,ch4,ch5⟩:=HI.out.kg.r6
    have cp0 : ∀ dk osk,(grow (redrawn wr dk) osk).cell? ⟨bk,off+k * 5,none⟩=some (.int .i64 px):=cell_regrown y0
    have cp1 : ∀ dk osk,(grow (redrawn wr dk) osk).cell? ⟨bk,off+k * 5+1,none⟩=some (.int .i64 py):=cell_regrown y1
    have cp2 : ∀ dk osk,(grow (redrawn wr dk) osk).cell? ⟨bk,off+k * 5+2,none⟩=some (.int .i64 pz):=cell_regrown y2
    have q0:=Bx.mk fun dk osk=>Calls.regrown_of (z1.out (grow (redrawn wr dk) osk))
    have Hch:=Bx.mk hch
    clear hch hci hix0 y0 y1 y2 y3 y4
    go_wp2_with fail
    refine wp_region_head_below 8 (by kernel_rfl) (by kernel_rfl) ?_
    simp only [List.take_succ_cons,List.take_zero,List.drop_succ_cons,List.drop_zero]
    repeat (first | go_big_quiet_step ((first | with_reducible exact q0.out _ _)) | quiet_step (first | with_reducible exact q0.out _ _))
    refine wpQuiet_nil ?_
    rintro _ ⟨⟨dq,osq⟩,rfl⟩
    have HI5:=Bx.mk (HI.out.later (below_regrown wr dq osq))
    clear q0 ch0 ch1 ch2 ch3 ch4 ch5 cp0 cp1 cp2 HI
    generalize grow (redrawn wr dq) osq=w5 at *
    obtain ⟨bk',off',hla,u0,u1,u2,u3,y4⟩:=HI5.out.sl k ⟨px,py,pz,pq,pn⟩ Hch.out
    injection hla with hla
    injection hla with hl1 hl2
    subst hl1 hl2
    clear u0 u1 u2 u3
    have co6 : ∀ dk osk,(grow (redrawn w5 dk) osk).cell? ⟨go,6,none⟩=some (.slice (some ⟨g1,0,none⟩) n cap):=cell_regrown (HI5.out.ko.cell 6 rfl)
    have cp4 : ∀ dk osk,(grow (redrawn w5 dk) osk).cell? ⟨bk,off+k * 5+4,none⟩=some (.int .i64 pn):=cell_regrown y4
    have p1:(0:Int)≤(m:Int):=by omega
    have p2:(m:Int)<(n:Int):=by omega
    clear y4
    go_wp2_with fail
    refine wp_region_head_below 9 (by kernel_rfl) (by kernel_rfl) ?_
    simp only [List.take_succ_cons,List.take_zero,List.drop_succ_cons,List.drop_zero]
    repeat (first | go_big_quiet_step (fail) | quiet_step (fail))
    refine wpQuiet_nil ?_
    rintro _ ⟨⟨dq2,osq2⟩,rfl⟩
    have HI6:=Bx.mk (HI5.out.later (below_regrown w5 dq2 osq2))
    clear co6 cp4 HI5
    generalize grow (redrawn w5 dq2) osq2=w6 at *
    have HL:=Bx.mk (hlen.out (writeF (pts (cs.take k)) F0))
    obtain ⟨g9,cap9,he9,-,-,hc9,hf9,-⟩:=HI6.out.own.at (by rw [HL.out];omega)
    rw [HL.out] at he9
    injection he9 with h91 h92 h93
    injection h91 with h91
    injection h91 with h91
    subst h91
    obtain ⟨old,hold⟩ : ∃ x,(cellsOf ⟨⟨a,b,c⟩,⟨d,e,f⟩⟩ (writeF (pts (cs.take k)) F0))[m]? = some x:=⟨_,List.getElem?_eq_getElem (by have:=HL.out;omega)⟩
    have ck:=hc9 m old hold
    have fk:=hf9 m
    have HI7:=HI6.out.put HL.out h0 (hfar.out hne) m pn
    rw [Hst.out] at HI7
    have HI8:=Bx.mk HI7
    clear HI7 hc9 hf9 h92 h93 hold
    go_wp2_with fail
    go_roundw
    case rel=>exact ⟨k+1,by omega,by go_num,HI8⟩
    case measure=>simp [intOf];omega
  · obtain rfl:k=cs.length:=by omega
    have t0:decide ((cs.length:Int)<(cs.length:Int))=false:=by simp
    have HI2:=HI.out
    rw [List.take_length] at HI2
    have kg:=HI2.kg
    have ko:=HI2.ko
    have kr:=HI2.kr
    have hB:=HI2.bel
    have hlo:=HI2.lt
    have hO:=HI2.own
    clear HI HI2 hlen
    obtain ⟨co0,co1,co2,co3,co4,co5,co6⟩:=ko.c7
    have cr0:=kr.cell 0 rfl
    have fr0:=kr.frozen 0
    have cr1:=kr.cell 1 rfl
    have fr1:=kr.frozen 1
    have cr2:=kr.cell 2 rfl
    have fr2:=kr.frozen 2
    have cr3:=kr.cell 3 rfl
    have fr3:=kr.frozen 3
    have cr4:=kr.cell 4 rfl
    have fr4:=kr.frozen 4
    have cr5:=kr.cell 5 rfl
    have fr5:=kr.frozen 5
    have cr6:=kr.cell 6 rfl
    have fr6:=kr.frozen 6
    have kr2:=kr.put7 (.int .i64 a) (.int .i64 b) (.int .i64 c) (.int .i64 d) (.int .i64 e) (.int .i64 f) (.slice (some ⟨g1,0,none⟩) n cap)
    have hB2:=Bx.mk (blw7 hB (show w.heap.size≤w.heap.size+1 by omega) (.int .i64 a) (.int .i64 b) (.int .i64 c) (.int .i64 d) (.int .i64 e) (.int .i64 f) (.slice (some ⟨g1,0,none⟩) n cap))
    have hO2:=Bx.mk (((((((hO.setBelow (a:=⟨w.heap.size+1,0,none⟩) (by simp only;omega) (.int .i64 a)).setBelow (a:=⟨w.heap.size+1,1,none⟩) (by simp only;omega) (.int .i64 b)).setBelow (a:=⟨w.heap.size+1,2,none⟩) (by simp only;omega) (.int .i64 c)).setBelow (a:=⟨w.heap.size+1,3,none⟩) (by simp only;omega) (.int .i64 d)).setBelow (a:=⟨w.heap.size+1,4,none⟩) (by simp only;omega) (.int .i64 e)).setBelow (a:=⟨w.heap.size+1,5,none⟩) (by simp only;omega) (.int .i64 f)).setBelow (a:=⟨w.heap.size+1,6,none⟩) (by simp only;omega) (.slice (some ⟨g1,0,none⟩) n cap))
    clear hB hO
    go_wp2_with fail
    exact bodyPost_ret (v:=.agg #[a,b,c,d,e,f,.slice (some ⟨g1,0,none⟩) n cap]) (results_cell_row rfl _ _ _ 28 #[a,b,c,d,e,f,.slice (some ⟨g1,0,none⟩) n cap] (0,0) _ rfl kr2 Tryz.underlying28 rfl (by kernel_rfl)) rfl ⟨g1,cap,rfl,hO2.out.base (by omega),hB2.out⟩
end
section
open Go.RowKit Go.Sort Go.Maps
open Oct
structure TellR (N:Nat) (F:Pt→Int) (s:Stp) (w:World) (e:Ending) (W':World):Prop where
 bel:Below w.heap.size w W'
 yes : ∀ F',stepF N F s=some F'→e = .returned (.tuple #[.string (txt N F'),(0:Int)])
 no:stepF N F s=none→e = .returned (.tuple #[.string ByteArray.empty,(1:Int)])
theorem TellR.pair {N:Nat} {F:Pt→Int} {s:Stp} {w:World} (e:Ending) (W':World) (h:TellR N F s w e W') : ∃ (S:ByteArray) (b:Int),e = .returned (.tuple #[.string S,b]):=by
 cases hs:stepF N F s with
 | none=>exact ⟨_,_,h.no hs⟩
 | some F'=>exact ⟨_,_,h.yes F' hs⟩
theorem TellR.of_some {N:Nat} {F F':Pt→Int} {s:Stp} {w:World} {e:Ending} {W':World} (hs:stepF N F s=some F') (hb:Below w.heap.size w W') (h:e = .returned (.tuple #[.string (txt N F'),(0:Int)])):TellR N F s w e W' :=
 ⟨hb,fun F2 h2=>(by rw [hs] at h2;obtain rfl:=Option.some.inj h2;exact h),fun h2=>(by rw [hs] at h2;cases h2)⟩
theorem TellR.of_none {N:Nat} {F:Pt→Int} {s:Stp} {w:World} {e:Ending} {W':World} (hs:stepF N F s=none) (hb:Below w.heap.size w W') (h:e = .returned (.tuple #[.string ByteArray.empty,(1:Int)])):TellR N F s w e W' :=
 ⟨hb,fun F2 h2=>(by rw [hs] at h2;cases h2),fun _=>h⟩
end
section
open Go.RowKit
open Oct
theorem dep_flat {n:Nat} {t:Tr} (h:Dep n t) (hk:kindV t ≠ 1):depV t=(n:Int)+2:=by
 cases h with
 | uni n c=>exact absurd rfl hk
 | brick l=>rfl
 | node n ch _=>show ((n+3:Nat):Int)=_;omega
theorem copyF_off {F:Pt→Int} {m:Nat} {d c:Pt} {T:Tr} {p:Pt} (h : ¬Tr.InC m d p):copyF F m d T c p=F p:=by
 unfold copyF;rw [if_neg h]
theorem copyF_range {F:Pt→Int} (hF : ∀ p,0≤F p∧F p≤255) {m n:Nat} (hn:n≤200) {d c a:Pt} (p:Pt):0≤copyF F m d (Tr.can F n a) c p∧copyF F m d (Tr.can F n a) c p≤255:=by
 unfold copyF
 split
 · have hw:=wf_can hF n a
   cases hT:Tr.can F n a with
   | uni k =>
     have h:=hw hn
     rw [hT] at h
     exact h
   | brick l=>exact hF _
   | node d ch=>exact hF _
 · exact hF p
theorem copy_can {F:Pt→Int} {m n:Nat} {d c:Pt} (hd:Tr.Al m d) (hf:fitsAt (Tr.can F n c) ((m:Int)+2)):Tr.can (copyF F m d (Tr.can F n c) c) m d=Tr.can F n c:=by
 by_cases hk:kindV (Tr.can F n c)=1
 · obtain ⟨k,hT⟩ : ∃ k,Tr.can F n c = .uni k:=by
    cases hT:Tr.can F n c with
    | uni k=>exact ⟨k,rfl⟩
    | brick l=>rw [hT] at hk;simp [kindV] at hk
    | node d ch=>rw [hT] at hk;simp [kindV] at hk
   rw [hT]
   exact can_uni m d _ hd fun p hp=>by unfold copyF;rw [if_pos hp]
 · have hdv:=dep_flat (dep_can F n c) hk
   have hmn:m=n:=by
    rcases hf with h | h
    · exact absurd h hk
    · omega
   subst hmn
   have hsh:=can_shift ⟨c.x - d.x,c.y - d.y,c.z - d.z⟩ F m d
   rw [show (⟨c.x - d.x+d.x,c.y - d.y+d.y,c.z - d.z+d.z⟩:Pt)=c by cases c;simp] at hsh
   rw [←hsh]
   refine Tr.can_congr m d hd fun p hp=>?_
   unfold copyF
   rw [if_pos hp,hsh]
   cases hT:Tr.can F m c with
   | uni k=>rw [hT] at hk;exact absurd rfl hk
   | brick l =>
     show F _=shf _ F p
     unfold shf
     congr 1
     simp only [Pt.mk.injEq]
     omega
   | node d' ch =>
     show F _=shf _ F p
     unfold shf
     congr 1
     simp only [Pt.mk.injEq]
     omega
end
section
open Go.RowKit Go.Sort Go.Maps
open Oct
theorem play_s4 {N:Nat} (hN:N≤12) (F:Pt→Int) (hF:FnC N F) (s:Stp) (hk:s.kd ≠ 1∧s.kd ≠ 2∧s.kd ≠ 3) (sb:Nat) (most:Int) (ts:List Tr) (hG:Good ts) (hl0:ts.length≤4000000) (ht:trF N F∈ts) (hlen : ∀ F',stepF N F s=some F'→(addn N F' ts).length≤4000000) (w:World) (Far:Nat→Prop) (hFar : ∀ k,Far k→k<w.heap.size) (hS:StoreIs w Far sb most ts) :
 Calls Tryz.prog 13 #[.pointer (some ⟨sb,0,none⟩),.int .i64 (idn ts N F),.int .i64 ((N:Int)+2),.agg s.arr] w (PlayR Far sb most ts N F s w):=by
 have h123 : ¬s.kd=1 ∧ ¬s.kd=2 ∧ ¬s.kd=3:=hk
 refine play_4 sb (idn ts N F) ((N:Int)+2) s.kd _ _ _ _ _ _ _ _ _ _ _ _ _ _ _ _ _ _ _ s.c.x s.c.y s.c.z s.cl s.d.x s.d.y s.d.z s.dl hk w _ PlayR.pair (fun W hb=>?_)
 by_cases hp:partOK N s.c.x s.c.y s.c.z s.cl
 rotate_left
 · have hs:stepF N F s=none:=by unfold stepF;rw [if_neg h123.1,if_neg h123.2.1,if_neg h123.2.2,if_neg (fun h=>hp h.1)]
   exact Calls.mono (part_bad W sb N hN (idn ts N F) _ _ _ _ hp) fun e W' hd=>⟨hd.2,.inl ⟨hd.1,.of_none hs ⟨hd.1,hb.trans (hd.2.mono hb.size)⟩⟩⟩
 obtain ⟨p1,p2,p3,p4⟩:=hp
 have hp:partOK N s.c.x s.c.y s.c.z s.cl:=⟨p1,p2,p3,p4⟩
 obtain ⟨L,hL⟩ : ∃ L:Nat,s.cl=(L:Int):=⟨s.cl.toNat,by omega⟩
 have hLn:s.cl.toNat=L:=by omega
 rw [hLn] at p4
 have hT:partT (trF N F) N L s.c=Tr.can F (L - 2) s.c:=partT_can F N L ⟨0,0,0⟩ s.c (al_zero N) (inC_of_in p1) (by omega) (by omega) (alB_iff.1 p4)
 have hTm:Tr.can F (L - 2) s.c∈ts:=by rw [←hT];exact partT_in hG L s.c N _ ht (dep_can F N _)
 have hpo:=part_ok W sb N L hN (by omega) (by omega) s.c.x s.c.y s.c.z p1 p4 Far most ts (trF N F) ht (dep_can F N _) hG (by omega) (hS.later hb)
 rw [show (⟨s.c.x,s.c.y,s.c.z⟩:Pt)=s.c from rfl,hT,←hL] at hpo
 refine Calls.mono hpo fun e W1 hd=>⟨hd.2,.inr ⟨_,hd.1,?_⟩⟩
 have hb1:=hb.trans (hd.2.mono hb.size)
 by_cases hq:partOK N s.d.x s.d.y s.d.z s.dl
 rotate_left
 · have hs:stepF N F s=none:=by unfold stepF;rw [if_neg h123.1,if_neg h123.2.1,if_neg h123.2.2,if_neg (fun h=>hq h.2.1)]
   exact Calls.mono (tgraft_bad sb N hN (idn ts N F) _ _ _ _ _ hq W1) fun e W' hg=>.of_none hs ⟨hg.1,hb1.trans (hg.2.mono hb1.size)⟩
 have q2:=hq.2.1
 obtain ⟨m,hm⟩ : ∃ m:Nat,s.dl=((m+2:Nat):Int):=⟨s.dl.toNat - 2,by omega⟩
 have hmn:s.dl.toNat - 2=m:=by omega
 have hq':=hq
 rw [hm] at hq'
 have hin:=hq'.inT
 have hst:fitsAt (Tr.can F (L - 2) s.c) ((m+2:Nat):Int)→stepF N F s=some (copyF F m s.d (Tr.can F (L - 2) s.c) s.c):=fun hf=>by
  unfold stepF
  rw [if_neg h123.1,if_neg h123.2.1,if_neg h123.2.2,hLn,hmn,if_pos ⟨hp,hq,by rw [hm];exact hf⟩]
 have hg:=tgraft_any hN sb m s.d hq' most F (copyF F m s.d (Tr.can F (L - 2) s.c) s.c) hF.range W1 Far ts hG (Tr.can F (L - 2) s.c) hTm ht hl0 (fun hf=>⟨copy_can hin.al (by rw [show ((m+2:Nat):Int)=(m:Int)+2 by omega] at hf;exact hf),fun p hp=>copyF_off hp,copyF_range hF.range (by omega),hlen _ (hst hf)⟩) (fun k hk=>Nat.lt_of_lt_of_le (hFar k hk) hb1.size) (hS.later hb1)
 rw [show cubeV s.d.x s.d.y s.d.z ((m+2:Nat):Int) = .agg #[s.d.x,s.d.y,s.d.z,s.dl] by rw [hm]] at hg
 refine Calls.mono hg fun e W' hgd=>?_
 by_cases hf:fitsAt (Tr.can F (L - 2) s.c) ((m+2:Nat):Int)
 · exact .of_some (hst hf) ((hgd.ok hf).before hb1)
 · have hs:stepF N F s=none:=by
    unfold stepF
    rw [if_neg h123.1,if_neg h123.2.1,if_neg h123.2.2,hLn,if_neg (fun h=>hf (by rw [←hm];exact h.2.2))]
   obtain ⟨g1,g2⟩:=hgd.bad hf
   exact .of_none hs ⟨g1,hb1.trans (g2.mono hb1.size)⟩
end
section
open Go.RowKit Go.Sort Go.Maps
open Oct
theorem play_any {N:Nat} (hN:N≤12) (F:Pt→Int) (hF:FnC N F) (s:Stp) (hfew:fewS N s=true) (sb:Nat) (most:Int) (ts:List Tr) (hG:Good ts) (hl0:ts.length≤4000000) (ht:trF N F∈ts) (hlen : ∀ F',stepF N F s=some F'→(addn N F' ts).length≤4000000) (w:World) (hok:StpOk w s) (Far:Nat→Prop) (hfx:s.ys ≠ [] → ∀ b,s.ga.map (·.block)=some b→Far b) (hFar : ∀ k,Far k→k<w.heap.size) (hS:StoreIs w Far sb most ts) :
 Calls Tryz.prog 13 #[.pointer (some ⟨sb,0,none⟩),.int .i64 (idn ts N F),.int .i64 ((N:Int)+2),.agg s.arr] w (PlayR Far sb most ts N F s w):=by
 by_cases h:s.kd=1∨s.kd=2∨s.kd=3
 · exact play_s123 hN F hF s h hfew sb most ts hG ht hlen w hok Far hfx hFar hS
 · exact play_s4 hN F hF s (by omega) sb most ts hG hl0 ht hlen w Far hFar hS
end
section
open Go.RowKit
open Oct
theorem wide_uni {N:Nat} {b:Box} {c:Int} {F:Pt→Int} (h:wideP N b=true):trF N (fillF N b c F) = .uni c:=by
 have hp:=Tr.pow_pos2 N
 have he:emptyB (cubeB (2 ^ (N+2)))=false:=emptyB_iff.2 ⟨by simp only [cubeB,Pt.zero];omega,by simp only [cubeB,Pt.zero];omega,by simp only [cubeB,Pt.zero];omega⟩
 unfold wideP at h
 rw [vol_meet he,decide_eq_true_eq] at h
 refine fill_in (InT.top N) ?_
 have hcube:cubeAtB N ⟨0,0,0⟩=cubeB (2 ^ (N+2)):=by unfold cubeAtB cubeB Pt.zero;simp
 rw [hcube]
 unfold containsB
 rw [h]
 simp
theorem step_both {N:Nat} (hN:N≤12) {F F':Pt→Int} (hF:FnC N F) {s:Stp} (hfew:fewS N s=true) (hs:stepF N F s=some F') :
 FnC N F' ∧ ∀ ts:List Tr,Good ts→trF N F∈ts→(addn N F' ts).length≤ts.length+52000:=by
 simp only [fewS,Bool.and_eq_true,Bool.or_eq_true,decide_eq_true_eq] at hfew
 obtain ⟨f1,f2,f3,-,-,f6⟩:=hfew
 unfold stepF at hs
 split at hs
 · split at hs
   · rename_i hc
     obtain rfl:=Option.some.inj hs
     refine ⟨fillF_fn hF hc,fun ts hG ht=>?_⟩
     rcases f6 with h | h | h
     · exact Nat.le_trans (any_len h _ ts) (by omega)
     · exact fill_len hN hF hc hG ht h
     · unfold addn
       rw [wide_uni h,Tr.add_uni]
       have:=ins_len' (.uni s.cell) ts
       omega
   · cases hs
 · split at hs
   · obtain rfl:=Option.some.inj hs
     have HX:=goodG_of (hcp:=s.ys.length) f3 f1 (Nat.le_refl _)
     exact ⟨pasteF_fn HX hF,fun ts hG ht=>Nat.le_trans (paste_len HX hN hF hG ht) (by omega)⟩
   · split at hs
     · split at hs
       · rename_i hc
         obtain rfl:=Option.some.inj hs
         have hl : ∀ x∈pts s.cs,inB x.1 (wholeB N)=true∧0≤x.2∧x.2≤255:=fun x hx=>by
          obtain ⟨c,hcm,rfl⟩:=List.mem_map.1 hx
          exact hc c hcm
         refine ⟨writeF_fn hl hF,fun ts hG ht=>?_⟩
         have h:=write_len hN hl hF hG ht
         rw [List.length_map] at h
         unfold addn
         omega
       · cases hs
     · split at hs
       · rename_i hc
         obtain ⟨hp,hq,hf⟩:=hc
         obtain rfl:=Option.some.inj hs
         obtain ⟨p1,p2,p3,p4⟩:=hp
         have q2:=hq.2.1
         have q3:=hq.2.2.1
         obtain ⟨m,hm⟩ : ∃ m:Nat,s.dl=((m+2:Nat):Int):=⟨s.dl.toNat - 2,by omega⟩
         have hmn:s.dl.toNat - 2=m:=by omega
         have hq':=hq
         rw [hm] at hq' hf
         have hin:=hq'.inT
         rw [hmn]
         have hcop:Tr.can (copyF F m s.d (Tr.can F (s.cl.toNat - 2) s.c) s.c) m s.d=Tr.can F (s.cl.toNat - 2) s.c:=copy_can hin.al (by rw [show ((m+2:Nat):Int)=(m:Int)+2 by omega] at hf;exact hf)
         refine ⟨⟨copyF_range hF.range (by omega),fun p hp=>?_⟩,fun ts hG ht=>?_⟩
         · rw [copyF_off (fun h=>by have:=hin.whole h;rw [this] at hp;cases hp)]
           exact hF.out p hp
         · have hT:partT (trF N F) N s.cl.toNat s.c=Tr.can F (s.cl.toNat - 2) s.c:=partT_can F N s.cl.toNat ⟨0,0,0⟩ s.c (al_zero N) (inC_of_in p1) (by omega) (by omega) (alB_iff.1 p4)
           have hTm:Tr.can F (s.cl.toNat - 2) s.c∈ts:=by rw [←hT];exact partT_in hG _ s.c N _ ht (dep_can F N _)
           have h:=graft_len (f:=F) (copyF_range (d:=s.d) (c:=s.c) (a:=s.c) (m:=m) hF.range (show s.cl.toNat - 2≤200 by omega)) m s.d hin.al hG (by rw [hcop];exact hTm) (fun p hp=>copyF_off hp) N ⟨0,0,0⟩ (by omega) hin.le (al_zero N) (inC_of_in hq.1) ht
           unfold addn
           exact Nat.le_trans h (by omega)
       · cases hs
end
section
open Go.RowKit Go.Sort Go.Maps
open Oct
set_option maxRecDepth 100000 in
set_option maxHeartbeats 2000000 in
theorem ref_crop_own (a b c d e f a2 b2 c2 d2 e2 f2:Int) (n:Nat) (hb:Option Addr) (hcp2:Nat) (ys:List Int) (hok:okB ⟨⟨a,b,c⟩,⟨d,e,f⟩⟩=true) (he:emptyB ⟨⟨a,b,c⟩,⟨d,e,f⟩⟩=false) (hV:volB ⟨⟨a,b,c⟩,⟨d,e,f⟩⟩=n) (hle:n≤5000) (HX:GoodG ⟨⟨a2,b2,c2⟩,⟨d2,e2,f2⟩⟩ ys hcp2) (w:World) (hsm:Sl w .i64 hb ys) :
 Calls Tryz.prog 28 #[.agg #[a2,b2,c2,d2,e2,f2,.slice hb ys.length hcp2],.agg #[a,b,c,d,e,f]] w fun e' w' => ∃ g cap,e' = .returned (.tuple #[.agg #[a,b,c,d,e,f,.slice (some ⟨g,0,none⟩) n cap],(0:Int)])∧Own w' w.heap.size 3 .i64 (.slice (some ⟨g,0,none⟩) n cap) (cellsOf ⟨⟨a,b,c⟩,⟨d,e,f⟩⟩ (cellG ⟨⟨a2,b2,c2⟩,⟨d2,e2,f2⟩⟩ ys))∧Below w.heap.size w w':=by
 have hnew:=Bx.mk fun W=>ref_new a b c d e f hok he n hV hle W
 have hpos:0<n:=by have:=atB_pos he;omega
 have hpas:=Bx.mk fun (pb po cap:Nat) W (h:Sl W .i64 (some ⟨pb,po,none⟩) (List.replicate n 0)) (h':Sl W .i64 hb ys)=>ref_paste a b c d e f a2 b2 c2 d2 e2 f2 pb po n cap hb hcp2 ys (okB_small hok) hV hpos hle HX W h h'
 have Hsm:=Bx.mk hsm
 clear hok he hV HX hsm
 generalize cellsOf ⟨⟨a,b,c⟩,⟨d,e,f⟩⟩ (cellG ⟨⟨a2,b2,c2⟩,⟨d2,e2,f2⟩⟩ ys)=zs at *
 go_enter Tryz.func28,Tryz.ntmps28
 go_wp2_with fail
 generalize hW:World.alloc (World.alloc (World.alloc w _) _) _=W
 have hSz:=sz3 hW
 have hB:=bl3 hW
 have kg:Bk W (w.heap.size) #[a2,b2,c2,d2,e2,f2,.slice hb ys.length hcp2] 28:=bk2 hW
 have kc:Bk W (w.heap.size+1) #[a,b,c,d,e,f] 25:=bk1 hW
 have kr:Bk W (w.heap.size+1+1) #[(0:Int),(0:Int),(0:Int),(0:Int),(0:Int),(0:Int),.slice none 0 0] 28:=bk0 hW
 clear hW
 obtain ⟨cc0,cc1,cc2,cc3,cc4,cc5⟩:=kc.c6
 go_wp2_with fail
 refine (hnew.out _).mono ?_
 rintro _ w1 ⟨g1,cap,rfl,hown,hb1⟩
 have Hz:=Bx.mk hown.sl
 replace hB:=hB.trans (hb1.mono hB.size)
 replace kg:=kg.later hb1
 replace kc:=kc.later hb1
 replace kr:=kr.later hb1
 replace hSz:=Nat.le_trans hSz hb1.size
 clear hb1
 clear cc0 cc1 cc2 cc3 cc4 cc5
 clear hown
 have cg0 : ∀ o,(w1.alloc o).cell? ⟨w.heap.size,0,none⟩=some (.int .i64 a2):=fun o=>Bk.cell (blk_old kg) 0 rfl
 have cg1 : ∀ o,(w1.alloc o).cell? ⟨w.heap.size,1,none⟩=some (.int .i64 b2):=fun o=>Bk.cell (blk_old kg) 1 rfl
 have cg2 : ∀ o,(w1.alloc o).cell? ⟨w.heap.size,2,none⟩=some (.int .i64 c2):=fun o=>Bk.cell (blk_old kg) 2 rfl
 have cg3 : ∀ o,(w1.alloc o).cell? ⟨w.heap.size,3,none⟩=some (.int .i64 d2):=fun o=>Bk.cell (blk_old kg) 3 rfl
 have cg4 : ∀ o,(w1.alloc o).cell? ⟨w.heap.size,4,none⟩=some (.int .i64 e2):=fun o=>Bk.cell (blk_old kg) 4 rfl
 have cg5 : ∀ o,(w1.alloc o).cell? ⟨w.heap.size,5,none⟩=some (.int .i64 f2):=fun o=>Bk.cell (blk_old kg) 5 rfl
 have cg6 : ∀ o,(w1.alloc o).cell? ⟨w.heap.size,6,none⟩=some (.slice hb ys.length hcp2):=fun o=>Bk.cell (blk_old kg) 6 rfl
 go_wp2_with fail
 generalize hW3:World.alloc w1 _=V3
 have hb3:=bl1 hW3
 have Hz3:=Bx.mk (Hz.out.below hb3)
 replace hB:=hB.trans (hb3.mono hB.size)
 replace kg:=kg.later hb3
 replace kc:=kc.later hb3
 replace kr:=kr.later hb3
 replace hSz:=Nat.le_trans hSz hb3.size
 clear hb3
 clear hW3 cg0 cg1 cg2 cg3 cg4 cg5 cg6 Hz
 refine (hpas.out _ _ _ _ Hz3.out (Hsm.out.below hB)).mono ?_
 rintro _ w4 ⟨g2,cap2,rfl,hown,hb4⟩
 have hg2:=hown.lt g2 rfl
 have Hz4:=Bx.mk (hown.base hSz)
 have hSz4:=hSz
 replace hB:=hB.trans (hb4.mono hB.size)
 replace kg:=kg.later hb4
 replace kc:=kc.later hb4
 replace kr:=kr.later hb4
 replace hSz:=Nat.le_trans hSz hb4.size
 clear hb4
 obtain ⟨cr0,cr1,cr2,cr3,cr4,cr5,cr6⟩:=kr.c7
 obtain ⟨fr0,fr1,fr2,fr3,fr4,fr5,fr6⟩:=kr.f7
 clear hown Hz3
 go_wp2_with fail
 have kr2:=kr.put7 (.int .i64 a) (.int .i64 b) (.int .i64 c) (.int .i64 d) (.int .i64 e) (.int .i64 f) (.slice (some ⟨g2,0,none⟩) n cap2)
 have hB2:=Bx.mk (blw7 hB (show w.heap.size≤w.heap.size+1+1 by omega) (.int .i64 a) (.int .i64 b) (.int .i64 c) (.int .i64 d) (.int .i64 e) (.int .i64 f) (.slice (some ⟨g2,0,none⟩) n cap2))
 have hS2:=Bx.mk (((((((Hz4.out.setBelow (a:=⟨w.heap.size+1+1,0,none⟩) (by simp only;omega) (.int .i64 a)).setBelow (a:=⟨w.heap.size+1+1,1,none⟩) (by simp only;omega) (.int .i64 b)).setBelow (a:=⟨w.heap.size+1+1,2,none⟩) (by simp only;omega) (.int .i64 c)).setBelow (a:=⟨w.heap.size+1+1,3,none⟩) (by simp only;omega) (.int .i64 d)).setBelow (a:=⟨w.heap.size+1+1,4,none⟩) (by simp only;omega) (.int .i64 e)).setBelow (a:=⟨w.heap.size+1+1,5,none⟩) (by simp only;omega) (.int .i64 f)).setBelow (a:=⟨w.heap.size+1+1,6,none⟩) (by simp only;omega) (.slice (some ⟨g2,0,none⟩) n cap2))
 obtain ⟨z0,z1,z2,z3,z4,z5,z6⟩:=kr2.c7
 exact bodyPost_ret (v:=.tuple #[.agg #[a,b,c,d,e,f,.slice (some ⟨g2,0,none⟩) n cap2],(0:Int)]) (by simp [results,Tryz.results28,go_sem,z0,z1,z2,z3,z4,z5,z6]) rfl ⟨g2,cap2,rfl,hS2.out.base (by omega),hB2.out⟩
end
end Go.Proofs.YtfcbajmjaifjlaaGreat
