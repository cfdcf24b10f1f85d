/- Rot, Mnt, Cln, Rdk, Rwr, Rro: joined by program, for one claim. -/
import Derived.Test.YtajhkncolbgkbaaM7
import Derived.Test.YtajhkncolbgkbaaM4
import Derived.Test.YtajhkncolbgkbaaM3
import Derived.Laws.IdiomCopy
set_option linter.unusedVariables false
set_option linter.unusedSimpArgs false
namespace Go.Proofs.Ytajhkncolbgkbaa
section
open Go.RowKit Go.Sort
theorem rot_bad (w:World) (p g mb cap m:Nat) (d:Dk) (h:DkIs w p g mb cap m d) (i bit:Int) (hb:(d.is i && decide (0≤bit) && decide (bit<1024))=false) :
 Calls Try.prog 27 #[.pointer (some ⟨p,0,none⟩),.int .i64 i,.int .i64 bit] w (WritePost p g mb cap m w d 1):=by
 have H:=Bx.mk h
 have hIs:=Bx.mk (is_any w p g mb cap m d h i)
 clear h
 by_cases hi:d.is i=true
 · rw [hi] at hIs hb
   by_cases h1:0≤bit
   · have t1:decide (bit<0)=false:=by simp;omega
     have h2:1024≤bit:=by simpa [h1] using hb
     have t2:decide (1024≤bit)=true:=by simpa using h2
     clear hb
     go_enter Try.func27,Try.ntmps27
     go_wp2_with (go_at_call 46;refine hIs.out.mono ?_;rintro _ _ ⟨rfl,rfl⟩)
     go_ret
     exact ⟨rfl,H.out,Chg.refl _ _⟩
   · have t1:decide (bit<0)=true:=by simp;omega
     clear hb
     go_enter Try.func27,Try.ntmps27
     go_wp2_with (go_at_call 46;refine hIs.out.mono ?_;rintro _ _ ⟨rfl,rfl⟩)
     go_ret
     exact ⟨rfl,H.out,Chg.refl _ _⟩
 · replace hi:d.is i=false:=by simpa using hi
   rw [hi] at hIs
   clear hb
   go_enter Try.func27,Try.ntmps27
   go_wp2_with (go_at_call 46;refine hIs.out.mono ?_;rintro _ _ ⟨rfl,rfl⟩)
   go_ret
   exact ⟨rfl,H.out,Chg.refl _ _⟩
theorem flip_put {l:List Int} {q:Nat} {y:Int} (h:l[q]? = some y) (s:Nat):flip l q s=put l q [bits .xor .u8 y (2 ^ s)]:=by
 obtain ⟨hq,rfl⟩:=List.getElem?_eq_some_iff.1 h
 unfold flip put
 rw [List.modify_eq_take_cons_drop hq,List.append_assoc]
 rfl
theorem bits_u8 (x y:Int):0≤bits .xor .u8 x y∧bits .xor .u8 x y≤255:=by
 show 0≤IntKind.u8.wrap _∧IntKind.u8.wrap _≤255
 rw [IntKind.wrap_u8]
 omega
set_option maxRecDepth 100000 in
theorem rot_ok (w:World) (p g mb cap m:Nat) (d:Dk) (h:DkIs w p g mb cap m d) (i b:Nat) (x:Pg) (hx:d.p[i]? = some x) (hb:b<1024) :
 Calls Try.prog 27 #[.pointer (some ⟨p,0,none⟩),.int .i64 (i:Int),.int .i64 (b:Int)] w (WritePost p g mb cap m w { d with p:=d.p.modify i fun x=>(flip x.1 (b / 8) (b % 8),x.2) } 0):=by
 have hil:=(List.getElem?_eq_some_iff.1 hx).1
 have hfew:=h.ok.few
 have hi:d.is i=true:=by unfold Dk.is;simp;omega
 have H:=Bx.mk h
 have hIs:=Bx.mk (is_any w p g mb cap m d h i)
 rw [hi] at hIs
 have t1:decide ((b:Int)<0)=false:=by simp
 have t2:decide (1024≤(b:Int))=false:=by simp;omega
 have hok:=h.ok.pages x (List.mem_of_getElem? hx)
 obtain ⟨y,hy⟩ : ∃ y,x.1[b / 8]? = some y:=⟨_,List.getElem?_eq_getElem (by rw [hok.1];omega)⟩
 have hcell:=Bx.mk (h.pg.at_ i x hx (b / 8) (.int .u8 y) (by rw [List.getElem?_map,hy];rfl))
 have k0:=Bx.mk (h.kp.cell 0 rfl)
 clear h hi
 generalize hq:b / 8=q at *
 generalize hs:b % 8=s at *
 have hq8:q<128:=by omega
 have hs8:s<8:=by omega
 have e1:IntKind.i64.wrap ((b:Int) / 8)=(q:Int):=by rw [IntWalk.i64_in _ (by omega)];omega
 have e2:(b:Int) % 8=(s:Int):=by omega
 replace hq:=Bx.mk hq
 replace hs:=Bx.mk hs
 replace hx:=Bx.mk hx
 replace hy:=Bx.mk hy
 replace hok:=Bx.mk hok
 go_enter Try.func27,Try.ntmps27
 go_upto_region 3 with (go_at_call 46;refine hIs.out.mono ?_;rintro _ _ ⟨rfl,rfl⟩)
 clear t1 t2 hIs
 have c0 : ∀ dk osk,(grow (redrawn w dk) osk).cell? ⟨p,0,none⟩=some (.slice (some ⟨g,0,none⟩) d.p.length cap):=cell_regrown k0.out
 have c1 : ∀ dk osk,(grow (redrawn w dk) osk).cell? ⟨g,i * 128+q,none⟩=some (.int .u8 y):=cell_regrown hcell.out
 have b0:(0:Int)≤(i:Int):=by omega
 have b1:(i:Int)<(d.p.length:Int):=by omega
 have b2:(0:Int)≤(q:Int):=by omega
 have b3:(q:Int)<128:=by omega
 refine wp_region_headT_below 16 (by kernel_rfl) (by kernel_rfl) ?_
 simp only [List.take_succ_cons,List.take_zero,List.drop_succ_cons,List.drop_zero]
 repeat (first | go_big_quiet_step (fail) | quiet_step (fail))
 refine wpQuiet_nil ?_
 rintro _ ⟨⟨dq,osq⟩,rfl⟩
 have hb5:=below_regrown w dq osq
 have hD5:=Bx.mk (H.out.later hb5)
 replace hcell:=Bx.mk (cell_later hb5 hcell.out)
 have hC5:Bx (Chg (In3 p g mb) w (grow (redrawn w dq) osq)):=⟨.ofBelow hb5 _⟩
 clear c0 c1 hb5
 generalize grow (redrawn w dq) osq=W at *
 have e3:(2:Int) ^ s % 256=2 ^ s:=by
  have:s=0∨s=1∨s=2∨s=3∨s=4∨s=5∨s=6∨s=7:=by omega
  rcases this with rfl | rfl | rfl | rfl | rfl | rfl | rfl | rfl <;> decide
 rw [e3]
 clear e3
 have hfl:Bx (flip x.1 q s=put x.1 q [bits .xor .u8 y (2 ^ s)]):=⟨flip_put hy.out s⟩
 have hbx:Bx (0≤bits .xor .u8 y (2 ^ s)∧bits .xor .u8 y (2 ^ s)≤255):=⟨bits_u8 _ _⟩
 generalize bits .xor .u8 y (2 ^ s)=z at *
 have cc:=hcell.out
 have ff:W.frozen? ⟨g,i * 128+q,none⟩=false:=(hD5.out.pg.there hil q hq8).2
 have hD6:Bx (DkIs (W.setCell ⟨g,i * 128+q,none⟩ (.int .u8 z)) p g mb cap m { d with p:=d.p.modify i fun x=>(flip x.1 q s,x.2) }):=by
  have hc6:Chg (· = g) W (W.setCell ⟨g,i * 128+q,none⟩ (.int .u8 z)):=chg_cell _ _ _ _
  have hl:(d.p.modify i fun x:Pg=>(flip x.1 q s,x.2)).length=d.p.length:=List.length_modify ..
  have hne:=hD5.out.ne
  have h7:=hD5.out.pg.put (i:=i) (o:=q) (ys:=[z]) (fun x hx=>(hD5.out.ok.pages x hx).1) (by simp;omega) (fun x=>(flip x.1 q s,x.2)) (fun x' hx'=>by rw [hx.out] at hx';injection hx' with hx';rw [←hx'];exact hfl.out)
  refine ⟨⟨hD5.out.ok.put _ fun y' hy' hok'=>?_,?_,?_,?_,h7,?_,hne⟩⟩
  · rw [hx.out] at hy'
    injection hy' with hy'
    subst hy'
    refine ⟨?_,?_,hok'.2.2⟩
    · show (flip x.1 q s).length=128
      rw [hfl.out];exact put_len hok'.1 (by simp;omega)
    · show Byt (flip x.1 q s)
      rw [hfl.out]
      exact ((hok'.2.1.take _).append fun v hv=>by rw [List.mem_singleton] at hv;rw [hv];exact hbx.out).append (hok'.2.1.drop _)
  · show 0<(d.p.modify i _).length
    rw [hl];exact hD5.out.pos
  · show (d.p.modify i _).length≤cap∧_
    rw [hl];exact hD5.out.hcap
  · show Bk _ p #[.slice _ (d.p.modify i _).length cap,_,_,_] _
    rw [hl];exact hD5.out.kp.chg hc6 hne.1
  · obtain ⟨D,h1,h2⟩:=hD5.out.km.chg hc6 (fun e=>hne.2.1 e.symm)
    refine ⟨D,h1,fun j hj=>?_⟩
    have:pendI (d.p.modify i fun x:Pg=>(flip x.1 q s,x.2)) j=pendI d.p j:=by
     unfold pendI
     rw [List.getElem?_modify]
     cases d.p[j.toNat]? with
     | none=>rfl
     | some y=>by_cases e:i=j.toNat <;> simp [e]
    rw [this];exact h2 j hj
 have hC6:Bx (Chg (In3 p g mb) w (W.setCell ⟨g,i * 128+q,none⟩ (.int .u8 z))):=⟨hC5.out.setCell (.inl (.inr (.inl rfl))) _⟩
 clear hD5 hC5 hcell
 go_wp2_with fail
 go_ret
 exact ⟨rfl,hD6.out,hC6.out⟩
end
section
open Go.RowKit Go.Sort
theorem Sl.chg {S:Nat→Prop} {w w':World} {k:IntKind} {a:Option Addr} {xs:List Int} (h:Sl w k a xs) (hc:Chg S w w') (hn : ∀ b o,a=some ⟨b,o,none⟩→0<xs.length → ¬S b):Sl w' k a xs:=by
 intro i x hx
 obtain ⟨b,off,rfl,hcell⟩:=h i x hx
 exact ⟨b,off,rfl,(cell_of_heap (hc.block b (block_lt_of_cell hcell) (hn b off rfl (by have:=(List.getElem?_eq_some_iff.1 hx).1;omega))) _).trans hcell⟩
theorem wpList_copy_cells {P:Program} {w:World} {ops:Array Oper} {rest:List Oper} {o:Oper} {a:Act} {Q:Exit→Act→World→Prop} (hgd:o.guard=none) (d s:Operand) (dT sT:TypeId)
 (ho:o.op = .call { callee:=.builtin .copy,args:=#[d,s],argTypes:=#[dT,sT] }) (elem:TypeId) (hu:P.underlying dT=some (.slice elem)) (hsz:(P.info? elem).map (·.size)=some 1)
 (g off dLen dCap:Nat) (hd:a.eval d = .slice (some ⟨g,off,none⟩) dLen dCap) (ad:Addr) (sLen sCap:Nat) (hs:a.eval s = .slice (some ad) sLen sCap) (cs:List Value)
 (hn:cs.length=Nat.min sLen dLen) (hsrc : ∀ j v,cs[j]? = some v→w.cell? (ad.add j)=some v) (hth:w.there g off cs.length) (h1 : ∀ v∈cs,v.oneCell'=true)
 (h:wpList P ops Q rest (a.put o.dst (goInt cs.length)) (w.setCells g off cs)):wpList P ops Q (o::rest) a w:=by
 refine wpList_plain hgd fun K hK=>?_
 have hr:=run_copy_cells (P:=P) w dT sT o.type elem g off dLen dCap ad sLen sCap cs hu hsz hn hsrc (fun j hj=>(hth j hj).1) (fun j hj=>(hth j hj).2) h1
 unfold Oper.wp execOp
 simp only [ho,resolve,invoke,builtin,Sem.run_bind,Sem.run_pure,Result.andThen_ok,List.map_toArray,List.map_cons,List.map_nil,hd,hs,hr]
 exact hK _ _ h
structure MtI (w9:World) (g:Nat) (p:List Pg) (picks:List Int) (k:Nat) (wr:World):Prop where
 ch:Chg (· = g) w9 wr
 pg:Pages wr g (settled p picks k)
def MountPost (p g mb cap m:Nat) (w:World) (d':Dk) (e:Ending) (w':World):Prop:=e = .returned (.tuple #[])∧DkIs w' p g mb cap m d'∧Chg (In3 p g mb) w w'
set_option maxRecDepth 100000 in
theorem mount_any (w:World) (p g mb cap m:Nat) (d:Dk) (h:DkIs w p g mb cap m d) (a:Option Addr) (pc:Nat) (picks:List Int) (_hpl:picks.length≤1000) (hs:Sl w .i64 a picks) (hap : ∀ b o,a=some ⟨b,o,none⟩→0<picks.length → ¬In3 p g mb b) :
 Calls Try.prog 30 #[.pointer (some ⟨p,0,none⟩),.slice a picks.length pc] w (MountPost p g mb cap m w (d.mount picks)):=by
 have hfew:=h.ok.few
 have hPe:=Bx.mk (pend_any w p g mb cap m d h)
 have H:=Bx.mk h
 have hs:=Bx.mk hs
 have hap:=Bx.mk hap
 clear h
 go_enter Try.func30,Try.ntmps30
 go_wp2_with fail
 refine hPe.out.mono ?_
 rintro _ w9 ⟨v,rfl,ho9,hb9⟩
 obtain ⟨a9,c9,rfl,hs9⟩:=ho9.form
 have H9:=Bx.mk (H.out.later hb9)
 have hl9:(ints (pendOf d.p)).length=(pendOf d.p).length:=by unfold ints;rw [List.length_map]
 have hcnt:=pend_len_le d.p
 have hap9:Bx (∀ b o,a9=some ⟨b,o,none⟩ → ¬b=g):=⟨fun b o e hbg=>by
  rcases ho9.2 with ⟨e1,_⟩ | ⟨g9,cap9,cur,e1,hB,_⟩
  · injection e1 with e1 _ _;rw [e1] at e;cases e
  · injection e1 with e1 _ _
    rw [e1] at e
    injection e with e
    injection e with e _ _
    have:=H.out.lt.2.1
    omega⟩
 rw [hl9]
 have hs9:=Bx.mk hs9
 have hs9p:=Bx.mk (hs.out.below hb9)
 have hb9:=Bx.mk hb9
 have HI:Bx (MtI w9 g d.p picks 0 w9):=⟨⟨Chg.refl _ _,by rw [settled_zero];exact H9.out.pg⟩⟩
 clear ho9 hPe
 generalize hN:(pendOf d.p).length=n at *
 replace hN:=Bx.mk hN
 go_wp2_with fail
 go_loopw [11] (fun v11 wr => ∃ k:Nat,k≤n∧v11 = .int .i64 k∧Bx (MtI w9 g d.p picks k wr)) (fun v11 _=>n - (intOf v11).toNat)
 case atStart=>exact ⟨0,by omega,rfl,HI⟩
 case round =>
  clear HI
  obtain ⟨k,hk,rfl,HI⟩:=hrel
  by_cases hlt:k<n
  · have t0:decide ((k:Int)<(n:Int))=true:=by simp;omega
    obtain ⟨i,hi⟩ : ∃ i,(pendOf d.p)[k]? = some i:=⟨_,List.getElem?_eq_getElem (by have:=hN.out;omega)⟩
    have hsu:=Bx.mk (settled_succ hi picks)
    obtain ⟨hip,hrk⟩:=rank_at hi
    have hil:=isPend_lt hip
    obtain ⟨⟨o,nw⟩,hx⟩ : ∃ x,d.p[i]? = some x:=⟨_,List.getElem?_eq_getElem hil⟩
    cases nw with
    | none=>unfold isPend at hip;rw [hx] at hip;cases hip
    | some nw =>
    have hok:=H.out.ok.pages _ (List.mem_of_getElem? hx)
    obtain ⟨ln,-⟩:=hok.2.2 nw rfl
    have hxs:=Bx.mk (settled_at hx picks k)
    rw [hrk,if_neg (Nat.lt_irrefl k)] at hxs
    obtain ⟨b9,o9,ha9,hc9⟩:=hs9.out k (i:Int) (by unfold ints;rw [List.getElem?_map,hi];rfl)
    have hb9g:=hap9.out b9 o9 ha9
    subst ha9
    have hc9r:=(cell_of_heap (HI.out.ch.block b9 (block_lt_of_cell hc9) hb9g) _).trans hc9
    clear hc9
    have hgm:=H.out.ne
    have k0:=H9.out.kp.chg HI.out.ch hgm.1
    have km:=Bx.mk (H9.out.km.chg HI.out.ch (fun e=>hgm.2.1 e.symm))
    have hsr:=Bx.mk (hs9p.out.chg HI.out.ch (fun b o e hl hb=>hap.out b o e hl (.inr (.inl hb))))
    obtain ⟨c0,c1⟩:=k0.c2
    have hpn:pendI d.p (i:Int)=some nw:=by rw [pendI_nat,hx];rfl
    have hlk:=km.out.get (wf_nat (i:=i) (by omega)) hpn
    have hpk:Bx (pick picks k=pick picks k):=⟨rfl⟩
    have hple:=pick_le picks k
    have b0:(0:Int)≤(k:Int):=by omega
    have b1:(k:Int)<(n:Int):=by omega
    have kI:(k:Int)≤120:=by omega
    replace hi:=Bx.mk hi
    replace hx:=Bx.mk hx
    replace hok:=Bx.mk hok
    replace k0:=Bx.mk k0
    clear hip hrk hpn
    unfold arrV at hlk
    have ln:=Bx.mk ln
    have s1:=Bx.mk (pgInfo _ ((row_cells nw .u8).trans ln.out))
    have s2:=Bx.mk (show Try.zeroCells80.size=(nw.map (Value.int .u8)).toArray.size by rw [row_cells,ln.out];kernel_rfl)
    have s3:=Bx.mk (one_ints .u8 nw)
    go_upto_if 19 with fail
    generalize hcc:pick picks k=c at *
    go_cut [6] from 16 to 25 (fun v6 wx=>v6 = .int .i64 (c:Int)∧wx=wr)
    case first =>
     cases hpk2:picks[k]? with
     | none =>
       have:picks.length≤k:=List.getElem?_eq_none_iff.1 hpk2
       have t1:decide ((k:Int)<(picks.length:Int))=false:=by simp;omega
       have hc128:c=128:=by rw [←hcc];unfold pick;rw [hpk2]
       subst hc128
       replace hcc:=Bx.mk hcc
       clear hpk2
       go_wp2_with fail
       go_meet
       exact ⟨rfl,rfl⟩
     | some pk =>
       have hkl:=(List.getElem?_eq_some_iff.1 hpk2).1
       have t1:decide ((k:Int)<(picks.length:Int))=true:=by simp;omega
       have hcv:(c:Int)=min (max pk 0) 128:=by rw [←hcc];unfold pick;rw [hpk2];simp only [];omega
       obtain ⟨bp,op,hap2,hcp⟩:=hsr.out k pk hpk2
       subst hap2
       have b4:(k:Int)<(picks.length:Int):=by omega
       have m1:(if pk<0 then 0 else pk)=max pk 0:=by omega
       have m2:(if 128<max pk 0 then 128 else max pk 0)=(c:Int):=by omega
       have m3:(if max pk 0<128 then max pk 0 else 128)=(c:Int):=by omega
       replace hcc:=Bx.mk hcc
       replace hcv:=Bx.mk hcv
       clear hpk2
       go_wp2_with fail
       go_meet
       exact ⟨by rw [hcv.out],rfl⟩
    case rest =>
    obtain ⟨rfl,rfl⟩:=hcut
    replace hcc:=Bx.mk hcc
    have h0c:(0:Int)≤(c:Int):=by omega
    have hc1:(c:Int)≤128:=by omega
    clear hsr hpk
    go_upto_region 7 with (refine wpList_store_whole rfl _ _ _ rfl wc.heap.size rfl _ _ rfl _ (heap_alloc_new wc (.cells Try.zeroCells80 80)) s1.out s2.out s3.out ?_)
    simp only [Act.put]
    generalize hW:World.setRow (World.alloc wc _) _ _=W4
    have kq:Bx (Bk W4 wc.heap.size (nw.map (Value.int .u8)).toArray 80):=by rw [←hW];exact ⟨setRow_heap _ _ _ _ _ (0,0) (heap_alloc_new _ _)⟩
    have hb4:Bx (Below wc.heap.size wc W4):=by rw [←hW];exact ⟨below_setRow ((Below.refl _ _).alloc (Nat.le_refl _) _) (Nat.le_refl _) _⟩
    clear hW hlk km c0 c1 hc9r
    have c0 : ∀ dk osk,(grow (redrawn W4 dk) osk).cell? ⟨p,0,none⟩=some (.slice (some ⟨g,0,none⟩) d.p.length cap):=cell_regrown (cell_later hb4.out (k0.out.cell 0 rfl))
    have b4:(0:Int)≤(i:Int):=by omega
    have b5:(i:Int)<(d.p.length:Int):=by omega
    refine wp_region_headT_below 10 (by kernel_rfl) (by kernel_rfl) ?_
    simp only [List.take_succ_cons,List.take_zero,List.drop_succ_cons,List.drop_zero]
    repeat (first | go_big_quiet_step (fail) | quiet_step (fail))
    refine wpQuiet_nil ?_
    rintro _ ⟨⟨dq,osq⟩,rfl⟩
    have hb5:=below_regrown W4 dq osq
    replace kq:=Bx.mk (kq.out.later hb5)
    have hC5:Bx (Chg (· = g) w9 (grow (redrawn W4 dq) osq)):=⟨(HI.out.ch.later hb4.out HI.out.ch.size).later hb5 (Nat.le_trans HI.out.ch.size hb4.out.size)⟩
    have pg5:=Bx.mk ((HI.out.pg.later hb4.out).later hb5)
    clear c0 hb4 hb5 k0 HI
    generalize grow (redrawn W4 dq) osq=W5 at *
    have hct:(nw.take c).length=c:=by rw [List.length_take,ln.out];omega
    have u8i:Bx ((Try.prog.info? 5).map (·.size)=some 1):=⟨by kernel_rfl⟩
    have e1:Bx ((((nw.take c).map (Value.int .u8)).length)=Nat.min c c):=⟨by rw [List.length_map,hct];exact (Nat.min_self c).symm⟩
    have e2:Bx (∀ j v,((nw.take c).map (Value.int .u8))[j]? = some v→W5.cell? ((⟨wc.heap.size,0,none⟩:Addr).add j)=some v):=⟨fun j v hv=>by
     rw [Addr.add_mid,Nat.zero_add]
     refine kq.out.cell j ?_
     rw [List.getElem?_toArray]
     rw [List.getElem?_map,List.getElem?_take] at hv
     rw [List.getElem?_map]
     split at hv
     · exact hv
     · cases hv⟩
    have e3:Bx (W5.there g (i * 128) ((nw.take c).map (Value.int .u8)).length):=⟨fun j hj=>pg5.out.there (by rw [settled_len];exact hil) j (by rw [List.length_map,hct] at hj;omega)⟩
    have e4:Bx (∀ v∈(nw.take c).map (Value.int .u8),v.oneCell'=true):=⟨fun v hv=>by obtain ⟨x,_,rfl⟩:=List.mem_map.1 hv;rfl⟩
    have HI6:Bx (MtI w9 g d.p picks (k+1) (W5.setCells g (i * 128) ((nw.take c).map (Value.int .u8)))):=by
     refine ⟨⟨hC5.out.setCells (.inl rfl) _ _,?_⟩⟩
     have hlen : ∀ x∈settled d.p picks k,x.1.length=128:=fun x hx2=>by
      obtain ⟨j,hj⟩:=List.getElem?_of_mem hx2
      cases hp:d.p[j]? with
      | none=>rw [List.getElem?_eq_none_iff.2 (by rw [settled_len];exact List.getElem?_eq_none_iff.1 hp)] at hj;cases hj
      | some y =>
        rw [settled_at hp] at hj
        injection hj with hj
        have hy:=H.out.ok.pages y (List.mem_of_getElem? hp)
        rw [←hj]
        split
        · exact (hy.settle _).1
        · exact hy.1
     have:=pg5.out.put (i:=i) (o:=0) (ys:=nw.take c) hlen (by rw [hct];omega) (Pg.settle c) (fun x hx2=>by
      rw [hxs.out] at hx2
      injection hx2 with hx2
      rw [←hx2]
      show nw.take c++o.drop c=_
      unfold put
      rw [List.take_zero,List.nil_append,Nat.zero_add,hct])
     rw [Nat.add_zero,←hsu.out] at this
     exact this
    generalize hcs:(nw.take c).map (Value.int .u8)=cs at *
    replace hcs:=Bx.mk hcs
    clear hC5 pg5 kq
    go_wp2_with (refine wpList_copy_cells rfl _ _ _ _ rfl 5 Try.underlying66 u8i.out g (i * 128) _ _ rfl ⟨wc.heap.size,0,none⟩ _ _ rfl cs e1.out e2.out e3.out e4.out ?_)
    go_roundw
    case rel=>exact ⟨k+1,by omega,by go_num,HI6⟩
    case measure=>simp [intOf];omega
  · have t0:decide ((k:Int)<(n:Int))=false:=by simp;omega
    obtain rfl:k=n:=by omega
    have hgm:=H.out.ne
    have k0:=H9.out.kp.chg HI.out.ch hgm.1
    have km:=H9.out.km.chg HI.out.ch (fun e=>hgm.2.1 e.symm)
    obtain ⟨w4,hcl,hm4,hc4⟩:=km.clear 0 (q:=settled d.p picks k) (fun x hx=>by rw [←hN.out] at hx;exact settled_end_none picks hx)
    have k4:=k0.chg hc4 (fun e=>hgm.2.2 e)
    have c1:=k0.cell 1 rfl
    have c2:=k4.cell 2 rfl
    have f2:=k4.frozen 2
    have k5:=k4.set 2 (.bool false)
    have c3:=k5.cell 3 (v:=.int .i64 d.trip) rfl
    have f3:=k5.frozen 3
    have hC4:Chg (In3 p g mb) w w4:=((Chg.ofBelow hb9.out (In3 p g mb)).trans (HI.out.ch.mono (T:=(· = g)) (fun _ _ e=>e)) (fun j _ e=>.inr (.inl e))).trans hc4 (fun j _ e=>.inr (.inr e))
    have hC6:Bx (Chg (In3 p g mb) w ((w4.setCell ⟨p,2,none⟩ (.bool false)).setCell ⟨p,3,none⟩ (.int .i64 (-1)))):=⟨(hC4.setCell (.inl (.inl rfl)) _).setCell (.inl (.inl rfl)) _⟩
    have hD6:Bx (DkIs ((w4.setCell ⟨p,2,none⟩ (.bool false)).setCell ⟨p,3,none⟩ (.int .i64 (-1))) p g mb cap m (d.mount picks)):=by
     have hc6:Chg (· = p) w4 ((w4.setCell ⟨p,2,none⟩ (.bool false)).setCell ⟨p,3,none⟩ (.int .i64 (-1))):=(chg_cell w4 p 2 _).setCell (.inl rfl) _
     have hl:(d.mount picks).p.length=d.p.length:=settled_len _ _ _
     refine ⟨⟨⟨fun x hx=>?_,by show (-1:Int) ≤ -1;omega,by show (-1:Int)≤_;omega,by rw [hl];exact hfew⟩,by rw [hl];exact H.out.pos,by rw [hl];exact H.out.hcap,?_,?_,?_,hgm⟩⟩
     · obtain ⟨j,hj⟩:=List.getElem?_of_mem hx
       have hj:(settled d.p picks (pendOf d.p).length)[j]? = some x:=hj
       cases hp:d.p[j]? with
       | none=>rw [List.getElem?_eq_none_iff.2 (by rw [settled_len];exact List.getElem?_eq_none_iff.1 hp)] at hj;cases hj
       | some y =>
         rw [settled_at hp] at hj
         injection hj with hj
         have hy:=H.out.ok.pages y (List.mem_of_getElem? hp)
         rw [←hj]
         split
         · exact hy.settle _
         · exact hy
     · rw [hl]
       exact k5.set 3 (.int .i64 (-1))
     · show Pages _ g (settled d.p picks (pendOf d.p).length)
       rw [hN.out]
       exact (HI.out.pg.chg hc4 (fun e=>hgm.2.1 e)).chg hc6 (fun e=>hgm.1 e.symm)
     · show PgMap _ mb m (settled d.p picks (pendOf d.p).length)
       rw [hN.out]
       exact hm4.chg hc6 (fun e=>hgm.2.2 e.symm)
    clear HI km hm4 hc4 hC4 k4 k5 k0
    go_wp2_with fail
    go_end0
    exact ⟨rfl,hD6.out,hC6.out⟩
end
section
open Go.RowKit Go.Sort
def part (p:List Pg) (L:Nat→Bool):List Pg:=p.mapIdx fun i x=>(x.1,if L i=true then none else x.2)
structure ClI (w:World) (p2 g2 mb2 cap2 m2:Nat) (d:Dk) (q:List Pg) (wr:World):Prop where
 kp:Bk wr p2 #[.slice (some ⟨g2,0,none⟩) d.p.length cap2,.map (some mb2),.bool d.off,.int .i64 d.trip] 78
 pg:Pages wr g2 d.p
 km:PgMap wr mb2 m2 q
 ne:p2 ≠ g2∧g2 ≠ mb2∧p2 ≠ mb2
 cap:d.p.length≤cap2∧cap2≤maxLen
 lo:w.heap.size≤p2∧w.heap.size≤g2∧w.heap.size≤mb2
 bel:Below w.heap.size w wr
theorem ClI.chg {w wr wr':World} {p2 g2 mb2 cap2 m2:Nat} {d:Dk} {q:List Pg} {S:Nat→Prop} (h:ClI w p2 g2 mb2 cap2 m2 d q wr) (hc:Chg S wr wr') (hn : ∀ k,In3 p2 g2 mb2 k → ¬S k) (hB : ∀ k,k<w.heap.size → ¬S k):ClI w p2 g2 mb2 cap2 m2 d q wr' :=
 ⟨h.kp.chg hc (hn _ (.inl rfl)),h.pg.chg hc (hn _ (.inr (.inl rfl))),h.km.chg hc (hn _ (.inr (.inr rfl))),h.ne,h.cap,h.lo,h.bel.trans (hc.below h.bel.size hB)⟩
theorem ClI.later {w wr wr':World} {p2 g2 mb2 cap2 m2:Nat} {d:Dk} {q:List Pg} (h:ClI w p2 g2 mb2 cap2 m2 d q wr) (hb:Below wr.heap.size wr wr'):ClI w p2 g2 mb2 cap2 m2 d q wr' :=
 h.chg (.ofBelow hb (fun _=>False)) (fun _ _ e=>e) (fun _ _ e=>e)
end
section
open Go.RowKit Go.Sort
def rcell (x:Pg):Nat→Value
 | 0=>.string (strOfNums x.1)
 | 1=>.string (strOfNums (x.2.getD []))
 | _=>.bool x.2.isSome
structure RC (w:World) (g n:Nat) (F:Nat→Nat→Value):Prop where
 at_ : ∀ i j,i<n→j<3→w.cell? ⟨g,i * 3+j,none⟩=some (F i j)
 free : ∀ i j,i<n→j<3→w.frozen? ⟨g,i * 3+j,none⟩=false
 lt:g<w.heap.size
def upd (F:Nat→Nat→Value) (i j:Nat) (v:Value):Nat→Nat→Value:=fun a b=>if a=i∧b=j then v else F a b
section
variable {w w':World} {g n:Nat} {F G:Nat→Nat→Value}
theorem RC.congr (h:RC w g n F) (hFG : ∀ i j,i<n→j<3→F i j=G i j):RC w g n G:=⟨fun i j hi hj=>by rw [←hFG i j hi hj];exact h.at_ i j hi hj,h.free,h.lt⟩
theorem RC.set (h:RC w g n F) {i j:Nat} (hi:i<n) (hj:j<3) (v:Value):RC (w.setCell ⟨g,i * 3+j,none⟩ v) g n (upd F i j v):=by
 refine ⟨fun a b ha hb=>?_,fun a b ha hb=>by rw [World.frozen?_setCell];exact h.free a b ha hb,by simpa [World.setCell] using h.lt⟩
 unfold upd
 by_cases e:a=i∧b=j
 · obtain ⟨rfl,rfl⟩:=e
   rw [if_pos ⟨rfl,rfl⟩]
   exact World.cell?_setCell_same w _ _ (h.at_ a b ha hb)
 · rw [if_neg e,World.cell?_setCell_other w _ _ _ (fun he=>by
    injection he with h1 h2 h3
    exact e (by omega))]
   exact h.at_ a b ha hb
theorem RC.of_heap (h:RC w g n F) (he:w'.heap[g]? = w.heap[g]?) (hs:w.heap.size≤w'.heap.size):RC w' g n F :=
 ⟨fun i j hi hj=>(cell_of_heap he _).trans (h.at_ i j hi hj),fun i j hi hj=>(frozen_of_heap he _).trans (h.free i j hi hj),Nat.lt_of_lt_of_le h.lt hs⟩
theorem RC.chg {S:Nat→Prop} (h:RC w g n F) (hc:Chg S w w') (hn : ¬S g):RC w' g n F:=h.of_heap (hc.block g h.lt hn) hc.size
end
def Fof (p:List Pg):Nat→Nat→Value:=fun i j=>rcell (p.getD i ([],none)) j
theorem fof_at {p:List Pg} {i:Nat} {x:Pg} (h:p[i]? = some x) (j:Nat):Fof p i j=rcell x j:=by unfold Fof;rw [List.getD_eq_getElem?_getD,h];rfl
structure RkIs (w:World) (q g cap:Nat) (d:Dk):Prop where
 ok:DkOk d
 pos:0<d.p.length
 hcap:d.p.length≤cap∧cap≤maxLen
 kq:Bk w q #[.slice (some ⟨g,0,none⟩) d.p.length cap,.bool d.off,.int .i64 d.trip] 102
 pg:RC w g d.p.length (Fof d.p)
 ne:q ≠ g
def In2 (q g:Nat) (k:Nat):Prop:=k=q∨k=g
section
variable {w w':World} {q g cap:Nat} {d:Dk}
theorem RkIs.chg {S:Nat→Prop} (h:RkIs w q g cap d) (hc:Chg S w w') (hn : ∀ k,In2 q g k → ¬S k):RkIs w' q g cap d :=
 ⟨h.ok,h.pos,h.hcap,h.kq.chg hc (hn _ (.inl rfl)),h.pg.chg hc (hn _ (.inr rfl)),h.ne⟩
theorem RkIs.later (h:RkIs w q g cap d) (hb:Below w.heap.size w w'):RkIs w' q g cap d:=h.chg (.ofBelow hb (fun _=>False)) (fun _ _ e=>e)
theorem RkIs.lt (h:RkIs w q g cap d):q<w.heap.size∧g<w.heap.size:=⟨h.kq.lt,h.pg.lt⟩
theorem RkIs.put (h:RkIs w q g cap d) (d':Dk) (w':World) (hp:d'.p=d.p) (ht : -1≤d'.trip∧d'.trip≤9223372036854775807)
 (hk:Bk w' q #[.slice (some ⟨g,0,none⟩) d.p.length cap,.bool d'.off,.int .i64 d'.trip] 102) (hc:Chg (· = q) w w'):RkIs w' q g cap d' :=
 ⟨⟨by rw [hp];exact h.ok.pages,ht.1,ht.2,by rw [hp];exact h.ok.few⟩,by rw [hp];exact h.pos,by rw [hp];exact h.hcap,by rw [hp];exact hk,by rw [hp];exact h.pg.chg hc (fun e=>h.ne e.symm),h.ne⟩
end
theorem ris_any (w:World) (q g cap:Nat) (d:Dk) (h:RkIs w q g cap d) (i:Int) :
 Calls Try.prog 76 #[.pointer (some ⟨q,0,none⟩),.int .i64 i] w fun e w'=>e = .returned (.bool (d.is i))∧w=w':=by
 have c0:=h.kq.cell 0 rfl
 unfold Dk.is
 have hl:=h.ok.few
 clear h
 generalize d.p.length=n at *
 by_cases h0:0≤i
 · have t0:decide (0≤i)=true:=by simpa using h0
   go_enter Try.func76,Try.ntmps76
   go_wp2
   go_ret
   exact ⟨ret_bool (by simp [h0]),rfl⟩
 · have t0:decide (0≤i)=false:=by simpa using h0
   go_enter Try.func76,Try.ntmps76
   go_wp2
   go_ret
   exact ⟨ret_bool (by simp),rfl⟩
theorem rlen_any (w:World) (q g cap:Nat) (d:Dk) (h:RkIs w q g cap d) :
 Calls Try.prog 55 #[.pointer (some ⟨q,0,none⟩)] w fun e w'=>e = .returned (.int .i64 (d.p.length:Int))∧w=w':=by
 have c0:=h.kq.cell 0 rfl
 clear h
 go_enter Try.func55,Try.ntmps55
 go_wp2
 go_ret
 exact ⟨rfl,rfl⟩
theorem rnow_any (w:World) (q g cap:Nat) (d:Dk) (h:RkIs w q g cap d) (i:Nat) (x:Pg) (hx:d.p[i]? = some x) :
 Calls Try.prog 77 #[.pointer (some ⟨q,0,none⟩),.int .i64 (i:Int)] w fun e w'=>e = .returned (.string (strOfNums x.now))∧w=w':=by
 have hi:=(List.getElem?_eq_some_iff.1 hx).1
 have hfew:=h.ok.few
 have c0:=h.kq.cell 0 rfl
 have p0:=h.pg.at_ i 0 hi (by omega)
 have p1:=h.pg.at_ i 1 hi (by omega)
 have p2:=h.pg.at_ i 2 hi (by omega)
 rw [fof_at hx] at p0 p1 p2
 have b0:(0:Int)≤(i:Int):=by omega
 have b1:(i:Int)<(d.p.length:Int):=by omega
 clear h hx hi
 obtain ⟨o,nw⟩:=x
 simp only [rcell,Nat.add_zero] at p0 p1 p2
 cases nw with
 | none =>
   simp only [Option.isSome_none] at p2
   go_enter Try.func77,Try.ntmps77
   go_wp2
   go_ret
   exact ⟨rfl,rfl⟩
 | some n =>
   simp only [Option.isSome_some,Option.getD_some] at p1 p2
   go_enter Try.func77,Try.ntmps77
   go_wp2
   go_ret
   exact ⟨rfl,rfl⟩
theorem rread_any (w:World) (q g cap:Nat) (d:Dk) (h:RkIs w q g cap d) (i:Int) :
 Calls Try.prog 65 #[.pointer (some ⟨q,0,none⟩),.int .i64 i] w fun e w'=>e = .returned (.tuple #[.string (strOfNums (d.read i).1),.int .i64 (d.read i).2])∧w=w':=by
 have c2:=h.kq.cell 1 rfl
 have hIs:=Bx.mk (ris_any w q g cap d h i)
 by_cases ho:d.off=true
 · have hr:d.read i=([],20):=by unfold Dk.read eDown;rw [if_pos ho]
   rw [hr]
   clear h hr
   go_enter Try.func65,Try.ntmps65
   go_wp2_with (go_at_call 76;refine hIs.out.mono ?_;rintro _ _ ⟨rfl,rfl⟩)
   go_ret2
   exact ⟨rfl,rfl⟩
 · replace ho:d.off=false:=by simpa using ho
   by_cases hi:d.is i=true
   · obtain ⟨k,x,rfl,hx⟩:=is_at hi
     have hr:d.read k=(x.now,0):=by unfold Dk.read;rw [ho,hi,Int.toNat_natCast,hx];rfl
     rw [hr]
     have hN:=Bx.mk (rnow_any w q g cap d h k x hx)
     rw [hi] at hIs
     clear h hr hx hi
     generalize x.now=xs at *
     generalize d.off=O at *
     subst ho
     go_enter Try.func65,Try.ntmps65
     go_wp2_with (first
      | (go_at_call 76;refine hIs.out.mono ?_;rintro _ _ ⟨rfl,rfl⟩)
      | (go_at_call 77;refine hN.out.mono ?_;rintro _ _ ⟨rfl,rfl⟩))
     go_ret2
     exact ⟨rfl,rfl⟩
   · replace hi:d.is i=false:=by simpa using hi
     have hr:d.read i=([],1):=by unfold Dk.read eArg;rw [ho,hi];rfl
     rw [hr]
     rw [hi] at hIs
     clear h hr hi
     go_enter Try.func65,Try.ntmps65
     go_wp2_with (go_at_call 76;refine hIs.out.mono ?_;rintro _ _ ⟨rfl,rfl⟩)
     go_ret2
     exact ⟨rfl,rfl⟩
end
section
open Go.RowKit Go.Sort
theorem RkIs.page {w w':World} {q g cap i:Nat} {d:Dk} (h:RkIs w q g cap d) (f:Pg→Pg) (hf : ∀ x,d.p[i]? = some x→PgOk x→PgOk (f x)) (hc:Chg (· = g) w w') (hp:RC w' g d.p.length (Fof (d.p.modify i f))):RkIs w' q g cap { d with p:=d.p.modify i f }:=by
 have hl:(d.p.modify i f).length=d.p.length:=List.length_modify ..
 refine ⟨h.ok.put f hf,?_,?_,?_,?_,h.ne⟩
 · show 0<(d.p.modify i f).length
   rw [hl];exact h.pos
 · show (d.p.modify i f).length≤cap∧_
   rw [hl];exact h.hcap
 · show Bk w' q #[.slice _ (d.p.modify i f).length cap,_,_] _
   rw [hl];exact h.kq.chg hc h.ne
 · show RC w' g (d.p.modify i f).length _
   rw [hl];exact hp
end
section
open Go.RowKit Go.Sort
theorem Sl.put {w:World} {b:Nat} {xs:List Int} {i:Nat} (h:Sl w .u8 (some ⟨b,0,none⟩) xs) (hi:i<xs.length) (z:Int):Sl (w.setCell ⟨b,i,none⟩ (.int .u8 z)) .u8 (some ⟨b,0,none⟩) (xs.set i z):=by
 intro j x hx
 refine ⟨b,0,rfl,?_⟩
 rw [Nat.zero_add]
 rw [List.getElem?_set] at hx
 by_cases e:i=j
 · subst e
   rw [if_pos rfl,if_pos hi] at hx
   injection hx with hx
   subst hx
   obtain ⟨_,_,he,hc⟩:=h i _ (List.getElem?_eq_getElem hi)
   simp only [Option.some.injEq,Addr.mk.injEq,and_true] at he
   obtain ⟨rfl,rfl⟩:=he
   rw [Nat.zero_add] at hc
   exact World.cell?_setCell_same w _ _ hc
 · rw [if_neg e] at hx
   obtain ⟨_,_,he,hc⟩:=h j _ hx
   simp only [Option.some.injEq,Addr.mk.injEq,and_true] at he
   obtain ⟨rfl,rfl⟩:=he
   rw [Nat.zero_add] at hc
   rw [World.cell?_setCell_other w _ _ _ (fun he=>by injection he with h1 h2 h3;exact e h2)]
   exact hc
end
end Go.Proofs.Ytajhkncolbgkbaa
