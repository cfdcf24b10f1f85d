/- Tw4, Cub, Enp, Stl, Siz, Inr: joined by program, for one claim. -/
import Derived.Test.YtfcbajmjaifjlaaGreatDoorM19
set_option maxHeartbeats 4000000
set_option maxRecDepth 100000
set_option linter.unusedVariables false
set_option linter.unusedSimpArgs false
section
namespace Go.Proofs.YtfcbajmjaifjlaaGreatDoor
open Go.RowKit Go.Sort Go.Maps
open Oct
theorem WK.mono {w0 W:World} {Av:Nat→Prop} {N vt vb tm bm m m':Nat} {T T':Nat→Pt→Prop} {l:List Chg} (h:WK w0 Av N vt vb tm bm m T l W) (hm:m≤m') (hT : ∀ n a,n≤N→(T n a ↔ T' n a)):WK w0 Av N vt vb tm bm m' T' l W:=by
 obtain ⟨h1,h2,h3,h4,hav,hlt,h5,⟨ft,t1,t2⟩,⟨fb,b1,b2⟩⟩:=h;exact ⟨h1,h2,h3,h4,hav,hlt,h5,⟨ft,t1.mono hm,fun n a hn ha=>⟨fun h=>(t2 n a hn ha).1 ((hT n a hn).2 h),fun h=>(t2 n a hn ha).2 (fun h'=>h ((hT n a hn).1 h'))⟩⟩,⟨fb,b1.mono hm,b2⟩⟩
def zCh (N:Nat) (c:Chg):Prop:=inB c.at (zCq N)=true∧0≤c.n∧c.n≤255
def zIr (l:List Chg) (n:Nat) (a:Pt):Prop := ∃ c∈l,Tr.InC n a c.at
def zI3 (l:List Chg) (c:Chg) (lv:Nat) (n:Nat) (a:Pt):Prop:=zIr l n a∨(n+2<lv∧Tr.InC n a c.at)
theorem zHf (l:List Chg) (c:Chg) (n:Nat) (a:Pt):zIr l n a ↔ zI3 l c 2 n a:=⟨.inl,fun h=>h.resolve_right (fun h=>by omega)⟩
theorem zI2 (l:List Chg) (c:Chg) (i n:Nat) (a:Pt):(zI3 l c (i+2) n a∨(n=i∧Tr.InC i a c.at)) ↔ zI3 l c (i+2+1) n a:=by
 unfold zI3;constructor
 · rintro ((h | ⟨h,h'⟩) | ⟨rfl,h⟩)
   · exact .inl h
   · exact .inr ⟨by omega,h'⟩
   · exact .inr ⟨by omega,h⟩
 · rintro (h | ⟨h,h'⟩)
   · exact .inl (.inl h)
   · by_cases e:n=i
     · exact .inr ⟨e,e ▸ h'⟩
     · exact .inl (.inr ⟨by omega,h'⟩)
theorem zKy (l:List Chg) (c:Chg) (N n:Nat) (hn:n≤N) (a:Pt):zI3 l c (N+3) n a ↔ zIr (l++[c]) n a:=by
 unfold zI3 zIr;constructor
 · rintro (⟨c',h,h'⟩ | ⟨-,h⟩)
   · exact ⟨c',by simp [h],h'⟩
   · exact ⟨c,by simp,h⟩
 · rintro ⟨c',h,h'⟩;rcases List.mem_append.1 h with h | h
   · exact .inl ⟨c',h,h'⟩
   · rw [List.mem_singleton.1 h] at h';exact .inr ⟨by omega,h'⟩
theorem zCb {cs:List Chg} {j:Nat} {c:Chg} (h:cs[j]? = some c):cs.take (j+1)=cs.take j++[c]:=by
 obtain ⟨hl,rfl⟩:=List.getElem?_eq_some_iff.1 h;exact List.take_succ_eq_append_getElem hl
abbrev zKm (n:Nat):Nat→Prop:=fun k=>k=n∨k=n+1∨k=n+1+1∨k=n+1+1+1
theorem WK.made (w:World) (N:Nat) {W:World} (hW:World.alloc (World.alloc (World.alloc (World.alloc w (.map #[] 0)) (.cells #[.map (some w.heap.size)] 81)) (.map #[] 0)) (.cells #[.map (some (w.heap.size+1+1))] 82)=W) :
 WK w (zKm w.heap.size) N (w.heap.size+1+1+1) (w.heap.size+1) (w.heap.size+1+1) w.heap.size 0 (zIr []) [] W:=by
 subst hW;have h0:=MapV.made 52 w;generalize hW1:World.alloc w (.map #[] 0)=W1 at *;have s1:W1.heap.size=w.heap.size+1:=by rw [←hW1];simp
 have b1:=bl1 hW1;generalize hW2:World.alloc W1 _=W2 at *;have s2:W2.heap.size=w.heap.size+1+1:=by rw [←hW2];simp;omega
 have b2:=bl1 hW2;have k2:Bk W2 (w.heap.size+1) #[.map (some w.heap.size)] 81:=by rw [←hW2,←s1];exact Bk.new _ _ _
 have h3:=MapV.made 52 W2;generalize hW3:World.alloc W2 (.map #[] 0)=W3 at *;have s3:W3.heap.size=w.heap.size+1+1+1:=by rw [←hW3];simp;omega
 have b3:=bl1 hW3;generalize hW4:World.alloc W3 _=W4;have b4:=bl1 hW4;have k4:Bk W4 (w.heap.size+1+1+1) #[.map (some (w.heap.size+1+1))] 82:=by rw [←hW4,←s3];exact Bk.new _ _ _
 rw [s2] at h3
 refine ⟨((b1.trans (b2.mono b1.size)).trans (b3.mono (by omega))).trans (b4.mono (by omega)),k4,(k2.later b3).later b4,⟨by omega,by omega,by omega,by omega⟩,⟨.inr (.inr (.inr rfl)),.inr (.inl rfl),.inr (.inr (.inl rfl)),.inl rfl⟩,(fun k hk=>by have:=b4.size;rcases hk with rfl | rfl | rfl | rfl <;> (first | exact k4.lt | omega)),⟨by omega,by omega,by omega,by omega,by omega⟩,⟨_,h3.of_block (b4.block _ (by omega)),fun n a _ _=>⟨fun ⟨c,h,_⟩=>by simp at h,fun _=>rfl⟩⟩,
  ⟨_,((h0.of_block (b2.block _ (by omega))).of_block (b3.block _ (by omega))).of_block (b4.block _ (by omega)),fun a _=>⟨fun _=>rfl,fun h=>absurd rfl h⟩,fun a a' v v' g _ _ h=>by cases h⟩⟩
structure WSays (V:Prop) (G:Ending→World→Prop) (w:World) (e:Ending) (w':World):Prop where
 ok:V→G e w'
 bad : ¬V→e=zAv 0 1∧Below w.heap.size w w'
attribute [local go_sem ↓] Go.wp_at_zero Go.wp_at_succ
theorem zDM {N:Nat} (hN:N≤12) (sb:Nat) (id:Int) (ha:Option Addr) (hcp:Nat) (cs:List Chg) (hC:cs.length≤4194304) (hcap:cs.length≤hcp) (w:World) (hcs:SlC w ha cs) (G:Ending→World→Prop)
 (hch:Bx (∀ Av vt vb tm bm m W,(∀ c∈cs,zCh N c)→WK w Av N vt vb tm bm m (zIr cs) cs W→Calls Tryz.prog 39 #[.pointer (some ⟨sb,0,none⟩),id,.int .i64 ((N:Int)+2),.agg #[.func (.func 40) #[] #[.pointer (some ⟨vt,0,none⟩)],.func (.func 41) #[] #[.pointer (some ⟨vb,0,none⟩)]]] W fun e w'=>G e w' ∧ ∃ i r,e=zAv i r)) :
 Calls Tryz.prog 10 #[.pointer (some ⟨sb,0,none⟩),id,.int .i64 ((N:Int)+2),.slice ha cs.length hcp] w (WSays (∀ c∈cs,zCh N c) G w):=by
 have Hcs:=Bx.mk hcs;have hpm:=zV (show N+2≤14 by omega)
 obtain ⟨M,hM⟩ : ∃ M:Int,M=2 ^ (N+2):=⟨_,rfl⟩;rw [←hM] at hpm;have Hwh:=Bx.mk fun W=>zAY ((N:Int)+2) W;have Hbox:=Bx.mk fun W=>zBe (N+2) (by omega) 0 0 0 M hM (by omega) (by omega) (by omega) W
 rw [Int.zero_add,show (((N+2:Nat)):Int)=(N:Int)+2 by omega] at Hbox
 have HM:=Bx.mk hM;have HN:=Bx.mk hN;have Hin:=Bx.mk fun px py pz W=>zFm px py pz 0 0 0 M M M W;clear hcs hM hpm;have hmm:=@run_makeMap Tryz.prog;go_enter Tryz.func10,Tryz.ntmps10;go_wp2_with fail;generalize hW:World.alloc (World.alloc (World.alloc (World.alloc w _) _) _) _=W;clear hmm;have HI:=Bx.mk (WK.made w N hW);clear hW
 go_loopw [21] (fun v21 wr => ∃ j:Nat,j≤cs.length∧v21 = .int .i64 j∧Bx (WK w (zKm w.heap.size) N (w.heap.size+1+1+1) (w.heap.size+1) (w.heap.size+1+1) w.heap.size (30 * j) (zIr (cs.take j)) (cs.take j) wr ∧ ∀ c∈cs.take j,zCh N c)) (fun i _=>cs.length - (intOf i).toNat)
 case atStart=>exact ⟨0,Nat.zero_le _,rfl,⟨HI.out,by simp⟩⟩
 case round =>
  clear HI;obtain ⟨j,hj,rfl,hI⟩:=hrel;by_cases hlt:j<cs.length
  · obtain ⟨⟨px,py,pz,po,pn⟩,hed⟩ : ∃ ed,cs[j]? = some ed:=⟨_,List.getElem?_eq_getElem hlt⟩;have Hed:=Bx.mk hed;obtain ⟨bk,off,rfl,c0,c1,c2,c3,c4⟩:=(Hcs.out.of_block (fun b hb hl=>hI.out.1.bel.block b hl):SlC wr ha cs) j _ hed;dsimp only at c0 c1 c2 c3 c4;have t0:decide ((j:Int)<(cs.length:Int))=true:=by simp;omega
    have b1:(0:Int)≤(j:Int):=by omega
    have b2:(j:Int)<(cs.length:Int):=by omega
    clear hed;go_wp2_with fail;generalize hW:World.alloc wr _=W;have hb:=bl1 hW;have kx:Bk W wr.heap.size #[px,py,pz,po,pn] 41:=bk0 hW rfl;clear hW c0 c1 c2 c3 c4 b1 b2 t0
    have HK:=Bx.mk (hI.out.1.avoid (Av':=fun k=>zKm w.heap.size k∨k=wr.heap.size) hb (fun k hk=>hk.imp (fun h=>h) (fun h=>Nat.le_of_eq h.symm)) (fun k hk=>by
     rcases hk with hk | rfl
     · exact Nat.lt_of_lt_of_le (hI.out.1.lt k hk) hb.size
     · exact kx.lt) ⟨.inl (.inr (.inr (.inr rfl))),.inl (.inr (.inl rfl)),.inl (.inr (.inr (.inl rfl))),.inl (.inl rfl)⟩)
    have HV:=Bx.mk hI.out.2;have hxb:=hI.out.1.kt.lt;clear hI hb;generalize wr.heap.size=xb at *;by_cases h1:inB ⟨px,py,pz⟩ (zCq N)=true
    · have Hi:=Bx.mk fun W=>Hin.out px py pz W;rw [show inB ⟨px,py,pz⟩ ⟨⟨0,0,0⟩,⟨M,M,M⟩⟩=true by rw [HM.out];exact h1] at Hi
      have Hc:=Bx.mk fun W=>zBY pn W;have H1:=Bx.mk h1;clear h1;by_cases h2:0≤pn∧pn≤255
      · rw [show decide (0≤pn∧pn≤255)=true by simpa using h2] at Hc
        have HVc:Bx (zCh N ⟨px,py,pz,po,pn⟩):=⟨⟨H1.out,h2⟩⟩;clear h2;obtain ⟨cx0,cx1,cx2⟩:=kx.r3;have cx4 : ∀ dk osk,(grow (redrawn W dk) osk).cell? ⟨xb,4,none⟩=some (.int .i64 pn):=cell_regrown (kx.cell 4 rfl);have q0:=Bx.mk fun dk osk=>Calls.regrown_of (Hwh.out (grow (redrawn W dk) osk));have q1:=Bx.mk fun dk osk=>Calls.regrown_of (Hbox.out (grow (redrawn W dk) osk));have q2:=Bx.mk fun dk osk=>Calls.regrown_of (Hi.out (grow (redrawn W dk) osk));have q3:=Bx.mk fun dk osk=>Calls.regrown_of ((Hc.out (grow (redrawn W dk) osk)).mono fun e w' h=>(⟨h.1,by rw [←h.2];exact Below.refl _ _⟩:e=_∧Below (grow (redrawn W dk) osk).heap.size (grow (redrawn W dk) osk) w'))
        refine wp_region_quiet_below (by kernel_rfl) (by kernel_rfl) ?_
        repeat (first | go_big_quiet_step ((first | with_reducible exact q0.out _ _ | with_reducible exact q1.out _ _ | with_reducible exact q2.out _ _ | with_reducible exact q3.out _ _)) | quiet_step (first | with_reducible exact q0.out _ _ | with_reducible exact q1.out _ _ | with_reducible exact q2.out _ _ | with_reducible exact q3.out _ _))
        refine wpQuiet_nil ?_;rintro _ ⟨⟨dq,osq⟩,rfl⟩;have hb:=below_regrown W dq osq;clear cx0 cx1 cx2 cx4 q0 q1 q2 q3;replace kx:=kx.later hb;replace HK:=Bx.mk (HK.out.later hb);clear hb;generalize grow (redrawn W dq) osq=W1 at *
        --INNER
        have HI:Bx (WK w (fun k=>zKm w.heap.size k∨k=xb) N (w.heap.size+1+1+1) (w.heap.size+1) (w.heap.size+1+1) w.heap.size (30 * j+2 * 2) (zI3 (cs.take j) ⟨px,py,pz,po,pn⟩ 2) (if 2=2 then cs.take j else cs.take (j+1)) W1∧Bk W1 xb #[px,py,pz,po,pn] 41):=⟨⟨by rw [if_pos rfl];exact HK.out.mono (by omega) (fun n a _=>zHf _ _ n a),kx⟩⟩
        clear HK kx;go_wp2_with fail
        go_loopw [14] (fun v14 wr => ∃ lv:Nat,2≤lv∧lv≤N+3∧v14 = .int .i64 lv∧Bx (WK w (fun k=>zKm w.heap.size k∨k=xb) N (w.heap.size+1+1+1) (w.heap.size+1) (w.heap.size+1+1) w.heap.size (30 * j+2 * lv) (zI3 (cs.take j) ⟨px,py,pz,po,pn⟩ lv) (if lv=2 then cs.take j else cs.take (j+1)) wr∧Bk wr xb #[px,py,pz,po,pn] 41)) (fun v _=>N+3 - (intOf v).toNat)
        case atStart=>exact ⟨2,by omega,by omega,rfl,HI⟩
        case round =>
         clear HI;obtain ⟨lv,h2,h3,rfl,hL⟩:=hrel;by_cases hle:lv≤N+2
         · have hib:=zX.1 HVc.out.1;have hpw:=zV (show N+2≤14 by have:=HN.out;omega)
           obtain ⟨i,hi⟩ : ∃ i,lv=i+2:=⟨lv - 2,by omega⟩
           obtain ⟨Ml,hMl⟩ : ∃ Ml:Int,Ml=2 ^ lv:=⟨_,rfl⟩;have hp:IntKind.i64.wrap ((2:Int) ^ lv)=Ml:=by rw [hMl];exact zZ (by have:=HN.out;omega)
           have hml:4≤Ml∧Ml≤16384:=by
            have h1:=zV (show lv≤14 by have:=HN.out;omega)
            have h2:=zV (show i≤14 by have:=HN.out;omega)
            have h3:(2:Int) ^ (i+2)=2 ^ i * 4:=Int.pow_add 2 i 2;rw [hMl];refine ⟨?_,h1.2⟩;rw [hi,h3];omega
           have hbd:(0≤px∧px≤16384)∧(0≤py∧py≤16384)∧(0≤pz∧pz≤16384):=by
            have e:(zCq N).hi=⟨2 ^ (N+2),2 ^ (N+2),2 ^ (N+2)⟩:=rfl;have e2:(zCq N).lo=⟨0,0,0⟩:=rfl;rw [e,e2] at hib;simp only at hib;omega
           obtain ⟨⟨lx,ly,lz⟩,hq⟩ : ∃ q,q=zAI i ⟨px,py,pz⟩:=⟨_,rfl⟩
           have low : ∀ x:Int,0≤x→x≤16384→0≤x - x % Ml∧x - x % Ml≤16384∧bits .andNot .i64 x (Ml - 1)=x - x % Ml:=by
            intro x h0 h1;have e1:=zOY x Ml;have e2:=Int.mul_nonneg (show 0≤Ml by omega) (Int.ediv_nonneg h0 (show 0≤Ml by omega))
            have e3:=Int.emod_nonneg x (show Ml ≠ 0 by omega)
            exact ⟨by omega,by omega,by rw [hMl];exact zIJ x lv h0 (by omega) (by have:=HN.out;omega)⟩
           have ex:px - px % Ml=lx∧py - py % Ml=ly∧pz - pz % Ml=lz:=by
            unfold zAI at hq;rw [←hi,←hMl] at hq;injection hq with q1 q2 q3;exact ⟨q1.symm,q2.symm,q3.symm⟩
           obtain ⟨lx0,lx1,hx⟩:=low px hbd.1.1 hbd.1.2;obtain ⟨ly0,ly1,hy⟩:=low py hbd.2.1.1 hbd.2.1.2;obtain ⟨lz0,lz1,hz⟩:=low pz hbd.2.2.1 hbd.2.2.2;rw [ex.1] at lx0 lx1 hx;rw [ex.2.1] at ly0 ly1 hy;rw [ex.2.2] at lz0 lz1 hz;have Hq:=Bx.mk hq;have Hlv:=Bx.mk hi;have t1:decide ((lv:Int)≤(N:Int)+2)=true:=by simp;omega
           obtain ⟨c0,c1,c2⟩:=hL.out.2.c3;clear low ex hq hi hMl hib hpw hbd;go_upto_region 13 with fail;generalize hW:World.alloc wr _=W;have hb:=bl1 hW;have kc:Bk W wr.heap.size #[lx,ly,lz,(lv:Int)] 52:=bk0 hW rfl;clear hW c0 c1 c2 t1 hp hx hy hz
           have hcl : ∀ q∈[lx,ly,lz,(lv:Int)],0≤q∧q≤16384:=by
            intro q hq;simp only [List.mem_cons,List.not_mem_nil,or_false] at hq;have:=HN.out;rcases hq with rfl | rfl | rfl | rfl <;> omega
           have hcube:wr.heap.size ≠ w.heap.size+1+1:=by have:=hL.out.1.kt.lt;omega
           have htou : ∃ W',(Instr.mapUpdate 82 (.map (some (w.heap.size+1+1))) (zH lx ly lz (lv:Int)) (.bool true)).run Tryz.prog W = .ok () W'∧WK w (fun k=>zKm w.heap.size k∨k=xb) N (w.heap.size+1+1+1) (w.heap.size+1) (w.heap.size+1+1) w.heap.size (30 * j+2 * lv+1) (zI3 (cs.take j) ⟨px,py,pz,po,pn⟩ (lv+1)) (if lv=2 then cs.take j else cs.take (j+1)) W'∧W'.heap.size=W.heap.size∧W.grownBy W' (some (w.heap.size+1+1)):=by
            have h:=(hL.out.1.later hb).touch (by have:=HN.out;simp only [maxLen];omega) i ⟨px,py,pz⟩
            rw [←Hq.out,show ((i:Int)+2)=(lv:Int) by rw [Hlv.out];omega] at h
            obtain ⟨W',g1,g2,g3,g4⟩:=h (fun q hq=>zC8 q (hcl q hq));refine ⟨W',g1,g2.mono (Nat.le_refl _) (fun n a _=>?_),g3,g4⟩;rw [Hlv.out];exact zI2 _ ⟨px,py,pz,po,pn⟩ i n a
           obtain ⟨W2,hrun,hwk,hsz,hgr⟩:=htou;have kx:=(hL.out.2.later hb).grown hgr (by omega)
           have kc2:=kc.grown hgr hcube;have Kc2:=Bx.mk kc2;have t0:=(hL.out.1.later hb).kt.cell 0 rfl;obtain ⟨d0,d1,d2,d3⟩:=kc.c4;have HWK:=Bx.mk hwk;have Kx:=Bx.mk kx;have hcbs:Bx (wr.heap.size<W.heap.size):=⟨kc.lt⟩;clear hwk kx kc kc2 hgr hsz hL hcl;go_upto_region 14 with fail;clear t0 d0 d1 d2 d3 hrun hcube hb;generalize wr.heap.size=cb at *;by_cases hl2:lv=2
           · subst hl2;rw [show (((2:Nat):Int))=2 from rfl] at *;have hi0:i=0:=by have:=Hlv.out;omega
             have Hq0:Bx (⟨lx,ly,lz⟩=zAI 0 ⟨px,py,pz⟩):=⟨by rw [←hi0];exact Hq.out⟩
             go_upto_region 15 with fail;rw [if_pos rfl] at HWK;obtain ⟨O,hO⟩ : ∃ O:Obj,O = .cells #[px,py,pz,po,pn] 41:=⟨_,rfl⟩;have hbO:Below W2.heap.size W2 (W2.alloc O):=(Below.refl _ _).alloc (Nat.le_refl _) _;have hent:=(HWK.out.later hbO).entry (by have:=HN.out;simp only [maxLen];omega) ⟨px,py,pz,po,pn⟩
             simp only [Chg.at] at hent;rw [←Hq0.out] at hent
             obtain ⟨v0,st,W5,hrunE,hmid⟩:=hent (fun q hq=>zC8 q (by
              simp only [List.mem_cons,List.not_mem_nil,or_false] at hq;rcases hq with rfl | rfl | rfl | rfl <;> omega))
             have knew:Bk W5 W2.heap.size #[px,py,pz,po,pn] 41:=(hmid.grown.block W2.heap.size (by simp) (by
              intro e;injection e with e;have h1:=HWK.out.bmap;obtain ⟨fb,hM,-⟩:=h1;have:=hM.lt;omega)).trans (by rw [hO];exact heap_alloc_new W2 _)
             have hnews:=World.news_of_block (cs:=#[px,py,pz,po,pn]) (t:=41) (fr:=(0,0)) knew;obtain ⟨i0,hi0,hz0,hz1,hz2⟩:=info_parts (show (Tryz.prog.info? 41).map (fun i=>(i.zero,i.size,i.bytes))=some (some (.agg #[(0:Int),(0:Int),(0:Int),(0:Int),(0:Int)]),5,40) by kernel_rfl)
             obtain ⟨nl,hnl⟩ : ∃ nl,nl=(inb (cs.take j) (zAI 0 (Chg.at ⟨px,py,pz,po,pn⟩))).length:=⟨_,rfl⟩
             have hnl2:nl≤4194304:=by
              rw [hnl];unfold inb;have h1:=List.length_filter_le (fun c:Chg=>decide (Tr.InC 0 (zAI 0 (Chg.at ⟨px,py,pz,po,pn⟩)) c.at)) (cs.take j);have h2:=List.length_take_le j cs;omega
             have hown:=hmid.own;have hbase:=hmid.bel.size;rw [←hnl] at hown;have Hown:=Bx.mk hown;have Hnews:=Bx.mk hnews;have HI0:=Bx.mk hi0;have HZ0:=Bx.mk hz0;have HZ1:=Bx.mk hz1;have HZ2:=Bx.mk hz2;have e0:=HWK.out.kb.cell 0 rfl;obtain ⟨d0,d1,d2,d3⟩:=Kc2.out.c4;obtain ⟨x0,x1,x2,x3,x4⟩:=Kx.out.c5;subst hO;have Hnl:=Bx.mk hnl;have Hmid:=Bx.mk hmid;have Hnl2:=Bx.mk hnl2;clear hmid hnl hown hnews hi0 hz0 hz1 hz2 hbO knew hent hnl2;go_wp2_with (at_builtin;refine wpList_append_own_at _ rfl _ _ 42 rfl w.heap.size 41 i0 _ 5 40 Tryz.underlying42 HI0.out HZ0.out HZ1.out HZ2.out rfl (by omega) v0 nl _ rfl Hown.out ⟨W2.heap.size,0,none⟩ 1 1 [.int .i64 px,.int .i64 py,.int .i64 pz,.int .i64 po,.int .i64 pn] rfl rfl Hnews.out (by simp [Value.oneCell']) (by have:=Hnl2.out;simp only [maxLen];omega) (by have:=Hnl2.out;omega) hbase ?_;intro v6 W6 hown6 hgr6 hnil6 hat6;obtain ⟨W7,hrunS,hwk7,hsz7,hold7⟩:=Hmid.out.push W6 v6 hgr6 (by have h:=hown6;rw [Hnl.out] at h;exact h) hat6;have Hw7:=Bx.mk (And.intro hwk7 (And.intro hsz7 hold7));clear hwk7 hsz7 hold7 hown6 hgr6 hnil6 hat6)
             have kx7:Bk W7 xb #[px,py,pz,po,pn] 41:=by
              have hl:=Kx.out.lt;refine (Hw7.out.2.2 xb (Nat.lt_of_lt_of_le hl (by simp)) (by omega) (fun e=>Hmid.out.nav xb e (.inr rfl))).trans ((heap_alloc_old W2 _ hl).trans Kx.out)
             have HJ:Bx (WK w (fun k=>zKm w.heap.size k∨k=xb) N (w.heap.size+1+1+1) (w.heap.size+1) (w.heap.size+1+1) w.heap.size (30 * j+2 * (2+1)) (zI3 (cs.take j) ⟨px,py,pz,po,pn⟩ (2+1)) (if 2+1=2 then cs.take j else cs.take (j+1)) W7∧Bk W7 xb #[px,py,pz,po,pn] 41):=⟨by
              rw [if_neg (by omega),zCb Hed.out]
              exact ⟨Hw7.out.1.mono (by omega) (fun _ _ _=>Iff.rfl),kx7⟩⟩
             clear Hw7 kx7 Hmid hrunS Kx Kc2 HWK Hown Hnews e0 d0 d1 d2 d3 x0 x1 x2 x3 x4;go_wp2_with fail
             go_roundw
             case rel=>exact ⟨2+1,by omega,by omega,by go_num,HJ⟩
             case measure=>simp [intOf]
           · have t2:((lv:Int) == 2)=false:=by simp;omega
             have HJ:Bx (WK w (fun k=>zKm w.heap.size k∨k=xb) N (w.heap.size+1+1+1) (w.heap.size+1) (w.heap.size+1+1) w.heap.size (30 * j+2 * (lv+1)) (zI3 (cs.take j) ⟨px,py,pz,po,pn⟩ (lv+1)) (if lv+1=2 then cs.take j else cs.take (j+1)) W2∧Bk W2 xb #[px,py,pz,po,pn] 41):=⟨by
              have hh:=HWK.out;rw [if_neg hl2] at hh;rw [if_neg (by omega)]
              exact ⟨hh.mono (by omega) (fun _ _ _=>Iff.rfl),Kx.out⟩⟩
             clear HWK Kx Kc2 hl2;go_wp2_with fail
             go_roundw
             case rel=>exact ⟨lv+1,by omega,by omega,by go_num,HJ⟩
             case measure=>simp [intOf];omega
         · obtain rfl:lv=N+3:=by omega
           have t1:decide (((N+3:Nat):Int)≤(N:Int)+2)=false:=by simp
           have HJ:Bx (WK w (zKm w.heap.size) N (w.heap.size+1+1+1) (w.heap.size+1) (w.heap.size+1+1) w.heap.size (30 * (j+1)) (zIr (cs.take (j+1))) (cs.take (j+1)) wr ∧ ∀ c∈cs.take (j+1),zCh N c):=⟨by
            have hh:=hL.out.1;rw [if_neg (by omega)] at hh
            refine ⟨(hh.avoid (Av':=zKm w.heap.size) (Below.refl _ _) (fun k hk=>.inl (.inl hk)) (fun k hk=>hh.lt k (.inl hk)) ⟨.inr (.inr (.inr rfl)),.inr (.inl rfl),.inr (.inr (.inl rfl)),.inl rfl⟩).mono (by omega) (fun n a hn=>?_),fun c hc=>?_⟩
            · rw [zCb Hed.out];exact zKy _ _ N n hn a
            · rw [zCb Hed.out] at hc;rcases List.mem_append.1 hc with hc | hc
              · exact HV.out c hc
              · rw [List.mem_singleton.1 hc];exact HVc.out⟩
           clear hL;go_wp2_with fail
           go_roundw
           case rel=>exact ⟨j+1,by omega,by go_num,HJ⟩
           case measure=>simp [intOf];omega
      · rw [show decide (0≤pn∧pn≤255)=false by simpa using h2] at Hc
        have HB:Bx (¬ ∀ c∈cs,zCh N c):=⟨fun h=>h2 (h _ (List.mem_of_getElem? Hed.out)).2⟩;clear h2;obtain ⟨cx0,cx1,cx2⟩:=kx.r3;have cx4 : ∀ dk osk,(grow (redrawn W dk) osk).cell? ⟨xb,4,none⟩=some (.int .i64 pn):=cell_regrown (kx.cell 4 rfl);have q0:=Bx.mk fun dk osk=>Calls.regrown_of (Hwh.out (grow (redrawn W dk) osk));have q1:=Bx.mk fun dk osk=>Calls.regrown_of (Hbox.out (grow (redrawn W dk) osk));have q2:=Bx.mk fun dk osk=>Calls.regrown_of (Hi.out (grow (redrawn W dk) osk));have q3:=Bx.mk fun dk osk=>Calls.regrown_of ((Hc.out (grow (redrawn W dk) osk)).mono fun e w' h=>(⟨h.1,by rw [←h.2];exact Below.refl _ _⟩:e=_∧Below (grow (redrawn W dk) osk).heap.size (grow (redrawn W dk) osk) w'))
        refine wp_region_quiet_below (by kernel_rfl) (by kernel_rfl) ?_
        repeat (first | go_big_quiet_step ((first | with_reducible exact q0.out _ _ | with_reducible exact q1.out _ _ | with_reducible exact q2.out _ _ | with_reducible exact q3.out _ _)) | quiet_step (first | with_reducible exact q0.out _ _ | with_reducible exact q1.out _ _ | with_reducible exact q2.out _ _ | with_reducible exact q3.out _ _))
        refine wpQuiet_nil ?_;rintro _ ⟨⟨dq,osq⟩,rfl⟩;have hb:=below_regrown W dq osq;clear cx0 cx1 cx2 cx4 q0 q1 q2 q3;replace kx:=kx.later hb;replace HK:=Bx.mk (HK.out.later hb);clear hb;generalize grow (redrawn W dq) osq=W1 at *;go_wp2_with fail
        go_ret2
        exact ⟨fun h=>absurd h HB.out,fun _=>⟨rfl,HK.out.bel⟩⟩
    · have Hi:=Bx.mk fun W=>Hin.out px py pz W;rw [show inB ⟨px,py,pz⟩ ⟨⟨0,0,0⟩,⟨M,M,M⟩⟩=false by rw [HM.out];exact Bool.eq_false_iff.2 h1] at Hi
      have Hc:=Bx.mk fun W=>zBY pn W;have HB:Bx (¬ ∀ c∈cs,zCh N c):=⟨fun h=>h1 (h _ (List.mem_of_getElem? Hed.out)).1⟩;clear h1;obtain ⟨cx0,cx1,cx2⟩:=kx.r3;have cx4 : ∀ dk osk,(grow (redrawn W dk) osk).cell? ⟨xb,4,none⟩=some (.int .i64 pn):=cell_regrown (kx.cell 4 rfl);have q0:=Bx.mk fun dk osk=>Calls.regrown_of (Hwh.out (grow (redrawn W dk) osk));have q1:=Bx.mk fun dk osk=>Calls.regrown_of (Hbox.out (grow (redrawn W dk) osk));have q2:=Bx.mk fun dk osk=>Calls.regrown_of (Hi.out (grow (redrawn W dk) osk));have q3:=Bx.mk fun dk osk=>Calls.regrown_of ((Hc.out (grow (redrawn W dk) osk)).mono fun e w' h=>(⟨h.1,by rw [←h.2];exact Below.refl _ _⟩:e=_∧Below (grow (redrawn W dk) osk).heap.size (grow (redrawn W dk) osk) w'))
      refine wp_region_quiet_below (by kernel_rfl) (by kernel_rfl) ?_
      repeat (first | go_big_quiet_step ((first | with_reducible exact q0.out _ _ | with_reducible exact q1.out _ _ | with_reducible exact q2.out _ _ | with_reducible exact q3.out _ _)) | quiet_step (first | with_reducible exact q0.out _ _ | with_reducible exact q1.out _ _ | with_reducible exact q2.out _ _ | with_reducible exact q3.out _ _))
      refine wpQuiet_nil ?_;rintro _ ⟨⟨dq,osq⟩,rfl⟩;have hb:=below_regrown W dq osq;clear cx0 cx1 cx2 cx4 q0 q1 q2 q3;replace kx:=kx.later hb;replace HK:=Bx.mk (HK.out.later hb);clear hb;generalize grow (redrawn W dq) osq=W1 at *;go_wp2_with fail
      go_ret2
      exact ⟨fun h=>absurd h HB.out,fun _=>⟨rfl,HK.out.bel⟩⟩
  · obtain rfl:j=cs.length:=by omega
    rw [List.take_of_length_le (Nat.le_refl _)] at hI;have t0:decide ((cs.length:Int)<(cs.length:Int))=false:=by simp
    have HV:=Bx.mk hI.out.2;have hq:=Bx.mk (hch.out _ _ _ _ _ _ wr hI.out.2 hI.out.1);clear hI;go_wp2_with fail;refine hq.out.mono ?_;rintro e w' ⟨hG,i,r,rfl⟩;have Hg:=Bx.mk hG;clear hG;go_wp2_with fail
    go_ret2
    exact ⟨fun _=>Hg.out,fun h=>absurd HV.out h⟩
end Go.Proofs.YtfcbajmjaifjlaaGreatDoor
namespace Go.Proofs.YtfcbajmjaifjlaaGreatDoor
open Go.RowKit Go.Sort Go.Maps
open Oct
theorem zG3 (L:Nat) (hL:L≤14) (w:World) :
 Calls Tryz.prog 110 #[(L:Int)] w fun e w'=>e = .returned (.int .i64 ((2:Int) ^ L))∧w=w':=by
 go_enter Tryz.func110,Tryz.ntmps110;go_wp2_with fail
 go_loop [3,4] (fun v3 v4 => ∃ k:Nat,k≤L∧v4 = .int .i64 k∧v3 = .int .i64 ((2:Int) ^ k)) (fun _ i=>L - (intOf i).toNat)
 case atStart=>exact ⟨0,Nat.zero_le _,rfl,rfl⟩
 case round =>
  obtain ⟨k,hk,rfl,rfl⟩:=hrel;by_cases hlt:k<L
  · have t0:decide ((k:Int)<(L:Int))=true:=by simp;omega
    have hp:=(zV (show k≤14 by omega))
    have hp2:=(zV (show k+1≤14 by omega))
    have hs:(2:Int) * 2 ^ k=2 ^ (k+1):=by rw [Int.pow_succ];omega
    have hw:IntKind.i64.wrap ((2:Int) * 2 ^ k)=2 ^ (k+1):=by rw [hs];exact IntWalk.i64_in _ (by omega)
    generalize hq:(2:Int) ^ k=q at *;generalize hr:(2:Int) ^ (k+1)=r at *;go_wp2_with fail;go_round
    case rel=>exact ⟨k+1,by omega,by go_num,by rw [hr]⟩
    case measure=>simp [intOf];omega
  · obtain rfl:k=L:=by omega
    have t0:decide ((k:Int)<(k:Int))=false:=by simp
    go_wp2_with fail;go_ret;exact ⟨rfl,rfl⟩
theorem zDk (px py pz:Int) (L:Nat) (hL:L≤14) (hx:0≤px∧px≤100000) (hy:0≤py∧py≤100000) (hz:0≤pz∧pz≤100000) (w:World) :
 Calls Tryz.prog 59 #[.agg #[px,py,pz],(L:Int)] w fun e w'=>e = .returned (.agg #[px,py,pz,.int .i64 (px+2 ^ L),.int .i64 (py+2 ^ L),.int .i64 (pz+2 ^ L)])∧Below w.heap.size w w':=by
 have hsd:=fun W=>zG3 L hL W;have hp:=(zV hL);generalize hm:(2:Int) ^ L=m at *;have hsd:=Bx.mk hsd;have t1:=IntWalk.i64_in (px+m) (by omega)
 have t2:=IntWalk.i64_in (py+m) (by omega)
 have t3:=IntWalk.i64_in (pz+m) (by omega)
 clear hp hx hy hz hm;go_enter Tryz.func59,Tryz.ntmps59;go_wp2_with fail;generalize hW:World.alloc (World.alloc w _) _=W;have hSz:=sz2 hW;have hB:=bl2 hW;have kp:Bk W (w.heap.size) #[px,py,pz] 23:=bk1 hW;have kr:Bk W (w.heap.size+1) #[(0:Int),(0:Int),(0:Int),(0:Int),(0:Int),(0:Int)] 25:=bk0 hW;clear hW;refine (hsd.out _).mono ?_;rintro _ _ ⟨rfl,rfl⟩;obtain ⟨cp0,cp1,cp2⟩:=kp.c3;obtain ⟨cr0,cr1,cr2,cr3,cr4,cr5⟩:=kr.c6;obtain ⟨fr0,fr1,fr2,fr3,fr4,fr5⟩:=kr.f6;go_wp2_with fail;replace kr:=kr.put6 (.int .i64 px) (.int .i64 py) (.int .i64 pz) (.int .i64 (px+m)) (.int .i64 (py+m)) (.int .i64 (pz+m));clear cr0 cr1 cr2 cr3 cr4 cr5;obtain ⟨z0,z1,z2,z3,z4,z5⟩:=kr.c6;exact bodyPost_ret (v:=.agg #[px,py,pz,.int .i64 (px+m),.int .i64 (py+m),.int .i64 (pz+m)]) (results_cell_row rfl _ _ (w.heap.size+1) 25 #[px,py,pz,.int .i64 (px+m),.int .i64 (py+m),.int .i64 (pz+m)] (0,0) _ rfl kr Tryz.underlying25 rfl (by kernel_rfl)) rfl ⟨rfl,zMO hB (by omega) _ _ _ _ _ _⟩
end Go.Proofs.YtfcbajmjaifjlaaGreatDoor
namespace Go.Proofs.YtfcbajmjaifjlaaGreatDoor
namespace Oct
namespace Tr
def pos (ch:Fin 8→Tr) (k:Nat):Nat:=2+((List.ofFn fun i=>enc (ch i)).take k).flatten.length
theorem pos_zero (ch:Fin 8→Tr):pos ch 0=2:=by simp [pos]
theorem pos_succ (ch:Fin 8→Tr) {k:Nat} (hk:k<8):pos ch (k+1)=pos ch k+(enc (ch ⟨k,hk⟩)).length:=by
 unfold pos;rw [List.take_succ_eq_append_getElem (by rw [List.length_ofFn];exact hk),List.flatten_append,List.length_append,List.getElem_ofFn,List.flatten_cons,List.flatten_nil,List.append_nil]
 omega
theorem pos_all (d:Nat) (ch:Fin 8→Tr):pos ch 8=(enc (.node d ch)).length:=by
 unfold pos;rw [List.take_of_length_le (by simp),enc]
 simp only [List.length_cons];omega
theorem enc_node (d:Nat) (ch:Fin 8→Tr):enc (.node d ch)=110::(d:Int)::(List.ofFn fun i=>enc (ch i)).flatten:=by rw [enc]
theorem pos_le (d:Nat) (ch:Fin 8→Tr) {k:Nat} (hk:k≤8):pos ch k≤(enc (.node d ch)).length:=by
 rw [←pos_all d ch];unfold pos
 have : ∀ m,k≤m→((List.ofFn fun i=>enc (ch i)).take k).flatten.length≤((List.ofFn fun i=>enc (ch i)).take m).flatten.length:=by
  intro m hm;obtain ⟨j,rfl⟩ : ∃ j,m=k+j:=⟨m - k,by omega⟩
  rw [List.take_add,List.flatten_append,List.length_append];omega
 have:=this 8 hk;omega
theorem enc_byt : ∀ t:Tr,WF t → ∀ x∈enc t,0≤x∧x≤255:=by
 intro t
 induction t with
 | uni c=>intro h x hx;rw [enc] at hx;simp at hx;have h:0≤c∧c≤255:=h;rcases hx with rfl | rfl <;> omega
 | brick l => intro h x hx; rw [enc] at hx; have h : l.length = 64 ∧ ∀ x ∈ l, 0 ≤ x ∧ x ≤ 255 := h; rcases List.mem_cons.1 hx with rfl | hx
              · omega
              · exact h.2 x hx
 | node d ch ih =>
   intro h x hx;have h:d≤255 ∧ ∀ i,WF (ch i):=h;rw [enc_node] at hx;rcases List.mem_cons.1 hx with rfl | hx
   · omega
   · rcases List.mem_cons.1 hx with rfl | hx
     · omega
     · obtain ⟨l,hl,hx⟩:=List.mem_flatten.1 hx;obtain ⟨i,rfl⟩:=List.mem_ofFn.1 hl;exact ih i (h.2 i) x hx
def small:Nat→Tr→Prop
 | _,.uni _=>True
 | _,.brick _=>True
 | 0,.node _ _=>False
 | n+1,.node _ ch => ∀ i,small n (ch i)
theorem enc_small : ∀ (n:Nat) (t:Tr),WF t→small n t→(enc t).length≤73 * 8 ^ n - 8:=by
 intro n
 induction n with
 | zero =>
   intro t h hs;cases t with
   | uni c=>simp [enc]
   | brick l=>have h:l.length=64 ∧ ∀ x∈l,0≤x∧x≤255:=h;simp [enc,h.1]
   | node d ch=>exact absurd hs (by simp [small])
 | succ n ih =>
   intro t h hs;have hp:1≤8 ^ n:=Nat.pow_pos (by decide)
   cases t with
   | uni c=>rw [Nat.pow_succ];simp [enc];omega
   | brick l=>have h:l.length=64 ∧ ∀ x∈l,0≤x∧x≤255:=h;rw [Nat.pow_succ];simp [enc,h.1];omega
   | node d ch =>
     have h:d≤255 ∧ ∀ i,WF (ch i):=h;have hk : ∀ i,(enc (ch i)).length≤73 * 8 ^ n - 8:=fun i=>ih (ch i) (h.2 i) (hs i)
     have key : ∀ k,k≤8→pos ch k≤2+k * (73 * 8 ^ n - 8):=by
      intro k
      induction k with
      | zero=>intro _;rw [pos_zero];omega
      | succ k ihk =>
        intro hk8;rw [pos_succ ch (by omega),Nat.succ_mul]
        have h1:=ihk (by omega)
        have h2:=hk ⟨k,by omega⟩
        omega
     have:=key 8 (Nat.le_refl _);rw [pos_all d ch] at this;rw [Nat.pow_succ];omega
end Tr
end Oct
end Go.Proofs.YtfcbajmjaifjlaaGreatDoor
namespace Go.Proofs.YtfcbajmjaifjlaaGreatDoor
open Go.RowKit
def Slv (w:World) (a:Option Addr) (vs:List Value):Prop := ∀ i v,vs[i]? = some v → ∃ b off,a=some ⟨b,off,none⟩∧w.cell? ⟨b,off+i,none⟩=some v
theorem Slv.nil (w:World) (a:Option Addr):Slv w a []:=fun i x h=>by simp at h
theorem Slv.below {w w':World} {a:Option Addr} {vs:List Value} (h:Slv w a vs) (hb:Below w.heap.size w w'):Slv w' a vs:=by
 intro i x hx;obtain ⟨b,off,rfl,hc⟩:=h i x hx;exact ⟨b,off,rfl,cell_later hb hc⟩
def Ownv (w:World) (B:Nat) (e:TypeId) (v:Value) (vs:List Value):Prop:=w.ownsRow B e 1 v vs.length vs
theorem Ownv.nil (w:World) (B:Nat) (e:TypeId):Ownv w B e (.slice none 0 0) []:=World.ownsRow_nil w B e 1
theorem Ownv.form {w:World} {B:Nat} {e:TypeId} {v:Value} {vs:List Value} (h:Ownv w B e v vs) : ∃ a cap,v = .slice a vs.length cap∧Slv w a vs:=by
 rcases h.2 with ⟨rfl,hn⟩ | ⟨g,cap,cur,rfl,hb,hg,hnc,hcm,hcs,ht⟩
 · have hx:vs=[]:=List.eq_nil_of_length_eq_zero hn;subst hx;exact ⟨none,0,rfl,Slv.nil _ _⟩
 · refine ⟨_,cap,rfl,fun i x hx=>⟨g,0,rfl,?_⟩⟩;have hi:i<vs.length:=(List.getElem?_eq_some_iff.1 hx).1;have hcell:w.cell? ⟨g,i,none⟩=cur[i]? := by simp [World.cell?,hg]
   rw [Nat.zero_add,hcell];rw [←ht,List.getElem?_take,if_pos (by omega)] at hx
   simpa using hx
theorem Slv.grown {w w':World} {g off:Nat} {vs:List Value} {row:Option Nat} (h:Slv w (some ⟨g,off,none⟩) vs) (hg:w.grownBy w' row) (hne:row ≠ some g):Slv w' (some ⟨g,off,none⟩) vs:=by
 intro i x hx;obtain ⟨b,o,he,hc⟩:=h i x hx;simp only [Option.some.injEq,Addr.mk.injEq,and_true] at he;obtain ⟨rfl,rfl⟩:=he;refine ⟨_,_,rfl,?_⟩;have hlt:=World.block_lt_of_cell? w _ hc;rw [World.cell?_of_block (hg.block _ hlt (fun e=>hne e.symm))];exact hc
theorem Ownv.sl {w:World} {B:Nat} {e:TypeId} {a:Option Addr} {n c:Nat} {vs:List Value} (h:Ownv w B e (.slice a n c) vs):Slv w a vs:=by
 obtain ⟨a',c',he,hs⟩:=h.form;injection he with h1 h2 h3;subst h1;exact hs
theorem Ownv.lt {w:World} {B:Nat} {e:TypeId} {v:Value} {vs:List Value} (h:Ownv w B e v vs) : ∀ g,v.ownBlock=some g→B≤g∧g<w.heap.size:=World.ownsRow.lt h
theorem Ownv.below {w w':World} {B:Nat} {e:TypeId} {v:Value} {vs:List Value} (h:Ownv w B e v vs) (hb:Below w.heap.size w w'):Ownv w' B e v vs :=
 World.ownsRow.kept (row:=none) h ⟨hb.os,hb.tape,hb.output,hb.size,fun i hi _=>hb.block i hi⟩ (by cases v.ownBlock <;> simp)
theorem Ownv.alloc {w:World} {B:Nat} {e:TypeId} {v:Value} {vs:List Value} (h:Ownv w B e v vs) (o:Obj):Ownv (w.alloc o) B e v vs:=World.ownsRow.alloc h o
theorem Ownv.base {w:World} {B B':Nat} {e:TypeId} {v:Value} {vs:List Value} (h:Ownv w B e v vs) (hB:B'≤B):Ownv w B' e v vs:=by
 refine ⟨h.1,h.2.imp id ?_⟩;rintro ⟨g,cap,cur,h1,h2,h3⟩;exact ⟨g,cap,cur,h1,Nat.le_trans hB h2,h3⟩
theorem Ownv.grown {w w':World} {B:Nat} {e:TypeId} {v:Value} {vs:List Value} (h:Ownv w B e v vs) {row:Option Nat} (hg:w.grownBy w' row) (hne:v.ownBlock=none∨v.ownBlock ≠ row):Ownv w' B e v vs:=World.ownsRow.kept h hg hne
theorem zCT {P:Program} {w:World} {ops:Array Oper} {rest:List Oper} {o:Oper} {a:Act} {Q:Exit→Act→World→Prop} (hgd:o.guard=none) (s x:Operand) (t:TypeId)
 (ho:o.op = .call { callee:=.builtin .append,args:=#[s,x],argTypes:=#[t,t] })
 (e:TypeId) (z:Value) (bytes:Nat) (hbz:bytes≤24) (ht:P.underlying t=some (.slice e))
 (hi:(P.info? e).map (fun i=>(i.zero,i.size,i.bytes))=some (some z,1,bytes)) (hzs:z.cells.size=1)
 (B:Nat) (v:Value) (vs:List Value) (hs:a.eval s=v) (hown:Ownv w B e v vs) (u:Value) (hu1:u.oneCell'=true)
 (ad:Addr) (c:Nat) (hx:a.eval x = .slice (some ad) 1 c) (hcell:w.cell? ad=some u) (hlen:vs.length≤1000000000) (hbase:B≤w.heap.size)
 (h : ∀ v' w',Ownv w' B e v' (vs++[u])→w.grownBy w' v.ownBlock→(v'.ownBlock=v.ownBlock∨v'.ownBlock=some w.heap.size)→wpList P ops Q rest (a.put o.dst v') w') :
 wpList P ops Q (o::rest) a w:=by
 obtain ⟨i0,hi0,hz0,hz1,hz2⟩:=info_parts hi;refine wpList_plain hgd fun K hK=>?_
 have hnews : ∀ j u',[u][j]? = some u'→w.cell? (ad.add j)=some u':=by
  intro j u' hu
  match j with
  | 0=>simp at hu;subst hu;simpa [Addr.add] using hcell
  | j+1=>simp at hu
 obtain ⟨v',w',hr,h2,h3,_,h4⟩:=run_append_own_at (P:=P) w B t o.type e i0 z 1 bytes ht hi0 hz0 hz1 hz2 hzs (by omega) v vs.length _ hown ad 1 c [u] rfl hnews (by simpa using hu1)
  (by simp only [maxLen];omega) (by have:(vs.length+1) * bytes≤(vs.length+1) * 24:=Nat.mul_le_mul_left _ hbz;omega) hbase
 unfold Oper.wp execOp;simp only [ho,resolve,invoke,builtin,Sem.run_bind,Sem.run_pure,Result.andThen_ok,List.map_toArray,List.map_cons,List.map_nil,hs,hx,hr];exact hK _ _ (h v' w' (by unfold Ownv;simpa using h2) h3 h4)
def zBR (ls:List (List Int)):List Value:=ls.map fun l=>.string (strOfNums l)
theorem zAn (ls:List (List Int)):(zBR ls).length=ls.length:=by unfold zBR;rw [List.length_map]
theorem zI9 {ls:List (List Int)} {i:Nat} {l:List Int} (h:ls[i]? = some l):(zBR ls)[i]? = some (.string (strOfNums l)):=by unfold zBR;rw [List.getElem?_map,h];rfl
theorem zFH (ls:List (List Int)) (l:List Int):zBR (ls++[l])=zBR ls++[.string (strOfNums l)]:=by unfold zBR;rw [List.map_append];rfl
def zMX (w w':World) (v:Value) (n:Nat):Prop := ∀ g,v.ownBlock=some g → ∀ cur e,w.heap[g]? = some (.cells cur e (0,0)) → ∃ cur',w'.heap[g]? = some (.cells cur' e (0,0))∧cur'.size=cur.size∧cur'.toList.take n=cur.toList.take n
structure Added (w w':World) (v v':Value) (n:Nat):Prop where
 grown:w.grownBy w' v.ownBlock
 keeps:zMX w w' v n
 where_:v'.ownBlock=v.ownBlock ∨ ∀ g,v'.ownBlock=some g→w.heap.size≤g
theorem Added.refl (w:World) (v:Value) (n:Nat):Added w w v v n:=⟨⟨rfl,rfl,rfl,Nat.le_refl _,fun _ _ _=>rfl⟩,fun _ _ cur _e h=>⟨cur,h,rfl,rfl⟩,.inl rfl⟩
theorem Added.below {w w1 w':World} {v v':Value} {n:Nat} (h:Added w w1 v v' n) (hb:Below w1.heap.size w1 w'):Added w w' v v' n:=by
 refine ⟨⟨hb.os.trans h.grown.os,hb.tape.trans h.grown.tape,hb.output.trans h.grown.output,Nat.le_trans h.grown.size hb.size,fun k hk hne=>(hb.block k (Nat.lt_of_lt_of_le hk h.grown.size)).trans (h.grown.block k hk hne)⟩,fun g hg cur e hc=>?_,h.where_⟩;obtain ⟨cur',h1,h2,h3⟩:=h.keeps g hg cur e hc;exact ⟨cur',(hb.block g (Array.getElem?_eq_some_iff.1 h1).1).trans h1,h2,h3⟩
theorem Added.after {w w1 w':World} {v v':Value} {n:Nat} (hb:Below w.heap.size w w1) (h:Added w1 w' v v' n) (hv : ∀ g,v.ownBlock=some g→g<w.heap.size):Added w w' v v' n:=by
 refine ⟨⟨h.grown.os.trans hb.os,h.grown.tape.trans hb.tape,h.grown.output.trans hb.output,Nat.le_trans hb.size h.grown.size,fun k hk hne=>(h.grown.block k (Nat.lt_of_lt_of_le hk hb.size) hne).trans (hb.block k hk)⟩,fun g hg cur e hc=>?_,?_⟩
 · exact h.keeps g hg cur e ((hb.block g (hv g hg)).trans hc)
 · rcases h.where_ with h1 | h1
   · exact .inl h1
   · exact .inr fun g hg=>Nat.le_trans hb.size (h1 g hg)
theorem Added.trans {w w1 w':World} {v v1 v':Value} {n m:Nat} (h:Added w w1 v v1 n) (h':Added w1 w' v1 v' m) (hnm:n≤m) (hlt : ∀ g,v.ownBlock=some g→g<w.heap.size):Added w w' v v' n:=by
 have hne : ∀ k,k<w.heap.size→some k ≠ v.ownBlock→some k ≠ v1.ownBlock:=fun k hk hne e=>by
  rcases h.where_ with h1 | h1
  · exact hne (by rw [←h1];exact e)
  · have:=h1 k e.symm;omega
 refine ⟨⟨h'.grown.os.trans h.grown.os,h'.grown.tape.trans h.grown.tape,h'.grown.output.trans h.grown.output,Nat.le_trans h.grown.size h'.grown.size,fun k hk hn=>(h'.grown.block k (Nat.lt_of_lt_of_le hk h.grown.size) (hne k hk hn)).trans (h.grown.block k hk hn)⟩,fun g hg cur e hc=>?_,?_⟩
 · obtain ⟨cur1,h1,h2,h3⟩:=h.keeps g hg cur e hc;rcases h.where_ with he | he
   · obtain ⟨cur',h4,h5,h6⟩:=h'.keeps g (by rw [he];exact hg) cur1 e h1
     refine ⟨cur',h4,h5.trans h2,?_⟩
     have:cur'.toList.take n=cur1.toList.take n:=by
      have h7:=congrArg (List.take n) h6;rwa [List.take_take,List.take_take,Nat.min_eq_left hnm] at h7
     exact this.trans h3
   · refine ⟨cur1,(h'.grown.block g (Array.getElem?_eq_some_iff.1 h1).1 fun e1=>?_).trans h1,h2,h3⟩;have:=he g e1.symm;have:=hlt g hg;omega
 · rcases h'.where_ with he | he
   · rw [he];exact h.where_
   · exact .inr fun g hg=>Nat.le_trans h.grown.size (he g hg)
theorem Ownv.keep {w w':World} {v v' u:Value} {n B:Nat} {e:TypeId} {vs:List Value} (h:Added w w' v v' n) (hu:Ownv w B e u vs) (hn:vs.length≤n):Ownv w' B e u vs:=by
 by_cases hs:u.ownBlock=v.ownBlock
 · refine ⟨hu.1,?_⟩;rcases hu.2 with h1 | ⟨g,cap,cur,rfl,hb,hg,hnc,hcm,hcs,ht⟩
   · exact .inl h1
   · obtain ⟨cur',h1,h2,h3⟩:=h.keeps g (by rw [←hs];rfl) cur e hg
     refine .inr ⟨g,cap,cur',rfl,hb,h1,hnc,hcm,h2.trans hcs,?_⟩;rw [Nat.mul_one] at ht ⊢;have h7:=congrArg (List.take vs.length) h3;rw [List.take_take,List.take_take,Nat.min_eq_left hn] at h7;exact h7.trans ht
 · exact Ownv.grown hu h.grown (.inr hs)
end Go.Proofs.YtfcbajmjaifjlaaGreatDoor
namespace Go.Proofs.YtfcbajmjaifjlaaGreatDoor
open Go.RowKit
open Oct
def zAw (ch:Fin 8→Tr):List (List Int):=List.ofFn fun i=>Tr.enc (ch i)
theorem zBX (ch:Fin 8→Tr):(zAw ch).length=8:=List.length_ofFn
theorem zEm (ch:Fin 8→Tr) {k:Nat} (hk:k<8):(zAw ch)[k]? = some (Tr.enc (ch ⟨k,hk⟩)):=by
 unfold zAw;rw [List.getElem?_eq_getElem (by rw [List.length_ofFn];exact hk),List.getElem_ofFn]
theorem zEM (ch:Fin 8→Tr) {k:Nat} (hk:k<8):(zAw ch).take (k+1)=(zAw ch).take k++[Tr.enc (ch ⟨k,hk⟩)]:=by
 have h:=zEm ch hk;rw [List.take_succ_eq_append_getElem (by rw [zBX];exact hk)]
 rw [List.getElem?_eq_getElem (by rw [zBX];exact hk)] at h
 injection h with h;rw [h]
end Go.Proofs.YtfcbajmjaifjlaaGreatDoor
namespace Go.Proofs.YtfcbajmjaifjlaaGreatDoor
open Go.RowKit Go.Sort
open Oct
def zC4 (T:Nat→ByteArray) (k:Nat):Bool:=(List.range k).all fun j=>(T j).toList == (T 0).toList
theorem zHt (T:Nat→ByteArray) (k:Nat):zC4 T (k+1)=(zC4 T k && ((T k).toList == (T 0).toList)):=by
 unfold zC4;rw [List.range_succ,List.all_append];simp
theorem zJA (a b:ByteArray):(a.toList == b.toList)=true ↔ a=b:=by
 rw [beq_iff_eq];constructor
 · intro h;rw [ByteArray.toList_eq,ByteArray.toList_eq] at h;exact ByteArray.ext (Array.ext' h)
 · intro h;rw [h]
theorem zJK (T:Nat→ByteArray) (k:Nat):zC4 T k=true ↔ ∀ j,j<k→T j=T 0:=by
 unfold zC4;rw [List.all_eq_true];simp only [List.mem_range,zJA]
def zEn (ch:Fin 8→Tr) (k:Nat):ByteArray:=strOfNums ((zAw ch).getD k [])
theorem zCj (ch:Fin 8→Tr) {k:Nat} (hk:k<8):zEn ch k=strOfNums (Tr.enc (ch ⟨k,hk⟩)):=by
 unfold zEn;rw [List.getD_eq_getElem?_getD,zEm ch hk];rfl
theorem zJu {ch:Fin 8→Tr} (h : ∀ i,Tr.WF (ch i)) {k:Nat} (hk:k<8):zEn ch k=zEn ch 0 ↔ ch ⟨k,hk⟩=ch 0:=by
 rw [zCj ch hk,zCj ch (by omega:0<8)]
 constructor
 · intro e;have:=zCA (Tr.enc_byt _ (h _)) (Tr.enc_byt _ (h _)) e;exact (Tr.enc_eq (h _) (h _)).1 this
 · intro e;rw [e];rfl
theorem zG5 {ch:Fin 8→Tr} (h : ∀ i,Tr.WF (ch i)):zC4 (zEn ch) 8=true ↔ ∀ i,ch i=ch 0:=by
 rw [zJK];constructor
 · intro e i;exact (zJu h i.isLt).1 (e i.val i.isLt)
 · intro e j hj;exact (zJu h hj).2 (e _)
def zKl (d:Nat) (ch:Fin 8→Tr) (k:Nat):ByteArray:=strOfNums (110::(d:Int)::((zAw ch).take k).flatten)
theorem zF8 (d:Nat) (ch:Fin 8→Tr) {k:Nat} (hk:k<8):zKl d ch (k+1)=zKl d ch k++zEn ch k:=by
 unfold zKl;rw [zCj ch hk,zBf,zEM ch hk,List.flatten_append];simp
theorem zMV (d:Nat) (ch:Fin 8→Tr):zKl d ch 8=strOfNums (Tr.enc (.node d ch)):=by
 unfold zKl;rw [List.take_of_length_le (by rw [zBX];exact Nat.le_refl _),Tr.enc_node];rfl
theorem zKh (d:Nat) (ch:Fin 8→Tr) {k:Nat} (hk:k<8) (n:Nat) (hn:(Tr.enc (.node d ch)).length≤n):(zKl d ch k).size+(zEn ch k).size≤n:=by
 rw [←ByteArray.size_append,←zF8 d ch hk];unfold zKl;rw [strOfNums_size];have:=Tr.pos_le d ch (show k+1≤8 by omega)
 unfold Tr.pos at this;simp only [List.length_cons];unfold zAw;omega
theorem zL5 (t:Tr) : ∃ b r,Tr.enc t=b::r∧((b == 117)=true ↔ ∃ c,t = .uni c):=by
 cases t with
 | uni c=>exact ⟨117,[c],by rw [Tr.enc],by simp⟩
 | brick l=>exact ⟨98,l,by rw [Tr.enc],by simp⟩
 | node d ch=>exact ⟨110,_,by rw [Tr.enc],by simp⟩
theorem zH0 (d:Nat) (hd:d≤255) (ch:Fin 8→Tr) (h : ∀ i,Tr.WF (ch i)) (hl:(Tr.enc (.node d ch)).length≤1000000000000000) (a:Option Addr) (cap:Nat) (w:World) (hs:Slv w a (zBR (zAw ch))) :
 Calls Tryz.prog 132 #[(d:Int),.slice a 8 cap] w fun e w'=>e = .returned (.string (strOfNums (Tr.enc (Tr.mkInner d ch))))∧Below w.heap.size w w':=by
 have hat : ∀ k,k<8→(zBR (zAw ch))[k]? = some (.string (zEn ch k)):=fun k hk=>by rw [zCj ch hk];exact zI9 (zEm ch hk)
 obtain ⟨b,off,rfl,hc0⟩:=hs 0 _ (hat 0 (by omega))
 rw [Nat.add_zero] at hc0;obtain ⟨b0,r0,he0,hu0⟩:=zL5 (ch 0);have hby:=Tr.enc_byt _ (h 0);have hi0:=fun W:World=>zJz (P:=Tryz.prog) 9 Tryz.underlying9 hby (k:=0) (x:=b0) (by rw [he0];rfl) W
 rw [show ((0:Nat):Int)=0 from rfl,show strOfNums (Tr.enc (ch 0))=zEn ch 0 from (zCj ch (by omega)).symm] at hi0
 obtain ⟨u,hu⟩ : ∃ u,(b0 == 117)=u:=⟨_,rfl⟩;have hwd:IntKind.u8.wrap (d:Int)=d:=by unfold IntKind.wrap;simp [IntKind.bits,IntKind.signed];omega
 have hsl:Sl (w.alloc (.cells #[.int .u8 d] 5)) .u8 (some ⟨w.heap.size,0,none⟩) [(d:Int)]:=fun i x hx=>by
  match i with
  | 0=>simp at hx;subst hx;exact ⟨_,_,rfl,zn _ _ _⟩
  | i+1=>simp at hx
 have hcv:=zAJ (P:=Tryz.prog) 107 5 9 Tryz.underlying107 Tryz.underlying5 Tryz.underlying9 hsl 1 1 rfl;have hst:=Bx.mk (show (strOfNums [110])++strOfNums [(d:Int)]=zKl d ch 0 from zBf [110] [(d:Int)])
 have hend:=Bx.mk (show (u && zC4 (zEn ch) 8)=true→Tr.mkInner d ch=ch 0 from fun e=>by
  rw [Bool.and_eq_true] at e;unfold Tr.mkInner;rw [if_pos ⟨hu0.1 (hu.trans e.1),(zG5 h).1 e.2⟩])
 have hend2:=Bx.mk (show (u && zC4 (zEn ch) 8)=false→Tr.mkInner d ch = .node d ch from fun e=>by
  unfold Tr.mkInner;rw [if_neg];rintro ⟨h1,h2⟩;rw [←hu,hu0.2 h1,(zG5 h).2 h2] at e;cases e)
 have hacc:=Bx.mk fun k (hk:k<8)=>zF8 d ch hk;have haccE:=Bx.mk (zMV d ch);have hasz:=Bx.mk fun k (hk:k<8)=>zKh d ch hk _ hl;have h1sz:(strOfNums [(d:Int)]).size=1:=by rw [strOfNums_size];rfl
 have hk0:=Bx.mk (zCj ch (show 0<8 by omega))
 have Hs:=Bx.mk hs;have Hat:=Bx.mk hat
 have Hu:=Bx.mk hu;have Hhd:=Bx.mk hd;clear hs hat hby he0 hu0 h hsl hd hl;go_enter Tryz.func132,Tryz.ntmps132;go_wp2_with fail;generalize hW:World.alloc w _=W;have HB:=Bx.mk (show Below w.heap.size w W from by rw [←hW];exact (Below.refl _ _).alloc (Nat.le_refl _) _)
 clear hW hcv hc0 hi0 h1sz;clear hu
 go_loopw [5,6,7] (fun v5 v6 v7 wr => ∃ k:Nat,k≤8∧v7 = .int .i64 k∧v5 = .bool (u && zC4 (zEn ch) k)∧v6 = .string (zKl d ch k)∧Bx (Below w.heap.size w wr)) (fun _ _ i _=>8 - (intOf i).toNat)
 case atStart=>exact ⟨0,Nat.zero_le _,rfl,by rw [show zC4 (zEn ch) 0=true from rfl,Bool.and_true],by rw [←hst.out];rfl,HB⟩
 case round =>
  clear HB;obtain ⟨k,hk,rfl,rfl,rfl,HB⟩:=hrel;obtain ⟨b1,off1,he1,hc0⟩:=(Hs.out.below HB.out) 0 _ (Hat.out 0 (by omega))
  simp only [Option.some.injEq,Addr.mk.injEq,and_true] at he1;obtain ⟨rfl,rfl⟩:=he1;rw [Nat.add_zero] at hc0;by_cases hlt:k<8
  · have t0:decide ((k:Int)<8)=true:=by simp;omega
    obtain ⟨b1,off1,he1,hck⟩:=(Hs.out.below HB.out) k _ (Hat.out k hlt);simp only [Option.some.injEq,Addr.mk.injEq,and_true] at he1;obtain ⟨rfl,rfl⟩:=he1;have b1':(0:Int)≤(k:Int):=by omega
    have b2:(k:Int)<8:=by omega
    have hacc1:=Bx.mk (hacc.out k hlt);have hz1:=hasz.out k hlt;have hsn:=Bx.mk (zHt (zEn ch) k);have Hc0:=Bx.mk hc0;have Hck:=Bx.mk hck;cases hq:(u && zC4 (zEn ch) k) with
    | false =>
      clear hc0 hck;go_wp2_with fail;refine wp_region_quiet_below (by kernel_rfl) (by kernel_rfl) ?_
      repeat (first | go_big_quiet_step ((fail)) | quiet_step (fail))
      refine wpQuiet_nil ?_;rintro _ ⟨⟨dq,osq⟩,rfl⟩;have hb0:=below_regrown wr dq osq;have hck:=cell_later hb0 Hck.out;replace HB:=Bx.mk (HB.out.trans (hb0.mono HB.out.size));clear hb0;generalize grow (redrawn wr dq) osq=w7 at *;go_wp2_with fail
      go_roundw
      case rel=>exact ⟨k+1,by omega,by go_num,by rw [hsn.out,←Bool.and_assoc,hq];rfl,by rw [hacc1.out],HB⟩
      case measure=>simp [intOf];omega
    | true =>
      have qc1 : ∀ dk osk,(grow (redrawn wr dk) osk).cell? ⟨b,off+k,none⟩=some (.string (zEn ch k)):=cell_regrown Hck.out;have qc2 : ∀ dk osk,(grow (redrawn wr dk) osk).cell? ⟨b,off,none⟩=some (.string (zEn ch 0)):=cell_regrown Hc0.out;clear hc0 hck;go_wp2_with fail;refine wp_region_quiet_below (by kernel_rfl) (by kernel_rfl) ?_
      repeat (first | go_big_quiet_step ((fail)) | quiet_step (fail))
      refine wpQuiet_nil ?_;rintro _ ⟨⟨dq,osq⟩,rfl⟩;have hb0:=below_regrown wr dq osq;have hck:=cell_later hb0 Hck.out;replace HB:=Bx.mk (HB.out.trans (hb0.mono HB.out.size));clear hb0 qc1 qc2;generalize grow (redrawn wr dq) osq=w7 at *;go_wp2_with fail
      go_roundw
      case rel=>exact ⟨k+1,by omega,by go_num,by rw [hsn.out,←Bool.and_assoc,hq];rfl,by rw [hacc1.out],HB⟩
      case measure=>simp [intOf];omega
  · obtain rfl:k=8:=by omega
    have t0:decide (((8:Nat):Int)<8)=false:=by decide
    cases hq:(u && zC4 (zEn ch) 8) with
    | true =>
      have He:=Bx.mk (hend.out hq);clear hq;go_wp2_with fail;go_ret;exact ⟨by rw [He.out];show Ending.returned (.string (zEn ch 0))=_;rw [hk0.out];rfl,HB.out⟩
    | false =>
      have He:=Bx.mk (hend2.out hq);clear hq;go_wp2_with fail;go_ret;exact ⟨by rw [He.out];show Ending.returned (.string (zKl d ch 8))=_;rw [haccE.out],HB.out⟩
end Go.Proofs.YtfcbajmjaifjlaaGreatDoor
end
