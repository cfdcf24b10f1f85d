/- Pop: joined by program, for one claim. -/
import Derived.Test.YtajhkncolbgkbaaDoorM13
set_option linter.unusedVariables false
set_option linter.unusedSimpArgs false
section
namespace Go.Proofs.YtajhkncolbgkbaaDoor
open Go.RowKit Go.Sort Go.Maps
attribute [local go_sem] Oper.semAt_some
def OpPost (dp g mb cap m:Nat) (d:Dk) (w:World) (e:Ending) (w':World):Prop :=
 DkIs w' dp g mb cap (m+20) (d.run (replayP (nowI d))).1∧Chg (In3 dp g mb) w w' ∧
 (((d.run (replayP (nowI d))).2 ≠ 0∧e = .returned (.tuple #[.pointer none,.int .i64 (d.run (replayP (nowI d))).2])) ∨
  ((d.run (replayP (nowI d))).2=0 ∧ ∃ pp bv,e = .returned (.tuple #[.pointer (some ⟨pp,0,none⟩),.int .i64 0])∧w.heap.size≤pp∧PS w' pp dp (mxP (nowI d)) bv false∧Own w' w.heap.size 3 .i64 bv (ints64 (badP (imgR (nowI d)) (d.p.length - 17)))))
set_option maxRecDepth 100000 in
set_option maxHeartbeats 4000000 in
theorem popen_on (w:World) (dp g mb cap m:Nat) (d:Dk) (h:DkIs w dp g mb cap m d) (hn17:17<d.p.length) (hoff:d.off=false) (hm:m+20<1000000) :
 Calls Tryd.prog 24 #[.pointer (some ⟨dp,0,none⟩)] w (OpPost dp g mb cap m d w):=by
 have hlt3:=h.lt
 have hfew:=h.ok.few
 have hl:=Bx.mk fun W (hb:Below w.heap.size w W)=>dklen_any W dp g mb cap m d (h.later hb)
 have HD:=Bx.mk fun W (hb:Below w.heap.size w W)=>h.later hb
 have hrd:=rdsP_on hoff
 have hpg : ∀ x∈rdsP d,x.2=0∧x.1.length=128∧Byts x.1:=fun x hx=>by
  rw [hrd] at hx
  obtain ⟨s,hs,rfl⟩:=List.mem_map.1 hx
  unfold nowI at hs
  obtain ⟨y,hy,rfl⟩:=List.mem_map.1 hs
  exact ⟨rfl,(h.ok.pages y hy).now⟩
 have Hpg:=Bx.mk hpg
 have Hrd:=Bx.mk hrd
 obtain ⟨n,hn⟩ : ∃ n,n=d.p.length:=⟨_,rfl⟩
 have Hn:=Bx.mk hn
 have HM:=Bx.mk hm
 have H17:=Bx.mk hn17
 have Hlt3:=Bx.mk hlt3
 rw [←hn] at hl hn17 hfew
 have t0:decide ((n:Int)≤17)=false:=by simp;omega
 have t0b:decide (n≤17)=false:=by simp;omega
 clear h hrd hpg hn hoff hm hlt3
 refine (callsIn_wide (n:=5)).1 ?_
 refine callsIn_of_wp_marks Tryd.func24 rfl trivial ?_ rfl
 refine (wpIn_wide (n:=5)).2 ?_
 simp only [Tryd.ntmps24,List.size_toArray,List.length_cons,List.length_nil,Nat.reduceAdd,Nat.reduceSub,Array.replicate_succ,Array.replicate_zero,List.push_toArray,List.append_toArray,List.nil_append,List.cons_append]
 go_wp2_with fail
 refine (hl.out _ (((Below.refl _ _).alloc (Nat.le_refl _) _).alloc (by simp) _)).mono ?_
 rintro _ _ ⟨rfl,rfl⟩
 go_wp2_with (go_at_call 39;refine (all_any _ _).mono ?_;rintro _ _ ⟨rfl,rfl⟩)
 generalize hW0:World.alloc (World.alloc (World.alloc (World.alloc (World.alloc (World.alloc _ _) _) _) _) _) _=W0
 have hB0:Below w.heap.size w W0:=by rw [←hW0];exact ((((((Below.refl _ _).alloc (Nat.le_refl _) _).alloc (by simp) _).alloc (by simp;omega) _).alloc (by simp;omega) _).alloc (by simp;omega) _).alloc (by simp;omega) _
 have hsz:W0.heap.size=w.heap.size+6:=by rw [←hW0];simp
 have k2:Bk W0 w.heap.size #[.pointer none] 54:=by rw [←hW0];exact blk_old (blk_old (blk_old (blk_old (blk_old (blk_new _ _ _ (by simp))))))
 have k3:Bk W0 (w.heap.size+1) #[.int .i64 0] 36:=by rw [←hW0];exact blk_old (blk_old (blk_old (blk_old (blk_new _ _ _ (by simp)))))
 have kp:PS W0 (w.heap.size+1+1) dp 0 (.slice none 0 0) false:=by rw [←hW0];exact blk_old (blk_old (blk_old (blk_new _ _ _ (by simp))))
 have k4:Bk W0 (w.heap.size+1+1+1) #[.pointer (some ⟨w.heap.size+1+1,0,none⟩)] 54:=bk2 hW0
 have k5:Bk W0 (w.heap.size+1+1+1+1) #[.slice none 0 0] 30:=bk1 hW0
 have kd:Bk W0 (w.heap.size+1+1+1+1+1) #[.pointer (some ⟨dp,0,none⟩)] 24:=bk0 hW0
 clear hW0
 have hseq:=all_stops (w.heap.size+1+1+1+1+1) dp g mb cap m d (OpS W0.heap.size (w.heap.size+1+1) (w.heap.size+1+1+1+1)) (fun k hk h=>by
  have:=Hlt3.out
  rcases hk with rfl | rfl | rfl <;> (rcases h with h | h | h <;> omega)) (fun h=>by rcases h with h | h | h <;> omega) (5 - 1) W0 kd (HD.out _ hB0)
 have hkb : ∀ (W:World) (l:Nat) (o o':Obj),W0.heap.size≤l→W.heap[l]? = some o→o.isCells=false→o.isWalk=false→Chg (OpS W0.heap.size (w.heap.size+1+1) (w.heap.size+1+1+1+1)) W (W.putObj l o'):=fun W l o o' hl _ _ _=>by
  have hg:=grownBy_putObj' W l o'
  exact ⟨hg.os,hg.tape,hg.output,hg.size,fun k hk hn=>hg.block k hk fun e=>by
   obtain rfl:=Option.some.inj e
   exact hn (.inr (.inr hl))⟩
 have h0:OpI W0 (w.heap.size+1+1) (w.heap.size+1+1+1+1) dp [] W0:=⟨Chg.refl _ _,kp,_,k5,Ownv.nil _ _ _⟩
 have K2:=Bx.mk k2
 have K3:=Bx.mk k3
 have K4:=Bx.mk k4
 have HB0:=Bx.mk hB0
 have HSZ:=Bx.mk hsz
 clear kp k5 kd k2 k3 k4 hB0 t0 t0b hsz
 refine (wpIn_wide (n:=5)).1 ?_
 refine wpIn_rangeFunc_ownH rfl (by decide) (gf:=63) (lb:=#[.pointer (some ⟨w.heap.size+1+1+1+1+1,0,none⟩)]) rfl trivial (enters_of Tryd.func63 (by kernel_rfl) rfl)
  hseq (fun h h'=>h.trans h' fun _ _ h=>h) hkb (Below.refl _ _) (fun _=>rfl)
  (fun (pre:List { x // x∈rdsP d }) W=>OpI W0 (w.heap.size+1+1) (w.heap.size+1+1+1+1) dp (pre.map (·.1.1)) W)
  (fun _ _ _=>False)
  (OpI.own W0 (w.heap.size+1+1) (w.heap.size+1+1+1+1) dp (fun (pre:List { x // x∈rdsP d })=>pre.map (·.1.1)))
  (fun _ _ _ _ _ hs _ _=>hs)
  h0
  (fun x a' _=>a'={ tmps:=#[.pointer (some ⟨dp,0,none⟩),undef,.pointer (some ⟨w.heap.size,0,none⟩),.pointer (some ⟨w.heap.size+1,0,none⟩),.pointer (some ⟨w.heap.size+1+1+1,0,none⟩),.pointer (some ⟨w.heap.size+1+1+1+1,0,none⟩),.string (strOfNums x.1.1),.int .i64 x.1.2,undef,undef,undef,undef,undef,undef,undef,undef,undef,undef,undef,undef,.pointer (some ⟨dp,0,none⟩),.int .i64 (n:Int),.bool false,.pointer (some ⟨dp,0,none⟩),.agg #[.pointer (some ⟨dp,0,none⟩),.int .i64 0,.slice none 0 0,.bool false],.pointer (some ⟨w.heap.size+1+1,0,none⟩),.pointer (some ⟨dp,0,none⟩),.func (.func 63) #[] #[.pointer (some ⟨w.heap.size+1+1+1+1+1,0,none⟩)],.string (strOfNums x.1.1),.int .i64 x.1.2,undef,undef,undef,undef,undef,undef,undef,undef,undef,undef,undef,undef,undef,undef,undef,undef,undef,undef,undef,undef,undef,undef,undef,undef,undef,undef,undef,undef,undef,undef,undef,undef,undef,undef,undef,undef,undef,undef,undef,undef,undef,undef,undef,undef,undef,undef,undef,undef,undef,undef,undef,undef,undef,undef,undef,undef,undef,undef,undef,undef,undef,undef,undef,undef,undef,undef,undef,undef,undef,undef,undef,undef,undef,undef,undef,undef,undef,undef,undef,undef,undef,undef,undef,undef,undef,undef,undef,undef,undef,undef,undef,undef,undef],defers:=[] })
  (fun x a'=>fun _ X Y row hs hg hr=>hs)
  ?assign ?body ?done ?stop
 case assign =>
  rintro l pre x W K hI hK
  have HK:=hK _ _ (keepsFrom_chg (Chg.refl (fun _=>False) _) fun _ _ _ h=>h.elim) (Chg.refl _ _) hI rfl
  replace HK:=Bx.mk HK
  clear hK hkb h0
  gi_wp2
  exact HK.out
 case body =>
  rintro l pre ⟨⟨s,er⟩,hx⟩ a' W hl hr hI rfl hlt
  obtain ⟨rfl,hs1,hs2⟩:=Hpg.out _ hx
  simp only [] at hs1 hs2 ⊢
  have Hs1:=Bx.mk hs1
  have Hs2:=Bx.mk hs2
  have hus:=Bx.mk fun W=>unseal_any s hs2 (by omega) W
  unfold unV at hus
  have hmx:=Bx.mk (mxP_snoc (pre.map (·.1.1)) s)
  have hP:(pre++[(⟨(s,0),hx⟩:{ x // x∈rdsP d })]).map (·.1.1)=pre.map (·.1.1)++[s]:=by simp
  have HP:=Bx.mk hP
  generalize pre++[(⟨(s,0),hx⟩:{ x // x∈rdsP d })]=pre' at *
  have hpl:pre.length<120:=by have:=hlt;have:=Hn.out;omega
  have Hpl:=Bx.mk (show (pre.map (·.1.1)).length<120 by rw [List.length_map];exact hpl)
  generalize pre.map (·.1.1)=im at *
  have HI:=Bx.mk hI
  have hor:decide (goodP s)=true∨decide (goodP s)=false:=by cases decide (goodP s) <;> simp
  generalize decide (goodP s)=gd at *
  generalize strOfNums (datOf s)=D at *
  have hmx2:=Bx.mk (show numOf s<2 ^ 32 by
   unfold numOf
   split
   · exact num_lt (Hs2.out)
   · decide)
  generalize hnm:numOf s=nm at *
  have Hnm:=Bx.mk hnm
  obtain ⟨mx,hmxe⟩ : ∃ mx,mx=mxP im:=⟨_,rfl⟩
  have Hmx:=Bx.mk hmxe
  have Hl:=Bx.mk hl
  clear hs1 hs2 hlt hr hI hP hpl hnm hmxe hkb h0 hor hl
  have kpW:=HI.out.kp
  rw [←Hmx.out] at kpW
  have KP:=Bx.mk kpW
  have k4W:=HI.out.chg
  have K4W:=Bx.mk (Bk.chg K4.out HI.out.chg (fun h=>by have:=HSZ.out;rcases h with h | h | h <;> omega))
  clear kpW k4W
  generalize hSs:strOfNums s=S at *
  have HSs:=Bx.mk hSs
  clear hSs
  gi_upto_region 11 with ((try refine ⟨trivial,?_⟩);gi_at_call 40;refine (CallsIn.inRound l (callsIn_wide.2 (hus.out _))).mono ?_;rintro _ w2 ⟨rfl,hb2⟩)
  have KP2:=Bx.mk (show PS w2 (w.heap.size+1+1) dp mx (.slice none 0 0) false from KP.out.later hb2)
  have K42:=Bx.mk (K4W.out.later hb2)
  have HB2:=Bx.mk hb2
  clear hb2 KP K4W hus
  have hmxw:(if (mx:Int)<(nm:Int) then (nm:Int) else (mx:Int))=((max mx nm:Nat):Int):=by
   by_cases h:mx<nm
   · rw [if_pos (by omega)];omega
   · rw [if_neg (by omega)];omega
  have hmxw2:max (mx:Int) (nm:Int)=((max mx nm:Nat):Int):=by omega
  refine wpIn_region_relM l _ 9 (fun ii v w'=>match ii with
   | 0=>v = .pointer (some ⟨w.heap.size+1+1,0,none⟩)
   | 1=>v = .pointer (some ⟨w.heap.size+1+1,0,none⟩)
   | 2=>v = .pointer (some ⟨w.heap.size+1+1,0,none⟩)
   | 3=>v = .pointer (some ⟨w.heap.size+1+1,1,none⟩)
   | 4=>v = .int .i64 (mx:Int)
   | 5=>v = .int .i64 (nm:Int)
   | 6=>v = .int .i64 ((max mx nm:Nat):Int)
   | 7=>v = .pointer (some ⟨w.heap.size+1+1,0,none⟩)
   | _=>v = .pointer (some ⟨w.heap.size+1+1,1,none⟩)) (by kernel_rfl) (by kernel_rfl) (by kernel_rfl) (by rintro ⟨_,_,h⟩;exact h) 123 (by kernel_rfl) (by rfl) ?_ ?_ ?_
  · intro ii hi v u1 u2 hb h
    match ii,hi with
    | 0,_=>exact h
    | 1,_=>exact h
    | 2,_=>exact h
    | 3,_=>exact h
    | 4,_=>exact h
    | 5,_=>exact h
    | 6,_=>exact h
    | 7,_=>exact h
    | 8,_=>exact h
  · intro ii o hi ho ρ w1 hb hc1 hc2 hc3 hk
    match ii,hi with
    | 0, _ =>
      obtain rfl:=Option.some.inj ho
      have g0:ρ (.tmp 4) = .pointer (some ⟨w.heap.size+1+1+1,0,none⟩):=hk 4 (by simp [Op.operands,Call.operands])
      have k1:=K42.out.later hb
      have z0:=k1.cell 0 rfl
      clear hk hb HI Hs1 Hs2 HP Hpl Hmx Hnm hmx hmx2 Hpg Hrd K2 K3 K4 HB0 HD hl KP2 K42
      go_simp
      exact Below.refl _ _
    | 1, _ =>
      obtain rfl:=Option.some.inj ho
      have g0:ρ (.tmp 4) = .pointer (some ⟨w.heap.size+1+1+1,0,none⟩):=hk 4 (by simp [Op.operands,Call.operands])
      have k1:=K42.out.later hb
      have z0:=k1.cell 0 rfl
      clear hk hb HI Hs1 Hs2 HP Hpl Hmx Hnm hmx hmx2 Hpg Hrd K2 K3 K4 HB0 HD hl KP2 K42
      go_simp
      exact Below.refl _ _
    | 2, _ =>
      obtain rfl:=Option.some.inj ho
      have g0:ρ (.tmp 40) = .pointer (some ⟨w.heap.size+1+1,0,none⟩):=hk 40 (by simp [Op.operands,Call.operands])
      clear hk hb HI Hs1 Hs2 HP Hpl Hmx Hnm hmx hmx2 Hpg Hrd K2 K3 K4 HB0 HD hl KP2 K42
      go_simp
      exact Below.refl _ _
    | 3, _ =>
      obtain rfl:=Option.some.inj ho
      have g0:ρ (.tmp 41) = .pointer (some ⟨w.heap.size+1+1,0,none⟩):=hk 41 (by simp [Op.operands,Call.operands])
      clear hk hb HI Hs1 Hs2 HP Hpl Hmx Hnm hmx hmx2 Hpg Hrd K2 K3 K4 HB0 HD hl KP2 K42
      go_simp
      exact Below.refl _ _
    | 4, _ =>
      obtain rfl:=Option.some.inj ho
      have g0:ρ (.tmp 42) = .pointer (some ⟨w.heap.size+1+1,1,none⟩):=hk 42 (by simp [Op.operands,Call.operands])
      have k1:=Bk.later KP2.out hb
      have z0:=k1.cell 1 rfl
      clear hk hb HI Hs1 Hs2 HP Hpl Hmx Hnm hmx hmx2 Hpg Hrd K2 K3 K4 HB0 HD hl KP2 K42
      go_simp
      exact Below.refl _ _
    | 5, _ =>
      obtain rfl:=Option.some.inj ho
      have g0:ρ (.tmp 8) = .int .i64 (nm:Int):=hk 8 (by simp [Op.operands,Call.operands])
      clear hk hb HI Hs1 Hs2 HP Hpl Hmx Hnm hmx hmx2 Hpg Hrd K2 K3 K4 HB0 HD hl KP2 K42
      go_simp
      exact Below.refl _ _
    | 6, _ =>
      obtain rfl:=Option.some.inj ho
      have g0:ρ (.tmp 43) = .int .i64 (mx:Int):=hk 43 (by simp [Op.operands,Call.operands])
      have g1:ρ (.tmp 44) = .int .i64 (nm:Int):=hk 44 (by simp [Op.operands,Call.operands])
      clear hk hb HI Hs1 Hs2 HP Hpl Hmx Hnm hmx hmx2 Hpg Hrd K2 K3 K4 HB0 HD hl KP2 K42
      go_simp
      first | exact Below.refl _ _ | exact ⟨Below.refl _ _,by omega⟩ | trace_state
    | 7, _ =>
      obtain rfl:=Option.some.inj ho
      have g0:ρ (.tmp 39) = .pointer (some ⟨w.heap.size+1+1,0,none⟩):=hk 39 (by simp [Op.operands,Call.operands])
      clear hk hb HI Hs1 Hs2 HP Hpl Hmx Hnm hmx hmx2 Hpg Hrd K2 K3 K4 HB0 HD hl KP2 K42
      go_simp
      exact Below.refl _ _
    | 8, _ =>
      obtain rfl:=Option.some.inj ho
      have g0:ρ (.tmp 46) = .pointer (some ⟨w.heap.size+1+1,0,none⟩):=hk 46 (by simp [Op.operands,Call.operands])
      clear hk hb HI Hs1 Hs2 HP Hpl Hmx Hnm hmx hmx2 Hpg Hrd K2 K3 K4 HB0 HD hl KP2 K42
      go_simp
      exact Below.refl _ _
  · intro vs w3 hlen hb hR
    match vs,hlen with
    | [v0, v1, v2, v3, v4, v5, v6, v7, v8], _ =>
      have r0:v0 = .pointer (some ⟨w.heap.size+1+1,0,none⟩):=hR 0 v0 rfl
      have r1:v1 = .pointer (some ⟨w.heap.size+1+1,0,none⟩):=hR 1 v1 rfl
      have r2:v2 = .pointer (some ⟨w.heap.size+1+1,0,none⟩):=hR 2 v2 rfl
      have r3:v3 = .pointer (some ⟨w.heap.size+1+1,1,none⟩):=hR 3 v3 rfl
      have r4:v4 = .int .i64 (mx:Int):=hR 4 v4 rfl
      have r5:v5 = .int .i64 (nm:Int):=hR 5 v5 rfl
      have r6:v6 = .int .i64 ((max mx nm:Nat):Int):=hR 6 v6 rfl
      have r7:v7 = .pointer (some ⟨w.heap.size+1+1,0,none⟩):=hR 7 v7 rfl
      have r8:v8 = .pointer (some ⟨w.heap.size+1+1,1,none⟩):=hR 8 v8 rfl
      clear hR
      subst r0 r1 r2 r3 r4 r5 r6 r7 r8
      obtain ⟨v,hv,hown⟩:=HI.out.img
      have hb23:Below W.heap.size W w3:=HB2.out.trans (hb.mono HB2.out.size)
      have kp3:PS w3 (w.heap.size+1+1) dp mx (.slice none 0 0) false:=KP2.out.later hb
      have f1:=Bk.frozen kp3 1
      have z1:=Bk.cell kp3 1 rfl
      have HS3:Bx (mxP (im++[s])=max mx nm):=⟨by rw [hmx.out,Hmx.out]⟩
      have hown4:Ownv (w3.setCell ⟨w.heap.size+1+1,1,none⟩ (.int .i64 ((max mx nm:Nat):Int))) W0.heap.size 9 v (strs im):=Ownv.grown (hown.below hb23) (grown_setCell w3 ⟨w.heap.size+1+1,1,none⟩ _) (by
       cases hx:v.ownBlock with
       | none=>exact .inl rfl
       | some g =>
         refine .inr fun e=>?_
         injection e with e
         have:=(hown.lt g hx).1
         have:=HSZ.out
         simp only at e;omega)
      have k54:Bk (w3.setCell ⟨w.heap.size+1+1,1,none⟩ (.int .i64 ((max mx nm:Nat):Int))) (w.heap.size+1+1+1+1) #[v] 30:=(hv.later hb23).other _ _ (by simp only;omega)
      have hnext:=Bx.mk fun (v':Value) (W6:World) (cs:Array Value) (t:TypeId) g1 g2=>HI.out.next (W6:=W6) (v':=v') (by have:=HSZ.out;omega) (by have:=HSZ.out;omega) (by omega) hv hown hb23 s cs t g1 g2
      rw [HS3.out] at hnext
      have hb4s:W0.heap.size≤(w3.setCell ⟨w.heap.size+1+1,1,none⟩ (.int .i64 ((max mx nm:Nat):Int))).heap.size:=by
       have h1:=HI.out.chg.size
       have h2:=hb23.size
       simp only [size_setCell];omega
      have hln:(strs im).length≤1000000000:=by rw [strs_length];have:=Hpl.out;omega
      clear hb kp3 hv hown hb23 KP2 K42 HB2
      simp only [puts,List.take_succ_cons,List.take_zero,List.drop_succ_cons,List.drop_zero,List.map_cons,List.map_nil,List.zip_cons_cons,List.zip_nil_right,List.foldl_cons,List.foldl_nil]
      go_wp2_with fail
      generalize hW4:World.setCell w3 _ _=w4 at *
      have HW4:=Bx.mk hW4
      clear hW4 f1 z1
      have c5:=k54.cell 0 rfl
      have f5 : ∀ v':Value,True:=fun _=>trivial
      have hK5:=Bx.mk k54
      clear k54 f5
      rw [HSs.out] at *
      gi_wp2_with (first
       | (gi_at_builtin
          refine pg_append_in _ rfl _ _ 30 rfl 9 (.string ByteArray.empty) 16 (by omega) Tryd.underlying30 (by kernel_rfl) rfl W0.heap.size _ (strs im) rfl (hown4.alloc _) (.string S) rfl ⟨w4.heap.size,0,none⟩ 1 rfl (cell_new _ _ _) hln (le_alloc hb4s _) ?_
          intro v' w6 g1 g2
          obtain ⟨va,vc,rfl,_⟩:=g1.form
          have k56:Bk w6 (w.heap.size+1+1+1+1) #[v] 30:=(g2.block _ (hK5.out.alloc _).lt (fun e=>by have:=(hown4.lt _ e.symm).1;have:=HSZ.out;omega)).trans (hK5.out.alloc _)
          have f56:=k56.frozen 0
          have c56:=k56.cell 0 rfl))
      obtain ⟨a1,a2,a3⟩:=hnext.out _ w6 _ _ g1 g2
      rw [show (strs im++[Value.string S]).length=(strs im).length+1 by simp] at a1 a2 a3
      refine ⟨a2,a3,?_⟩
      show OpI W0 _ _ dp (pre'.map (·.1.1)) _
      rw [HP.out]
      exact a1
 case done =>
  rintro D ys W hD hxs hI hK
  obtain ⟨im,hime⟩ : ∃ im,im=nowI d:=⟨_,rfl⟩
  have him:ys.map (fun x=>x.1.1)=im:=by
   have:ys.map (fun x=>x.1.1)=(ys.map (·.1)).map (·.1):=by rw [List.map_map];rfl
   rw [this,hxs,Hrd.out,List.map_map,hime]
   exact List.map_id _
  have hI2:OpI W0 (w.heap.size+1+1) (w.heap.size+1+1+1+1) dp im W:=by rw [←him];exact hI
  have hnim:n=im.length:=by rw [Hn.out,hime];unfold nowI;rw [List.length_map]
  have hpim : ∀ x∈im,x.length=128∧Byts x:=fun x hx=>by
   have:=Hpg.out (x,0) (by rw [Hrd.out,←hime];exact List.mem_map.2 ⟨x,hx,rfl⟩)
   exact this.2
  have HIM:=Bx.mk hime
  have HNIM:=Bx.mk hnim
  have HPIM:=Bx.mk hpim
  have hbW:Below w.heap.size w W:=HB0.out.trans (hI2.chg.below HB0.out.size fun k hk h=>by have:=HSZ.out;rcases h with h | h | h <;> omega)
  obtain ⟨v,hv,hown⟩:=hI2.img
  obtain ⟨gi,ci,rfl,hs,hgi,hgl⟩:=hown.form1 (by rw [strs_length];omega)
  have hsl:(strs im).length=n:=by rw [strs_length];exact hnim.symm
  rw [hsl] at hv hown
  have hnci:n≤ci:=by
   rcases hown.2 with ⟨h,_⟩ | ⟨g',cap',cur,h,_,_,h4,_⟩
   · cases h
   · injection h with _ _ h;omega
  have c5:=hv.cell 0 rfl
  have HTG:=Bx.mk (targets_any (some ⟨gi,0,none⟩) ci im (by omega) (by omega) hpim W hs)
  rw [←hnim] at HTG
  have HV:=Bx.mk hv
  have HOWN:=Bx.mk hown
  have HGI:=Bx.mk hgi
  have HGL:=Bx.mk hgl
  have HBW:=Bx.mk hbW
  have HI2:=Bx.mk hI2
  have HKD:=Bx.mk hK
  have HDD:=Bx.mk hD
  clear hv hown hgi hgl hbW hI2 hK hD hI hxs him hs hsl hime hkb h0 hnim hpim
  go_wp2_with (go_at_call 41;refine HTG.out.mono ?_;rintro _ w1 ⟨v53,rfl,hown53,hb1⟩;obtain ⟨a53,c53,rfl,hsl53⟩:=hown53.form)
  rw [ints64_len] at *
  have hst:OjI w1 dp gi n ci im (.slice none 0 0) [] w1:=OjI.start (Nat.lt_of_lt_of_le HGL.out hb1.size) HNIM.out ((HOWN.out.below hb1).base (Nat.zero_le _))
  have HC5:=Bx.mk fun W' (h:Chg (fun k=>k=gi∨w1.heap.size≤k) w1 W')=>(show W'.cell? ⟨w.heap.size+1+1+1+1,0,none⟩=some (.slice (some ⟨gi,0,none⟩) n ci) from
   (((HV.out.later hb1).chg h (fun h=>by have:=HGI.out;have:=HSZ.out;have:=HB0.out.size;rcases h with h | h;omega;have:=HV.out.lt;have:=hb1.size;omega)).cell 0 rfl))
  have HT53:=Bx.mk fun W' (h:Chg (fun k=>k=gi∨w1.heap.size≤k) w1 W') (k x:Nat) (hx:(targetsP im)[k]? = some x)=>(show ∃ b off,a53=some ⟨b,off,none⟩∧W'.cell? ⟨b,off+k,none⟩=some (.int .i64 (x:Int)) from by
   obtain ⟨b,off,rfl,hc⟩:=hsl53 k (x:Int) (by unfold ints64;rw [List.getElem?_map,hx];rfl)
   refine ⟨b,off,rfl,?_⟩
   have hbl:=hown53.lt b rfl
   rw [World.cell?_of_block (h.block b hbl.2 fun e=>by have:=HGL.out;rcases e with e | e <;> omega)]
   exact hc)
  have HB1:=Bx.mk hb1
  have HST:=Bx.mk hst
  obtain ⟨htl16,htlt⟩:=targets_facts im
  have HTF:=Bx.mk htlt
  obtain ⟨tl,htl⟩ : ∃ tl,tl=(targetsP im).length:=⟨_,rfl⟩
  have HTL:=Bx.mk htl
  rw [←htl] at htl16 ⊢
  clear hb1 hst hown53 hsl53 c5 HTG htl htlt
  go_loopw [11,55] (fun v11 v55 wr => ∃ (k:Nat) (q11:Value),k≤tl∧v55 = .int .i64 k∧q11=v11∧Bx (OjI w1 dp gi n ci (imgK im k) q11 (opsR im k) wr)) (fun _ i _=>tl - (intOf i).toNat)
  case atStart=>exact ⟨0,_,Nat.zero_le _,rfl,rfl,HST⟩
  case round =>
   clear HST
   obtain ⟨k,q11,hk,rfl,rfl,HI⟩:=hrel
   by_cases hlt:k<tl
   · have t0:decide ((k:Int)<(tl:Int))=true:=by simp;omega
     have t0b:decide (k<tl)=true:=by simpa using hlt
     obtain ⟨x,hx⟩ : ∃ x,(targetsP im)[k]? = some x:=⟨_,List.getElem?_eq_getElem (by rw [←HTL.out];exact hlt)⟩
     obtain ⟨b,off,rfl,hc1⟩:=HT53.out wr HI.out.chg k x hx
     have hx17:=HTF.out x (List.mem_of_getElem? hx)
     have hn:=HNIM.out
     obtain ⟨s,hs⟩ : ∃ s,im[1+k]? = some s:=⟨_,List.getElem?_eq_getElem (by omega)⟩
     have hgd:im.getD (1+k) []=s:=by rw [List.getD_eq_getElem?_getD,hs];rfl
     have hsk:(imgK im k)[1+k]? = some s:=by rw [imgK_low im k (by omega)];exact hs
     have hs128:=HPIM.out s (List.mem_of_getElem? hs)
     obtain ⟨s2,hs2⟩ : ∃ s2,(imgK im k)[17+x]? = some s2:=⟨_,List.getElem?_eq_getElem (by rw [imgK_len];omega)⟩
     have b1:(0:Int)≤(k:Int):=by omega
     have b2:(k:Int)<(tl:Int):=by omega
     obtain ⟨i1,hi1⟩ : ∃ i1:Nat,i1=1+k:=⟨_,rfl⟩
     have e1:IntKind.i64.wrap (1+(k:Int))=(i1:Int):=by rw [IntWalk.i64_in _ (by omega)];omega
     obtain ⟨i17,hi17⟩ : ∃ i17:Nat,i17=17+x:=⟨_,rfl⟩
     have e17:IntKind.i64.wrap (17+(x:Int))=(i17:Int):=by rw [IntWalk.i64_in _ (by omega)];omega
     rw [←hi1] at hsk
     rw [←hi17] at hs2
     have b3:(0:Int)≤(i1:Int):=by omega
     have b4:(i1:Int)<(n:Int):=by omega
     have b5:(0:Int)≤(i17:Int):=by omega
     have b6:(i17:Int)<(n:Int):=by omega
     have hset:((imgK im k).set i17 s)[i1]? = some s:=by rw [List.getElem?_set_ne (by omega)];exact hsk
     have Hset:=Bx.mk hset
     have Hx:=Bx.mk hx
     have Hgd:=Bx.mk hgd
     have Hi17:=Bx.mk hi17
     have Hsk:=Bx.mk hsk
     have Hs2:=Bx.mk hs2
     have Hlt:=Bx.mk hlt
     have hp1:=Bx.mk fun W0 W (hw:W0.heap.size≤W.heap.size)=>put_R W0 dp i17 s hs128 W hw
     generalize hSs:strOfNums s=S at *
     have HSs:=Bx.mk hSs
     clear hx hx17 hn hs hgd hsk hs128 hs2 hi1 hi17 hset hlt hSs
     go_upto_region 17 with fail
     refine wp_region_relT 9 (fun ii v w'=>match ii with
      | 0=>v = .slice (some ⟨gi,0,none⟩) n ci
      | 1=>v = .int .i64 (x:Int)
      | 2=>v = .int .i64 (i17:Int)
      | 3=>v = .slice (some ⟨gi,0,none⟩) n ci
      | 4=>v = .int .i64 (k:Int)
      | 5=>v = .int .i64 (i1:Int)
      | 6=>v = .pointer (some ⟨gi,i1,none⟩)
      | 7=>v = .string S
      | _=>v = .pointer (some ⟨gi,i17,none⟩)) (by kernel_rfl) (by kernel_rfl) 123 (by kernel_rfl) (by rfl) ?_ ?_ ?_
     · intro ii hi v u1 u2 hb h
       match ii,hi with
       | 0,_=>exact h
       | 1,_=>exact h
       | 2,_=>exact h
       | 3,_=>exact h
       | 4,_=>exact h
       | 5,_=>exact h
       | 6,_=>exact h
       | 7,_=>exact h
       | 8,_=>exact h
     · intro ii o hi ho ρ wx hb hc1 hc2 hc3 hk
       match ii,hi with
       | 0, _ =>
         obtain rfl:=Option.some.inj ho
         have g0:ρ (.tmp 5) = .pointer (some ⟨w.heap.size+1+1+1+1,0,none⟩):=hk 5 (by simp [Op.operands,Call.operands])
         have z0:=HC5.out wx (HI.out.later hb).chg
         clear hk hb HI hp1 HC5 HT53 Hpg Hrd HI2 HD hl HTF HPIM
         go_simp
         exact Below.refl _ _
       | 1, _ =>
         obtain rfl:=Option.some.inj ho
         have g0:ρ (.tmp 13) = .int .i64 (x:Int):=hk 13 (by simp [Op.operands,Call.operands])
         clear hk hb HI hp1 HC5 HT53 Hpg Hrd HI2 HD hl HTF HPIM
         go_simp
         exact Below.refl _ _
       | 2, _ =>
         obtain rfl:=Option.some.inj ho
         have g0:ρ (.tmp 61) = .int .i64 (x:Int):=hk 61 (by simp [Op.operands,Call.operands])
         clear hk hb HI hp1 HC5 HT53 Hpg Hrd HI2 HD hl HTF HPIM
         go_simp
         exact Below.refl _ _
       | 3, _ =>
         obtain rfl:=Option.some.inj ho
         have g0:ρ (.tmp 5) = .pointer (some ⟨w.heap.size+1+1+1+1,0,none⟩):=hk 5 (by simp [Op.operands,Call.operands])
         have z0:=HC5.out wx (HI.out.later hb).chg
         clear hk hb HI hp1 HC5 HT53 Hpg Hrd HI2 HD hl HTF HPIM
         go_simp
         exact Below.refl _ _
       | 4, _ =>
         obtain rfl:=Option.some.inj ho
         have g0:ρ (.tmp 12) = .int .i64 (k:Int):=hk 12 (by simp [Op.operands,Call.operands])
         clear hk hb HI hp1 HC5 HT53 Hpg Hrd HI2 HD hl HTF HPIM
         go_simp
         exact Below.refl _ _
       | 5, _ =>
         obtain rfl:=Option.some.inj ho
         have g0:ρ (.tmp 64) = .int .i64 (k:Int):=hk 64 (by simp [Op.operands,Call.operands])
         clear hk hb HI hp1 HC5 HT53 Hpg Hrd HI2 HD hl HTF HPIM
         go_simp
         exact Below.refl _ _
       | 6, _ =>
         obtain rfl:=Option.some.inj ho
         have g0:ρ (.tmp 63) = .slice (some ⟨gi,0,none⟩) n ci:=hk 63 (by simp [Op.operands,Call.operands])
         have g1:ρ (.tmp 65) = .int .i64 (i1:Int):=hk 65 (by simp [Op.operands,Call.operands])
         clear hk hb HI hp1 HC5 HT53 Hpg Hrd HI2 HD hl HTF HPIM
         go_simp
         exact Below.refl _ _
       | 7, _ =>
         obtain rfl:=Option.some.inj ho
         have g0:ρ (.tmp 66) = .pointer (some ⟨gi,i1,none⟩):=hk 66 (by simp [Op.operands,Call.operands])
         have z0:=((HI.out.later hb).at_ Hsk.out).1
         rw [HSs.out] at z0
         clear hk hb HI hp1 HC5 HT53 Hpg Hrd HI2 HD hl HTF HPIM
         go_simp
         exact Below.refl _ _
       | 8, _ =>
         obtain rfl:=Option.some.inj ho
         have g0:ρ (.tmp 60) = .slice (some ⟨gi,0,none⟩) n ci:=hk 60 (by simp [Op.operands,Call.operands])
         have g1:ρ (.tmp 62) = .int .i64 (i17:Int):=hk 62 (by simp [Op.operands,Call.operands])
         clear hk hb HI hp1 HC5 HT53 Hpg Hrd HI2 HD hl HTF HPIM
         go_simp
         exact Below.refl _ _
     · intro vs w3 hlen hb hR
       match vs,hlen with
       | [v0, v1, v2, v3, v4, v5, v6, v7, v8], _ =>
         have r0:v0 = .slice (some ⟨gi,0,none⟩) n ci:=hR 0 v0 rfl
         have r1:v1 = .int .i64 (x:Int):=hR 1 v1 rfl
         have r2:v2 = .int .i64 (i17:Int):=hR 2 v2 rfl
         have r3:v3 = .slice (some ⟨gi,0,none⟩) n ci:=hR 3 v3 rfl
         have r4:v4 = .int .i64 (k:Int):=hR 4 v4 rfl
         have r5:v5 = .int .i64 (i1:Int):=hR 5 v5 rfl
         have r6:v6 = .pointer (some ⟨gi,i1,none⟩):=hR 6 v6 rfl
         have r7:v7 = .string S:=hR 7 v7 rfl
         have r8:v8 = .pointer (some ⟨gi,i17,none⟩):=hR 8 v8 rfl
         clear hR
         subst r0 r1 r2 r3 r4 r5 r6 r7 r8
         have hJ:=HI.out.later hb
         obtain ⟨c17,f17⟩:=hJ.at_ Hs2.out
         have hJ4:=hJ.store i17 s
         rw [HSs.out] at hJ4
         simp only [puts,List.take_succ_cons,List.take_zero,List.drop_succ_cons,List.drop_zero,List.map_cons,List.map_nil,List.zip_cons_cons,List.zip_nil_right,List.foldl_cons,List.foldl_nil]
         go_upto_region 18 with fail
         have c5:=HC5.out _ hJ4.chg
         have c1:=(hJ4.at_ Hset.out).1
         rw [HSs.out] at c1
         have HJ4:=Bx.mk hJ4
         clear hJ hb c17 f17 hJ4 HI
         generalize World.setCell w3 _ _=w4 at *
         have hput:=Bx.mk (hp1.out w4 w4 (Nat.le_refl _))
         clear hp1
         go_wp2_with fail
         refine hput.out.mono ?_
         rintro _ w5 ⟨v,rfl,hb4,-,hst⟩
         obtain ⟨hst0,pa,pb,pc,hA,rfl,k1,k2,k3⟩:=hst
         have hst:StepV (Fr w4 w5) dp w5 (putV pa pb pc) (.w i17 s):=⟨hst0,pa,pb,pc,hA,rfl,k1,k2,k3⟩
         have hb5:Below w4.heap.size w4 (w5.alloc (.cells #[putV pa pb pc] 89)):=hb4.alloc hb4.size _
         obtain ⟨lv,hown,hln,hle,hpost⟩:=HJ4.out.log hb5 (of_one (hst.keep (A':=Fr w4 (w5.alloc (.cells #[putV pa pb pc] 89))) (fun x hx=>⟨hx.1,by have:=hx.2;simp;omega⟩) fun x hx hl=>heap_alloc_old w5 _ hl))
         have hln:lv.length≤1000000000:=by rw [opsR_len im (by rw [←HTL.out];exact hk)] at hln;omega
         replace hpost:=Bx.mk hpost
         clear hb4 hst hst0 hA k1 k2 k3 hput HJ4 hb5 c5 c1
         go_wp2_with (first
          | (at_builtin
             refine wpList_append_val rfl _ _ 87 rfl 89 .nilFunc 8 (by omega) Tryd.underlying87 (by kernel_rfl) rfl w1.heap.size _ lv rfl hown (putV pa pb pc) rfl ⟨w5.heap.size,0,none⟩ 1 rfl (cell_new _ _ _) hln hle ?_
             intro q11' w6 g1 g2 g3))
         have HI5:=hpost.out q11' w6 g1 g2 g3
         rw [Hi17.out,←Hgd.out,opsR_succ Hx.out,imgK_succ Hx.out] at HI5
         replace HI5:=Bx.mk HI5
         clear hpost g1 g2 g3 hown hln hle
         go_roundw
         case rel=>exact ⟨k+1,_,by have:=Hlt.out;omega,by go_num,rfl,HI5⟩
         case measure=>have:=Hlt.out;simp [intOf];omega
   · obtain rfl:k=tl:=by omega
     have t0:decide ((k:Int)<(k:Int))=false:=by simp
     have t0b:decide (k<k)=false:=by simp
     have HRI:OjI w1 dp gi n ci (imgR im) q11 (opsR im k) wr:=by
      have:=HI.out
      rw [show imgK im k=imgR im by rw [HTL.out];exact imgK_all im] at this
      exact this
     have hgi1:=HGI.out
     have hsz0:=HSZ.out
     have hsz1:=HB1.out.size
     have hszW:=HBW.out.size
     have hbr:Below w.heap.size w wr:=(HBW.out.trans (HB1.out.mono HBW.out.size)).trans (HRI.chg.below (by omega) fun j hj h=>by rcases h with h | h <;> omega)
     have hlo : ∀ j,j<w1.heap.size→j ≠ gi→wr.heap[j]? = w1.heap[j]? := fun j hj hn=>HRI.chg.block j hj fun h=>by rcases h with h | h <;> omega
     have HRI:=Bx.mk HRI
     have HBR:=Bx.mk hbr
     have HLR:=Bx.mk hlo
     clear hgi1 hsz0 hsz1 hszW hbr hlo HI t0 t0b
     by_cases hz:k=0
     · obtain ⟨a11,c11,rfl⟩:=HRI.out.form
       have hol:(opsR im k).length=0:=by rw [opsR_len im (by rw [←HTL.out];exact Nat.le_refl _)];exact hz
       rw [hol]
       have HRR:Bx (d.run (replayP im)=(d,0)):=⟨by
        rw [←opsR_nil (by rw [←HTL.out];exact hz)]
        rw [show opsR im (targetsP im).length=[] from List.eq_nil_of_length_eq_zero (by rw [←HTL.out];exact hol)];rfl⟩
       clear hol hz
       have t0:decide (((0:Nat):Int) > 0)=false:=by decide
       have t0b:decide ((0:Int) > 0)=false:=by decide
       have HDX:=Bx.mk ((HD.out wr HBR.out).mono (Nat.le_add_right m 20))
       have HCX:=Bx.mk (Chg.ofBelow HBR.out (In3 dp g mb))
       have HLX:Bx (∀ j,j<w1.heap.size→j ≠ gi → ¬In3 dp g mb j→wr.heap[j]? = w1.heap[j]?):=⟨fun j hj hn _=>HLR.out j hj hn⟩
       have HGX:=Bx.mk fun (i:Nat) (s:List Int) (hs:(imgR im)[i]? = some s)=>(HRI.out.at_ hs).1
       have HSX:=Bx.mk HRI.out.chg.size
       go_upto_region 25 with (go_at_call 44;refine (prun_nil _ _ _).mono ?_;rintro _ _ ⟨rfl,rfl⟩)
       clear t0 t0b HRI HLR
       generalize wr=X at *
       obtain ⟨dr,hdr⟩ : ∃ dr,dr=d:=⟨_,rfl⟩
       replace HRR:Bx (d.run (replayP im)=(dr,0)):=⟨by rw [hdr];exact HRR.out⟩
       rw [←hdr] at HDX
       clear hdr
       have hin : ∀ j,w.heap.size≤j → ¬In3 dp g mb j:=fun j hj h3=>by have:=Hlt3.out;rcases h3 with rfl | rfl | rfl <;> omega
       have hq : ∀ j,w.heap.size≤j→j<W.heap.size→j ≠ gi→X.heap[j]? = W.heap[j]? := fun j h0 hj hn=>(HLX.out j (Nat.lt_of_lt_of_le hj HB1.out.size) hn (hin j h0)).trans (HB1.out.block j hj)
       have hgi1:=HGI.out
       have hsz0:=HSZ.out
       have hszW:=HI2.out.chg.size
       have hk : ∀ j,w.heap.size≤j→j<W0.heap.size→j ≠ w.heap.size+1+1→j ≠ w.heap.size+1+1+1+1→X.heap[j]? = W0.heap[j]? := fun j h0 hj h2 h5=>(hq j h0 (by omega) (by omega)).trans (HI2.out.chg.block j hj fun h=>by rcases h with h | h | h <;> omega)
       have K2X:=Bx.mk (show Bk X w.heap.size #[.pointer none] 54 from (hk _ (by omega) (by omega) (by omega) (by omega)).trans K2.out)
       have K3X:=Bx.mk (show Bk X (w.heap.size+1) #[.int .i64 0] 36 from (hk _ (by omega) (by omega) (by omega) (by omega)).trans K3.out)
       have K4X:=Bx.mk (show Bk X (w.heap.size+1+1+1) #[.pointer (some ⟨w.heap.size+1+1,0,none⟩)] 54 from (hk _ (by omega) (by omega) (by omega) (by omega)).trans K4.out)
       have K5X:=Bx.mk (show Bk X (w.heap.size+1+1+1+1) #[.slice (some ⟨gi,0,none⟩) n ci] 30 from (hq _ (by omega) (by omega) (by omega)).trans HV.out)
       have KPX:=Bx.mk (show PS X (w.heap.size+1+1) dp (mxP im) (.slice none 0 0) false from (hq _ (by omega) (by omega) (by omega)).trans HI2.out.kp)
       have hDW:=(Array.getElem?_eq_some_iff.1 HKD.out).1
       have hDgi:D ≠ gi:=fun e=>by
        have h1:=HKD.out
        rw [e] at h1
        rcases HOWN.out.2 with ⟨h,_⟩ | ⟨g',cap',cur,h,_,h4,_⟩
        · cases h
        · injection h with h _ _
          injection h with h
          injection h with h
          subst h
          rw [h1] at h4
          cases h4
       have HDX2:=Bx.mk (show X.heap[D]? = some (.deferred (some [])) from (hq D (by have:=HDD.out;omega) hDW hDgi).trans HKD.out)
       have HDS:Bx (w.heap.size+6≤D∧D<X.heap.size):=⟨by have:=HDD.out;omega,by have:=HSX.out;have:=HB1.out.size;omega⟩
       have HGW:Bx (gi<X.heap.size∧w.heap.size+6≤gi):=⟨by have:=HSX.out;have:=HB1.out.size;have:=HGL.out;omega,by omega⟩
       have c5:=K5X.out.cell 0 rfl
       have s0:(0:Int)≤17:=by omega
       have s1:(17:Int)≤(n:Int):=by omega
       have s2:(n:Int)≤(ci:Int):=by omega
       have s3 : ¬(ci:Int)=17:=by omega
       have HCI:=Bx.mk hnci
       clear hin hq hgi1 hsz0 hszW hk hDW hDgi HI2 HV HOWN HKD HGI HGL HLX K2 K3 K4 HB1 HC5 HT53 HDD HBW HBR HB0 HSZ
       go_wp2_with fail
       clear c5 s0 s1 s2 s3
       obtain ⟨nn,hnn⟩ : ∃ nn,nn=n - 17:=⟨_,rfl⟩
       rw [←hnn]
       have HNN:=Bx.mk (show nn+17=n by omega)
       have hnnb:nn≤120:=by omega
       obtain ⟨jm,hjm⟩ : ∃ jm,jm=imgR im:=⟨_,rfl⟩
       rw [←hjm] at HGX
       have HJL:=Bx.mk (show jm.length=n by rw [hjm,←imgK_all,imgK_len];exact HNIM.out.symm)
       have HJP:=Bx.mk (show ∀ x∈jm,x.length=128∧Byts x by rw [hjm,←imgK_all];exact imgK_pages HPIM.out (by have:=HNIM.out;omega) _)
       have HJM:=Bx.mk hjm
       obtain ⟨mx,hmx⟩ : ∃ mx,mx=mxP im:=⟨_,rfl⟩
       rw [←hmx] at KPX
       have HMX:=Bx.mk hmx
       clear hnn hjm hmx
       go_loopw [98] (fun v98 wr => ∃ i:Nat,i≤nn∧v98 = .int .i64 i∧Bx (BdI X (w.heap.size+1+1) dp mx (badP jm i) wr)) (fun i _=>nn - (intOf i).toNat)
       case atStart=>exact ⟨0,Nat.zero_le _,rfl,⟨BdI.start KPX.out⟩⟩
       case round =>
        obtain ⟨i,hi,rfl,HB⟩:=hrel
        have K4r:=Bx.mk (show Bk wr (w.heap.size+1+1+1) #[.pointer (some ⟨w.heap.size+1+1,0,none⟩)] 54 from K4X.out.chg HB.out.chg fun h=>by have:=K4X.out.lt;omega)
        by_cases hlt:i<nn
        · have t0:decide ((i:Int)<(nn:Int))=true:=by simp;omega
          have t0b:decide (i<nn)=true:=by simpa using hlt
          have hnn:=HNN.out
          obtain ⟨s,hs⟩ : ∃ s,jm[17+i]? = some s:=⟨_,List.getElem?_eq_getElem (by have:=HJL.out;omega)⟩
          have hs128:=HJP.out s (List.mem_of_getElem? hs)
          have c0:wr.cell? ⟨gi,17+i,none⟩=some (.string (strOfNums s)):=by
           have h0:=HGX.out (17+i) s hs
           rw [World.cell?_of_block (HB.out.chg.block gi HGW.out.1 fun h=>by have:=HGW.out;omega)]
           exact h0
          have hgd:jm.getD (17+i) []=s:=by rw [List.getD_eq_getElem?_getD,hs];rfl
          have hbs:=Bx.mk (badP_succ jm i)
          rw [hgd] at hbs
          have hus:=Bx.mk fun W=>unseal_any s hs128.2 (by omega) W
          unfold unV at hus
          have b1:(0:Int)≤(i:Int):=by omega
          have b2:(i:Int)<(nn:Int):=by omega
          have Hlt:=Bx.mk hlt
          generalize strOfNums (datOf s)=Dd at *
          generalize strOfNums s=S at *
          generalize (numOf s:Int)=nm at *
          clear hs hs128 hgd hlt hnn
          by_cases hg:goodP s
          · rw [decide_eq_true hg] at hus
            rw [if_pos hg,List.append_nil] at hbs
            clear hg
            go_wp2_with fail
            refine (hus.out _).mono ?_
            rintro _ w3 ⟨rfl,hb3⟩
            have HB3:=HB.out.later hb3
            rw [←hbs.out] at HB3
            replace HB3:=Bx.mk HB3
            clear hb3 c0 hus HB hbs
            go_wp2_with fail
            go_roundw
            case rel=>exact ⟨i+1,by have:=Hlt.out;omega,by go_num,HB3⟩
            case measure=>have:=Hlt.out;simp [intOf];omega
          · rw [decide_eq_false hg] at hus
            rw [if_neg hg] at hbs
            clear hg
            go_wp2_with fail
            refine (hus.out _).mono ?_
            rintro _ w3 ⟨rfl,hb3⟩
            have HB3:=Bx.mk (HB.out.later hb3)
            have K43:=K4r.out.later hb3
            clear hb3 c0 hus HB
            obtain ⟨bv,O,hps,-,hlb,hnp,hnl,hap,hfin⟩:=HB3.out.more (by have:=badP_len jm i;have:=HNN.out;omega) i
            have HK4e:=Bx.mk fun W' (h:LeA bv.ownBlock O w3 W')=>(show W'.cell? ⟨w.heap.size+1+1+1,0,none⟩=some (.pointer (some ⟨w.heap.size+1+1,0,none⟩)) from by
             have h0:=K43.cell 0 rfl
             rw [World.cell?_of_block (h.block _ K43.lt (hnl _ K4X.out.lt))]
             exact h0)
            have HKpe:=Bx.mk fun W' (h:LeA bv.ownBlock O w3 W')=>(show PS W' (w.heap.size+1+1) dp mx bv false from (h.block _ (Bk.lt hps) hnp).trans hps)
            replace hap:=Bx.mk hap
            replace hfin:=Bx.mk hfin
            replace hlb:=Bx.mk hlb
            clear hps hnp hnl K43
            go_upto_region 30 with fail
            refine wp_region_relE (LeA.leW bv.ownBlock O) 10 1 (fun ii v w'=>match ii with
             | 0=>v = .pointer (some ⟨w.heap.size+1+1,0,none⟩)
             | 1=>v = .pointer (some ⟨w.heap.size+1+1,0,none⟩)
             | 2=>v = .pointer (some ⟨w.heap.size+1+1,0,none⟩)
             | 3=>v = .pointer (some ⟨w.heap.size+1+1,2,none⟩)
             | 4=>v=bv
             | 5=>v = .int .i64 (i:Int)
             | 6=>IntR w3 i v w'
             | 7=>AppR w3 X.heap.size 3 bv.ownBlock O ((ints64 (badP jm i)).map (Value.int .i64)++[.int .i64 (i:Int)]) v w'
             | 8=>v = .pointer (some ⟨w.heap.size+1+1,0,none⟩)
             | _=>v = .pointer (some ⟨w.heap.size+1+1,2,none⟩)) (by kernel_rfl) (by kernel_rfl) 123 (by kernel_rfl) (by rfl) ?_ ?_ ?_
            · intro ii hi v u1 u2 hb h
              match ii,hi with
              | 0,_=>exact h
              | 1,_=>exact h
              | 2,_=>exact h
              | 3,_=>exact h
              | 4,_=>exact h
              | 5,_=>exact h
              | 6,_=>exact h.le hlb.out hb
              | 7,_=>exact h.le hlb.out hb
              | 8,_=>exact h
              | 9,_=>exact h
            · intro ii o hi ho ρ wx hb hc1 hc2 hc3 hk
              match ii,hi with
              | 0, _ =>
                obtain rfl:=Option.some.inj ho
                have g0:ρ (.tmp 4) = .pointer (some ⟨w.heap.size+1+1+1,0,none⟩):=hk 4 (by simp [Op.operands,Call.operands])
                have z0:=HK4e.out wx hb
                clear hk hb HB3 hap hfin HK4e HKpe HGX HJP HJL HD hl Hpg Hrd HPIM HTF
                go_simp
                exact LeA.refl _ _ _
              | 1, _ =>
                obtain rfl:=Option.some.inj ho
                have g0:ρ (.tmp 4) = .pointer (some ⟨w.heap.size+1+1+1,0,none⟩):=hk 4 (by simp [Op.operands,Call.operands])
                have z0:=HK4e.out wx hb
                clear hk hb HB3 hap hfin HK4e HKpe HGX HJP HJL HD hl Hpg Hrd HPIM HTF
                go_simp
                exact LeA.refl _ _ _
              | 2, _ =>
                obtain rfl:=Option.some.inj ho
                have g0:ρ (.tmp 112) = .pointer (some ⟨w.heap.size+1+1,0,none⟩):=hk 112 (by simp [Op.operands,Call.operands])
                clear hk hb HB3 hap hfin HK4e HKpe HGX HJP HJL HD hl Hpg Hrd HPIM HTF
                go_simp
                exact LeA.refl _ _ _
              | 3, _ =>
                obtain rfl:=Option.some.inj ho
                have g0:ρ (.tmp 113) = .pointer (some ⟨w.heap.size+1+1,0,none⟩):=hk 113 (by simp [Op.operands,Call.operands])
                clear hk hb HB3 hap hfin HK4e HKpe HGX HJP HJL HD hl Hpg Hrd HPIM HTF
                go_simp
                exact LeA.refl _ _ _
              | 4, _ =>
                obtain rfl:=Option.some.inj ho
                have g0:ρ (.tmp 114) = .pointer (some ⟨w.heap.size+1+1,2,none⟩):=hk 114 (by simp [Op.operands,Call.operands])
                have z0:=Bk.cell (HKpe.out wx hb) 2 rfl
                clear hk hb HB3 hap hfin HK4e HKpe HGX HJP HJL HD hl Hpg Hrd HPIM HTF
                go_simp
                exact LeA.refl _ _ _
              | 5, _ =>
                obtain rfl:=Option.some.inj ho
                have g0:ρ (.tmp 15) = .int .i64 (i:Int):=hk 15 (by simp [Op.operands,Call.operands])
                clear hk hb HB3 hap hfin HK4e HKpe HGX HJP HJL HD hl Hpg Hrd HPIM HTF
                go_simp
                exact LeA.refl _ _ _
              | 6, _ =>
                obtain rfl:=Option.some.inj ho
                have g0:ρ (.tmp 116) = .int .i64 (i:Int):=hk 116 (by simp [Op.operands,Call.operands])
                have Hn:Bx (IntR w3 i (.slice (some ⟨wx.heap.size,0,none⟩) 1 1) (wx.alloc (.cells #[.int .i64 (i:Int)] 3))):=⟨_,rfl,hb.size,cell_new _ _ _⟩
                clear hk hb HB3 hap hfin HK4e HKpe HGX HJP HJL HD hl Hpg Hrd HPIM HTF
                go_simp
                exact ⟨LeA.of ((Below.refl _ _).alloc (Nat.le_refl _) _),Hn.out⟩
              | 7, _ =>
                obtain rfl:=Option.some.inj ho
                have g0:ρ (.tmp 115)=bv:=hk 115 (by simp [Op.operands,Call.operands])
                have gp:IntR w3 i (ρ (.tmp 117)) wx:=hk 117 (by simp [Op.operands,Call.operands])
                obtain ⟨hh,g1,-,hc⟩:=gp
                obtain ⟨v2,w2,hr,hl,hR⟩:=hap.out wx hb 33 hh hc
                simp only [execOp,resolve,invoke,builtin,Sem.run_bind,Sem.run_pure,Result.andThen_ok,List.map_toArray,List.map_cons,List.map_nil,g0,g1,hr]
                exact ⟨hl,hR⟩
              | 8, _ =>
                obtain rfl:=Option.some.inj ho
                have g0:ρ (.tmp 111) = .pointer (some ⟨w.heap.size+1+1,0,none⟩):=hk 111 (by simp [Op.operands,Call.operands])
                clear hk hb HB3 hap hfin HK4e HKpe HGX HJP HJL HD hl Hpg Hrd HPIM HTF
                go_simp
                exact LeA.refl _ _ _
              | 9, _ =>
                obtain rfl:=Option.some.inj ho
                have g0:ρ (.tmp 119) = .pointer (some ⟨w.heap.size+1+1,0,none⟩):=hk 119 (by simp [Op.operands,Call.operands])
                clear hk hb HB3 hap hfin HK4e HKpe HGX HJP HJL HD hl Hpg Hrd HPIM HTF
                go_simp
                exact LeA.refl _ _ _
            · intro vs w4 hlen hb hR
              match vs,hlen with
              | [v0, v1, v2, v3, v4, v5, v6, v7, v8, v9], _ =>
                have r0:v0 = .pointer (some ⟨w.heap.size+1+1,0,none⟩):=hR 0 v0 rfl
                have r1:v1 = .pointer (some ⟨w.heap.size+1+1,0,none⟩):=hR 1 v1 rfl
                have r2:v2 = .pointer (some ⟨w.heap.size+1+1,0,none⟩):=hR 2 v2 rfl
                have r3:v3 = .pointer (some ⟨w.heap.size+1+1,2,none⟩):=hR 3 v3 rfl
                have r4:v4=bv:=hR 4 v4 rfl
                have r5:v5 = .int .i64 (i:Int):=hR 5 v5 rfl
                have r8:v8 = .pointer (some ⟨w.heap.size+1+1,0,none⟩):=hR 8 v8 rfl
                have r9:v9 = .pointer (some ⟨w.heap.size+1+1,2,none⟩):=hR 9 v9 rfl
                have r7:AppR w3 X.heap.size 3 bv.ownBlock O ((ints64 (badP jm i)).map (Value.int .i64)++[.int .i64 (i:Int)]) v7 w4:=hR 7 v7 rfl
                clear hR
                subst r0 r1 r2 r3 r4 r5 r8 r9
                obtain ⟨⟨va,vc,rfl⟩,hbd⟩:=hfin.out w4 v7 hb r7
                rw [←hbs.out] at hbd
                have HBD:=Bx.mk hbd
                have hp4:=HKpe.out w4 hb
                have z2:=Bk.cell hp4 2 rfl
                have f2:=Bk.frozen hp4 2
                clear hbd hp4 hb r7 hfin hap HKpe HK4e HB3
                simp only [puts,List.take_succ_cons,List.take_zero,List.drop_succ_cons,List.drop_zero,List.map_cons,List.map_nil,List.zip_cons_cons,List.zip_nil_right,List.foldl_cons,List.foldl_nil]
                go_wp2_with fail
                go_roundw
                case rel=>exact ⟨i+1,by have:=Hlt.out;omega,by go_num,HBD⟩
                case measure=>have:=Hlt.out;simp [intOf];omega
        · obtain rfl:i=nn:=by omega
          have t0:decide ((i:Int)<(i:Int))=false:=by simp
          have t0b:decide (i<i)=false:=by simp
          have hgw:=HGW.out
          have hds:=HDS.out
          have K2r:=Bx.mk (show Bk wr w.heap.size #[.pointer none] 54 from K2X.out.chg HB.out.chg fun h=>by have:=K2X.out.lt;omega)
          have K3r:=Bx.mk (show Bk wr (w.heap.size+1) #[.int .i64 0] 36 from K3X.out.chg HB.out.chg fun h=>by have:=K3X.out.lt;omega)
          have HDr:=Bx.mk (show wr.heap[D]? = some (.deferred (some [])) from (HB.out.chg.block D hds.2 fun h=>by omega).trans HDX2.out)
          have z4:=K4r.out.cell 0 rfl
          have z2:=K2r.out.cell 0 rfl
          have f2:=K2r.out.frozen 0
          have k3':=K3r.out.other ⟨w.heap.size,0,none⟩ (.pointer (some ⟨w.heap.size+1+1,0,none⟩)) (by simp only;omega)
          have z3:=k3'.cell 0 rfl
          have f3:=k3'.frozen 0
          clear k3'
          go_wp2_with fail
          have hY2:Bk ((wr.setCell ⟨w.heap.size,0,none⟩ (.pointer (some ⟨w.heap.size+1+1,0,none⟩))).setCell ⟨w.heap.size+1,0,none⟩ (.int .i64 0)) w.heap.size #[.pointer (some ⟨w.heap.size+1+1,0,none⟩)] 54:=(show Bk (wr.setCell ⟨w.heap.size,0,none⟩ (.pointer (some ⟨w.heap.size+1+1,0,none⟩))) w.heap.size #[.pointer (some ⟨w.heap.size+1+1,0,none⟩)] 54 by simpa using K2r.out.set 0 (.pointer (some ⟨w.heap.size+1+1,0,none⟩))).other _ _ (by simp only;omega)
          have hY3:Bk ((wr.setCell ⟨w.heap.size,0,none⟩ (.pointer (some ⟨w.heap.size+1+1,0,none⟩))).setCell ⟨w.heap.size+1,0,none⟩ (.int .i64 0)) (w.heap.size+1) #[.int .i64 0] 36:=by simpa using (K3r.out.other ⟨w.heap.size,0,none⟩ (.pointer (some ⟨w.heap.size+1+1,0,none⟩)) (by simp only;omega)).set 0 (.int .i64 0)
          have hYc:Chg (fun k=>k=w.heap.size∨k=w.heap.size+1) wr ((wr.setCell ⟨w.heap.size,0,none⟩ (.pointer (some ⟨w.heap.size+1+1,0,none⟩))).setCell ⟨w.heap.size+1,0,none⟩ (.int .i64 0)):=((Chg.refl _ _).setCell (.inl (.inl rfl)) _).setCell (.inl (.inr rfl)) _
          generalize World.setCell (World.setCell wr _ _) _ _=Y at *
          have hDY:Y.heap[D]? = some (.deferred (some [])):=(hYc.block D (Array.getElem?_eq_some_iff.1 HDr.out).1 fun h=>by omega).trans HDr.out
          refine ⟨by simp,.inl ⟨_,_,rfl,run_takeDeferred hDY,?_⟩⟩
          have y2:=(hY2.putObj (l:=D) (by omega) (.deferred none)).cell 0 rfl
          have y3:=(hY3.putObj (l:=D) (by omega) (.deferred none)).cell 0 rfl
          refine ⟨.tuple #[.pointer (some ⟨w.heap.size+1+1,0,none⟩),.int .i64 0],by simp [results,Tryd.results24,go_sem,y2,y3],?_⟩
          show OpPost dp g mb cap m d w _ _
          unfold OpPost
          rw [←HIM.out,HRR.out]
          obtain ⟨bv,hps,hbo⟩:=HB.out.kp
          have hlt3:=Hlt3.out
          have hXs:=HCX.out.size
          have hin : ∀ j,w.heap.size≤j → ¬In3 dp g mb j:=fun j hj h3=>by rcases h3 with rfl | rfl | rfl <;> omega
          have hall:Chg (fun k=>(w.heap.size≤k∧k<w.heap.size+3)∨X.heap.size≤k∨k=D) X (Y.putObj D (.deferred none)) :=
           ((HB.out.chg.mono (T:=fun k=>(w.heap.size≤k∧k<w.heap.size+3)∨X.heap.size≤k∨k=D) fun k _ h=>by rcases h with h | h <;> omega).trans (hYc.mono (T:=fun k=>(w.heap.size≤k∧k<w.heap.size+3)∨X.heap.size≤k∨k=D) fun k _ h=>by rcases h with h | h <;> omega) fun _ _ h=>h).putObj (.inr (.inr (.inr rfl))) _
          refine ⟨HDX.out.chg hall fun k h3 h=>?_,⟨hall.os.trans HCX.out.os,hall.tape.trans HCX.out.tape,hall.output.trans HCX.out.output,Nat.le_trans HCX.out.size hall.size,fun k hk hn=>(hall.block k (by omega) fun h=>by omega).trans (HCX.out.block k hk hn)⟩,.inr ⟨rfl,w.heap.size+1+1,bv,rfl,by omega,?_,?_⟩⟩
          · have : ¬w.heap.size≤k:=fun hj=>hin k hj h3
            omega
          · rw [←HMX.out]
            exact Bk.putObj ((hYc.block _ (Bk.lt hps) fun h=>by omega).trans hps) (by omega) _
          · have hbl : ∀ g,bv.ownBlock=some g→X.heap.size≤g:=fun g hg=>(hbo.lt g hg).1
            have h1:Ownv Y X.heap.size 3 bv ((ints64 (badP jm i)).map (Value.int .i64)):=by
             refine ⟨hbo.1,?_⟩
             rcases hbo.2 with h | ⟨g',cap',cur,rfl,a1,a2,a3⟩
             · exact .inl h
             · exact .inr ⟨g',cap',cur,rfl,a1,(hYc.block g' (Array.getElem?_eq_some_iff.1 a2).1 fun h=>by have:=hbl g' rfl;omega).trans a2,a3⟩
            have h2:Ownv (Y.putObj D (.deferred none)) X.heap.size 3 bv ((ints64 (badP jm i)).map (Value.int .i64)):=Ownv.grown h1 (grownBy_putObj' Y D _) (by
             cases hx:bv.ownBlock with
             | none=>exact .inl rfl
             | some g =>
               refine .inr fun e=>?_
               injection e with e
               have:=hbl g hx
               omega)
            have h3:=h2.base hXs
            rw [←HJM.out,show d.p.length - 17=i by have:=Hn.out;have:=HNN.out;omega]
            unfold Own
            have hll:(ints64 (badP jm i)).length=((ints64 (badP jm i)).map (Value.int .i64)).length:=by rw [List.length_map]
            rw [hll]
            exact h3
     · have hpos:0<k:=by omega
       have hol:(opsR im k).length=k:=opsR_len im (by rw [←HTL.out];exact Nat.le_refl _)
       obtain ⟨a11,c11,rfl⟩:=HRI.out.form
       rw [hol] at HRI ⊢
       have t0:decide ((k:Int) > 0)=true:=by simp;omega
       have t0b:decide (k > 0)=true:=by simpa using hpos
       go_upto_region 21 with fail
       obtain ⟨lv,hown,hln,hle,hpost⟩:=HRI.out.log (W3:=wr.alloc (.cells #[flushV dp] 89)) ((Below.refl _ _).alloc (Nat.le_refl _) _) (of_one (show StepV (Fr wr (wr.alloc (.cells #[flushV dp] 89))) dp (wr.alloc (.cells #[flushV dp] 89)) (flushV dp) .f from rfl))
       have hln:lv.length≤1000000000:=by omega
       replace hpost:=Bx.mk hpost
       have hopl:opsR im k++[.f]=replayP im:=by rw [←opsR_all (by rw [←HTL.out];exact hpos),HTL.out]
       have HOPL:=Bx.mk hopl
       have hrl:(replayP im).length=k+1:=by rw [←hopl,List.length_append,hol];rfl
       have HRL:=Bx.mk hrl
       clear t0 t0b hopl hrl hol hz
       go_upto_region 22 with (first
        | (at_builtin
           refine wpList_append_val rfl _ _ 87 rfl 89 .nilFunc 8 (by omega) Tryd.underlying87 (by kernel_rfl) rfl w1.heap.size _ lv rfl hown (flushV dp) rfl ⟨wr.heap.size,0,none⟩ 1 rfl (cell_new _ _ _) hln hle ?_
           intro q11' w9 g1 g2 g3))
       have hJ9:=hpost.out q11' w9 g1 g2 g3
       rw [HOPL.out] at hJ9
       have HJ9:=Bx.mk hJ9
       obtain ⟨A,lv9,gr,cr,rfl,hgr,hAr,hst,hcs⟩:=hJ9.ready (by rw [HRL.out];omega)
       have hgi1:=HGI.out
       have hsz0:=HSZ.out
       have hsz1:=HB1.out.size
       have hszW:=HBW.out.size
       have hlt3:=Hlt3.out
       have hb9:Below w.heap.size w w9:=(HBW.out.trans (HB1.out.mono HBW.out.size)).trans (HJ9.out.chg.below (by omega) fun j hj h=>by rcases h with h | h <;> omega)
       have hin3 : ∀ j,w.heap.size≤j → ¬In3 dp g mb j:=fun j hj h3=>by rcases h3 with rfl | rfl | rfl <;> omega
       have hrun:=prun_ops A dp g mb cap m d w9 (HD.out w9 hb9) lv9 (replayP im) (by have:=HM.out;rw [HRL.out];omega) (by rw [HRL.out];omega) hst (fun j hj=>hin3 j (by have:=hAr j hj;omega)) gr 0 cr hcs (hin3 gr (by omega))
       obtain ⟨r,hr⟩ : ∃ r,r=d.run (replayP im):=⟨_,rfl⟩
       rw [←hr] at hrun
       have HRUN:=Bx.mk hrun
       have HR0:=Bx.mk hr
       have HIN3:=Bx.mk hin3
       have HB9:=Bx.mk hb9
       have HGI3:=Bx.mk (show ¬In3 dp g mb gi from hin3 gi (by omega))
       clear hrun hr hcs hst hAr hgr hJ9 hpost g1 g2 g3 hown hln hle hgi1 hsz0 hsz1 hszW hlt3 hb9 hin3 HRI HLR
       go_upto_region 23 with (go_at_call 44;refine HRUN.out.mono ?_;rintro _ X ⟨rfl,hdX,hcX⟩)
       obtain ⟨dr,er⟩:=r
       have HDX:=Bx.mk (hdX.mono (m':=m+20) (by rw [HRL.out];omega))
       have HCX:=Bx.mk ((Chg.ofBelow HB9.out (In3 dp g mb)).trans hcX fun _ _ h=>h)
       have HLX:Bx (∀ j,j<w1.heap.size→j ≠ gi → ¬In3 dp g mb j→X.heap[j]? = w1.heap[j]?):=⟨fun j hj hn h3=>(hcX.block j (Nat.lt_of_lt_of_le hj HJ9.out.chg.size) h3).trans (HJ9.out.chg.block j hj fun h=>by rcases h with h | h <;> omega)⟩
       have HGX:Bx (∀ (i:Nat) (s:List Int),(imgR im)[i]? = some s→X.cell? ⟨gi,i,none⟩=some (.string (strOfNums s))):=⟨fun i s hs=>by
        have h0:=(HJ9.out.at_ hs).1
        rw [World.cell?_of_block (hcX.block gi (World.block_lt_of_cell? w9 _ h0) HGI3.out)]
        exact h0⟩
       have HSX:Bx (w1.heap.size≤X.heap.size):=⟨Nat.le_trans HJ9.out.chg.size hcX.size⟩
       have HRR:Bx (d.run (replayP im)=(dr,er)):=⟨HR0.out.symm⟩
       clear hdX hcX HJ9 HR0 HRUN
       dsimp only at *
       by_cases h0:er=0
       · subst h0
         go_upto_region 25 with fail
         have hin : ∀ j,w.heap.size≤j → ¬In3 dp g mb j:=fun j hj h3=>by have:=Hlt3.out;rcases h3 with rfl | rfl | rfl <;> omega
         have hq : ∀ j,w.heap.size≤j→j<W.heap.size→j ≠ gi→X.heap[j]? = W.heap[j]? := fun j h0 hj hn=>(HLX.out j (Nat.lt_of_lt_of_le hj HB1.out.size) hn (hin j h0)).trans (HB1.out.block j hj)
         have hgi1:=HGI.out
         have hsz0:=HSZ.out
         have hszW:=HI2.out.chg.size
         have hk : ∀ j,w.heap.size≤j→j<W0.heap.size→j ≠ w.heap.size+1+1→j ≠ w.heap.size+1+1+1+1→X.heap[j]? = W0.heap[j]? := fun j h0 hj h2 h5=>(hq j h0 (by omega) (by omega)).trans (HI2.out.chg.block j hj fun h=>by rcases h with h | h | h <;> omega)
         have K2X:=Bx.mk (show Bk X w.heap.size #[.pointer none] 54 from (hk _ (by omega) (by omega) (by omega) (by omega)).trans K2.out)
         have K3X:=Bx.mk (show Bk X (w.heap.size+1) #[.int .i64 0] 36 from (hk _ (by omega) (by omega) (by omega) (by omega)).trans K3.out)
         have K4X:=Bx.mk (show Bk X (w.heap.size+1+1+1) #[.pointer (some ⟨w.heap.size+1+1,0,none⟩)] 54 from (hk _ (by omega) (by omega) (by omega) (by omega)).trans K4.out)
         have K5X:=Bx.mk (show Bk X (w.heap.size+1+1+1+1) #[.slice (some ⟨gi,0,none⟩) n ci] 30 from (hq _ (by omega) (by omega) (by omega)).trans HV.out)
         have KPX:=Bx.mk (show PS X (w.heap.size+1+1) dp (mxP im) (.slice none 0 0) false from (hq _ (by omega) (by omega) (by omega)).trans HI2.out.kp)
         have hDW:=(Array.getElem?_eq_some_iff.1 HKD.out).1
         have hDgi:D ≠ gi:=fun e=>by
          have h1:=HKD.out
          rw [e] at h1
          rcases HOWN.out.2 with ⟨h,_⟩ | ⟨g',cap',cur,h,_,h4,_⟩
          · cases h
          · injection h with h _ _
            injection h with h
            injection h with h
            subst h
            rw [h1] at h4
            cases h4
         have HDX2:=Bx.mk (show X.heap[D]? = some (.deferred (some [])) from (hq D (by have:=HDD.out;omega) hDW hDgi).trans HKD.out)
         have HDS:Bx (w.heap.size+6≤D∧D<X.heap.size):=⟨by have:=HDD.out;omega,by have:=HSX.out;have:=HB1.out.size;omega⟩
         have HGW:Bx (gi<X.heap.size∧w.heap.size+6≤gi):=⟨by have:=HSX.out;have:=HB1.out.size;have:=HGL.out;omega,by omega⟩
         have c5:=K5X.out.cell 0 rfl
         have s0:(0:Int)≤17:=by omega
         have s1:(17:Int)≤(n:Int):=by omega
         have s2:(n:Int)≤(ci:Int):=by omega
         have s3 : ¬(ci:Int)=17:=by omega
         have HCI:=Bx.mk hnci
         clear hin hq hgi1 hsz0 hszW hk hDW hDgi HI2 HV HOWN HKD HGI HGL HLX K2 K3 K4 HB1 HC5 HT53 HDD HBW HBR HB0 HSZ
         go_wp2_with fail
         clear c5 s0 s1 s2 s3
         obtain ⟨nn,hnn⟩ : ∃ nn,nn=n - 17:=⟨_,rfl⟩
         rw [←hnn]
         have HNN:=Bx.mk (show nn+17=n by omega)
         have hnnb:nn≤120:=by omega
         obtain ⟨jm,hjm⟩ : ∃ jm,jm=imgR im:=⟨_,rfl⟩
         rw [←hjm] at HGX
         have HJL:=Bx.mk (show jm.length=n by rw [hjm,←imgK_all,imgK_len];exact HNIM.out.symm)
         have HJP:=Bx.mk (show ∀ x∈jm,x.length=128∧Byts x by rw [hjm,←imgK_all];exact imgK_pages HPIM.out (by have:=HNIM.out;omega) _)
         have HJM:=Bx.mk hjm
         obtain ⟨mx,hmx⟩ : ∃ mx,mx=mxP im:=⟨_,rfl⟩
         rw [←hmx] at KPX
         have HMX:=Bx.mk hmx
         clear hnn hjm hmx
         go_loopw [98] (fun v98 wr => ∃ i:Nat,i≤nn∧v98 = .int .i64 i∧Bx (BdI X (w.heap.size+1+1) dp mx (badP jm i) wr)) (fun i _=>nn - (intOf i).toNat)
         case atStart=>exact ⟨0,Nat.zero_le _,rfl,⟨BdI.start KPX.out⟩⟩
         case round =>
          obtain ⟨i,hi,rfl,HB⟩:=hrel
          have K4r:=Bx.mk (show Bk wr (w.heap.size+1+1+1) #[.pointer (some ⟨w.heap.size+1+1,0,none⟩)] 54 from K4X.out.chg HB.out.chg fun h=>by have:=K4X.out.lt;omega)
          by_cases hlt:i<nn
          · have t0:decide ((i:Int)<(nn:Int))=true:=by simp;omega
            have t0b:decide (i<nn)=true:=by simpa using hlt
            have hnn:=HNN.out
            obtain ⟨s,hs⟩ : ∃ s,jm[17+i]? = some s:=⟨_,List.getElem?_eq_getElem (by have:=HJL.out;omega)⟩
            have hs128:=HJP.out s (List.mem_of_getElem? hs)
            have c0:wr.cell? ⟨gi,17+i,none⟩=some (.string (strOfNums s)):=by
             have h0:=HGX.out (17+i) s hs
             rw [World.cell?_of_block (HB.out.chg.block gi HGW.out.1 fun h=>by have:=HGW.out;omega)]
             exact h0
            have hgd:jm.getD (17+i) []=s:=by rw [List.getD_eq_getElem?_getD,hs];rfl
            have hbs:=Bx.mk (badP_succ jm i)
            rw [hgd] at hbs
            have hus:=Bx.mk fun W=>unseal_any s hs128.2 (by omega) W
            unfold unV at hus
            have b1:(0:Int)≤(i:Int):=by omega
            have b2:(i:Int)<(nn:Int):=by omega
            have Hlt:=Bx.mk hlt
            generalize strOfNums (datOf s)=Dd at *
            generalize strOfNums s=S at *
            generalize (numOf s:Int)=nm at *
            clear hs hs128 hgd hlt hnn
            by_cases hg:goodP s
            · rw [decide_eq_true hg] at hus
              rw [if_pos hg,List.append_nil] at hbs
              clear hg
              go_wp2_with fail
              refine (hus.out _).mono ?_
              rintro _ w3 ⟨rfl,hb3⟩
              have HB3:=HB.out.later hb3
              rw [←hbs.out] at HB3
              replace HB3:=Bx.mk HB3
              clear hb3 c0 hus HB hbs
              go_wp2_with fail
              go_roundw
              case rel=>exact ⟨i+1,by have:=Hlt.out;omega,by go_num,HB3⟩
              case measure=>have:=Hlt.out;simp [intOf];omega
            · rw [decide_eq_false hg] at hus
              rw [if_neg hg] at hbs
              clear hg
              go_wp2_with fail
              refine (hus.out _).mono ?_
              rintro _ w3 ⟨rfl,hb3⟩
              have HB3:=Bx.mk (HB.out.later hb3)
              have K43:=K4r.out.later hb3
              clear hb3 c0 hus HB
              obtain ⟨bv,O,hps,-,hlb,hnp,hnl,hap,hfin⟩:=HB3.out.more (by have:=badP_len jm i;have:=HNN.out;omega) i
              have HK4e:=Bx.mk fun W' (h:LeA bv.ownBlock O w3 W')=>(show W'.cell? ⟨w.heap.size+1+1+1,0,none⟩=some (.pointer (some ⟨w.heap.size+1+1,0,none⟩)) from by
               have h0:=K43.cell 0 rfl
               rw [World.cell?_of_block (h.block _ K43.lt (hnl _ K4X.out.lt))]
               exact h0)
              have HKpe:=Bx.mk fun W' (h:LeA bv.ownBlock O w3 W')=>(show PS W' (w.heap.size+1+1) dp mx bv false from (h.block _ (Bk.lt hps) hnp).trans hps)
              replace hap:=Bx.mk hap
              replace hfin:=Bx.mk hfin
              replace hlb:=Bx.mk hlb
              clear hps hnp hnl K43
              go_upto_region 30 with fail
              refine wp_region_relE (LeA.leW bv.ownBlock O) 10 1 (fun ii v w'=>match ii with
               | 0=>v = .pointer (some ⟨w.heap.size+1+1,0,none⟩)
               | 1=>v = .pointer (some ⟨w.heap.size+1+1,0,none⟩)
               | 2=>v = .pointer (some ⟨w.heap.size+1+1,0,none⟩)
               | 3=>v = .pointer (some ⟨w.heap.size+1+1,2,none⟩)
               | 4=>v=bv
               | 5=>v = .int .i64 (i:Int)
               | 6=>IntR w3 i v w'
               | 7=>AppR w3 X.heap.size 3 bv.ownBlock O ((ints64 (badP jm i)).map (Value.int .i64)++[.int .i64 (i:Int)]) v w'
               | 8=>v = .pointer (some ⟨w.heap.size+1+1,0,none⟩)
               | _=>v = .pointer (some ⟨w.heap.size+1+1,2,none⟩)) (by kernel_rfl) (by kernel_rfl) 123 (by kernel_rfl) (by rfl) ?_ ?_ ?_
              · intro ii hi v u1 u2 hb h
                match ii,hi with
                | 0,_=>exact h
                | 1,_=>exact h
                | 2,_=>exact h
                | 3,_=>exact h
                | 4,_=>exact h
                | 5,_=>exact h
                | 6,_=>exact h.le hlb.out hb
                | 7,_=>exact h.le hlb.out hb
                | 8,_=>exact h
                | 9,_=>exact h
              · intro ii o hi ho ρ wx hb hc1 hc2 hc3 hk
                match ii,hi with
                | 0, _ =>
                  obtain rfl:=Option.some.inj ho
                  have g0:ρ (.tmp 4) = .pointer (some ⟨w.heap.size+1+1+1,0,none⟩):=hk 4 (by simp [Op.operands,Call.operands])
                  have z0:=HK4e.out wx hb
                  clear hk hb HB3 hap hfin HK4e HKpe HGX HJP HJL HD hl Hpg Hrd HPIM HTF
                  go_simp
                  exact LeA.refl _ _ _
                | 1, _ =>
                  obtain rfl:=Option.some.inj ho
                  have g0:ρ (.tmp 4) = .pointer (some ⟨w.heap.size+1+1+1,0,none⟩):=hk 4 (by simp [Op.operands,Call.operands])
                  have z0:=HK4e.out wx hb
                  clear hk hb HB3 hap hfin HK4e HKpe HGX HJP HJL HD hl Hpg Hrd HPIM HTF
                  go_simp
                  exact LeA.refl _ _ _
                | 2, _ =>
                  obtain rfl:=Option.some.inj ho
                  have g0:ρ (.tmp 112) = .pointer (some ⟨w.heap.size+1+1,0,none⟩):=hk 112 (by simp [Op.operands,Call.operands])
                  clear hk hb HB3 hap hfin HK4e HKpe HGX HJP HJL HD hl Hpg Hrd HPIM HTF
                  go_simp
                  exact LeA.refl _ _ _
                | 3, _ =>
                  obtain rfl:=Option.some.inj ho
                  have g0:ρ (.tmp 113) = .pointer (some ⟨w.heap.size+1+1,0,none⟩):=hk 113 (by simp [Op.operands,Call.operands])
                  clear hk hb HB3 hap hfin HK4e HKpe HGX HJP HJL HD hl Hpg Hrd HPIM HTF
                  go_simp
                  exact LeA.refl _ _ _
                | 4, _ =>
                  obtain rfl:=Option.some.inj ho
                  have g0:ρ (.tmp 114) = .pointer (some ⟨w.heap.size+1+1,2,none⟩):=hk 114 (by simp [Op.operands,Call.operands])
                  have z0:=Bk.cell (HKpe.out wx hb) 2 rfl
                  clear hk hb HB3 hap hfin HK4e HKpe HGX HJP HJL HD hl Hpg Hrd HPIM HTF
                  go_simp
                  exact LeA.refl _ _ _
                | 5, _ =>
                  obtain rfl:=Option.some.inj ho
                  have g0:ρ (.tmp 15) = .int .i64 (i:Int):=hk 15 (by simp [Op.operands,Call.operands])
                  clear hk hb HB3 hap hfin HK4e HKpe HGX HJP HJL HD hl Hpg Hrd HPIM HTF
                  go_simp
                  exact LeA.refl _ _ _
                | 6, _ =>
                  obtain rfl:=Option.some.inj ho
                  have g0:ρ (.tmp 116) = .int .i64 (i:Int):=hk 116 (by simp [Op.operands,Call.operands])
                  have Hn:Bx (IntR w3 i (.slice (some ⟨wx.heap.size,0,none⟩) 1 1) (wx.alloc (.cells #[.int .i64 (i:Int)] 3))):=⟨_,rfl,hb.size,cell_new _ _ _⟩
                  clear hk hb HB3 hap hfin HK4e HKpe HGX HJP HJL HD hl Hpg Hrd HPIM HTF
                  go_simp
                  exact ⟨LeA.of ((Below.refl _ _).alloc (Nat.le_refl _) _),Hn.out⟩
                | 7, _ =>
                  obtain rfl:=Option.some.inj ho
                  have g0:ρ (.tmp 115)=bv:=hk 115 (by simp [Op.operands,Call.operands])
                  have gp:IntR w3 i (ρ (.tmp 117)) wx:=hk 117 (by simp [Op.operands,Call.operands])
                  obtain ⟨hh,g1,-,hc⟩:=gp
                  obtain ⟨v2,w2,hr,hl,hR⟩:=hap.out wx hb 33 hh hc
                  simp only [execOp,resolve,invoke,builtin,Sem.run_bind,Sem.run_pure,Result.andThen_ok,List.map_toArray,List.map_cons,List.map_nil,g0,g1,hr]
                  exact ⟨hl,hR⟩
                | 8, _ =>
                  obtain rfl:=Option.some.inj ho
                  have g0:ρ (.tmp 111) = .pointer (some ⟨w.heap.size+1+1,0,none⟩):=hk 111 (by simp [Op.operands,Call.operands])
                  clear hk hb HB3 hap hfin HK4e HKpe HGX HJP HJL HD hl Hpg Hrd HPIM HTF
                  go_simp
                  exact LeA.refl _ _ _
                | 9, _ =>
                  obtain rfl:=Option.some.inj ho
                  have g0:ρ (.tmp 119) = .pointer (some ⟨w.heap.size+1+1,0,none⟩):=hk 119 (by simp [Op.operands,Call.operands])
                  clear hk hb HB3 hap hfin HK4e HKpe HGX HJP HJL HD hl Hpg Hrd HPIM HTF
                  go_simp
                  exact LeA.refl _ _ _
              · intro vs w4 hlen hb hR
                match vs,hlen with
                | [v0, v1, v2, v3, v4, v5, v6, v7, v8, v9], _ =>
                  have r0:v0 = .pointer (some ⟨w.heap.size+1+1,0,none⟩):=hR 0 v0 rfl
                  have r1:v1 = .pointer (some ⟨w.heap.size+1+1,0,none⟩):=hR 1 v1 rfl
                  have r2:v2 = .pointer (some ⟨w.heap.size+1+1,0,none⟩):=hR 2 v2 rfl
                  have r3:v3 = .pointer (some ⟨w.heap.size+1+1,2,none⟩):=hR 3 v3 rfl
                  have r4:v4=bv:=hR 4 v4 rfl
                  have r5:v5 = .int .i64 (i:Int):=hR 5 v5 rfl
                  have r8:v8 = .pointer (some ⟨w.heap.size+1+1,0,none⟩):=hR 8 v8 rfl
                  have r9:v9 = .pointer (some ⟨w.heap.size+1+1,2,none⟩):=hR 9 v9 rfl
                  have r7:AppR w3 X.heap.size 3 bv.ownBlock O ((ints64 (badP jm i)).map (Value.int .i64)++[.int .i64 (i:Int)]) v7 w4:=hR 7 v7 rfl
                  clear hR
                  subst r0 r1 r2 r3 r4 r5 r8 r9
                  obtain ⟨⟨va,vc,rfl⟩,hbd⟩:=hfin.out w4 v7 hb r7
                  rw [←hbs.out] at hbd
                  have HBD:=Bx.mk hbd
                  have hp4:=HKpe.out w4 hb
                  have z2:=Bk.cell hp4 2 rfl
                  have f2:=Bk.frozen hp4 2
                  clear hbd hp4 hb r7 hfin hap HKpe HK4e HB3
                  simp only [puts,List.take_succ_cons,List.take_zero,List.drop_succ_cons,List.drop_zero,List.map_cons,List.map_nil,List.zip_cons_cons,List.zip_nil_right,List.foldl_cons,List.foldl_nil]
                  go_wp2_with fail
                  go_roundw
                  case rel=>exact ⟨i+1,by have:=Hlt.out;omega,by go_num,HBD⟩
                  case measure=>have:=Hlt.out;simp [intOf];omega
          · obtain rfl:i=nn:=by omega
            have t0:decide ((i:Int)<(i:Int))=false:=by simp
            have t0b:decide (i<i)=false:=by simp
            have hgw:=HGW.out
            have hds:=HDS.out
            have K2r:=Bx.mk (show Bk wr w.heap.size #[.pointer none] 54 from K2X.out.chg HB.out.chg fun h=>by have:=K2X.out.lt;omega)
            have K3r:=Bx.mk (show Bk wr (w.heap.size+1) #[.int .i64 0] 36 from K3X.out.chg HB.out.chg fun h=>by have:=K3X.out.lt;omega)
            have HDr:=Bx.mk (show wr.heap[D]? = some (.deferred (some [])) from (HB.out.chg.block D hds.2 fun h=>by omega).trans HDX2.out)
            have z4:=K4r.out.cell 0 rfl
            have z2:=K2r.out.cell 0 rfl
            have f2:=K2r.out.frozen 0
            have k3':=K3r.out.other ⟨w.heap.size,0,none⟩ (.pointer (some ⟨w.heap.size+1+1,0,none⟩)) (by simp only;omega)
            have z3:=k3'.cell 0 rfl
            have f3:=k3'.frozen 0
            clear k3'
            go_wp2_with fail
            have hY2:Bk ((wr.setCell ⟨w.heap.size,0,none⟩ (.pointer (some ⟨w.heap.size+1+1,0,none⟩))).setCell ⟨w.heap.size+1,0,none⟩ (.int .i64 0)) w.heap.size #[.pointer (some ⟨w.heap.size+1+1,0,none⟩)] 54:=(show Bk (wr.setCell ⟨w.heap.size,0,none⟩ (.pointer (some ⟨w.heap.size+1+1,0,none⟩))) w.heap.size #[.pointer (some ⟨w.heap.size+1+1,0,none⟩)] 54 by simpa using K2r.out.set 0 (.pointer (some ⟨w.heap.size+1+1,0,none⟩))).other _ _ (by simp only;omega)
            have hY3:Bk ((wr.setCell ⟨w.heap.size,0,none⟩ (.pointer (some ⟨w.heap.size+1+1,0,none⟩))).setCell ⟨w.heap.size+1,0,none⟩ (.int .i64 0)) (w.heap.size+1) #[.int .i64 0] 36:=by simpa using (K3r.out.other ⟨w.heap.size,0,none⟩ (.pointer (some ⟨w.heap.size+1+1,0,none⟩)) (by simp only;omega)).set 0 (.int .i64 0)
            have hYc:Chg (fun k=>k=w.heap.size∨k=w.heap.size+1) wr ((wr.setCell ⟨w.heap.size,0,none⟩ (.pointer (some ⟨w.heap.size+1+1,0,none⟩))).setCell ⟨w.heap.size+1,0,none⟩ (.int .i64 0)):=((Chg.refl _ _).setCell (.inl (.inl rfl)) _).setCell (.inl (.inr rfl)) _
            generalize World.setCell (World.setCell wr _ _) _ _=Y at *
            have hDY:Y.heap[D]? = some (.deferred (some [])):=(hYc.block D (Array.getElem?_eq_some_iff.1 HDr.out).1 fun h=>by omega).trans HDr.out
            refine ⟨by simp,.inl ⟨_,_,rfl,run_takeDeferred hDY,?_⟩⟩
            have y2:=(hY2.putObj (l:=D) (by omega) (.deferred none)).cell 0 rfl
            have y3:=(hY3.putObj (l:=D) (by omega) (.deferred none)).cell 0 rfl
            refine ⟨.tuple #[.pointer (some ⟨w.heap.size+1+1,0,none⟩),.int .i64 0],by simp [results,Tryd.results24,go_sem,y2,y3],?_⟩
            show OpPost dp g mb cap m d w _ _
            unfold OpPost
            rw [←HIM.out,HRR.out]
            obtain ⟨bv,hps,hbo⟩:=HB.out.kp
            have hlt3:=Hlt3.out
            have hXs:=HCX.out.size
            have hin : ∀ j,w.heap.size≤j → ¬In3 dp g mb j:=fun j hj h3=>by rcases h3 with rfl | rfl | rfl <;> omega
            have hall:Chg (fun k=>(w.heap.size≤k∧k<w.heap.size+3)∨X.heap.size≤k∨k=D) X (Y.putObj D (.deferred none)) :=
             ((HB.out.chg.mono (T:=fun k=>(w.heap.size≤k∧k<w.heap.size+3)∨X.heap.size≤k∨k=D) fun k _ h=>by rcases h with h | h <;> omega).trans (hYc.mono (T:=fun k=>(w.heap.size≤k∧k<w.heap.size+3)∨X.heap.size≤k∨k=D) fun k _ h=>by rcases h with h | h <;> omega) fun _ _ h=>h).putObj (.inr (.inr (.inr rfl))) _
            refine ⟨HDX.out.chg hall fun k h3 h=>?_,⟨hall.os.trans HCX.out.os,hall.tape.trans HCX.out.tape,hall.output.trans HCX.out.output,Nat.le_trans HCX.out.size hall.size,fun k hk hn=>(hall.block k (by omega) fun h=>by omega).trans (HCX.out.block k hk hn)⟩,.inr ⟨rfl,w.heap.size+1+1,bv,rfl,by omega,?_,?_⟩⟩
            · have : ¬w.heap.size≤k:=fun hj=>hin k hj h3
              omega
            · rw [←HMX.out]
              exact Bk.putObj ((hYc.block _ (Bk.lt hps) fun h=>by omega).trans hps) (by omega) _
            · have hbl : ∀ g,bv.ownBlock=some g→X.heap.size≤g:=fun g hg=>(hbo.lt g hg).1
              have h1:Ownv Y X.heap.size 3 bv ((ints64 (badP jm i)).map (Value.int .i64)):=by
               refine ⟨hbo.1,?_⟩
               rcases hbo.2 with h | ⟨g',cap',cur,rfl,a1,a2,a3⟩
               · exact .inl h
               · exact .inr ⟨g',cap',cur,rfl,a1,(hYc.block g' (Array.getElem?_eq_some_iff.1 a2).1 fun h=>by have:=hbl g' rfl;omega).trans a2,a3⟩
              have h2:Ownv (Y.putObj D (.deferred none)) X.heap.size 3 bv ((ints64 (badP jm i)).map (Value.int .i64)):=Ownv.grown h1 (grownBy_putObj' Y D _) (by
               cases hx:bv.ownBlock with
               | none=>exact .inl rfl
               | some g =>
                 refine .inr fun e=>?_
                 injection e with e
                 have:=hbl g hx
                 omega)
              have h3:=h2.base hXs
              rw [←HJM.out,show d.p.length - 17=i by have:=Hn.out;have:=HNN.out;omega]
              unfold Own
              have hll:(ints64 (badP jm i)).length=((ints64 (badP jm i)).map (Value.int .i64)).length:=by rw [List.length_map]
              rw [hll]
              exact h3
       · have n1:(er != 0)=true:=by simpa using h0
         have n2:(er == 0)=false:=by simpa using h0
         have HE:=Bx.mk h0
         clear h0
         have hin : ∀ j,w.heap.size≤j → ¬In3 dp g mb j:=fun j hj h3=>by have:=Hlt3.out;rcases h3 with rfl | rfl | rfl <;> omega
         have hq : ∀ j,w.heap.size≤j→j<W.heap.size→j ≠ gi→X.heap[j]? = W.heap[j]? := fun j h0 hj hn=>(HLX.out j (Nat.lt_of_lt_of_le hj HB1.out.size) hn (hin j h0)).trans (HB1.out.block j hj)
         have hgi1:=HGI.out
         have hsz0:=HSZ.out
         have hszW:=HI2.out.chg.size
         have hk : ∀ j,w.heap.size≤j→j<W0.heap.size→j ≠ w.heap.size+1+1→j ≠ w.heap.size+1+1+1+1→X.heap[j]? = W0.heap[j]? := fun j h0 hj h2 h5=>(hq j h0 (by omega) (by omega)).trans (HI2.out.chg.block j hj fun h=>by rcases h with h | h | h <;> omega)
         have K2X:=Bx.mk (show Bk X w.heap.size #[.pointer none] 54 from (hk _ (by omega) (by omega) (by omega) (by omega)).trans K2.out)
         have K3X:=Bx.mk (show Bk X (w.heap.size+1) #[.int .i64 0] 36 from (hk _ (by omega) (by omega) (by omega) (by omega)).trans K3.out)
         have K4X:=Bx.mk (show Bk X (w.heap.size+1+1+1) #[.pointer (some ⟨w.heap.size+1+1,0,none⟩)] 54 from (hk _ (by omega) (by omega) (by omega) (by omega)).trans K4.out)
         have K5X:=Bx.mk (show Bk X (w.heap.size+1+1+1+1) #[.slice (some ⟨gi,0,none⟩) n ci] 30 from (hq _ (by omega) (by omega) (by omega)).trans HV.out)
         have KPX:=Bx.mk (show PS X (w.heap.size+1+1) dp (mxP im) (.slice none 0 0) false from (hq _ (by omega) (by omega) (by omega)).trans HI2.out.kp)
         have hDW:=(Array.getElem?_eq_some_iff.1 HKD.out).1
         have hDgi:D ≠ gi:=fun e=>by
          have h1:=HKD.out
          rw [e] at h1
          rcases HOWN.out.2 with ⟨h,_⟩ | ⟨g',cap',cur,h,_,h4,_⟩
          · cases h
          · injection h with h _ _
            injection h with h
            injection h with h
            subst h
            rw [h1] at h4
            cases h4
         have HDX2:=Bx.mk (show X.heap[D]? = some (.deferred (some [])) from (hq D (by have:=HDD.out;omega) hDW hDgi).trans HKD.out)
         have HDS:Bx (w.heap.size+6≤D∧D<X.heap.size):=⟨by have:=HDD.out;omega,by have:=HSX.out;have:=HB1.out.size;omega⟩
         have HGW:Bx (gi<X.heap.size∧w.heap.size+6≤gi):=⟨by have:=HSX.out;have:=HB1.out.size;have:=HGL.out;omega,by omega⟩
         have c5:=K5X.out.cell 0 rfl
         have s0:(0:Int)≤17:=by omega
         have s1:(17:Int)≤(n:Int):=by omega
         have s2:(n:Int)≤(ci:Int):=by omega
         have s3 : ¬(ci:Int)=17:=by omega
         have HCI:=Bx.mk hnci
         clear hin hq hgi1 hsz0 hszW hk hDW hDgi HI2 HV HOWN HKD HGI HGL HLX K2 K3 K4 HB1 HC5 HT53 HDD HBW HBR HB0 HSZ
         clear c5 s0 s1 s2 s3
         have K2r:=K2X
         have K3r:=K3X
         have z2:=K2r.out.cell 0 rfl
         have f2:=K2r.out.frozen 0
         have k3':=K3r.out.other ⟨w.heap.size,0,none⟩ (.pointer none) (by simp only;omega)
         have z3:=k3'.cell 0 rfl
         have f3:=k3'.frozen 0
         clear k3'
         have hds:=HDS.out
         go_wp2_with fail
         have hY2:Bk ((X.setCell ⟨w.heap.size,0,none⟩ (.pointer none)).setCell ⟨w.heap.size+1,0,none⟩ (.int .i64 er)) w.heap.size #[.pointer none] 54:=(show Bk (X.setCell ⟨w.heap.size,0,none⟩ (.pointer none)) w.heap.size #[.pointer none] 54 by simpa using K2r.out.set 0 (.pointer none)).other _ _ (by simp only;omega)
         have hY3:Bk ((X.setCell ⟨w.heap.size,0,none⟩ (.pointer none)).setCell ⟨w.heap.size+1,0,none⟩ (.int .i64 er)) (w.heap.size+1) #[.int .i64 er] 36:=by simpa using (K3r.out.other ⟨w.heap.size,0,none⟩ (.pointer none) (by simp only;omega)).set 0 (.int .i64 er)
         have hYc:Chg (fun k=>k=w.heap.size∨k=w.heap.size+1) X ((X.setCell ⟨w.heap.size,0,none⟩ (.pointer none)).setCell ⟨w.heap.size+1,0,none⟩ (.int .i64 er)):=((Chg.refl _ _).setCell (.inl (.inl rfl)) _).setCell (.inl (.inr rfl)) _
         generalize World.setCell (World.setCell X _ _) _ _=Y at *
         have hDY:Y.heap[D]? = some (.deferred (some [])):=(hYc.block D hds.2 fun h=>by omega).trans HDX2.out
         refine ⟨by simp,.inl ⟨_,_,rfl,run_takeDeferred hDY,?_⟩⟩
         have y2:=(hY2.putObj (l:=D) (by omega) (.deferred none)).cell 0 rfl
         have y3:=(hY3.putObj (l:=D) (by omega) (.deferred none)).cell 0 rfl
         refine ⟨.tuple #[.pointer none,.int .i64 er],by simp [results,Tryd.results24,go_sem,y2,y3],?_⟩
         show OpPost dp g mb cap m d w _ _
         unfold OpPost
         rw [←HIM.out,HRR.out]
         have hlt3:=Hlt3.out
         have hXs:=HCX.out.size
         have hall:Chg (fun k=>(w.heap.size≤k∧k<w.heap.size+3)∨k=D) X (Y.putObj D (.deferred none)):=(hYc.mono (T:=fun k=>(w.heap.size≤k∧k<w.heap.size+3)∨k=D) fun k _ h=>by rcases h with h | h <;> omega).putObj (.inr (.inr rfl)) _
         refine ⟨HDX.out.chg hall fun k h3 h=>?_,⟨hall.os.trans HCX.out.os,hall.tape.trans HCX.out.tape,hall.output.trans HCX.out.output,Nat.le_trans HCX.out.size hall.size,fun k hk hn=>(hall.block k (by omega) fun h=>by omega).trans (HCX.out.block k hk hn)⟩,.inl ⟨HE.out,rfl⟩⟩
         rcases h3 with rfl | rfl | rfl <;> omega
 case stop =>
  rintro D cc pre W _ _ h _
  exact h.elim
end Go.Proofs.YtajhkncolbgkbaaDoor
end
