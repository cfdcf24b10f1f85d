/- Pwr: joined by program, for one claim. -/
import Derived.Test.YtajhkncolbgkbaaDoorM9
import Derived.Test.YtajhkncolbgkbaaDoorM10
set_option linter.unusedVariables false
set_option linter.unusedSimpArgs false
section
namespace Go.Proofs.YtajhkncolbgkbaaDoor
open Go.RowKit Go.Sort Go.Maps
def logOps (t:Nat) (L:List (Nat × List Int)) (k:Nat):List DOp:=(L.take k).mapIdx fun j x=>DOp.w (1+j) (sealP t x.2)
def datOps (t:Nat) (L:List (Nat × List Int)) (k:Nat):List DOp:=(L.take k).map fun x=>DOp.w (17+x.1) (sealP t x.2)
def pgsOf (L:List (Nat × List Int)) (k:Nat):List Nat:=(L.take k).map (·.1)
theorem take_succ_of {α:Type} {L:List α} {k:Nat} {x:α} (h:L[k]? = some x):L.take (k+1)=L.take k++[x]:=by
 have hk:=(List.getElem?_eq_some_iff.1 h).1
 rw [List.take_succ_eq_append_getElem hk]
 rw [List.getElem?_eq_getElem hk] at h
 rw [Option.some.inj h]
theorem logOps_succ {t:Nat} {L:List (Nat × List Int)} {k:Nat} {x:Nat × List Int} (h:L[k]? = some x):logOps t L k++[.w (1+k) (sealP t x.2)]=logOps t L (k+1):=by
 unfold logOps
 rw [take_succ_of h,List.mapIdx_append]
 have:(L.take k).length=k:=by rw [List.length_take];have:=(List.getElem?_eq_some_iff.1 h).1;omega
 simp [this]
theorem datOps_succ {t:Nat} {L:List (Nat × List Int)} {k:Nat} {x:Nat × List Int} (h:L[k]? = some x):datOps t L k++[.w (17+x.1) (sealP t x.2)]=datOps t L (k+1):=by
 unfold datOps;rw [take_succ_of h];simp
theorem pgsOf_succ {L:List (Nat × List Int)} {k:Nat} {x:Nat × List Int} (h:L[k]? = some x):pgsOf L k++[x.1]=pgsOf L (k+1):=by
 unfold pgsOf;rw [take_succ_of h];simp
theorem logOps_len (t:Nat) (L:List (Nat × List Int)) (k:Nat):(logOps t L k).length≤L.length:=by unfold logOps;simp;omega
theorem datOps_len (t:Nat) (L:List (Nat × List Int)) (k:Nat):(datOps t L k).length≤L.length:=by unfold datOps;simp;omega
theorem pgsOf_len (L:List (Nat × List Int)) (k:Nat):(pgsOf L k).length≤L.length:=by unfold pgsOf;simp;omega
theorem chk_ok {n N:Nat} {L:List (Nat × List Int)} (h:BatchOk n L) (hN:N<1073741824):chkV false N ((n:Int) - 17) (L.map fun x=>((x.1:Int),x.2))=0:=by
 have h1:=h.one
 have h2:=h.few
 unfold chkV
 rw [if_neg (by decide),List.length_map,if_neg (by omega),if_neg (by omega)]
 refine okV_yes fun i x _ hx=>?_
 rw [List.getElem?_map,Option.map_eq_some_iff] at hx
 obtain ⟨y,hy,rfl⟩:=hx
 have hm:=List.mem_of_getElem? hy
 have h3:=h.low y hm
 refine ⟨by simp only;omega,by simp only;omega,(h.data y hm).1,fun hi z hz=>?_⟩
 rw [List.getElem?_map,Option.map_eq_some_iff] at hz
 obtain ⟨u,hu,rfl⟩:=hz
 have hs:=h.sorted
 rw [List.pairwise_iff_getElem] at hs
 have hil:=(List.getElem?_eq_some_iff.1 hy).1
 have:=hs (i - 1) i (by rw [List.length_map];omega) (by rw [List.length_map];omega) (by omega)
 rw [List.getElem_map,List.getElem_map] at this
 rw [List.getElem?_eq_getElem hil] at hy
 rw [List.getElem?_eq_getElem (by omega)] at hu
 rw [Option.some.inj hy,Option.some.inj hu] at this
 simp only;omega
theorem steps_parts (t:Nat) (L:List (Nat × List Int)):(logOps t L L.length++[DOp.w 0 (sealP t (recP (pgsOf L L.length))),.f])++datOps t L L.length++[.f]=stepsP t L:=by
 unfold logOps datOps pgsOf stepsP
 rw [List.take_length]
 simp
def WrPost (pp dp N g mb cap m:Nat) (bv:Value) (w:World) (r:Dk × Int) (e:Ending) (w':World):Prop :=
 e = .returned (.int .i64 r.2)∧PS w' pp dp (if r.2=0 then N+1 else N) bv (decide (r.2 ≠ 0))∧DkIs w' dp g mb cap (m+40) r.1∧Chg (fun k=>k=pp∨In3 dp g mb k) w w'
theorem of_one {A:Nat→Prop} {dp:Nat} {W:World} {v:Value} {o:DOp} (h:StepV A dp W v o):StepsV A dp W [v] [o]:=(StepsV.nil A dp W).snoc h
set_option maxRecDepth 100000 in
set_option maxHeartbeats 4000000 in
theorem pwrite_ok (w:World) (pp dp N g mb cap m:Nat) (bv:Value) (d:Dk) (hp:PS w pp dp N bv false) (h:DkIs w dp g mb cap m d) (hne : ¬In3 dp g mb pp) (hm:m+40<1000000) (hN:N<1073741824) (a:Option Addr) (c:Nat) (L:List (Nat × List Int)) (hL:BatchOk d.p.length L) (hs:SlP w a (L.map fun x=>((x.1:Int),x.2))) :
 Calls Tryd.prog 25 #[.pointer (some ⟨pp,0,none⟩),.slice a L.length c] w (WrPost pp dp N g mb cap m bv w (d.run (stepsP (N+1) L))):=by
 have hln0:(L.map fun x=>((x.1:Int),x.2)).length=L.length:=List.length_map _
 have hfew:=hL.few
 have hone:=hL.one
 have hbig:=h.ok.few
 have hck:=Bx.mk (pcheck_any w pp dp N g mb cap m bv false d hp h a c (L.map fun x=>((x.1:Int),x.2)) (by rw [hln0];omega) hs (fun x hx=>by
  obtain ⟨y,hy,rfl⟩:=List.mem_map.1 hx
  have:=hL.low y hy
  have:=(hL.data y hy).1
  simp only;omega))
 rw [chk_ok hL hN,hln0] at hck
 have HP:=Bx.mk fun W (hb:Below w.heap.size w W)=>hp.later hb
 have HD:=Bx.mk h
 have HNE:=Bx.mk hne
 have HM:=Bx.mk hm
 have HSl:=Bx.mk hs
 have HL:=Bx.mk hL
 have HN:=Bx.mk hN
 obtain ⟨T,hT⟩ : ∃ T,T=N+1:=⟨_,rfl⟩
 have e1:IntKind.i64.wrap ((N:Int)+1)=(T:Int):=by rw [IntWalk.i64_in _ (by omega)];omega
 have HT1:=Bx.mk (show 1≤T∧T≤1073741824 by omega)
 have HTe:=Bx.mk hT
 obtain ⟨n,hn⟩ : ∃ n,n=L.length:=⟨_,rfl⟩
 rw [←hn] at hck hfew hone ⊢
 have Hn:=Bx.mk hn
 have Hone:=Bx.mk hone
 have Hbig:=Bx.mk hbig
 clear hln0 hs hL hN hp h hn hT hone hbig hne hm
 go_enter Tryd.func25,Tryd.ntmps25
 go_wp2_with fail
 refine hck.out.mono ?_
 rintro _ w1 ⟨rfl,hb1⟩
 have c1:=(HP.out w1 hb1).cell 1 rfl
 have HB1:=Bx.mk hb1
 clear hb1 hck
 go_wp2_with fail
 clear c1 e1
 go_loopw [7,8,9,27] (fun v7 v8 v9 v27 wr => ∃ (k:Nat) (q7 q8 q9:Value),k≤n∧v27 = .int .i64 k∧q7=v7∧q8=v8∧q9=v9∧Bx (WrI w1 dp q7 q8 q9 (logOps T L k) (datOps T L k) (pgsOf L k) wr)) (fun _ _ _ i _=>n - (intOf i).toNat)
 case atStart=>exact ⟨0,_,_,_,Nat.zero_le _,rfl,rfl,rfl,rfl,⟨show WrI w1 dp _ _ _ [] [] [] w1 from WrI.start w1 dp⟩⟩
 case round =>
  obtain ⟨k,q7,q8,q9,hk,rfl,rfl,rfl,rfl,HI⟩:=hrel
  by_cases hlt:k<n
  · have t0:decide ((k:Int)<(n:Int))=true:=by simp;omega
    obtain ⟨x,hx⟩ : ∃ x,L[k]? = some x:=⟨_,List.getElem?_eq_getElem (by rw [←Hn.out];exact hlt)⟩
    obtain ⟨b,off,rfl,hc1,hc2⟩:=HSl.out k ((x.1:Int),x.2) (by rw [List.getElem?_map,hx];rfl)
    have hB:=HB1.out.trans (HI.out.bel.mono HB1.out.size)
    have z0:=cell_later hB hc1
    have z1:=cell_later hB hc2
    have hB:=Bx.mk hB
    have hmem:=List.mem_of_getElem? hx
    have hlow:=HL.out.low x hmem
    have hdat:=HL.out.data x hmem
    have HX:=Bx.mk hx
    have Hlt:=Bx.mk hlt
    have b1:(0:Int)≤(k:Int):=by omega
    have b2:(k:Int)<(n:Int):=by omega
    obtain ⟨xp,xt⟩:=x
    simp only at z0 z1 hlow hdat
    have hbig:=Hbig.out
    obtain ⟨i1,hi1⟩ : ∃ i1:Nat,i1=1+k:=⟨_,rfl⟩
    have e1:IntKind.i64.wrap (1+(k:Int))=(i1:Int):=by rw [IntWalk.i64_in _ (by omega)];omega
    obtain ⟨i17,hi17⟩ : ∃ i17:Nat,i17=17+xp:=⟨_,rfl⟩
    have e17:IntKind.i64.wrap (17+(xp:Int))=(i17:Int):=by rw [IntWalk.i64_in _ (by omega)];omega
    have Hi1:=Bx.mk hi1
    have Hi17:=Bx.mk hi17
    have hsl:Bx (∀ W,Calls Tryd.prog 46 #[.int .i64 (T:Int),.string (strOfNums xt)] W fun e w'=>e = .returned (.string (strOfNums (sealP T xt)))∧Below W.heap.size W w'):=⟨fun W=>by
     have:=seal_any (T:Int) xt hdat.2 (by omega) W
     have hv:sealV (T:Int) xt=sealP T xt:=by unfold sealV;have:=HT1.out;rw [if_pos ⟨by omega,by omega,hdat.1⟩];rfl
     rwa [hv] at this⟩
    have hs128:(sealP T xt).length=128∧Byts (sealP T xt):=⟨seal_len hdat.1,byts_seal hdat.2⟩
    have hp1:=Bx.mk fun W0 W (hw:W0.heap.size≤W.heap.size)=>put_R W0 dp i1 (sealP T xt) hs128 W hw
    have hp2:=Bx.mk fun W0 W (hw:W0.heap.size≤W.heap.size)=>put_R W0 dp i17 (sealP T xt) hs128 W hw
    have hsz:(strOfNums xt).size=116:=by rw [strOfNums_size];exact hdat.1
    generalize strOfNums xt=X at *
    generalize hS:strOfNums (sealP T xt)=S at *
    clear hx hc1 hc2 hlt hmem hlow hdat hbig hs128 hi1 hi17 hsz hS
    go_upto_region 10 with fail
    clear z0 z1 t0
    generalize hW:World.alloc wr _=W
    have hbW:=bl1 hW
    have KX:Bk W wr.heap.size #[.int .i64 (xp:Int),.string X] 93:=bk0 hW rfl
    have HI2:=Bx.mk (HI.out.later hbW)
    have hxb:wr.heap.size<W.heap.size:=by rw [←hW];simp
    have hb0:=HI.out.lt
    have HX8:Bx (q8.ownBlock ≠ some wr.heap.size):=⟨fun e=>absurd (hb0.2.1 _ e) (Nat.lt_irrefl _)⟩
    have HX7:Bx (q7.ownBlock ≠ some wr.heap.size):=⟨fun e=>absurd (hb0.1 _ e) (Nat.lt_irrefl _)⟩
    clear hW hbW hb0 HI hB
    obtain ⟨xb,hxbe⟩ : ∃ xb,xb=wr.heap.size:=⟨_,rfl⟩
    rw [←hxbe] at KX hxb HX7 HX8 ⊢
    clear hxbe
    have x1:=KX.cell 1 rfl
    have HKX:=Bx.mk KX
    clear KX
    go_wp2_with fail
    refine (hsl.out _).mono ?_
    rintro _ w3 ⟨rfl,hb3⟩
    have HI3:=Bx.mk (HI2.out.later hb3)
    have HKX3:=Bx.mk (HKX.out.later hb3)
    have d0:=(HP.out w3 (HB1.out.trans (HI3.out.bel.mono HB1.out.size))).cell 0 rfl
    have hput:=Bx.mk (hp1.out w3 w3 (Nat.le_refl _))
    clear hb3 hsl HI2 HKX x1 hp1
    go_wp2_with fail
    refine hput.out.mono ?_
    rintro _ w4 ⟨v,rfl,hb4,-,hst⟩
    obtain ⟨hst0,pa,pb,pc,hA,rfl,k1,k2,k3⟩:=hst
    have hst:StepV (Fr w3 w4) dp w4 (putV pa pb pc) (.w i1 (sealP T xt)):=⟨hst0,pa,pb,pc,hA,rfl,k1,k2,k3⟩
    have hb5:Below w3.heap.size w3 (w4.alloc (.cells #[putV pa pb pc] 89)):=hb4.alloc hb4.size _
    obtain ⟨lv,hown,hln,hle,hpost⟩:=HI3.out.log hb5 (of_one (hst.keep (A':=Fr w3 (w4.alloc (.cells #[putV pa pb pc] 89))) (fun x hx=>⟨hx.1,by have:=hx.2;simp;omega⟩) fun x hx hl=>heap_alloc_old w4 _ hl))
    have hln:lv.length≤1000000000:=by have:=logOps_len T L k;have:=Hn.out;omega
    have HK4:=Bx.mk (HKX3.out.later hb5)
    replace hpost:=Bx.mk hpost
    clear hb4 hst hst0 hA k1 k2 k3 hput HI3 d0 HKX3 hb5
    go_wp2_with (first
     | (at_builtin
        refine wpList_append_val rfl _ _ 87 rfl 89 .nilFunc 8 (by omega) Tryd.underlying87 (by kernel_rfl) rfl w1.heap.size _ lv rfl hown (putV pa pb pc) rfl ⟨w4.heap.size,0,none⟩ 1 rfl (cell_new _ _ _) hln hle ?_
        intro q7' w5 g1 g2 g3))
    have HI5:=Bx.mk (hpost.out q7' w5 g1 g2 g3)
    have HK5:Bx (Bk w5 xb #[.int .i64 (xp:Int),.string X] 93):=⟨(g2.block _ HK4.out.lt fun e=>HX7.out e.symm).trans HK4.out⟩
    clear hpost g1 g2 g3 hown hln hle HK4 HX7
    have HPd:Bx (∀ W,Below w5.heap.size w5 W→W.cell? ⟨pp,0,none⟩=some (.pointer (some ⟨dp,0,none⟩))):=⟨fun W hb=>(HP.out W (HB1.out.trans ((HI5.out.bel.trans (hb.mono HI5.out.bel.size)).mono HB1.out.size))).cell 0 rfl⟩
    go_upto_region 12 with fail
    refine wp_region_relT 11 (fun ii v w'=>match ii with
     | 0=>v=q8
     | 1=>v = .pointer (some ⟨pp,0,none⟩)
     | 2=>v = .pointer (some ⟨pp,0,none⟩)
     | 3=>v = .pointer (some ⟨pp,0,none⟩)
     | 4=>v = .pointer (some ⟨dp,0,none⟩)
     | 5=>v = .pointer (some ⟨xb,0,none⟩)
     | 6=>v = .int .i64 (xp:Int)
     | 7=>v = .int .i64 (i17:Int)
     | 8=>v = .string S
     | 9=>PutR w5 dp i17 (sealP T xt) v w'
     | _=>OneR w5 dp i17 (sealP T xt) v w') (by kernel_rfl) (by kernel_rfl) 103 (by kernel_rfl) (by rfl) ?_ ?_ ?_
    · intro ii hi v u1 u2 hb h
      match ii,hi with
      | 0,_=>exact h
      | 1,_=>exact h
      | 2,_=>exact h
      | 3,_=>exact h
      | 4,_=>exact h
      | 5,_=>exact h
      | 6,_=>exact h
      | 7,_=>exact h
      | 8,_=>exact h
      | 9,_=>exact h.later hb
      | 10,_=>exact h.later hb
    · intro ii o hi ho ρ wx hb hc1 hc2 hc3 hk
      match ii,hi with
      | 0, _ =>
        obtain rfl:=Option.some.inj ho
        have g0:ρ (.tmp 8)=q8:=hk 8 (by simp [Op.operands,Call.operands])
        clear hk hb HI5 hp2 HSl HL HP HB1  HPd HK5
        go_simp
        exact Below.refl _ _
      | 1, _ =>
        obtain rfl:=Option.some.inj ho
        have g0:ρ (.tmp 0) = .pointer (some ⟨pp,0,none⟩):=hk 0 (by simp [Op.operands,Call.operands])
        clear hk hb HI5 hp2 HSl HL HP HB1  HPd HK5
        go_simp
        exact Below.refl _ _
      | 2, _ =>
        obtain rfl:=Option.some.inj ho
        have g0:ρ (.tmp 48) = .pointer (some ⟨pp,0,none⟩):=hk 48 (by simp [Op.operands,Call.operands])
        clear hk hb HI5 hp2 HSl HL HP HB1  HPd HK5
        go_simp
        exact Below.refl _ _
      | 3, _ =>
        obtain rfl:=Option.some.inj ho
        have g0:ρ (.tmp 49) = .pointer (some ⟨pp,0,none⟩):=hk 49 (by simp [Op.operands,Call.operands])
        clear hk hb HI5 hp2 HSl HL HP HB1  HPd HK5
        go_simp
        exact Below.refl _ _
      | 4, _ =>
        obtain rfl:=Option.some.inj ho
        have g0:ρ (.tmp 50) = .pointer (some ⟨pp,0,none⟩):=hk 50 (by simp [Op.operands,Call.operands])
        have z0:=HPd.out wx hb
        clear hk hb HI5 hp2 HSl HL HP HB1  HPd HK5
        go_simp
        exact Below.refl _ _
      | 5, _ =>
        obtain rfl:=Option.some.inj ho
        have g0:ρ (.tmp 11) = .pointer (some ⟨xb,0,none⟩):=hk 11 (by simp [Op.operands,Call.operands])
        clear hk hb HI5 hp2 HSl HL HP HB1  HPd HK5
        go_simp
        exact Below.refl _ _
      | 6, _ =>
        obtain rfl:=Option.some.inj ho
        have g0:ρ (.tmp 52) = .pointer (some ⟨xb,0,none⟩):=hk 52 (by simp [Op.operands,Call.operands])
        have k1:=HK5.out.later hb
        have z0:=k1.cell 0 rfl
        clear hk hb HI5 hp2 HSl HL HP HB1  HPd HK5
        go_simp
        exact Below.refl _ _
      | 7, _ =>
        obtain rfl:=Option.some.inj ho
        have g0:ρ (.tmp 53) = .int .i64 (xp:Int):=hk 53 (by simp [Op.operands,Call.operands])
        clear hk hb HI5 hp2 HSl HL HP HB1  HPd HK5
        go_simp
        exact Below.refl _ _
      | 8, _ =>
        obtain rfl:=Option.some.inj ho
        have g0:ρ (.tmp 12) = .string S:=hk 12 (by simp [Op.operands,Call.operands])
        clear hk hb HI5 hp2 HSl HL HP HB1  HPd HK5
        go_simp
        exact Below.refl _ _
      | 9, _ =>
        obtain rfl:=Option.some.inj ho
        have g0:ρ (.tmp 51) = .pointer (some ⟨dp,0,none⟩):=hk 51 (by simp [Op.operands,Call.operands])
        have g1:ρ (.tmp 54) = .int .i64 (i17:Int):=hk 54 (by simp [Op.operands,Call.operands])
        have g2:ρ (.tmp 55) = .string S:=hk 55 (by simp [Op.operands,Call.operands])
        have h4:=hp2.out w5 wx hb.size
        have H4:=Bx.mk h4
        clear h4
        clear hk hb HI5 hp2 HSl HL HP HB1  HPd HK5
        go_simp
        all_goals exact H4.out
      | 10, _ =>
        obtain rfl:=Option.some.inj ho
        have gp:PutR w5 dp i17 (sealP T xt) (ρ (.tmp 56)) wx:=hk 56 (by simp [Op.operands,Call.operands])
        have gp2:=gp
        obtain ⟨-,-,pa,pb,pc,-,g0,-⟩:=gp2
        rw [g0] at gp
        have Hn:Bx (OneR w5 dp i17 (sealP T xt) (.slice (some ⟨wx.heap.size,0,none⟩) 1 1) (wx.alloc (.cells #[putV pa pb pc] 89))):=⟨_,_,rfl,cell_new _ _ _,rfl,gp.later ((Below.refl _ _).alloc (Nat.le_refl _) _)⟩
        clear gp
        clear hk hb HI5 hp2 HSl HL HP HB1  HPd HK5
        go_simp
        exact ⟨(Below.refl _ _).alloc (Nat.le_refl _) _,Hn.out⟩
    · intro vs w6 hlen hb hR
      match vs,hlen with
      | [v0, v1, v2, v3, v4, v5, v6, v7, v8, v9, v10], _ =>
        have r0:v0=q8:=hR 0 v0 rfl
        have r1:v1 = .pointer (some ⟨pp,0,none⟩):=hR 1 v1 rfl
        have r2:v2 = .pointer (some ⟨pp,0,none⟩):=hR 2 v2 rfl
        have r3:v3 = .pointer (some ⟨pp,0,none⟩):=hR 3 v3 rfl
        have r4:v4 = .pointer (some ⟨dp,0,none⟩):=hR 4 v4 rfl
        have r5:v5 = .pointer (some ⟨xb,0,none⟩):=hR 5 v5 rfl
        have r6:v6 = .int .i64 (xp:Int):=hR 6 v6 rfl
        have r7:v7 = .int .i64 (i17:Int):=hR 7 v7 rfl
        have r8:v8 = .string S:=hR 8 v8 rfl
        have r10:OneR w5 dp i17 (sealP T xt) v10 w6:=hR 10 v10 rfl
        clear hR
        subst r0 r1 r2 r3 r4 r5 r6 r7 r8
        obtain ⟨hh,u,rfl,hcell,hone,hP⟩:=r10
        obtain ⟨dv,hown,hln,hle,hpost⟩:=HI5.out.data hb (of_one hP.2)
        have hln:dv.length≤1000000000:=by have:=datOps_len T L k;have:=HL.out.few;omega
        have HK6:=Bx.mk (HK5.out.later hb)
        replace hpost:=Bx.mk hpost
        clear hP hb HI5 HK5 HPd hp2
        simp only [puts,List.take_succ_cons,List.take_zero,List.drop_succ_cons,List.drop_zero,List.map_cons,List.map_nil,List.zip_cons_cons,List.zip_nil_right,List.foldl_cons,List.foldl_nil]
        simp only [Act.put,List.setIfInBounds_toArray,List.set_cons_succ,List.set_cons_zero]
        at_builtin
        refine wpList_append_val rfl _ _ 87 rfl 89 .nilFunc 8 (by omega) Tryd.underlying87 (by kernel_rfl) rfl w1.heap.size _ dv rfl hown u hone ⟨hh,0,none⟩ 1 rfl hcell hln hle ?_
        intro q8' w7 g1 g2 g3
        have HI7:=Bx.mk (hpost.out q8' w7 g1 g2 g3)
        have HK7:Bx (Bk w7 xb #[.int .i64 (xp:Int),.string X] 93):=⟨(g2.block _ HK6.out.lt fun e=>HX8.out e.symm).trans HK6.out⟩
        have x0:=HK7.out.cell 0 rfl
        clear hpost g1 g2 g3 hown hln hle HK6 HX8 hcell hone HK7
        obtain ⟨hown,hle,hpost⟩:=HI7.out.page (W3:=w7.alloc (.cells #[.int .i64 (xp:Int)] 3)) ((Below.refl _ _).alloc (Nat.le_refl _) _) xp
        have hln:(ints64 (pgsOf L k)).length≤1000000000:=by rw [ints64_len];have:=pgsOf_len L k;have:=HL.out.few;omega
        replace hpost:=Bx.mk hpost
        go_wp2_with (first
         | (at_builtin
            refine wpList_append_int rfl _ _ 33 rfl 3 .i64 (.int .i64 0) 8 (by omega) Tryd.underlying33 (by kernel_rfl) rfl w1.heap.size _ (ints64 (pgsOf L k)) rfl hown (xp:Int) ⟨w7.heap.size,0,none⟩ 1 rfl (cell_new _ _ _) hln hle ?_
            intro q9' w8 g1 g2 g3))
        have HI8:=hpost.out q9' w8 g1 g2 g3
        rw [Hi1.out,Hi17.out,logOps_succ HX.out,datOps_succ HX.out,pgsOf_succ HX.out] at HI8
        replace HI8:=Bx.mk HI8
        clear hpost g1 g2 g3 hown hln hle HI7 x0
        go_roundw
        case rel=>exact ⟨k+1,_,_,_,by have:=Hlt.out;omega,by go_num,rfl,rfl,rfl,HI8⟩
        case measure=>have:=Hlt.out;simp [intOf];omega
  · obtain rfl:k=n:=by omega
    have t0:decide ((k:Int)<(k:Int))=false:=by simp
    have hRn:Bx (logOps T L k=logOps T L L.length∧datOps T L k=datOps T L L.length∧pgsOf L k=pgsOf L L.length):=⟨by rw [Hn.out];exact ⟨rfl,rfl,rfl⟩⟩
    rw [hRn.out.1,hRn.out.2.1,hRn.out.2.2] at HI
    have ho9:Own wr w1.heap.size 3 .i64 q9 (ints64 (pgsOf L L.length)):=by obtain ⟨_,_,_,_,_,_,_,_,h⟩:=HI.out.ex;exact h
    obtain ⟨a9,c9,rfl,hsl9⟩:=ho9.form
    rw [ints64_len] at *
    have hS9:=Bx.mk hsl9
    have hpl:(pgsOf L L.length).length≤16:=by have:=pgsOf_len L L.length;have:=HL.out.few;omega
    have hp2 : ∀ x∈pgsOf L L.length,x<65536:=fun x hx=>by
     unfold pgsOf at hx
     rw [List.take_length] at hx
     obtain ⟨y,hy,rfl⟩:=List.mem_map.1 hx
     have:=HL.out.low y hy;have:=Hbig.out;omega
    obtain ⟨ps,hps⟩ : ∃ ps,ps=pgsOf L L.length:=⟨_,rfl⟩
    have hpsr:=Bx.mk hps
    rw [←hps] at HI hS9 hpl hp2 ⊢
    have hrec:=Bx.mk fun W (hb:Below wr.heap.size wr W)=>record_any a9 c9 ps (by omega) hp2 W (show Sl W .i64 a9 (ps.map fun (x:Nat)=>(x:Int)) from hS9.out.below hb)
    have hrl:(recP ps).length=116:=rec_len (by omega)
    have hsl:Bx (∀ W,Calls Tryd.prog 46 #[.int .i64 (T:Int),.string (strOfNums (recP ps))] W fun e w'=>e = .returned (.string (strOfNums (sealP T (recP ps))))∧Below W.heap.size W w'):=⟨fun W=>by
     have:=seal_any (T:Int) (recP ps) (rec_byts ps) (by omega) W
     have hv:sealV (T:Int) (recP ps)=sealP T (recP ps):=by unfold sealV;have:=HT1.out;rw [if_pos ⟨by omega,by omega,hrl⟩];rfl
     rwa [hv] at this⟩
    have hs128:(sealP T (recP ps)).length=128∧Byts (sealP T (recP ps)):=⟨seal_len hrl,byts_seal (rec_byts ps)⟩
    have hp0:=Bx.mk fun W0 W (hw:W0.heap.size≤W.heap.size)=>put_R W0 dp 0 (sealP T (recP ps)) hs128 W hw
    generalize strOfNums (recP ps)=R0 at *
    generalize hS0:strOfNums (sealP T (recP ps))=S0 at *
    obtain ⟨pl,hple⟩ : ∃ pl,pl=ps.length:=⟨_,rfl⟩
    rw [←hple] at hrec HI hpl ⊢
    have HPd:Bx (∀ W,Below wr.heap.size wr W→W.cell? ⟨pp,0,none⟩=some (.pointer (some ⟨dp,0,none⟩))):=⟨fun W hb=>(HP.out W (HB1.out.trans ((HI.out.bel.trans (hb.mono HI.out.bel.size)).mono HB1.out.size))).cell 0 rfl⟩
    clear ho9 hsl9 hp2 hrl hs128 hS0 hps hS9 hRn hple
    go_upto_region 15 with fail
    refine wp_region_relT 16 (fun ii v w'=>match ii with
     | 0=>v=q7
     | 1=>v = .pointer (some ⟨pp,0,none⟩)
     | 2=>v = .pointer (some ⟨pp,0,none⟩)
     | 3=>v = .pointer (some ⟨pp,0,none⟩)
     | 4=>v = .pointer (some ⟨dp,0,none⟩)
     | 5=>v = .int .i64 (T:Int)
     | 6=>v = .slice a9 pl c9
     | 7=>v = .string R0
     | 8=>v = .string S0
     | 9=>PutR wr dp 0 (sealP T (recP ps)) v w'
     | 10=>v = .pointer (some ⟨pp,0,none⟩)
     | 11=>v = .pointer (some ⟨pp,0,none⟩)
     | 12=>v = .pointer (some ⟨pp,0,none⟩)
     | 13=>v = .pointer (some ⟨dp,0,none⟩)
     | 14=>v=flushV dp
     | _=>TwoR wr dp 0 (sealP T (recP ps)) v w') (by kernel_rfl) (by kernel_rfl) 103 (by kernel_rfl) (by rfl) ?_ ?_ ?_
    · intro ii hi v u1 u2 hb h
      match ii,hi with
      | 0,_=>exact h
      | 1,_=>exact h
      | 2,_=>exact h
      | 3,_=>exact h
      | 4,_=>exact h
      | 5,_=>exact h
      | 6,_=>exact h
      | 7,_=>exact h
      | 8,_=>exact h
      | 9,_=>exact h.later hb
      | 10,_=>exact h
      | 11,_=>exact h
      | 12,_=>exact h
      | 13,_=>exact h
      | 14,_=>exact h
      | 15,_=>exact h.later hb
      | j+16,hi=>exact absurd hi (by omega)
    · intro ii o hi ho ρ wx hb hc1 hc2 hc3 hk
      match ii,hi with
      | 0, _ =>
        obtain rfl:=Option.some.inj ho
        have g0:ρ (.tmp 7)=q7:=hk 7 (by simp [Op.operands,Call.operands])
        clear hk hb HI hp0 hsl hrec HSl HL HP HB1 HPd
        go_simp
        exact Below.refl _ _
      | 1, _ =>
        obtain rfl:=Option.some.inj ho
        have g0:ρ (.tmp 0) = .pointer (some ⟨pp,0,none⟩):=hk 0 (by simp [Op.operands,Call.operands])
        clear hk hb HI hp0 hsl hrec HSl HL HP HB1 HPd
        go_simp
        exact Below.refl _ _
      | 2, _ =>
        obtain rfl:=Option.some.inj ho
        have g0:ρ (.tmp 66) = .pointer (some ⟨pp,0,none⟩):=hk 66 (by simp [Op.operands,Call.operands])
        clear hk hb HI hp0 hsl hrec HSl HL HP HB1 HPd
        go_simp
        exact Below.refl _ _
      | 3, _ =>
        obtain rfl:=Option.some.inj ho
        have g0:ρ (.tmp 67) = .pointer (some ⟨pp,0,none⟩):=hk 67 (by simp [Op.operands,Call.operands])
        clear hk hb HI hp0 hsl hrec HSl HL HP HB1 HPd
        go_simp
        exact Below.refl _ _
      | 4, _ =>
        obtain rfl:=Option.some.inj ho
        have g0:ρ (.tmp 68) = .pointer (some ⟨pp,0,none⟩):=hk 68 (by simp [Op.operands,Call.operands])
        have z0:=HPd.out wx hb
        clear hk hb HI hp0 hsl hrec HSl HL HP HB1 HPd
        go_simp
        exact Below.refl _ _
      | 5, _ =>
        obtain rfl:=Option.some.inj ho
        have g0:ρ (.tmp 6) = .int .i64 (T:Int):=hk 6 (by simp [Op.operands,Call.operands])
        clear hk hb HI hp0 hsl hrec HSl HL HP HB1 HPd
        go_simp
        exact Below.refl _ _
      | 6, _ =>
        obtain rfl:=Option.some.inj ho
        have g0:ρ (.tmp 9) = .slice a9 pl c9:=hk 9 (by simp [Op.operands,Call.operands])
        clear hk hb HI hp0 hsl hrec HSl HL HP HB1 HPd
        go_simp
        exact Below.refl _ _
      | 7, _ =>
        obtain rfl:=Option.some.inj ho
        have g0:ρ (.tmp 71) = .slice a9 pl c9:=hk 71 (by simp [Op.operands,Call.operands])
        have h4:=(hrec.out wx hb)
        have H4:=Bx.mk h4
        clear h4
        clear hk hb HI hp0 hsl hrec HSl HL HP HB1 HPd
        go_simp
        all_goals exact H4.out
      | 8, _ =>
        obtain rfl:=Option.some.inj ho
        have g0:ρ (.tmp 70) = .int .i64 (T:Int):=hk 70 (by simp [Op.operands,Call.operands])
        have g1:ρ (.tmp 72) = .string R0:=hk 72 (by simp [Op.operands,Call.operands])
        have h4:=(hsl.out wx)
        have H4:=Bx.mk h4
        clear h4
        clear hk hb HI hp0 hsl hrec HSl HL HP HB1 HPd
        go_simp
        all_goals exact H4.out
      | 9, _ =>
        obtain rfl:=Option.some.inj ho
        have g0:ρ (.tmp 69) = .pointer (some ⟨dp,0,none⟩):=hk 69 (by simp [Op.operands,Call.operands])
        have g1:ρ (.tmp 73) = .string S0:=hk 73 (by simp [Op.operands,Call.operands])
        have h4:=hp0.out wr wx hb.size
        have H4:=Bx.mk h4
        clear h4
        clear hk hb HI hp0 hsl hrec HSl HL HP HB1 HPd
        go_simp
        all_goals exact H4.out
      | 10, _ =>
        obtain rfl:=Option.some.inj ho
        have g0:ρ (.tmp 0) = .pointer (some ⟨pp,0,none⟩):=hk 0 (by simp [Op.operands,Call.operands])
        clear hk hb HI hp0 hsl hrec HSl HL HP HB1 HPd
        go_simp
        exact Below.refl _ _
      | 11, _ =>
        obtain rfl:=Option.some.inj ho
        have g0:ρ (.tmp 75) = .pointer (some ⟨pp,0,none⟩):=hk 75 (by simp [Op.operands,Call.operands])
        clear hk hb HI hp0 hsl hrec HSl HL HP HB1 HPd
        go_simp
        exact Below.refl _ _
      | 12, _ =>
        obtain rfl:=Option.some.inj ho
        have g0:ρ (.tmp 76) = .pointer (some ⟨pp,0,none⟩):=hk 76 (by simp [Op.operands,Call.operands])
        clear hk hb HI hp0 hsl hrec HSl HL HP HB1 HPd
        go_simp
        exact Below.refl _ _
      | 13, _ =>
        obtain rfl:=Option.some.inj ho
        have g0:ρ (.tmp 77) = .pointer (some ⟨pp,0,none⟩):=hk 77 (by simp [Op.operands,Call.operands])
        have z0:=HPd.out wx hb
        clear hk hb HI hp0 hsl hrec HSl HL HP HB1 HPd
        go_simp
        exact Below.refl _ _
      | 14, _ =>
        obtain rfl:=Option.some.inj ho
        have g0:ρ (.tmp 78) = .pointer (some ⟨dp,0,none⟩):=hk 78 (by simp [Op.operands,Call.operands])
        clear hk hb HI hp0 hsl hrec HSl HL HP HB1 HPd
        go_simp
        exact Below.refl _ _
      | 15, _ =>
        obtain rfl:=Option.some.inj ho
        have g0:ρ (.tmp 79)=flushV dp:=hk 79 (by simp [Op.operands,Call.operands])
        have gp:PutR wr dp 0 (sealP T (recP ps)) (ρ (.tmp 74)) wx:=hk 74 (by simp [Op.operands,Call.operands])
        have gp2:=gp
        obtain ⟨-,-,pa,pb,pc,-,g1,-⟩:=gp2
        rw [g1] at gp
        have Hn:Bx (TwoR wr dp 0 (sealP T (recP ps)) (.slice (some ⟨wx.heap.size,0,none⟩) 2 2) (wx.alloc (.cells #[putV pa pb pc,flushV dp] 89))):=⟨_,_,rfl,cells_new _ _ _ _ _ rfl,cells_new _ _ _ _ _ rfl,rfl,gp.later ((Below.refl _ _).alloc (Nat.le_refl _) _)⟩
        clear gp
        clear hk hb HI hp0 hsl hrec HSl HL HP HB1 HPd
        go_simp
        exact ⟨(Below.refl _ _).alloc (Nat.le_refl _) _,Hn.out⟩
      | j+16,hi=>exact absurd hi (by omega)
    · intro vs w6 hlen hb hR
      match vs,hlen with
      | [v0, v1, v2, v3, v4, v5, v6, v7, v8, v9, v10, v11, v12, v13, v14, v15], _ =>
        have r0:v0=q7:=hR 0 v0 rfl
        have r1:v1 = .pointer (some ⟨pp,0,none⟩):=hR 1 v1 rfl
        have r2:v2 = .pointer (some ⟨pp,0,none⟩):=hR 2 v2 rfl
        have r3:v3 = .pointer (some ⟨pp,0,none⟩):=hR 3 v3 rfl
        have r4:v4 = .pointer (some ⟨dp,0,none⟩):=hR 4 v4 rfl
        have r5:v5 = .int .i64 (T:Int):=hR 5 v5 rfl
        have r6:v6 = .slice a9 pl c9:=hR 6 v6 rfl
        have r7:v7 = .string R0:=hR 7 v7 rfl
        have r8:v8 = .string S0:=hR 8 v8 rfl
        have r10:v10 = .pointer (some ⟨pp,0,none⟩):=hR 10 v10 rfl
        have r11:v11 = .pointer (some ⟨pp,0,none⟩):=hR 11 v11 rfl
        have r12:v12 = .pointer (some ⟨pp,0,none⟩):=hR 12 v12 rfl
        have r13:v13 = .pointer (some ⟨dp,0,none⟩):=hR 13 v13 rfl
        have r14:v14=flushV dp:=hR 14 v14 rfl
        have r15:TwoR wr dp 0 (sealP T (recP ps)) v15 w6:=hR 15 v15 rfl
        clear hR
        subst r0 r1 r2 r3 r4 r5 r6 r7 r8 r10 r11 r12 r13 r14
        obtain ⟨hh,u,rfl,hcell,hcell1,hone,hP⟩:=r15
        obtain ⟨lv,hown,hln,hle,hpost⟩:=HI.out.log hb (show StepsV (Fr wr w6) dp w6 [u,flushV dp] [.w 0 (sealP T (recP ps)),.f] from (of_one hP.2).snoc (show StepV (Fr wr w6) dp w6 (flushV dp) .f from rfl))
        have hln:lv.length+2≤1000000000:=by have:=logOps_len T L L.length;have:=HL.out.few;omega
        replace hpost:=Bx.mk hpost
        have hcs : ∀ j u',[u,flushV dp][j]? = some u'→w6.cell? ((⟨hh,0,none⟩:Addr).add j)=some u':=fun j u' hj=>by
         match j with
         | 0=>simp at hj;subst hj;simpa [Addr.add] using hcell
         | 1=>simp at hj;subst hj;simpa [Addr.add] using hcell1
         | j+2=>simp at hj
        clear hP hb HPd hp0 hsl hrec hcell hcell1
        simp only [puts,List.take_succ_cons,List.take_zero,List.drop_succ_cons,List.drop_zero,List.map_cons,List.map_nil,List.zip_cons_cons,List.zip_nil_right,List.foldl_cons,List.foldl_nil]
        simp only [Act.put,List.setIfInBounds_toArray,List.set_cons_succ,List.set_cons_zero]
        at_builtin
        refine wpList_append_vals rfl _ _ 87 rfl 89 .nilFunc 8 (by omega) Tryd.underlying87 (by kernel_rfl) rfl w1.heap.size _ lv rfl hown [u,flushV dp] (by simp only [List.mem_cons,List.not_mem_nil,or_false,forall_eq_or_imp,forall_eq];exact ⟨hone,rfl⟩) ⟨hh,0,none⟩ 2 rfl hcs hln hle ?_
        intro q7p w7 g1 g2 g3
        have HI7:=Bx.mk (hpost.out q7p w7 g1 g2 g3)
        clear hpost g1 g2 g3 hown hln hle hcs hone HI
        have hn8:0<(datOps T L L.length).length:=by unfold datOps;rw [List.take_length,List.length_map];have:=HL.out.one;omega
        obtain ⟨lw,dw,g8,c8,O,rfl,hl7,hl8,hap,hppb,hq7,hfin⟩:=HI7.out.gather hn8 (by have:=logOps_len T L L.length;have:=datOps_len T L L.length;have:=HL.out.few;simp only [List.length_append,List.length_cons,List.length_nil];omega)
        have HPe:Bx (∀ W,LeA q7p.ownBlock O w7 W→W.cell? ⟨pp,0,none⟩=some (.pointer (some ⟨dp,0,none⟩))):=⟨fun W hb=>by
         have h0:=(HP.out w7 (HB1.out.trans (HI7.out.bel.mono HB1.out.size))).cell 0 rfl
         have hp1:=(HP.out w (Below.refl _ _)).lt
         rw [World.cell?_of_block (hb.block _ (World.block_lt_of_cell? w7 _ h0) (hppb pp (Nat.lt_of_lt_of_le hp1 HB1.out.size)))]
         exact h0⟩
        have hln:(lw++dw).length≤1000000000:=by have:=logOps_len T L L.length;have:=datOps_len T L L.length;have:=HL.out.few;simp only [List.length_append,List.length_cons,List.length_nil] at hl7 hl8 ⊢; omega
        replace hfin:=Bx.mk hfin
        replace hap:=Bx.mk hap
        have hq7b:=Bx.mk hq7
        clear hn8 hl7 hl8 hq7 hppb
        go_upto_region 16 with fail
        refine wp_region_relE (LeA.leW q7p.ownBlock O) 9 3 (fun ii v w'=>match ii with
         | 0=>v=q7p
         | 1=>v = .slice (some ⟨g8,0,none⟩) dw.length c8
         | 2=>AppR w7 w1.heap.size 89 q7p.ownBlock O (lw++dw) v w'
         | 3=>v = .pointer (some ⟨pp,0,none⟩)
         | 4=>v = .pointer (some ⟨pp,0,none⟩)
         | 5=>v = .pointer (some ⟨pp,0,none⟩)
         | 6=>v = .pointer (some ⟨dp,0,none⟩)
         | 7=>v=flushV dp
         | _=>FlR w7 dp v w') (by kernel_rfl) (by kernel_rfl) 103 (by kernel_rfl) (by rfl) ?_ ?_ ?_
        · intro ii hi v u1 u2 hb h
          match ii,hi with
          | 0,_=>exact h
          | 1,_=>exact h
          | 2,_=>exact h.le hq7b.out hb
          | 3,_=>exact h
          | 4,_=>exact h
          | 5,_=>exact h
          | 6,_=>exact h
          | 7,_=>exact h
          | 8,_=>exact h.le hq7b.out hb
        · intro ii o hi ho ρ wx hb hc1 hc2 hc3 hk
          match ii,hi with
          | 0, _ =>
            obtain rfl:=Option.some.inj ho
            have g0:ρ (.tmp 7)=q7p:=hk 7 (by simp [Op.operands,Call.operands])
            clear hk hb HI7 hap hfin HSl HL HP HB1 HPe
            go_simp
            exact LeA.refl _ _ _
          | 1, _ =>
            obtain rfl:=Option.some.inj ho
            have g0:ρ (.tmp 8) = .slice (some ⟨g8,0,none⟩) dw.length c8:=hk 8 (by simp [Op.operands,Call.operands])
            clear hk hb HI7 hap hfin HSl HL HP HB1 HPe
            go_simp
            exact LeA.refl _ _ _
          | 2, _ =>
            obtain rfl:=Option.some.inj ho
            have g0:ρ (.tmp 82)=q7p:=hk 82 (by simp [Op.operands,Call.operands])
            have g1:ρ (.tmp 83) = .slice (some ⟨g8,0,none⟩) dw.length c8:=hk 83 (by simp [Op.operands,Call.operands])
            obtain ⟨v2,w2,hr,hl,hR⟩:=hap.out wx hb 87
            simp only [execOp,resolve,invoke,builtin,Sem.run_bind,Sem.run_pure,Result.andThen_ok,List.map_toArray,List.map_cons,List.map_nil,g0,g1,hr]
            exact ⟨hl,hR⟩
          | 3, _ =>
            obtain rfl:=Option.some.inj ho
            have g0:ρ (.tmp 0) = .pointer (some ⟨pp,0,none⟩):=hk 0 (by simp [Op.operands,Call.operands])
            clear hk hb HI7 hap hfin HSl HL HP HB1 HPe
            go_simp
            exact LeA.refl _ _ _
          | 4, _ =>
            obtain rfl:=Option.some.inj ho
            have g0:ρ (.tmp 85) = .pointer (some ⟨pp,0,none⟩):=hk 85 (by simp [Op.operands,Call.operands])
            clear hk hb HI7 hap hfin HSl HL HP HB1 HPe
            go_simp
            exact LeA.refl _ _ _
          | 5, _ =>
            obtain rfl:=Option.some.inj ho
            have g0:ρ (.tmp 86) = .pointer (some ⟨pp,0,none⟩):=hk 86 (by simp [Op.operands,Call.operands])
            clear hk hb HI7 hap hfin HSl HL HP HB1 HPe
            go_simp
            exact LeA.refl _ _ _
          | 6, _ =>
            obtain rfl:=Option.some.inj ho
            have g0:ρ (.tmp 87) = .pointer (some ⟨pp,0,none⟩):=hk 87 (by simp [Op.operands,Call.operands])
            have z0:=HPe.out wx hb
            clear hk hb HI7 hap hfin HSl HL HP HB1 HPe
            go_simp
            exact LeA.refl _ _ _
          | 7, _ =>
            obtain rfl:=Option.some.inj ho
            have g0:ρ (.tmp 88) = .pointer (some ⟨dp,0,none⟩):=hk 88 (by simp [Op.operands,Call.operands])
            clear hk hb HI7 hap hfin HSl HL HP HB1 HPe
            go_simp
            exact LeA.refl _ _ _
          | 8, _ =>
            obtain rfl:=Option.some.inj ho
            have g0:ρ (.tmp 89)=flushV dp:=hk 89 (by simp [Op.operands,Call.operands])
            have Hn:Bx (FlR w7 dp (.slice (some ⟨wx.heap.size,0,none⟩) 1 1) (wx.alloc (.cells #[flushV dp] 89))):=⟨_,rfl,hb.size,cell_new _ _ _⟩
            clear hk hb HI7 hap hfin HSl HL HP HB1 HPe
            go_simp
            exact ⟨LeA.of ((Below.refl _ _).alloc (Nat.le_refl _) _),Hn.out⟩
        · intro vs w8 hlen hb hR
          match vs,hlen with
          | [v0, v1, v2, v3, v4, v5, v6, v7, v8], _ =>
            have r0:v0=q7p:=hR 0 v0 rfl
            have r1:v1 = .slice (some ⟨g8,0,none⟩) dw.length c8:=hR 1 v1 rfl
            have r3:v3 = .pointer (some ⟨pp,0,none⟩):=hR 3 v3 rfl
            have r4:v4 = .pointer (some ⟨pp,0,none⟩):=hR 4 v4 rfl
            have r5:v5 = .pointer (some ⟨pp,0,none⟩):=hR 5 v5 rfl
            have r6:v6 = .pointer (some ⟨dp,0,none⟩):=hR 6 v6 rfl
            have r7:v7=flushV dp:=hR 7 v7 rfl
            have rA:AppR w7 w1.heap.size 89 q7p.ownBlock O (lw++dw) v2 w8:=hR 2 v2 rfl
            have rF:FlR w7 dp v8 w8:=hR 8 v8 rfl
            clear hR
            subst r0 r1 r3 r4 r5 r6 r7
            obtain ⟨hh2,rfl,_,hcell⟩:=rF
            obtain ⟨hle,hf8⟩:=hfin.out w8 hb v2 rA
            have hown:=rA.own
            replace hf8:=Bx.mk hf8
            clear hfin hap rA HPe hb
            simp only [puts,List.take_succ_cons,List.take_zero,List.drop_succ_cons,List.drop_zero,List.map_cons,List.map_nil,List.zip_cons_cons,List.zip_nil_right,List.foldl_cons,List.foldl_nil]
            simp only [Act.put,List.setIfInBounds_toArray,List.set_cons_succ,List.set_cons_zero]
            at_builtin
            refine wpList_append_val rfl _ _ 87 rfl 89 .nilFunc 8 (by omega) Tryd.underlying87 (by kernel_rfl) rfl w1.heap.size _ (lw++dw) rfl hown (flushV dp) rfl ⟨hh2,0,none⟩ 1 rfl hcell hln hle ?_
            intro v9 w9 g1 g2 _
            obtain ⟨hb9,A,gr,cr,rfl,hgr,hAr,hst,hcs⟩:=hf8.out v9 w9 g1 g2
            have hbw:=HB1.out.trans (hb9.mono HB1.out.size)
            have hin3 : ∀ k,w1.heap.size≤k → ¬In3 dp g mb k:=fun k hk h3=>by
             have hlt:=HD.out.lt
             have:=HB1.out.size
             rcases h3 with rfl | rfl | rfl <;> omega
            have hops:=Bx.mk (steps_parts T L)
            rw [hpsr.out] at hst
            have hslen:(stepsP T L).length≤40:=by
             have:=logOps_len T L L.length;have:=datOps_len T L L.length;have:=HL.out.few
             rw [←steps_parts];simp only [List.length_append,List.length_cons,List.length_nil];omega
            rw [hops.out] at hst
            have hrun:=prun_ops A dp g mb cap m d w9 (HD.out.later hbw) _ (stepsP T L) (by have:=HM.out;omega) (by omega) hst (fun k hk=>hin3 k (hAr k hk)) gr 0 cr hcs (hin3 gr hgr)
            have hlen9:(logOps T L L.length++[DOp.w 0 (sealP T (recP ps)),DOp.f]++datOps T L L.length++[DOp.f]).length=(stepsP T L).length:=by rw [hpsr.out,hops.out]
            rw [hlen9]
            have hp9:=HP.out w9 hbw
            rw [←HTe.out]
            generalize (stepsP T L).length=sl at *
            generalize hrr:d.run (stepsP T L)=r at *
            have HRR:Bx (d.run (stepsP (N+1) L)=r):=⟨by rw [←HTe.out];exact hrr⟩
            have Hrun:=Bx.mk hrun
            have Hp9:=Bx.mk hp9
            have Hbw:=Bx.mk hbw
            have Hsl:=Bx.mk hslen
            clear hrun hp9 hbw hslen hcs hst hAr hgr hf8 hown g1 g2 hcell hle hb9 hlen9 hops hrr hin3
            go_wp2_with fail
            refine Hrun.out.mono ?_
            rintro _ w10 ⟨rfl,hd10,hc10⟩
            have hp10:PS w10 pp dp N bv false:=Bk.chg Hp9.out hc10 HNE.out
            have HC10:=Bx.mk (show Chg (fun k=>k=pp∨In3 dp g mb k) w w10 from (Chg.ofBelow Hbw.out _).trans (hc10.mono fun k _ h=>.inr h) fun _ _ h=>h)
            have HD10:=Bx.mk (hd10.mono (Nat.add_le_add_left Hsl.out m))
            have HP10:=Bx.mk hp10
            have c3:=hp10.cell 3 rfl
            have f3:=hp10.frozen 3
            have c1:=hp10.cell 1 rfl
            have f1:=hp10.frozen 1
            have hpd : ¬dp=pp ∧ ¬g=pp ∧ ¬mb=pp:=⟨fun e=>HNE.out (.inl e.symm),fun e=>HNE.out (.inr (.inl e.symm)),fun e=>HNE.out (.inr (.inr e.symm))⟩
            have HPD:=Bx.mk hpd
            clear hd10 hc10 hp10 Hrun Hp9 Hbw Hsl hpd
            obtain ⟨dr,er⟩:=r
            dsimp only at HD10 ⊢
            have hset:Bx (∀ (o:Nat) v,DkIs (w10.setCell ⟨pp,o,none⟩ v) dp g mb cap (m+40) dr∧Chg (fun k=>k=pp∨In3 dp g mb k) w (w10.setCell ⟨pp,o,none⟩ v)):=⟨fun o v=>⟨HD10.out.chg (chg_cell w10 pp o v) (fun k hk e=>by
             subst e;exact HNE.out hk),HC10.out.setCell (.inl (.inl rfl)) v⟩⟩
            have hk1:Bx (PS (w10.setCell ⟨pp,1,none⟩ (.int .i64 (T:Int))) pp dp T bv false):=⟨by simpa [PS] using HP10.out.set 1 (.int .i64 (T:Int))⟩
            have hk3:Bx (PS (w10.setCell ⟨pp,3,none⟩ (.bool true)) pp dp N bv true):=⟨by simpa [PS] using HP10.out.set 3 (.bool true)⟩
            by_cases h0:er=0
            · subst h0
              clear c3 f3 hk3 HP10 HC10 HD10
              go_wp2_with fail
              go_ret
              show WrPost pp dp N g mb cap m bv w (d.run (stepsP (N+1) L)) _ _
              rw [HRR.out]
              exact ⟨rfl,by rw [←HTe.out];exact hk1.out,(hset.out 1 _).1,(hset.out 1 _).2⟩
            · have n1:(er != 0)=true:=by simpa using h0
              have n2:(er == 0)=false:=by simpa using h0
              have HE:=Bx.mk h0
              clear c1 f1 hk1 HP10 HC10 HD10 h0
              go_wp2_with fail
              go_ret
              show WrPost pp dp N g mb cap m bv w (d.run (stepsP (N+1) L)) _ _
              rw [HRR.out]
              exact ⟨rfl,by rw [if_neg HE.out,decide_eq_true HE.out];exact hk3.out,(hset.out 3 _).1,(hset.out 3 _).2⟩
end Go.Proofs.YtajhkncolbgkbaaDoor
end
