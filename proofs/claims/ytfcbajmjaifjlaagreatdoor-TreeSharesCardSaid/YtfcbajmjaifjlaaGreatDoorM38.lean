/- Tsh, Tsj, Opn: joined by program, for one claim. -/
import Derived.Test.YtfcbajmjaifjlaaGreatDoorM37
import Derived.ProofKit
import Derived.OpenShut
import Derived.ChangeArms
import Derived.ChangeSlices
import Derived.WideShapes
import Derived.Deep.Strs
set_option maxHeartbeats 8000000
set_option maxRecDepth 100000
set_option linter.unusedVariables false
set_option linter.unusedSimpArgs false
namespace Go.Proofs.YtfcbajmjaifjlaaGreatDoor
section
open Go.RowKit Go.Sort Go.Maps
open Oct
attribute [local go_sem] Oper.semAt_some
theorem zNd (xs:List Int) (hl:xs.length=16) (w:World):(binOp .neq 46 (.agg (xs.map (Value.int .u8)).toArray) (.agg (xs.map (Value.int .u8)).toArray)).run Tryz.prog w = .ok (.bool false) w:=by
 obtain ⟨i,hi⟩ : ∃ i,Tryz.prog.info? 5=some i:=Option.isSome_iff_exists.1 (by kernel_rfl)
 have hc : Tryz.prog.cellsOf 5=1:=by kernel_rfl
 match xs,hl with
 | [x0, x1, x2, x3, x4, x5, x6, x7, x8, x9, x10, x11, x12, x13, x14, x15], _ =>
   simp only [List.map_cons,List.map_nil];rw [run_neq_struct,run_equalIn_array (n:=16) w 9999 _ _ Tryz.underlying46 hi,hc];rw [show List.range 16=[0,1,2,3,4,5,6,7,8,9,10,11,12,13,14,15] by decide]
   simp only [Op.eqItems];go_simp
theorem Krow.far {w w':World} {g:Nat} {ks:List Int} {Far:Nat→Prop} (h:Krow w g ks) (hk:Keeps Far w w') (hf:Far g):Krow w' g ks:=by
 intro i v hv;have h1:=h i v hv;have hl:=World.block_lt_of_cell? w _ h1;rw [←h1];unfold World.cell?;rw [hk.block g hf hl]
theorem Krow.later {w w':World} {g:Nat} {ks:List Int} (h:Krow w g ks) (hb:Below w.heap.size w w'):Krow w' g ks:=fun i v hv=>cell_later hb (h i v hv)
theorem zNn {w:World} {g:Nat} {ks:List Int} (hk:ks.length=64) (h:Krow w g ks):g<w.heap.size:=by
 match ks,hk with
 | k::r,_=>exact World.block_lt_of_cell? w _ (h 0 (.int .u32 k) rfl)
theorem zM0 (a b c d e f px py pz cell:Int) (dd:Int) (ha:Option Addr) (hcp:Nat) (xs:List Int) (w:World)
 (hf : ∀ W,Below w.heap.size w W→Calls Tryz.prog 4 #[.agg #[a,b,c,d,e,f,.slice ha xs.length hcp],dd,.slice none 0 0] W fun e' w'=>e' = .returned (.bool false)∧Below W.heap.size W w') :
 Calls Tryz.prog 3 #[.agg #[a,b,c,d,e,f,.slice ha xs.length hcp],dd,.agg #[px,py,pz],cell] w fun e' w'=>e' = .returned (.bool true)∧Below w.heap.size w w':=by
 have HF:=Bx.mk hf;clear hf;go_enter Tryz.func3,Tryz.ntmps3;go_upto_region 1 with fail;generalize hW:World.alloc (World.alloc w _) _=W;have HB:=Bx.mk (show Below w.heap.size w W by rw [←hW];exact ((Below.refl _ _).alloc (Nat.le_refl _) _).alloc (by simp) _)
 have KG:=Bx.mk (show Bk W w.heap.size #[a,b,c,d,e,f,.slice ha xs.length hcp] 28 by rw [←hW];exact zB (zI _ _ _ (by simp)))
 have KP:=Bx.mk (show Bk W (w.heap.size+1) #[px,py,pz] 23 by rw [←hW];exact zI _ _ _ (by simp))
 clear hW;obtain ⟨c0,c1,c2,c3,c4,c5,c6⟩:=KG.out.r7;obtain ⟨p0,p1,p2⟩:=KP.out.r3;have u0:=Bx.mk fun dk osk=>Calls.regrown_of (HF.out (grow (redrawn W dk) osk) (HB.out.trans ((below_regrown W dk osk).mono HB.out.size)));refine wp_region_quiet_below (by kernel_rfl) (by kernel_rfl) ?_
 repeat (first | go_big_quiet_step ((first | with_reducible exact u0.out _ _)) | quiet_step (first | with_reducible exact u0.out _ _))
 refine wpQuiet_nil ?_;rintro _ ⟨⟨dq,osq⟩,rfl⟩;have hbq:=below_regrown W dq osq;have HB2:=Bx.mk (HB.out.trans (hbq.mono HB.out.size));clear c0 c1 c2 c3 c4 c5 c6 p0 p1 p2 u0 hbq KG KP HB HF ;generalize grow (redrawn W dq) osq=w2 at *;go_wp2_with fail;refine (zAP _).mono ?_;rintro _ w3 ⟨rfl,hb3⟩;have HB3:=Bx.mk (HB2.out.trans (hb3.mono HB2.out.size));clear hb3 HB2;go_wp2_with fail;go_ret;exact ⟨rfl,HB3.out⟩
theorem zMz (a b c d e f px py pz cell:Int) (n:Nat) (hn:n≤12) (ha:Option Addr) (hcp:Nat) (xs:List Int) (w:World)
 (hin:inB ⟨px,py,pz⟩ (zy (2 ^ (n+2)))=false)
 (hf : ∀ W,Below w.heap.size w W→Calls Tryz.prog 4 #[.agg #[a,b,c,d,e,f,.slice ha xs.length hcp],.int .i64 ((n:Int)+2),.slice none 0 0] W fun e' w'=>e' = .returned (.bool true)∧Below W.heap.size W w') :
 Calls Tryz.prog 3 #[.agg #[a,b,c,d,e,f,.slice ha xs.length hcp],.int .i64 ((n:Int)+2),.agg #[px,py,pz],cell] w fun e' w'=>e' = .returned (.bool true)∧Below w.heap.size w w':=by
 have HF:=Bx.mk hf;have Hir:=Bx.mk fun W=>zDT px py pz 0 0 0 (2 ^ (n+2)) (2 ^ (n+2)) (2 ^ (n+2)) W;rw [show inB ⟨px,py,pz⟩ ⟨⟨0,0,0⟩,⟨2 ^ (n+2),2 ^ (n+2),2 ^ (n+2)⟩⟩=false from hin] at Hir;have hp:=zV (show n+2≤14 by omega)
 have hw:IntKind.i64.wrap (2 ^ (n+2))=2 ^ (n+2):=IntWalk.i64_in _ (by omega)
 have hw2:wrap64 (2 ^ (n+2))=2 ^ (n+2):=by rw [←IntWalk.i64_left];exact hw
 have Hcu:=Bx.mk fun W=>(show Calls Tryz.prog 6 #[.int .i64 (wrap64 (2 ^ (n+2)))] W fun e w'=>e = .returned (.agg #[(0:Int),(0:Int),(0:Int),.int .i64 (2 ^ (n+2)),.int .i64 (2 ^ (n+2)),.int .i64 (2 ^ (n+2))])∧Below W.heap.size W w' by rw [hw2];exact zBc _ W)
 have m1:min ((n:Int)+2) 14=(n:Int)+2:=by omega
 have m2:max (0:Int) ((n:Int)+2)=(n:Int)+2:=by omega
 have hp1:(0:Int)≤(n:Int)+2:=by omega
 clear hf hin hp hn hw hw2;go_enter Tryz.func3,Tryz.ntmps3;go_upto_region 1 with fail;generalize hW:World.alloc (World.alloc w _) _=W;have HB:=Bx.mk (show Below w.heap.size w W by rw [←hW];exact ((Below.refl _ _).alloc (Nat.le_refl _) _).alloc (by simp) _)
 have KG:=Bx.mk (show Bk W w.heap.size #[a,b,c,d,e,f,.slice ha xs.length hcp] 28 by rw [←hW];exact zB (zI _ _ _ (by simp)))
 have KP:=Bx.mk (show Bk W (w.heap.size+1) #[px,py,pz] 23 by rw [←hW];exact zI _ _ _ (by simp))
 clear hW;obtain ⟨c0,c1,c2,c3,c4,c5,c6⟩:=KG.out.r7;obtain ⟨p0,p1,p2⟩:=KP.out.r3;have u0:=Bx.mk fun dk osk=>Calls.regrown_of (HF.out (grow (redrawn W dk) osk) (HB.out.trans ((below_regrown W dk osk).mono HB.out.size)));have u1:=Bx.mk fun dk osk=>Calls.regrown_of (Hcu.out (grow (redrawn W dk) osk));have u2:=Bx.mk fun dk osk=>Calls.regrown_of (Hir.out (grow (redrawn W dk) osk));refine wp_region_quiet_below (by kernel_rfl) (by kernel_rfl) ?_
 repeat (first | go_big_quiet_step ((first | with_reducible exact u0.out _ _ | with_reducible exact u1.out _ _ | with_reducible exact u2.out _ _)) | quiet_step (first | with_reducible exact u0.out _ _ | with_reducible exact u1.out _ _ | with_reducible exact u2.out _ _))
 refine wpQuiet_nil ?_;rintro _ ⟨⟨dq,osq⟩,rfl⟩;have hbq:=below_regrown W dq osq;have HB2:=Bx.mk (HB.out.trans (hbq.mono HB.out.size));clear c0 c1 c2 c3 c4 c5 c6 p0 p1 p2 u0 u1 u2 hbq KG KP HB HF Hcu Hir m1 m2 hp1;generalize grow (redrawn W dq) osq=w2 at *;go_wp2_with fail;refine (zAP _).mono ?_;rintro _ w3 ⟨rfl,hb3⟩;have HB3:=Bx.mk (HB2.out.trans (hb3.mono HB2.out.size));clear hb3 HB2;go_wp2_with fail;go_ret;exact ⟨rfl,HB3.out⟩
theorem zMy (a b c d e f px py pz cell:Int) (n:Nat) (hn:n≤12) (ha:Option Addr) (hcp:Nat) (xs:List Int) (w:World)
 (hin:inB ⟨px,py,pz⟩ (zy (2 ^ (n+2)))=true)
 (hc:cell<0)
 (hf : ∀ W,Below w.heap.size w W→Calls Tryz.prog 4 #[.agg #[a,b,c,d,e,f,.slice ha xs.length hcp],.int .i64 ((n:Int)+2),.slice none 0 0] W fun e' w'=>e' = .returned (.bool true)∧Below W.heap.size W w') :
 Calls Tryz.prog 3 #[.agg #[a,b,c,d,e,f,.slice ha xs.length hcp],.int .i64 ((n:Int)+2),.agg #[px,py,pz],cell] w fun e' w'=>e' = .returned (.bool true)∧Below w.heap.size w w':=by
 have HF:=Bx.mk hf;have Hir:=Bx.mk fun W=>zDT px py pz 0 0 0 (2 ^ (n+2)) (2 ^ (n+2)) (2 ^ (n+2)) W;rw [show inB ⟨px,py,pz⟩ ⟨⟨0,0,0⟩,⟨2 ^ (n+2),2 ^ (n+2),2 ^ (n+2)⟩⟩=true from hin] at Hir;have hp:=zV (show n+2≤14 by omega)
 have hw:IntKind.i64.wrap (2 ^ (n+2))=2 ^ (n+2):=IntWalk.i64_in _ (by omega)
 have hw2:wrap64 (2 ^ (n+2))=2 ^ (n+2):=by rw [←IntWalk.i64_left];exact hw
 have Hcu:=Bx.mk fun W=>(show Calls Tryz.prog 6 #[.int .i64 (wrap64 (2 ^ (n+2)))] W fun e w'=>e = .returned (.agg #[(0:Int),(0:Int),(0:Int),.int .i64 (2 ^ (n+2)),.int .i64 (2 ^ (n+2)),.int .i64 (2 ^ (n+2))])∧Below W.heap.size W w' by rw [hw2];exact zBc _ W)
 have m1:min ((n:Int)+2) 14=(n:Int)+2:=by omega
 have m2:max (0:Int) ((n:Int)+2)=(n:Int)+2:=by omega
 have hp1:(0:Int)≤(n:Int)+2:=by omega
 have t1:decide (cell<0)=true:=by simpa using hc
 clear hc;clear hf hin hp hn hw hw2;go_enter Tryz.func3,Tryz.ntmps3;go_upto_region 1 with fail;generalize hW:World.alloc (World.alloc w _) _=W;have HB:=Bx.mk (show Below w.heap.size w W by rw [←hW];exact ((Below.refl _ _).alloc (Nat.le_refl _) _).alloc (by simp) _)
 have KG:=Bx.mk (show Bk W w.heap.size #[a,b,c,d,e,f,.slice ha xs.length hcp] 28 by rw [←hW];exact zB (zI _ _ _ (by simp)))
 have KP:=Bx.mk (show Bk W (w.heap.size+1) #[px,py,pz] 23 by rw [←hW];exact zI _ _ _ (by simp))
 clear hW;obtain ⟨c0,c1,c2,c3,c4,c5,c6⟩:=KG.out.r7;obtain ⟨p0,p1,p2⟩:=KP.out.r3;have u0:=Bx.mk fun dk osk=>Calls.regrown_of (HF.out (grow (redrawn W dk) osk) (HB.out.trans ((below_regrown W dk osk).mono HB.out.size)));have u1:=Bx.mk fun dk osk=>Calls.regrown_of (Hcu.out (grow (redrawn W dk) osk));have u2:=Bx.mk fun dk osk=>Calls.regrown_of (Hir.out (grow (redrawn W dk) osk));refine wp_region_quiet_below (by kernel_rfl) (by kernel_rfl) ?_
 repeat (first | go_big_quiet_step ((first | with_reducible exact u0.out _ _ | with_reducible exact u1.out _ _ | with_reducible exact u2.out _ _)) | quiet_step (first | with_reducible exact u0.out _ _ | with_reducible exact u1.out _ _ | with_reducible exact u2.out _ _))
 refine wpQuiet_nil ?_;rintro _ ⟨⟨dq,osq⟩,rfl⟩;have hbq:=below_regrown W dq osq;have HB2:=Bx.mk (HB.out.trans (hbq.mono HB.out.size));clear c0 c1 c2 c3 c4 c5 c6 p0 p1 p2 u0 u1 u2 hbq KG KP HB HF Hcu Hir m1 m2 hp1;generalize grow (redrawn W dq) osq=w2 at *;go_wp2_with fail;refine (zAP _).mono ?_;rintro _ w3 ⟨rfl,hb3⟩;have HB3:=Bx.mk (HB2.out.trans (hb3.mono HB2.out.size));clear hb3 HB2;go_wp2_with fail;go_ret;exact ⟨rfl,HB3.out⟩
theorem zMx (a b c d e f px py pz cell:Int) (n:Nat) (hn:n≤12) (ha:Option Addr) (hcp:Nat) (xs:List Int) (w:World)
 (hin:inB ⟨px,py,pz⟩ (zy (2 ^ (n+2)))=true)
 (hc:255<cell)
 (hf : ∀ W,Below w.heap.size w W→Calls Tryz.prog 4 #[.agg #[a,b,c,d,e,f,.slice ha xs.length hcp],.int .i64 ((n:Int)+2),.slice none 0 0] W fun e' w'=>e' = .returned (.bool true)∧Below W.heap.size W w') :
 Calls Tryz.prog 3 #[.agg #[a,b,c,d,e,f,.slice ha xs.length hcp],.int .i64 ((n:Int)+2),.agg #[px,py,pz],cell] w fun e' w'=>e' = .returned (.bool true)∧Below w.heap.size w w':=by
 have HF:=Bx.mk hf;have Hir:=Bx.mk fun W=>zDT px py pz 0 0 0 (2 ^ (n+2)) (2 ^ (n+2)) (2 ^ (n+2)) W;rw [show inB ⟨px,py,pz⟩ ⟨⟨0,0,0⟩,⟨2 ^ (n+2),2 ^ (n+2),2 ^ (n+2)⟩⟩=true from hin] at Hir;have hp:=zV (show n+2≤14 by omega)
 have hw:IntKind.i64.wrap (2 ^ (n+2))=2 ^ (n+2):=IntWalk.i64_in _ (by omega)
 have hw2:wrap64 (2 ^ (n+2))=2 ^ (n+2):=by rw [←IntWalk.i64_left];exact hw
 have Hcu:=Bx.mk fun W=>(show Calls Tryz.prog 6 #[.int .i64 (wrap64 (2 ^ (n+2)))] W fun e w'=>e = .returned (.agg #[(0:Int),(0:Int),(0:Int),.int .i64 (2 ^ (n+2)),.int .i64 (2 ^ (n+2)),.int .i64 (2 ^ (n+2))])∧Below W.heap.size W w' by rw [hw2];exact zBc _ W)
 have m1:min ((n:Int)+2) 14=(n:Int)+2:=by omega
 have m2:max (0:Int) ((n:Int)+2)=(n:Int)+2:=by omega
 have hp1:(0:Int)≤(n:Int)+2:=by omega
 have t1:decide (cell<0)=false:=by simp;omega
 have t2:decide (cell > 255)=true:=by simp;omega
 clear hc;clear hf hin hp hn hw hw2;go_enter Tryz.func3,Tryz.ntmps3;go_upto_region 1 with fail;generalize hW:World.alloc (World.alloc w _) _=W;have HB:=Bx.mk (show Below w.heap.size w W by rw [←hW];exact ((Below.refl _ _).alloc (Nat.le_refl _) _).alloc (by simp) _)
 have KG:=Bx.mk (show Bk W w.heap.size #[a,b,c,d,e,f,.slice ha xs.length hcp] 28 by rw [←hW];exact zB (zI _ _ _ (by simp)))
 have KP:=Bx.mk (show Bk W (w.heap.size+1) #[px,py,pz] 23 by rw [←hW];exact zI _ _ _ (by simp))
 clear hW;obtain ⟨c0,c1,c2,c3,c4,c5,c6⟩:=KG.out.r7;obtain ⟨p0,p1,p2⟩:=KP.out.r3;have u0:=Bx.mk fun dk osk=>Calls.regrown_of (HF.out (grow (redrawn W dk) osk) (HB.out.trans ((below_regrown W dk osk).mono HB.out.size)));have u1:=Bx.mk fun dk osk=>Calls.regrown_of (Hcu.out (grow (redrawn W dk) osk));have u2:=Bx.mk fun dk osk=>Calls.regrown_of (Hir.out (grow (redrawn W dk) osk));refine wp_region_quiet_below (by kernel_rfl) (by kernel_rfl) ?_
 repeat (first | go_big_quiet_step ((first | with_reducible exact u0.out _ _ | with_reducible exact u1.out _ _ | with_reducible exact u2.out _ _)) | quiet_step (first | with_reducible exact u0.out _ _ | with_reducible exact u1.out _ _ | with_reducible exact u2.out _ _))
 refine wpQuiet_nil ?_;rintro _ ⟨⟨dq,osq⟩,rfl⟩;have hbq:=below_regrown W dq osq;have HB2:=Bx.mk (HB.out.trans (hbq.mono HB.out.size));clear c0 c1 c2 c3 c4 c5 c6 p0 p1 p2 u0 u1 u2 hbq KG KP HB HF Hcu Hir m1 m2 hp1;generalize grow (redrawn W dq) osq=w2 at *;go_wp2_with fail;refine (zAP _).mono ?_;rintro _ w3 ⟨rfl,hb3⟩;have HB3:=Bx.mk (HB2.out.trans (hb3.mono HB2.out.size));clear hb3 HB2;go_wp2_with fail;go_ret;exact ⟨rfl,HB3.out⟩
structure TsI (w:World) (gv pv:Array Value) (kc:List Int) (FS FT:Nat→Prop) (sb tb:Nat) (ts us:List Tr) (wr:World):Prop where
 bel:Below w.heap.size w wr
 kg:Bk wr w.heap.size gv 28
 kp:Bk wr (w.heap.size+1) pv 23
 kr:Krow wr 0 kc
 ss:StoreIs wr FS sb 1000000 ts
 st:StoreIs wr FT tb 1000000 us
section
variable {w:World} {gv pv:Array Value} {kc:List Int} {FS FT:Nat→Prop} {sb tb:Nat} {ts us ts':List Tr} {wr w':World}
theorem TsI.later (h:TsI w gv pv kc FS FT sb tb ts us wr) (hb:Below wr.heap.size wr w'):TsI w gv pv kc FS FT sb tb ts us w' :=
 ⟨h.bel.trans (hb.mono h.bel.size),h.kg.later hb,h.kp.later hb,h.kr.later hb,h.ss.later hb,h.st.later hb⟩
theorem TsI.madeS (h:TsI w gv pv kc FS FT sb tb ts us wr) {FS':Nat→Prop} (hF : ∀ k,k<w.heap.size+2→FS' k) (hO : ∀ k,¬FT k→k<wr.heap.size→FS' k) (hk:Keeps FS' wr w') (hs:StoreIs w' FS sb 1000000 ts'):TsI w gv pv kc FS FT sb tb ts' us w' :=
 ⟨h.bel.trans ⟨hk.os,hk.tape,hk.output,hk.size,fun k hl=>hk.block k (hF k (by omega)) (Nat.lt_of_lt_of_le hl h.bel.size)⟩,h.kg.far hk (hF _ (by omega)),h.kp.far hk (hF _ (by omega)),h.kr.far hk (hF _ (by omega)),hs,h.st.other hk hO⟩
theorem TsI.madeT (h:TsI w gv pv kc FS FT sb tb ts us wr) {FT':Nat→Prop} (hF : ∀ k,k<w.heap.size+2→FT' k) (hO : ∀ k,¬FS k→k<wr.heap.size→FT' k) (hk:Keeps FT' wr w') (hs:StoreIs w' FT tb 1000000 ts'):TsI w gv pv kc FS FT sb tb ts ts' w' :=
 ⟨h.bel.trans ⟨hk.os,hk.tape,hk.output,hk.size,fun k hl=>hk.block k (hF k (by omega)) (Nat.lt_of_lt_of_le hl h.bel.size)⟩,h.kg.far hk (hF _ (by omega)),h.kp.far hk (hF _ (by omega)),h.kr.far hk (hF _ (by omega)),h.ss.other hk hO,hs⟩
end
def ChSl (x y z o v:Int) (s:Value) (W:World):Prop := ∃ g cap,s = .slice (some ⟨g,0,none⟩) 1 cap∧1≤cap∧Bk W g #[x,y,z,o,v] 41
theorem zGx {n:Nat} (hn:n≤12) {F:Pt→Int} (hF:FnC n F) (sb:Nat) (ts:List Tr) (hG:Good ts) (hm:trF n F∈ts) (hlen:ts.length≤5000) (x y z o v:Int) (hin:inB ⟨x,y,z⟩ (zy (2 ^ (n+2)))=true) (hv:0≤v∧v≤255) (W:World) (FS:Nat→Prop) (hFar : ∀ k,FS k→k<W.heap.size) (hS:StoreIs W FS sb 1000000 ts) (g cap:Nat) (hcap:1≤cap) (hb:Bk W g #[x,y,z,o,v] 41) :
 Calls Tryz.prog 10 #[.pointer (some ⟨sb,0,none⟩),.int .i64 (idn ts n F),.int .i64 ((n:Int)+2),.slice (some ⟨g,0,none⟩) 1 cap] W fun e W'=>e=zAv (idn (zDt n (Tr.upd F ⟨x,y,z⟩ v) ts) n (Tr.upd F ⟨x,y,z⟩ v)) 0∧StoreIs W' FS sb 1000000 (zDt n (Tr.upd F ⟨x,y,z⟩ v) ts)∧Keeps FS W W':=by
 have hok : ∀ c∈[(⟨x,y,z,o,v⟩:Chg)],zCh n c:=fun c hc=>by
  obtain rfl:=List.mem_singleton.1 hc;exact ⟨hin,hv⟩
 have hl:=zMk hn hin hv hG hm;refine (zCZ hn sb (some ⟨g,0,none⟩) cap [⟨x,y,z,o,v⟩] (by simp) hcap 1000000 F hF.range W (slc1 hb) FS ts hG hm (fun _=>⟨(hF.upd hin hv).range,Nat.le_trans hl (by omega)⟩) hFar hS).mono ?_
 intro e W' hd
 exact (hd.ok hok).fit (.inr (by
  have:(Tr.add (trF n (zAa (pts [⟨x,y,z,o,v⟩]) F)) ts).length≤ts.length+13:=hl
  show ((Tr.add (trF n (zAa (pts [⟨x,y,z,o,v⟩]) F)) ts).length:Int)≤1000000
  omega))
theorem ts_len {n:Nat} (hn:n≤12) {F:Pt→Int} {ts:List Tr} (hG:Good ts) (hm:trF n F∈ts) {p:Pt} (hin:inB p (zy (2 ^ (n+2)))=true) {v:Int} (hv:0≤v∧v≤255):(zDt n (Tr.upd F p v) ts).length≤ts.length+(n+1):=by
 have:=zGI hv p n (trF n F) ts (by omega) hG hm (zA5 F n _)
 rwa [zG4 hin] at this
theorem zII {n:Nat} {F:Pt→Int} {ts ts':List Tr} (hp:ts <+: ts') (hm:trF n F∈ts):idn ts' n F=idn ts n F:=by
 unfold idn;rw [zi hp hm]
theorem ts_on (kc:List Int) (hk:kc.length=64) (a b c d e f px py pz cell:Int) (ha:Option Addr) (hcp:Nat) (xs:List Int) (w:World) (hl:xs.length≤300) (hsl:Sl w .i64 ha xs) (n:Nat) (hn:n≤12) (HX:GoodG ⟨⟨a,b,c⟩,⟨d,e,f⟩⟩ xs hcp) (hE:zA9 ⟨⟨a,b,c⟩,⟨d,e,f⟩⟩ xs ((n:Int)+2)=0) (hV:zAA ⟨⟨a,b,c⟩,⟨d,e,f⟩⟩ xs=true) (hC:zG ⟨⟨a,b,c⟩,⟨d,e,f⟩⟩=true∨zQ ⟨⟨0,0,0⟩,⟨2 ^ (n+2),2 ^ (n+2),2 ^ (n+2)⟩⟩ ⟨⟨a,b,c⟩,⟨d,e,f⟩⟩=true) (hin:inB ⟨px,py,pz⟩ (zy (2 ^ (n+2)))=true) (hc:0≤cell∧cell≤255) (hK:Krow w 0 kc) :
 Calls Tryz.prog 3 #[.agg #[a,b,c,d,e,f,.slice ha xs.length hcp],.int .i64 ((n:Int)+2),.agg #[px,py,pz],cell] w fun e' w'=>e' = .returned (.bool true)∧Below w.heap.size w w':=by
 have HF:=Bx.mk fun W (h1:Sl W .i64 ha xs)=>(show Calls Tryz.prog 4 #[.agg #[a,b,c,d,e,f,.slice ha xs.length hcp],.int .i64 ((n:Int)+2),.slice none 0 0] W fun e' w'=>e' = .returned (.bool true)∧Below W.heap.size W w' from zFq a b c d e f ha hcp xs hl n hn hE none 0 [] (by simp) W h1 (fun i s h=>by simp at h))
 have Hbu:=Bx.mk fun W h1=>zGq 1000000 a b c d e f ha hcp xs hl n hn HX hE hV hC (.inr (by have:=zHY HX hn;omega)) W h1
 have Hln:=Bx.mk (zHY HX hn);have Hfn:=Bx.mk (zNy HX hC);have Hsl:=Bx.mk hsl;have Hn:=Bx.mk hn;have Hin:=Bx.mk hin;have Hc:=Bx.mk hc;have HK:=Bx.mk hK;have Hk:=Bx.mk hk;have H0:=Bx.mk (zNn hk hK);have Hir:=Bx.mk fun W=>zDT px py pz 0 0 0 (2 ^ (n+2)) (2 ^ (n+2)) (2 ^ (n+2)) W;rw [show inB ⟨px,py,pz⟩ ⟨⟨0,0,0⟩,⟨2 ^ (n+2),2 ^ (n+2),2 ^ (n+2)⟩⟩=true from hin] at Hir;have hp:=zV (show n+2≤14 by omega)
 have hw:IntKind.i64.wrap (2 ^ (n+2))=2 ^ (n+2):=IntWalk.i64_in _ (by omega)
 have hw2:wrap64 (2 ^ (n+2))=2 ^ (n+2):=by rw [←IntWalk.i64_left];exact hw
 have Hcu:=Bx.mk fun W=>(show Calls Tryz.prog 6 #[.int .i64 (wrap64 (2 ^ (n+2)))] W fun e w'=>e = .returned (.agg #[(0:Int),(0:Int),(0:Int),.int .i64 (2 ^ (n+2)),.int .i64 (2 ^ (n+2)),.int .i64 (2 ^ (n+2))])∧Below W.heap.size W w' by rw [hw2];exact zBc _ W)
 have m1:min ((n:Int)+2) 14=(n:Int)+2:=by omega
 have m2:max (0:Int) ((n:Int)+2)=(n:Int)+2:=by omega
 have hp1:(0:Int)≤(n:Int)+2:=by omega
 have t1:decide (cell<0)=false:=by simp;omega
 have t2:decide (cell > 255)=false:=by simp;omega
 clear hsl HX hV hC hE hl hin hc hp hw hw2 hK hk hn;generalize zF ⟨⟨a,b,c⟩,⟨d,e,f⟩⟩ xs=F0 at *;go_enter Tryz.func3,Tryz.ntmps3;go_upto_region 1 with fail;generalize hW:World.alloc (World.alloc w _) _=W;have HB:=Bx.mk (show Below w.heap.size w W by rw [←hW];exact ((Below.refl _ _).alloc (Nat.le_refl _) _).alloc (by simp) _)
 have KG:=Bx.mk (show Bk W w.heap.size #[a,b,c,d,e,f,.slice ha xs.length hcp] 28 by rw [←hW];exact zB (zI _ _ _ (by simp)))
 have KP:=Bx.mk (show Bk W (w.heap.size+1) #[px,py,pz] 23 by rw [←hW];exact zI _ _ _ (by simp))
 clear hW;obtain ⟨c0,c1,c2,c3,c4,c5,c6⟩:=KG.out.r7;obtain ⟨p0,p1,p2⟩:=KP.out.r3;have u0:=Bx.mk fun dk osk=>Calls.regrown_of (HF.out (grow (redrawn W dk) osk) (Hsl.out.below (HB.out.trans ((below_regrown W dk osk).mono HB.out.size))));have u1:=Bx.mk fun dk osk=>Calls.regrown_of (Hcu.out (grow (redrawn W dk) osk));have u2:=Bx.mk fun dk osk=>Calls.regrown_of (Hir.out (grow (redrawn W dk) osk));refine wp_region_quiet_below (by kernel_rfl) (by kernel_rfl) ?_
 repeat (first | go_big_quiet_step ((first | with_reducible exact u0.out _ _ | with_reducible exact u1.out _ _ | with_reducible exact u2.out _ _)) | quiet_step (first | with_reducible exact u0.out _ _ | with_reducible exact u1.out _ _ | with_reducible exact u2.out _ _))
 refine wpQuiet_nil ?_;rintro _ ⟨⟨dq,osq⟩,rfl⟩;have hbq:=below_regrown W dq osq;clear c0 c1 c2 c3 c4 c5 c6 p0 p1 p2 u0 u1 u2 HF Hcu Hir m1 m2 hp1 t1 t2;generalize grow (redrawn W dq) osq=w2 at *;replace HB:=Bx.mk (HB.out.trans (hbq.mono HB.out.size));replace KG:=Bx.mk (KG.out.later hbq);replace KP:=Bx.mk (KP.out.later hbq);clear hbq;obtain ⟨c0,c1,c2,c3,c4,c5,c6⟩:=KG.out.c7;go_wp2_with fail;refine (Hbu.out _ (Hsl.out.below HB.out)).mono ?_;rintro _ w5 ⟨sb,rfl,hS,hb5⟩;replace HB:=Bx.mk (HB.out.trans (hb5.mono HB.out.size));have HP2:=Bx.mk KP.out.lt;have HS5:=Bx.mk hb5.size;replace KG:=Bx.mk (KG.out.later hb5);replace KP:=Bx.mk (KP.out.later hb5);have HS:=Bx.mk hS;clear hS hb5 c0 c1 c2 c3 c4 c5 c6;obtain ⟨c0,c1,c2,c3,c4,c5,c6⟩:=KG.out.c7;go_wp2_with fail;refine (Hbu.out _ (Hsl.out.below HB.out)).mono ?_;rintro _ w6 ⟨tb,rfl,hT,hb6⟩;have HS6:=Bx.mk hb6.size;obtain ⟨FS,hFS⟩ : ∃ FS:Nat→Prop,FS=fun k=>k<w2.heap.size∨(w5.heap.size≤k∧k<w6.heap.size):=⟨_,rfl⟩;obtain ⟨FT,hFT⟩ : ∃ FT:Nat→Prop,FT=fun k=>k<w5.heap.size∨w6.heap.size≤k:=⟨_,rfl⟩;have HI:Bx (TsI w #[a,b,c,d,e,f,.slice ha xs.length hcp] #[px,py,pz] kc FS FT sb tb (zDt n F0 []) (zDt n F0 []) w6):=⟨HB.out.trans (hb6.mono HB.out.size),KG.out.later hb6,KP.out.later hb6,HK.out.later (HB.out.trans (hb6.mono HB.out.size)),by rw [hFS];exact (HS.out.widen (fun k hk=>by omega)).later hb6,by rw [hFT];exact hT.widen (fun k hk=>hk)⟩
 have HFS0:Bx (∀ k,k<w.heap.size+2→FS k):=⟨fun k hk=>by rw [hFS];have:=HP2.out;exact .inl (by omega)⟩
 have HFSb:Bx (∀ k,FS k→k<w6.heap.size):=⟨fun k hk=>by rw [hFS] at hk;have:=HS6.out;have:=HS5.out;omega⟩
 have HO1:Bx (∀ k,¬FT k→FS k):=⟨fun k hk=>by rw [hFT] at hk;rw [hFS];omega⟩
 have HO2:Bx (∀ k,¬FS k→FT k):=⟨fun k hk=>by rw [hFS] at hk;rw [hFT];have:=HS5.out;omega⟩
 have HFT0:Bx (∀ k,k<w.heap.size+2→FT k):=⟨fun k hk=>by rw [hFT];have:=HP2.out;have:=HS5.out;exact .inl (by omega)⟩
 have Hm0:=Bx.mk (zHX n F0 []);have HG0:=Bx.mk (zF7 Hn.out Hfn.out zEs);clear hT hb6 hFS hFT HB KG KP HS HS5 HS6 HP2 Hbu c0 c1 c2 c3 c4 c5 c6 Hsl HK;generalize zDt n F0 []=ts0 at *;go_wp2_with fail;refine (zDc _ sb 1000000 ts0 w6 HI.out.ss).mono ?_;rintro _ _ ⟨rfl,rfl⟩;obtain ⟨y0,y1,y2⟩:=HI.out.kp.c3;go_wp2_with fail;have hb7:Below w6.heap.size w6 (w6.alloc (.cells #[px,py,pz,(9:Int),cell] 41)):=(Below.refl _ _).alloc (Nat.le_refl _) _;refine (zGx Hn.out Hfn.out sb ts0 HG0.out Hm0.out (by have:=Hln.out;omega) px py pz 9 cell Hin.out Hc.out _ FS (fun k hk=>Nat.lt_of_lt_of_le (HFSb.out k hk) hb7.size) (HI.out.later hb7).ss w6.heap.size _ (Nat.le_refl _) (Bk.new _ _ _)).mono ?_
 rintro _ w8 ⟨rfl,hS8,hK8⟩;replace HI:=Bx.mk ((HI.out.later hb7).madeS HFS0.out (fun k hk _=>HO1.out k hk) hK8 hS8);replace HFSb:Bx (∀ k,FS k→k<w8.heap.size):=⟨fun k hk=>Nat.lt_of_lt_of_le (HFSb.out k hk) (Nat.le_trans hb7.size hK8.size)⟩;clear hS8 hK8 hb7 y0 y1 y2;have HFn1:=Bx.mk (Hfn.out.upd Hin.out Hc.out);have HG1:=Bx.mk (zF7 Hn.out HFn1.out HG0.out);have Hm1:=Bx.mk (zHX n (Tr.upd F0 ⟨px,py,pz⟩ cell) ts0);have Hm01:=Bx.mk ((zHW n (Tr.upd F0 ⟨px,py,pz⟩ cell) ts0).subset Hm0.out);have Hid:=Bx.mk (zII (zHW n (Tr.upd F0 ⟨px,py,pz⟩ cell) ts0) Hm0.out);have Hl1:=Bx.mk (ts_len Hn.out HG0.out Hm0.out Hin.out Hc.out);have Hat:=Bx.mk (zMd F0 ⟨px,py,pz⟩ cell);have Hbk:=Bx.mk (zKv F0 ⟨px,py,pz⟩ cell);have Hst:=Bx.mk fun W FT' h1 h2=>zIC W FT' tb 1000000 ts0 n F0 Hn.out HG0.out (by have:=Hln.out;omega) Hm0.out px py pz cell ⟨Hin.out,Hc.out⟩ (.inr (by have:=Hl1.out;have:=Hln.out;have:=Hn.out;omega)) h1 h2
 generalize zDt n (Tr.upd F0 ⟨px,py,pz⟩ cell) ts0=ts1 at *;generalize Tr.upd F0 ⟨px,py,pz⟩ cell=F1 at *;have hL1:ts1.length≤4000:=by have:=Hl1.out;have:=Hln.out;have:=Hn.out;omega
 have HGet:Bx (∀ W,StoreIs W FS sb 1000000 ts1→Calls Tryz.prog 12 #[.pointer (some ⟨sb,0,none⟩),.int .i64 (idn ts1 n F1),.int .i64 ((n:Int)+2),.agg #[px,py,pz]] W fun e w'=>e = .returned (.int .i64 cell)∧Below W.heap.size W w'):=⟨fun W h=>by
  have h1:=zMl W FS sb 1000000 ts1 n F1 Hn.out HFn1.out HG1.out (by omega) Hm1.out px py pz h
  rw [Hat.out] at h1;exact h1⟩
 have HGet0:Bx (∀ W,StoreIs W FS sb 1000000 ts1→Calls Tryz.prog 12 #[.pointer (some ⟨sb,0,none⟩),.int .i64 (idn ts0 n F0),.int .i64 ((n:Int)+2),.agg #[px,py,pz]] W fun e w'=>e = .returned (.int .i64 (F0 ⟨px,py,pz⟩))∧Below W.heap.size W w'):=⟨fun W h=>by
  have h1:=zMl W FS sb 1000000 ts1 n F0 Hn.out Hfn.out HG1.out (by omega) Hm01.out px py pz h
  rw [←Hid.out];exact h1⟩
 have HWr:Bx (∀ W g cap,(∀ k,FS k→k<W.heap.size)→StoreIs W FS sb 1000000 ts1→1≤cap→Bk W g #[px,py,pz,(0:Int),.int .i64 (F0 ⟨px,py,pz⟩)] 41→Calls Tryz.prog 10 #[.pointer (some ⟨sb,0,none⟩),.int .i64 (idn ts1 n F1),.int .i64 ((n:Int)+2),.slice (some ⟨g,0,none⟩) 1 cap] W fun e w'=>e=zAv (idn ts0 n F0) 0∧Keeps FS W w'):=⟨fun W g cap h1 h2 h3 h4=>by
  have h5:=zGx Hn.out HFn1.out sb ts1 HG1.out Hm1.out (by omega) px py pz 0 (F0 ⟨px,py,pz⟩) Hin.out (Hfn.out.range _) W FS h1 h2 g cap h3 h4
  rw [Hbk.out,show zDt n F0 ts1=ts1 from Tr.add_same _ _ Hm01.out,Hid.out] at h5;exact h5.mono fun e w' h=>⟨h.1,h.2.2⟩⟩
 have HDg:Bx (∀ W Far b,Krow W 0 kc→StoreIs W Far b 1000000 ts1→Calls Tryz.prog 13 #[.pointer (some ⟨b,0,none⟩),.int .i64 (idn ts1 n F1)] W fun e w'=>e = .returned (.agg ((zFA kc (trF n F1)).map (Value.int .u8)).toArray)∧Below W.heap.size W w'):=⟨fun W Far b h1 h2=>(zIV kc Hk.out Far b 1000000 ts1 HG1.out (by omega) (trF n F1) (zAm HFn1.out.range n _ (by have:=Hn.out;omega)) Hm1.out W h1 h2).mono (fun _ _ h=>h)⟩
 have hneq:=fun W=>zNd (zFA kc (trF n F1)) (zEv kc _) W;generalize ((zFA kc (trF n F1)).map (Value.int .u8)).toArray=DV at *;generalize F0 ⟨px,py,pz⟩=c0v at *;obtain ⟨dl,hdl⟩ : ∃ dl:Int,dl=(ts1.length:Int) - ts0.length:=⟨_,rfl⟩;have hsub:IntKind.i64.wrap ((ts1.length:Int) - ts0.length)=dl:=by rw [hdl];exact IntWalk.i64_in _ (by have:=Hln.out;omega)
 have hs2:IntKind.i64.wrap ((n:Int)+2 - 1)=(n:Int)+1:=by rw [show (n:Int)+2 - 1=(n:Int)+1 by omega];exact IntWalk.i64_in _ (by have:=Hn.out;omega)
 have tg:decide (dl > (n:Int)+1)=false:=by
  have h1:=Hl1.out;simp only [decide_eq_false_iff_not];omega
 have tl:((ts1.length:Int) != (ts1.length:Int))=false:=by simp
 have tc:(cell != cell)=false:=by simp
 clear hdl hL1 Hat Hbk HFn1 HG1 Hm1 Hm01 Hl1 Hk;obtain ⟨y0,y1,y2⟩:=HI.out.kp.c3;go_wp2_with fail;refine (Hst.out w8 (fun k=>FT k∧k<w8.heap.size) (fun k hk=>hk.2) (HI.out.st.less (fun k hk=>hk.1))).mono ?_;rintro _ w9 ⟨rfl,hS9,hK9⟩;have HI9:Bx (TsI w #[a,b,c,d,e,f,.slice ha xs.length hcp] #[px,py,pz] kc FS (fun k=>FT k∧k<w8.heap.size) sb tb ts1 ts0 w8):=⟨HI.out.bel,HI.out.kg,HI.out.kp,HI.out.kr,HI.out.ss,HI.out.st.less (fun k hk=>hk.1)⟩;replace HI:=Bx.mk (HI9.out.madeT (FT':=fun k=>FT k∧k<w8.heap.size) (fun k hk=>⟨HFT0.out k hk,by have:=HI9.out.kp.lt;omega⟩) (fun k hk hl=>⟨HO2.out k hk,hl⟩) hK9 hS9)
 replace HFSb:Bx (∀ k,FS k→k<w9.heap.size):=⟨fun k hk=>Nat.lt_of_lt_of_le (HFSb.out k hk) hK9.size⟩;generalize (fun k=>FT k∧k<w8.heap.size)=FT9 at *;clear hS9 hK9 HI9 y0 y1 y2 Hst;go_wp2_with fail;refine (zDc _ sb 1000000 ts1 w9 HI.out.ss).mono ?_;rintro _ _ ⟨rfl,rfl⟩;go_wp2_with fail;refine (zDc _ tb 1000000 ts1 w9 HI.out.st).mono ?_;rintro _ _ ⟨rfl,rfl⟩;go_wp2_with fail;refine (zDc _ sb 1000000 ts1 w9 HI.out.ss).mono ?_;rintro _ _ ⟨rfl,rfl⟩;obtain ⟨y0,y1,y2⟩:=HI.out.kp.c3;go_wp2_with fail;refine (HGet.out _ HI.out.ss).mono ?_;rintro _ w10 ⟨rfl,hb10⟩;replace HI:=Bx.mk (HI.out.later hb10);replace HFSb:Bx (∀ k,FS k→k<w10.heap.size):=⟨fun k hk=>Nat.lt_of_lt_of_le (HFSb.out k hk) hb10.size⟩;clear hb10 y0 y1 y2 HGet;go_wp2_with fail;refine (HDg.out _ _ tb HI.out.kr HI.out.st).mono ?_;rintro _ w11 ⟨rfl,hb11⟩;replace HI:=Bx.mk (HI.out.later hb11);replace HFSb:Bx (∀ k,FS k→k<w11.heap.size):=⟨fun k hk=>Nat.lt_of_lt_of_le (HFSb.out k hk) hb11.size⟩;clear hb11;go_wp2_with fail;refine (HDg.out _ _ sb HI.out.kr HI.out.ss).mono ?_;rintro _ w12 ⟨rfl,hb12⟩;replace HI:=Bx.mk (HI.out.later hb12);replace HFSb:Bx (∀ k,FS k→k<w12.heap.size):=⟨fun k hk=>Nat.lt_of_lt_of_le (HFSb.out k hk) hb12.size⟩;clear hb12 HDg;go_upto_region 12 with fail
 refine zDy 11 2 (fun i v w'=>match i with
  | 0=>v = .pointer (some ⟨sb,0,none⟩)
  | 1=>v = .int .i64 (idn ts1 n F1)
  | 2=>v = .int .i64 ((n:Int)+2)
  | 3=>v = .agg #[px,py,pz]
  | 4=>v = .pointer (some ⟨sb,0,none⟩)
  | 5=>v = .int .i64 (idn ts0 n F0)
  | 6=>v = .int .i64 ((n:Int)+2)
  | 7=>v = .agg #[px,py,pz]
  | 8=>v = .int .i64 c0v
  | 9=>v = .agg #[px,py,pz,(0:Int),c0v]
  | _=>ChSl px py pz 0 c0v v w') (by kernel_rfl) (by kernel_rfl) 156 (by kernel_rfl) (by rfl) ?_ ?_ ?_
 · intro i hi v u1 u2 hb h
   match i,hi with
   | 0,_=>exact h
   | 1,_=>exact h
   | 2,_=>exact h
   | 3,_=>exact h
   | 4,_=>exact h
   | 5,_=>exact h
   | 6,_=>exact h
   | 7,_=>exact h
   | 8,_=>exact h
   | 9,_=>exact h
   | 10,_=>obtain ⟨g,cap,h1,h2,h3⟩:=h;exact ⟨g,cap,h1,h2,h3.later hb⟩
 · intro i o hi ho ρ w1 hb hc1 hc2 hc3 hk
   match i,hi with
   | 0, _ =>
     obtain rfl:=Option.some.inj ho;have g0:ρ (.tmp 9) = .pointer (some ⟨sb,0,none⟩):=hk 9 (by simp [Op.operands,Call.operands])
     clear hk hb HI HGet0 HWr HFS0 HFSb;go_simp;exact Below.refl _ _
   | 1, _ =>
     obtain rfl:=Option.some.inj ho;have g0:ρ (.tmp 18) = .int .i64 (idn ts1 n F1):=hk 18 (by simp [Op.operands,Call.operands])
     clear hk hb HI HGet0 HWr HFS0 HFSb;go_simp;exact Below.refl _ _
   | 2, _ =>
     obtain rfl:=Option.some.inj ho;have g0:ρ (.tmp 1) = .int .i64 ((n:Int)+2):=hk 1 (by simp [Op.operands,Call.operands])
     clear hk hb HI HGet0 HWr HFS0 HFSb;go_simp;exact Below.refl _ _
   | 3, _ =>
     obtain rfl:=Option.some.inj ho;have g0:ρ (.tmp 6) = .pointer (some ⟨w.heap.size+1,0,none⟩):=hk 6 (by simp [Op.operands,Call.operands])
     have k1:=HI.out.kp.later hb;obtain ⟨z0,z1,z2⟩:=k1.c3;clear hk hb HI HGet0 HWr HFS0 HFSb;go_simp;exact Below.refl _ _
   | 4, _ =>
     obtain rfl:=Option.some.inj ho;have g0:ρ (.tmp 9) = .pointer (some ⟨sb,0,none⟩):=hk 9 (by simp [Op.operands,Call.operands])
     clear hk hb HI HGet0 HWr HFS0 HFSb;go_simp;exact Below.refl _ _
   | 5, _ =>
     obtain rfl:=Option.some.inj ho;have g0:ρ (.tmp 10) = .int .i64 (idn ts0 n F0):=hk 10 (by simp [Op.operands,Call.operands])
     clear hk hb HI HGet0 HWr HFS0 HFSb;go_simp;exact Below.refl _ _
   | 6, _ =>
     obtain rfl:=Option.some.inj ho;have g0:ρ (.tmp 1) = .int .i64 ((n:Int)+2):=hk 1 (by simp [Op.operands,Call.operands])
     clear hk hb HI HGet0 HWr HFS0 HFSb;go_simp;exact Below.refl _ _
   | 7, _ =>
     obtain rfl:=Option.some.inj ho;have g0:ρ (.tmp 6) = .pointer (some ⟨w.heap.size+1,0,none⟩):=hk 6 (by simp [Op.operands,Call.operands])
     have k1:=HI.out.kp.later hb;obtain ⟨z0,z1,z2⟩:=k1.c3;clear hk hb HI HGet0 HWr HFS0 HFSb;go_simp;exact Below.refl _ _
   | 8, _ =>
     obtain rfl:=Option.some.inj ho;have g0:ρ (.tmp 136) = .pointer (some ⟨sb,0,none⟩):=hk 136 (by simp [Op.operands,Call.operands])
     have g1:ρ (.tmp 137) = .int .i64 (idn ts0 n F0):=hk 137 (by simp [Op.operands,Call.operands])
     have g2:ρ (.tmp 138) = .int .i64 ((n:Int)+2):=hk 138 (by simp [Op.operands,Call.operands])
     have g3:ρ (.tmp 139) = .agg #[px,py,pz]:=hk 139 (by simp [Op.operands,Call.operands])
     have h4:=HGet0.out w1 (HI.out.ss.later hb);have H4:=Bx.mk h4;clear h4;clear hk hb HI HGet0 HWr HFS0 HFSb;go_simp
     all_goals exact H4.out
   | 9, _ =>
     obtain rfl:=Option.some.inj ho;have g0:ρ (.tmp 135) = .agg #[px,py,pz]:=hk 135 (by simp [Op.operands,Call.operands])
     have g1:ρ (.tmp 140) = .int .i64 c0v:=hk 140 (by simp [Op.operands,Call.operands])
     clear hk hb HI HGet0 HWr HFS0 HFSb;go_simp;exact Below.refl _ _
   | 10, _ =>
     obtain rfl:=Option.some.inj ho;have g0:ρ (.tmp 141) = .agg #[px,py,pz,(0:Int),c0v]:=hk 141 (by simp [Op.operands,Call.operands])
     have Hn:=Bx.mk (show ChSl px py pz 0 c0v (.slice (some ⟨w1.heap.size,0,none⟩) 1 1) (w1.alloc (.cells #[px,py,pz,(0:Int),c0v] 41)) from ⟨_,_,rfl,Nat.le_refl _,Bk.new _ _ _⟩);clear hk hb HI HGet0 HWr HFS0 HFSb;go_simp;exact ⟨(Below.refl _ _).alloc (Nat.le_refl _) _,Hn.out⟩
 · intro vs W1 hlen hb hR
   match vs,hlen with
   | [v0, v1, v2, v3, v4, v5, v6, v7, v8, v9, v10], _ =>
     have r0:v0 = .pointer (some ⟨sb,0,none⟩):=hR 0 v0 rfl;have r1:v1 = .int .i64 (idn ts1 n F1):=hR 1 v1 rfl;have r2:v2 = .int .i64 ((n:Int)+2):=hR 2 v2 rfl;have r3:v3 = .agg #[px,py,pz]:=hR 3 v3 rfl;have r4:v4 = .pointer (some ⟨sb,0,none⟩):=hR 4 v4 rfl;have r5:v5 = .int .i64 (idn ts0 n F0):=hR 5 v5 rfl;have r6:v6 = .int .i64 ((n:Int)+2):=hR 6 v6 rfl;have r7:v7 = .agg #[px,py,pz]:=hR 7 v7 rfl;have r8:v8 = .int .i64 c0v:=hR 8 v8 rfl;have r9:v9 = .agg #[px,py,pz,(0:Int),c0v]:=hR 9 v9 rfl;have r10:ChSl px py pz 0 c0v v10 W1:=hR 10 v10 rfl;clear hR;subst r0 r1 r2 r3 r4 r5 r6 r7 r8 r9;obtain ⟨g,cap,hv10,hcap,hbk⟩:=r10;subst hv10;simp only [zAk,List.take_succ_cons,List.take_zero,List.drop_succ_cons,List.drop_zero,List.map_cons,List.map_nil,List.zip_cons_cons,List.zip_nil_right,List.foldl_cons,List.foldl_nil];go_wp2_with fail;refine (HWr.out W1 g cap (fun k hk=>Nat.lt_of_lt_of_le (HFSb.out k hk) hb.size) (HI.out.ss.later hb) hcap hbk).mono ?_;rintro _ w13 ⟨rfl,hK13⟩;have hB13:Below w.heap.size w w13:=zBx (HI.out.bel.trans (hb.mono HI.out.bel.size)) hK13 (fun k hk=>HFS0.out k (by omega))
     have HB13:=Bx.mk hB13;clear hB13 hK13 hbk hb HI HFSb;go_wp2_with fail;refine (zAP _).mono ?_;rintro _ w14 ⟨rfl,hb14⟩;have HB14:=Bx.mk (HB13.out.trans (hb14.mono HB13.out.size));have te:(idn ts0 n F0 == idn ts0 n F0)=true:=by simp
     clear hb14 HB13;go_wp2_with fail;go_ret;exact ⟨rfl,HB14.out⟩
end
section
open Go.RowKit Go.Sort Go.Maps
open Oct
theorem zC3 (kc:List Int) (hk:kc.length=64) (a b c d e f dd px py pz cell:Int) (ha:Option Addr) (hcp:Nat) (xs:List Int) (hcap:xs.length≤hcp) (w:World) (hsl:Sl w .i64 ha xs) (hK:Krow w 0 kc) :
 Calls Tryz.prog 3 #[.agg #[a,b,c,d,e,f,.slice ha xs.length hcp],dd,.agg #[px,py,pz],cell] w fun e' w'=>e' = .returned (.bool true)∧Below w.heap.size w w':=by
 by_cases hfw:xs.length≤300∧zA9 ⟨⟨a,b,c⟩,⟨d,e,f⟩⟩ xs dd=0
 · obtain ⟨h1,hE⟩:=hfw;obtain ⟨n,hn,rfl,hV,hC⟩:=zIK hE;have HX:=zLs hV h1 hcap;have hfew : ∀ W,Below w.heap.size w W→Calls Tryz.prog 4 #[.agg #[a,b,c,d,e,f,.slice ha xs.length hcp],.int .i64 ((n:Int)+2),.slice none 0 0] W fun e' w'=>e' = .returned (.bool true)∧Below W.heap.size W w':=fun W hb=>zFq a b c d e f ha hcp xs h1 n hn hE none 0 [] (by simp) W (hsl.below hb) (fun i s h=>by simp at h)
   cases hin:inB ⟨px,py,pz⟩ (zy (2 ^ (n+2))) with
   | false=>exact zMz a b c d e f px py pz cell n hn ha hcp xs w hin hfew
   | true =>
     by_cases hc0:cell<0
     · exact zMy a b c d e f px py pz cell n hn ha hcp xs w hin hc0 hfew
     by_cases hc1:255<cell
     · exact zMx a b c d e f px py pz cell n hn ha hcp xs w hin hc1 hfew
     exact ts_on kc hk a b c d e f px py pz cell ha hcp xs w h1 hsl n hn HX hE hV hC hin ⟨by omega,by omega⟩ hK
 · exact zM0 a b c d e f px py pz cell dd ha hcp xs w (fun W hb=>zL2 a b c d e f dd ha hcp xs none 0 0 (fun h=>hfw ⟨h.1,h.2.2⟩) W (hsl.below hb))
end
section
open Go.RowKit Go.ChangeShapes Go.WideShapes
open Oct
theorem zGo : Tryz.prog.cellsOf 23=3:=by kernel_rfl
theorem zMK : Tryz.prog.cellsOf 25=6:=by kernel_rfl
theorem zKS : Tryz.prog.cellsOf 28=7:=by kernel_rfl
theorem zCM : Tryz.prog.cellsOf 3=1:=by kernel_rfl
theorem zKR : Tryz.prog.cellsOf 26=1:=by kernel_rfl
theorem row_sl {k:IntKind} {w:World} {a:Option Addr} {len cap:Nat} {zs:List Int}
 (h:(a=none∧len=0∧cap=0∧zs=[]) ∨ ∃ x,a=some x∧len≤cap∧cap≤maxLen∧zs.length=cap∧(∀ i,i<zs.length→w.cell? (x.add i)=some (.int k (zs.getD i 0))) ∧ ∀ n∈zs,(Lit.int k n).wf=true) :
 ∃ xs:List Int,len=xs.length∧Sl w k a xs:=by
 rcases h with ⟨rfl,rfl,rfl,rfl⟩ | ⟨x,rfl,hl,hm,hz,hc,hw⟩
 · exact ⟨[],rfl,Sl.nil _ _ _⟩
 · refine ⟨zs.take len,by simp;omega,fun i y hy=>?_⟩
   rw [List.getElem?_take] at hy;split at hy
   · rename_i hi;have h1:=hc i (by omega)
     have h2:w.cell? (x.add i)=some (.int k y):=by rw [h1];simp [List.getD,hy]
     obtain ⟨b,off,spot⟩:=x
     have hspot:spot=none:=by
      have h0:=hc 0 (by omega)
      simpa [Addr.add] using World.cell?_spot h0
     subst hspot;refine ⟨b,off,rfl,?_⟩;have:(⟨b,off,none⟩:Addr).add i=⟨b,off+i,none⟩:=by unfold Addr.add;split <;> simp_all
     rwa [this] at h2
   · cases hy
section
variable {H:Type} {enc:TypeId × Value→H} {w:World} {base:Nat} {spare:Nat→Bool} {held:Bool} {fuel:Nat} {x:DataW H × List MemPlace}
theorem zDN {v:Value} (h:DataW.trod enc Tryz.prog w base spare held fuel 3 [v]=some x) : ∃ n:Int,v = .int .i64 n∧(Lit.int .i64 n).wf=true:=by
 obtain ⟨n,h1,_,h2⟩:=DataW.trod_int Tryz.underlying3 h;simp only [List.cons.injEq,and_true] at h1;exact ⟨n,h1,h2⟩
theorem zGD {c0 c1 c2:Value} (h:DataW.trod enc Tryz.prog w base spare held fuel 23 [c0,c1,c2]=some x) :
 ∃ a b c:Int,c0 = .int .i64 a∧c1 = .int .i64 b∧c2 = .int .i64 c:=by
 obtain ⟨y0,y1,y2,n,_,_,h0,h1,h2⟩:=Go.Deep.trod_struct3 Tryz.underlying23 h;have h0:DataW.trod enc Tryz.prog w base spare held n 3 [c0]=some y0:=by simpa [zCM] using h0
 have h1:DataW.trod enc Tryz.prog w base spare held n 3 [c1]=some y1:=by simpa [zCM] using h1
 have h2:DataW.trod enc Tryz.prog w base spare held n 3 [c2]=some y2:=by simpa [zCM] using h2
 obtain ⟨a,e0,_⟩:=zDN h0;obtain ⟨b,e1,_⟩:=zDN h1;obtain ⟨c,e2,_⟩:=zDN h2;exact ⟨a,b,c,e0,e1,e2⟩
theorem zKw {c0 c1 c2 c3 c4 c5:Value} (h:DataW.trod enc Tryz.prog w base spare held fuel 25 [c0,c1,c2,c3,c4,c5]=some x) :
 ∃ a b c d e f:Int,c0 = .int .i64 a∧c1 = .int .i64 b∧c2 = .int .i64 c∧c3 = .int .i64 d∧c4 = .int .i64 e∧c5 = .int .i64 f:=by
 obtain ⟨y0,y1,n,_,_,h0,h1⟩:=trod_struct2 Tryz.underlying25 h;have h0:DataW.trod enc Tryz.prog w base spare held n 23 [c0,c1,c2]=some y0:=by simpa [zGo] using h0
 have h1:DataW.trod enc Tryz.prog w base spare held n 23 [c3,c4,c5]=some y1:=by simpa [zGo] using h1
 obtain ⟨a,b,c,e0,e1,e2⟩:=zGD h0;obtain ⟨d,e,f,e3,e4,e5⟩:=zGD h1;exact ⟨a,b,c,d,e,f,e0,e1,e2,e3,e4,e5⟩
theorem zIz {v:Value} (h:DataW.trod enc Tryz.prog w base (fun _=>true) held fuel 26 [v]=some x) :
 ∃ ha hcp,∃ xs:List Int,v = .slice ha xs.length hcp∧Sl w .i64 ha xs∧xs.length≤hcp:=by
 rcases open_ints Tryz.underlying26 Tryz.underlying3 zCM h with ⟨h1,_⟩ | ⟨a,len,cap,zs,h1,_,hl,hm,hz,_,hc,hw⟩
 · simp only [List.cons.injEq,and_true] at h1;exact ⟨none,0,[],h1,Sl.nil _ _ _,by simp⟩
 · simp only [List.cons.injEq,and_true] at h1;simp only [if_true] at hz;obtain ⟨xs,e,hs⟩:=row_sl (k:=.i64) (w:=w) (a:=some a) (len:=len) (cap:=cap) (zs:=zs) (Or.inr ⟨a,rfl,hl,hm,hz,hc,hw⟩);exact ⟨some a,cap,xs,by rw [h1,e],hs,by omega⟩
theorem list7 {α:Type} {l:List α} (h:l.length=7) : ∃ a b c d e f g,l=[a,b,c,d,e,f,g]:=by
 match l,h with
 | [a,b,c,d,e,f,g],_=>exact ⟨a,b,c,d,e,f,g,rfl⟩
theorem list3 {α:Type} {l:List α} (h:l.length=3) : ∃ a b c,l=[a,b,c]:=by
 match l,h with
 | [a,b,c],_=>exact ⟨a,b,c,rfl⟩
theorem zJb {r:Reach} {b0:Nat} {v:Value} {d:DataW H} {p:List MemPlace} (hv:Value.okWide Tryz.prog w r b0 28 v) (h:DataW.Trod enc Tryz.prog w base (fun _=>true) held 28 v d p) :
 ∃ (a b c d e f:Int) (ha:Option Addr) (hcp:Nat) (xs:List Int),v = .agg #[a,b,c,d,e,f,.slice ha xs.length hcp]∧Sl w .i64 ha xs∧xs.length≤hcp:=by
 obtain ⟨cs,rfl,hsz⟩:=okWide_struct Tryz.underlying28 hv;obtain ⟨l⟩:=cs;have hl:l.length=7:=by rw [zKS] at hsz;exact hsz
 obtain ⟨c0,c1,c2,c3,c4,c5,c6,rfl⟩:=list7 hl;obtain ⟨fuel,hf⟩:=h;obtain ⟨y0,y1,n,_,_,h0,h1⟩:=trod_struct2 Tryz.underlying28 hf;have h0:DataW.trod enc Tryz.prog w base (fun _=>true) held n 25 [c0,c1,c2,c3,c4,c5]=some y0:=by simpa [Value.cells,zMK] using h0
 have h1:DataW.trod enc Tryz.prog w base (fun _=>true) held n 26 [c6]=some y1:=by simpa [Value.cells,zKR] using h1
 obtain ⟨a,b,c,d,e,f,rfl,rfl,rfl,rfl,rfl,rfl⟩:=zKw h0;obtain ⟨ha,hcp,xs,rfl,hs,hc⟩:=zIz h1;exact ⟨a,b,c,d,e,f,ha,hcp,xs,rfl,hs,hc⟩
theorem zNZ {r:Reach} {b0:Nat} {v:Value} {d:DataW H} {p:List MemPlace} (hv:Value.okWide Tryz.prog w r b0 23 v) (h:DataW.Trod enc Tryz.prog w base spare held 23 v d p) :
 ∃ a b c:Int,v = .agg #[a,b,c]:=by
 obtain ⟨cs,rfl,hsz⟩:=okWide_struct Tryz.underlying23 hv;obtain ⟨l⟩:=cs;have hl:l.length=3:=by rw [zGo] at hsz;exact hsz
 obtain ⟨c0,c1,c2,rfl⟩:=list3 hl;obtain ⟨fuel,hf⟩:=h;obtain ⟨a,b,c,rfl,rfl,rfl⟩:=zGD (by simpa [Value.cells] using hf)
 exact ⟨a,b,c,rfl⟩
end
end
end Go.Proofs.YtfcbajmjaifjlaaGreatDoor
