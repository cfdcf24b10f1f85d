/- Make, Read, App, Pnt, DecP: joined by program, for one claim. -/
import Derived.Test.YtfcbajmjaifjlaaGreatMr
import Derived.Test.YtfcbajmjaifjlaaGreatM4
import Derived.Test.YtfcbajmjaifjlaaGreatM3
import Derived.Deep.Cut
import Derived.Maps.AppendAt
import Derived.Deep.RegionLaw
import Derived.Test.YtfcbajmjaifjlaaGreatM1
import Derived.Test.YtfcbajmjaifjlaaGreatM2
set_option linter.unusedVariables false
set_option linter.unusedSimpArgs false
namespace Go.Proofs.YtfcbajmjaifjlaaGreat
section
open Go.RowKit Go.Sort Go.Maps
open Oct
set_option maxRecDepth 100000 in
set_option maxHeartbeats 1000000 in
theorem make_has (Far:Nat→Prop) (sb:Nat) (most:Int) (ts:List Tr) (t:Tr) (k c d x0 x1 x2 x3 x4 x5 x6 x7:Int) (s:ByteArray) (hV:nodeV ts t=nodeA k c s d x0 x1 x2 x3 x4 x5 x6 x7) (hG:Good ts) (ht:t∈ts) (hk : ∃ kl,keyOf Tryz.prog 145 (nodeA k c s d x0 x1 x2 x3 x4 x5 x6 x7)=some kl)
 (w:World) (hS:StoreIs w Far sb most ts) :
 Calls Tryz.prog 109 #[.pointer (some ⟨sb,0,none⟩),.agg #[k,c,.string s,d,x0,x1,x2,x3,x4,x5,x6,x7]] w fun e' w'=>e' = .returned (.tuple #[(idT ts t:Int),(0:Int)])∧Below w.heap.size w w':=by
 obtain ⟨mb,nv,ks,hrow,hmap,hS'⟩:=hS
 obtain ⟨kl,hk⟩:=hk
 have hkf:=keyF_mem hG ht
 rw [hV] at hkf
 have hlook : ∀ W,Below w.heap.size w W→(Instr.lookup 111 (.map (some mb)) (.agg #[k,c,.string s,d,x0,x1,x2,x3,x4,x5,x6,x7]) true).run Tryz.prog W = .ok (.tuple #[(idT ts t:Int),.bool true]) W :=
  fun W hb=>((hmap.kept (row:=none) (grown_of_below hb) (by simp)).look hk).1 _ hkf
 have Hl:=Bx.mk hlook
 have Ks:=Bx.mk ks
 clear hS' hmap hrow hlook hkf hk hV ks
 generalize (idT ts t:Int)=ii at *
 go_enter Tryz.func109,Tryz.ntmps109
 go_wp2_with fail
 generalize hW:World.alloc w _=W
 have hSz:=sz1 hW
 have hB:=bl1 hW
 have kn:Bk W (w.heap.size) #[k,c,.string s,d,x0,x1,x2,x3,x4,x5,x6,x7] 145:=bk0 hW
 clear hW
 have ks:=Ks.out.later hB
 have hl2 : ∀ dk osk,(Instr.lookup 111 (.map (some mb)) (.agg #[k,c,.string s,d,x0,x1,x2,x3,x4,x5,x6,x7]) true).run Tryz.prog (grow (redrawn W dk) osk) = .ok (.tuple #[ii,.bool true]) (grow (redrawn W dk) osk) :=
  fun dk osk=>Hl.out _ (hB.trans ((below_regrown W dk osk).mono hB.size))
 clear Hl Ks
 obtain ⟨cn0,cn1,cn2,cn3,cn4,cn5,cn6,cn7⟩:=kn.r8
 have cn8 : ∀ dk osk,(grow (redrawn W dk) osk).cell? ⟨w.heap.size,8,none⟩=some (.int .i64 x4):=cell_regrown (kn.cell 8 rfl)
 have cn9 : ∀ dk osk,(grow (redrawn W dk) osk).cell? ⟨w.heap.size,9,none⟩=some (.int .i64 x5):=cell_regrown (kn.cell 9 rfl)
 have cn10 : ∀ dk osk,(grow (redrawn W dk) osk).cell? ⟨w.heap.size,10,none⟩=some (.int .i64 x6):=cell_regrown (kn.cell 10 rfl)
 have cn11 : ∀ dk osk,(grow (redrawn W dk) osk).cell? ⟨w.heap.size,11,none⟩=some (.int .i64 x7):=cell_regrown (kn.cell 11 rfl)
 obtain ⟨cs0,cs1,cs2⟩:=ks.r3
 refine wp_region_quiet_below (by kernel_rfl) (by kernel_rfl) ?_
 repeat (first | go_big_quiet_step ((fail)) | quiet_step (fail))
 refine wpQuiet_nil ?_
 rintro _ ⟨⟨dq,osq⟩,rfl⟩
 have hb:=below_regrown W dq osq
 clear cn0 cn1 cn2 cn3 cn4 cn5 cn6 cn7 cn8 cn9 cn10 cn11
 clear cs0 cs1 cs2
 replace hB:=hB.trans (hb.mono hB.size)
 replace kn:=kn.later hb
 replace ks:=ks.later hb
 replace hSz:=Nat.le_trans hSz hb.size
 clear hb
 generalize grow (redrawn W dq) osq=W1 at *
 clear hl2
 go_wp2_with fail
 go_ret2
 exact ⟨rfl,hB⟩
theorem row_form {w:World} {B n:Nat} {e:TypeId} {sz:Nat} {v:Value} {xs:List Value} (h:w.ownsRow B e sz v n xs) : ∃ a cap,v = .slice a n cap:=by
 rcases h.2 with ⟨rfl,rfl⟩ | ⟨g,cap,cur,rfl,_⟩
 · exact ⟨_,_,rfl⟩
 · exact ⟨_,_,rfl⟩
set_option maxRecDepth 100000 in
set_option maxHeartbeats 1000000 in
theorem make_full (Far:Nat→Prop) (sb:Nat) (most:Int) (ts:List Tr) (t:Tr) (k c d x0 x1 x2 x3 x4 x5 x6 x7:Int) (s:ByteArray) (hV:nodeV ts t=nodeA k c s d x0 x1 x2 x3 x4 x5 x6 x7) (hG:Good ts) (ht:t ∉ ts) (hle:Leans ts t) (hby:Bytes t) (hm:most≤(ts.length:Int))
 (hk : ∃ kl,keyOf Tryz.prog 145 (nodeA k c s d x0 x1 x2 x3 x4 x5 x6 x7)=some kl) (w:World) (hS:StoreIs w Far sb most ts) :
 Calls Tryz.prog 109 #[.pointer (some ⟨sb,0,none⟩),.agg #[k,c,.string s,d,x0,x1,x2,x3,x4,x5,x6,x7]] w fun e' w'=>e' = .returned (.tuple #[(0:Int),(14:Int)])∧Below w.heap.size w w':=by
 obtain ⟨mb,nv,ks,hrow,hmap,hS'⟩:=hS
 obtain ⟨kl,hk⟩:=hk
 obtain ⟨na,nc,rfl⟩:=row_form hrow
 have hkf:=keyF_not hG ht hle hby
 rw [hV] at hkf
 have hlook : ∀ W,Below w.heap.size w W→(Instr.lookup 111 (.map (some mb)) (.agg #[k,c,.string s,d,x0,x1,x2,x3,x4,x5,x6,x7]) true).run Tryz.prog W = .ok (.tuple #[(0:Int),.bool false]) W :=
  fun W hb=>((hmap.kept (row:=none) (grown_of_below hb) (by simp)).look hk).2 hkf
 have Hl:=Bx.mk hlook
 have Ks:=Bx.mk ks
 clear hS' hmap hrow hlook hkf hk hV ks hG ht hle hby
 generalize ts.length=nn at *
 go_enter Tryz.func109,Tryz.ntmps109
 go_wp2_with fail
 generalize hW:World.alloc w _=W
 have hSz:=sz1 hW
 have hB:=bl1 hW
 have kn:Bk W (w.heap.size) #[k,c,.string s,d,x0,x1,x2,x3,x4,x5,x6,x7] 145:=bk0 hW
 clear hW
 have ks:=Ks.out.later hB
 have hl2 : ∀ dk osk,(Instr.lookup 111 (.map (some mb)) (.agg #[k,c,.string s,d,x0,x1,x2,x3,x4,x5,x6,x7]) true).run Tryz.prog (grow (redrawn W dk) osk) = .ok (.tuple #[(0:Int),.bool false]) (grow (redrawn W dk) osk) :=
  fun dk osk=>Hl.out _ (hB.trans ((below_regrown W dk osk).mono hB.size))
 clear Hl Ks
 obtain ⟨cn0,cn1,cn2,cn3,cn4,cn5,cn6,cn7⟩:=kn.r8
 have cn8 : ∀ dk osk,(grow (redrawn W dk) osk).cell? ⟨w.heap.size,8,none⟩=some (.int .i64 x4):=cell_regrown (kn.cell 8 rfl)
 have cn9 : ∀ dk osk,(grow (redrawn W dk) osk).cell? ⟨w.heap.size,9,none⟩=some (.int .i64 x5):=cell_regrown (kn.cell 9 rfl)
 have cn10 : ∀ dk osk,(grow (redrawn W dk) osk).cell? ⟨w.heap.size,10,none⟩=some (.int .i64 x6):=cell_regrown (kn.cell 10 rfl)
 have cn11 : ∀ dk osk,(grow (redrawn W dk) osk).cell? ⟨w.heap.size,11,none⟩=some (.int .i64 x7):=cell_regrown (kn.cell 11 rfl)
 obtain ⟨cs0,cs1,cs2⟩:=ks.r3
 refine wp_region_quiet_below (by kernel_rfl) (by kernel_rfl) ?_
 repeat (first | go_big_quiet_step ((fail)) | quiet_step (fail))
 refine wpQuiet_nil ?_
 rintro _ ⟨⟨dq,osq⟩,rfl⟩
 have hb:=below_regrown W dq osq
 clear cn0 cn1 cn2 cn3 cn4 cn5 cn6 cn7 cn8 cn9 cn10 cn11
 clear cs0 cs1 cs2
 replace hB:=hB.trans (hb.mono hB.size)
 replace kn:=kn.later hb
 replace ks:=ks.later hb
 replace hSz:=Nat.le_trans hSz hb.size
 clear hb
 generalize grow (redrawn W dq) osq=W1 at *
 clear hl2
 go_wp2_with fail
 obtain ⟨cs0,cs1,cs2⟩:=ks.r3
 refine wp_region_quiet_below (by kernel_rfl) (by kernel_rfl) ?_
 repeat (first | go_big_quiet_step ((fail)) | quiet_step (fail))
 refine wpQuiet_nil ?_
 rintro _ ⟨⟨dq,osq⟩,rfl⟩
 have hb:=below_regrown W1 dq osq
 clear cs0 cs1 cs2
 replace hB:=hB.trans (hb.mono hB.size)
 replace kn:=kn.later hb
 replace ks:=ks.later hb
 replace hSz:=Nat.le_trans hSz hb.size
 clear hb
 generalize grow (redrawn W1 dq) osq=W2 at *
 go_wp2_with fail
 go_ret2
 exact ⟨rfl,hB⟩
end
section
open Go.RowKit Go.Sort Go.Maps
open Oct
theorem flat_get {α:Type} (f:Tr→List α) (m:Nat) : ∀ (l:List Tr),(∀ x∈l,(f x).length=m) → ∀ (i:Nat) (t:Tr) (j:Nat),l[i]? = some t→j<m→(l.flatMap f)[i * m+j]? = (f t)[j]?
 | [],_,i,t,j,h,_=>by simp at h
 | x :: r, hl, 0, t, j, h, hj => by
   simp at h
   subst h
   rw [List.flatMap_cons,Nat.zero_mul,Nat.zero_add,List.getElem?_append_left (by rw [hl x (by simp)];exact hj)]
 | x :: r, hl, i + 1, t, j, h, hj => by
   rw [List.flatMap_cons,List.getElem?_append_right (by rw [hl x (by simp),Nat.succ_mul];omega),hl x (by simp)]
   rw [show (i+1) * m+j - m=i * m+j by rw [Nat.succ_mul];omega]
   exact flat_get f m r (fun y hy=>hl y (by simp [hy])) i t j (by simpa using h) hj
theorem nodeV_len (ts:List Tr) (t:Tr):(nodeV ts t).cells.toList.length=12:=by cases t <;> rfl
theorem StoreIs.node {w:World} {Far:Nat→Prop} {sb:Nat} {most:Int} {ts:List Tr} (h:StoreIs w Far sb most ts) {i:Nat} {t:Tr} (ht:ts[i]? = some t) :
 ∃ g cap mb,Bk w sb #[most,.slice (some ⟨g,0,none⟩) ts.length cap,.map (some mb)] 113∧i<ts.length ∧ ∀ j u,j<12→(nodeV ts t).cells.toList[j]? = some u→w.cell? ⟨g,i * 12+j,none⟩=some u:=by
 obtain ⟨mb,nv,h1,h2,_⟩:=h
 have hi:i<ts.length:=(List.getElem?_eq_some_iff.1 ht).1
 rcases h2.2 with ⟨_,h0⟩ | ⟨g,cap,cur,rfl,_⟩
 · omega
 · refine ⟨g,cap,mb,h1,hi,fun j u hj hu=>?_⟩
   have hc:=World.ownsRow.cells h2 (g:=g) rfl (i * 12+j) u (by unfold rowV;rw [flat_get _ 12 ts (fun x _=>nodeV_len ts x) i t j ht hj];exact hu)
   have e:(⟨g,0,none⟩:Addr).add (i * 12+j)=⟨g,i * 12+j,none⟩:=by unfold Addr.add;split <;> simp_all
   rw [e] at hc;exact hc
theorem kind_any (Far:Nat→Prop) (sb:Nat) (most:Int) (ts:List Tr) (i:Nat) (t:Tr) (ht:ts[i]? = some t) (v:Int) (hv:(nodeV ts t).cells.toList[0]? = some (.int .i64 v)) (_hlen:ts.length≤4194304) (w:World) (hS:StoreIs w Far sb most ts) :
 Calls Tryz.prog 39 #[.pointer (some ⟨sb,0,none⟩),(i:Int)] w fun e' w'=>e' = .returned (.int .i64 v)∧w=w':=by
 obtain ⟨g,cap,mb,ks,hi,hc⟩:=hS.node ht
 have hcv:=hc 0 _ (by omega) hv
 try rw [Nat.add_zero] at hcv
 have cs1:=ks.cell 1 rfl
 have b1:(0:Int)≤(i:Int):=by omega
 have b2:(i:Int)<(ts.length:Int):=by omega
 clear hc ks hS hv ht
 generalize ts.length=n at *
 go_enter Tryz.func39,Tryz.ntmps39
 go_wp2_with fail
 go_ret
 exact ⟨rfl,rfl⟩
theorem depth_any (Far:Nat→Prop) (sb:Nat) (most:Int) (ts:List Tr) (i:Nat) (t:Tr) (ht:ts[i]? = some t) (v:Int) (hv:(nodeV ts t).cells.toList[3]? = some (.int .i64 v)) (_hlen:ts.length≤4194304) (w:World) (hS:StoreIs w Far sb most ts) :
 Calls Tryz.prog 63 #[.pointer (some ⟨sb,0,none⟩),(i:Int)] w fun e' w'=>e' = .returned (.int .i64 v)∧w=w':=by
 obtain ⟨g,cap,mb,ks,hi,hc⟩:=hS.node ht
 have hcv:=hc 3 _ (by omega) hv
 try rw [Nat.add_zero] at hcv
 have cs1:=ks.cell 1 rfl
 have b1:(0:Int)≤(i:Int):=by omega
 have b2:(i:Int)<(ts.length:Int):=by omega
 clear hc ks hS hv ht
 generalize ts.length=n at *
 go_enter Tryz.func63,Tryz.ntmps63
 go_wp2_with fail
 go_ret
 exact ⟨rfl,rfl⟩
theorem len_any (Far:Nat→Prop) (sb:Nat) (most:Int) (ts:List Tr) (w:World) (hS:StoreIs w Far sb most ts) :
 Calls Tryz.prog 16 #[.pointer (some ⟨sb,0,none⟩)] w fun e' w'=>e' = .returned (.int .i64 (ts.length:Int))∧w=w':=by
 obtain ⟨mb,nv,ks,hrow,_⟩:=hS
 obtain ⟨na,nc,rfl⟩:=row_form hrow
 have cs1:=ks.cell 1 rfl
 clear hrow ks
 generalize ts.length=n at *
 go_enter Tryz.func16,Tryz.ntmps16
 go_wp2_with fail
 go_ret
 exact ⟨rfl,rfl⟩
theorem Bk.put8 {w:World} {g:Nat} {t:TypeId} {v:Value} (h:Bk w g #[v,v,v,v,v,v,v,v] t) (a b c d e f i j:Value) :
 Bk ((((((((w.setCell ⟨g,0,none⟩ a).setCell ⟨g,1,none⟩ b).setCell ⟨g,2,none⟩ c).setCell ⟨g,3,none⟩ d).setCell ⟨g,4,none⟩ e).setCell ⟨g,5,none⟩ f).setCell ⟨g,6,none⟩ i).setCell ⟨g,7,none⟩ j) g #[a,b,c,d,e,f,i,j] t:=by
 simpa using (((((((h.set 0 a).set 1 b).set 2 c).set 3 d).set 4 e).set 5 f).set 6 i).set 7 j
theorem blw8 {B:Nat} {a w:World} (h:Below B a w) {g:Nat} (hg:B≤g) (x y z x' y' z' s s':Value) :
 Below B a ((((((((w.setCell ⟨g,0,none⟩ x).setCell ⟨g,1,none⟩ y).setCell ⟨g,2,none⟩ z).setCell ⟨g,3,none⟩ x').setCell ⟨g,4,none⟩ y').setCell ⟨g,5,none⟩ z').setCell ⟨g,6,none⟩ s).setCell ⟨g,7,none⟩ s') :=
 (((((((h.setCell hg _).setCell hg _).setCell hg _).setCell hg _).setCell hg _).setCell hg _).setCell hg _).setCell hg _
set_option maxHeartbeats 1000000 in
theorem children_any (Far:Nat→Prop) (sb:Nat) (most:Int) (ts:List Tr) (i:Nat) (t:Tr) (ht:ts[i]? = some t) (x0 x1 x2 x3 x4 x5 x6 x7:Int) (hv : ∀ j u,#[Value.int .i64 x0,Value.int .i64 x1,Value.int .i64 x2,Value.int .i64 x3,Value.int .i64 x4,Value.int .i64 x5,Value.int .i64 x6,Value.int .i64 x7].toList[j]? = some u→(nodeV ts t).cells.toList[4+j]? = some u) (w:World) (hS:StoreIs w Far sb most ts) :
 Calls Tryz.prog 65 #[.pointer (some ⟨sb,0,none⟩),(i:Int)] w fun e' w'=>e' = .returned (.agg #[x0,x1,x2,x3,x4,x5,x6,x7])∧Below w.heap.size w w':=by
 have HS:=Bx.mk hS
 have Hv:=Bx.mk hv
 have Ht:=Bx.mk ht
 clear hS hv ht
 go_enter Tryz.func65,Tryz.ntmps65
 go_upto_region 1 with fail
 generalize hW:World.alloc w _=W
 have hSz:=sz1 hW
 have hB:=bl1 hW
 have kr:Bk W (w.heap.size) #[(0:Int),(0:Int),(0:Int),(0:Int),(0:Int),(0:Int),(0:Int),(0:Int)] 108:=bk0 hW
 clear hW
 obtain ⟨cr0,cr1,cr2,cr3,cr4,cr5,cr6,cr7⟩:=kr.c8
 obtain ⟨fr0,fr1,fr2,fr3,fr4,fr5,fr6,fr7⟩:=kr.f8
 obtain ⟨g,cap,mb,ks,hi,hc⟩:=(HS.out.later hB).node Ht.out
 have d0:=hc 4 _ (by omega) (Hv.out 0 _ rfl)
 have d1:=hc 5 _ (by omega) (Hv.out 1 _ rfl)
 have d2:=hc 6 _ (by omega) (Hv.out 2 _ rfl)
 have d3:=hc 7 _ (by omega) (Hv.out 3 _ rfl)
 have d4:=hc 8 _ (by omega) (Hv.out 4 _ rfl)
 have d5:=hc 9 _ (by omega) (Hv.out 5 _ rfl)
 have d6:=hc 10 _ (by omega) (Hv.out 6 _ rfl)
 have d7:=hc 11 _ (by omega) (Hv.out 7 _ rfl)
 have cs1:=ks.cell 1 rfl
 have b1:(0:Int)≤(i:Int):=by omega
 have b2:(i:Int)<(ts.length:Int):=by omega
 clear hc HS Hv Ht ks
 generalize ts.length=n at *
 go_wp2_with fail
 replace kr:=kr.put8 (.int .i64 x0) (.int .i64 x1) (.int .i64 x2) (.int .i64 x3) (.int .i64 x4) (.int .i64 x5) (.int .i64 x6) (.int .i64 x7)
 exact bodyPost_ret (v:=.agg #[x0,x1,x2,x3,x4,x5,x6,x7]) (results_cell_row rfl _ _ _ 108 #[x0,x1,x2,x3,x4,x5,x6,x7] (0,0) _ rfl kr Tryz.underlying108 rfl (by kernel_rfl)) rfl ⟨rfl,blw8 hB (by omega) _ _ _ _ _ _ _ _⟩
theorem keyF_nil (v:Value):keyF [] v=none:=by
 unfold keyF
 rw [dif_neg]
 rintro ⟨t,h,_⟩
 cases h
theorem newStore_any (most:Int) (w:World):Calls Tryz.prog 47 #[most] w fun e' w' => ∃ sb,e' = .returned (.pointer (some ⟨sb,0,none⟩))∧StoreIs w' (fun k=>k<w.heap.size) sb most []∧Below w.heap.size w w':=by
 have hmm:=@run_makeMap Tryz.prog
 go_enter Tryz.func47,Tryz.ntmps47
 go_wp2_with fail
 generalize hW1:World.alloc w (Obj.map #[] 0)=W1
 have hB1:=bl1 hW1
 have hM:MapFn W1 w.heap.size 0 (fun _=>none):=by rw [←hW1];exact MapFn.made w
 have hs1:W1.heap.size=w.heap.size+1:=by rw [←hW1];simp
 clear hW1
 generalize hW2:World.alloc W1 _=W2
 have hb2:=bl1 hW2
 have ks:Bk W2 W1.heap.size #[most,.slice none 0 0,.map (some w.heap.size)] 113:=bk0 hW2 rfl
 clear hW2
 rw [hs1] at ks
 go_ret
 refine ⟨w.heap.size+1,by simp,⟨w.heap.size,.slice none 0 0,ks,World.ownsRow_nil _ _ _ _,((hM.kept (row:=none) (grown_of_below hb2) (by simp)).congr fun key kl _=>(keyF_nil key).symm),by omega,by omega,fun g hg=>by simp [Value.ownBlock] at hg,by omega,by simp [Value.ownBlock],by simp [Value.ownBlock]⟩,hB1.trans (hb2.mono (by omega))⟩
end
section
open Go.RowKit Go.Sort Go.Maps
theorem step_append_at {P:Program} {ops:Array Oper} {o:Oper} {a:Act} {w:World} {K:Act→World→Prop} {Q:Exit→Act→World→Prop} {E:Prop} (hgd:o.guard=none) (s x:Operand) (t:TypeId)
 (ho:o.op = .call { callee:=.builtin .append,args:=#[s,x],argTypes:=#[t,t] })
 (base:Nat) (e:TypeId) (i:TypeInfo) (z:Value) (size bytes:Nat) (ht:P.underlying t=some (.slice e)) (hi:P.info? e=some i) (hz:i.zero=some z)
 (hsize:i.size=size) (hby:i.bytes=bytes) (hzs:z.cells.size=size) (hsz:0<size)
 (v:Value) (n:Nat) (xs:List Value) (hs:a.eval s=v) (hown:w.ownsRow base e size v n xs)
 (ad:Addr) (m c:Nat) (news:List Value) (hx:a.eval x = .slice (some ad) m c) (hl:news.length=m * size) (hnews : ∀ j u,news[j]? = some u→w.cell? (ad.add j)=some u) (h1 : ∀ u∈news,u.oneCell'=true)
 (h63:n+m≤maxLen) (hbytes:(n+m) * bytes≤140737488355328) (hbase:base≤w.heap.size)
 (h : ∀ v' w',Bx (w'.ownsRow base e size v' (n+m) (xs++news))→Bx (w.grownBy w' v.ownBlock)→Bx (v'.ownBlock=v.ownBlock∨v'.ownBlock=some w.heap.size)→K (a.put o.dst v') w') :
 if Region.wanted o (yielded ops a.tmps)=true then Oper.wp P o a w K Q else E:=by
 have hw:Region.wanted o (yielded ops a.tmps)=true:=by simp [Region.wanted,hgd]
 rw [if_pos hw]
 obtain ⟨v',w',hr,h2,h3,h4,h5⟩:=run_append_own_at (P:=P) w base t o.type e i z size bytes ht hi hz hsize hby hzs hsz v n xs hown ad m c news hl hnews h1 h63 hbytes hbase
 unfold Oper.wp
 simp [execOp,ho,resolve,invoke,builtin,hs,hx,hr,Result.andThen]
 exact h v' w' ⟨h2⟩ ⟨h3⟩ ⟨h5⟩
end
section
open Go.RowKit Go.Sort
theorem add_any (px py pz qx qy qz:Int) (w:World) :
 Calls Tryz.prog 127 #[.agg #[px,py,pz],.agg #[qx,qy,qz]] w fun e w'=>e = .returned (.agg #[.int .i64 (wrap64 (px+qx)),.int .i64 (wrap64 (py+qy)),.int .i64 (wrap64 (pz+qz))])∧Below w.heap.size w w':=by
 go_enter Tryz.func127,Tryz.ntmps127
 go_wp2
 generalize hW:World.alloc (World.alloc (World.alloc w _) _) _=W
 have hSz:=sz3 hW
 have hB:=bl3 hW
 have kp:Bk W (w.heap.size) #[px,py,pz] 23:=bk2 hW
 have kq:Bk W (w.heap.size+1) #[qx,qy,qz] 23:=bk1 hW
 have kr:Bk W (w.heap.size+1+1) #[.int .i64 (wrap64 (px+qx)),.int .i64 (wrap64 (py+qy)),.int .i64 (wrap64 (pz+qz))] 23:=bk0 hW
 clear hW
 exact bodyPost_ret (v:=.agg #[.int .i64 (wrap64 (px+qx)),.int .i64 (wrap64 (py+qy)),.int .i64 (wrap64 (pz+qz))]) (results_cell_row rfl _ _ _ 23 #[.int .i64 (wrap64 (px+qx)),.int .i64 (wrap64 (py+qy)),.int .i64 (wrap64 (pz+qz))] (0,0) _ rfl kr Tryz.underlying23 rfl (by kernel_rfl)) rfl ⟨rfl,hB⟩
theorem scale_any (px py pz n:Int) (w:World) :
 Calls Tryz.prog 128 #[.agg #[px,py,pz],n] w fun e w'=>e = .returned (.agg #[.int .i64 (wrap64 (n * px)),.int .i64 (wrap64 (n * py)),.int .i64 (wrap64 (n * pz))])∧Below w.heap.size w w':=by
 go_enter Tryz.func128,Tryz.ntmps128
 go_wp2
 generalize hW:World.alloc (World.alloc w _) _=W
 have hSz:=sz2 hW
 have hB:=bl2 hW
 have kp:Bk W (w.heap.size) #[px,py,pz] 23:=bk1 hW
 have kr:Bk W (w.heap.size+1) #[.int .i64 (wrap64 (n * px)),.int .i64 (wrap64 (n * py)),.int .i64 (wrap64 (n * pz))] 23:=bk0 hW
 clear hW
 exact bodyPost_ret (v:=.agg #[.int .i64 (wrap64 (n * px)),.int .i64 (wrap64 (n * py)),.int .i64 (wrap64 (n * pz))]) (results_cell_row rfl _ _ _ 23 #[.int .i64 (wrap64 (n * px)),.int .i64 (wrap64 (n * py)),.int .i64 (wrap64 (n * pz))] (0,0) _ rfl kr Tryz.underlying23 rfl (by kernel_rfl)) rfl ⟨rfl,hB⟩
theorem in_any (px py pz a b c d e f:Int) (w:World) :
 Calls Tryz.prog 116 #[.agg #[px,py,pz],.agg #[a,b,c,d,e,f]] w fun e' w'=>e' = .returned (.bool (inB ⟨px,py,pz⟩ ⟨⟨a,b,c⟩,⟨d,e,f⟩⟩))∧Below w.heap.size w w':=by
 go_enter Tryz.func116,Tryz.ntmps116
 go_wp2
 all_goals
  go_ret
  exact ⟨ret_bool (by rw [Bool.eq_iff_iff];simp [inB];omega),((Below.refl _ _).alloc (Nat.le_refl _) _).alloc (by simp) _⟩
theorem empty_any (a b c d e f:Int) (w:World) :
 Calls Tryz.prog 74 #[.agg #[a,b,c,d,e,f]] w fun e' w'=>e' = .returned (.bool (emptyB ⟨⟨a,b,c⟩,⟨d,e,f⟩⟩))∧Below w.heap.size w w':=by
 go_enter Tryz.func74,Tryz.ntmps74
 go_wp2_with (go_at_call 116;refine (in_any _ _ _ _ _ _ _ _ _ _).mono ?_;rintro e' w1 ⟨rfl,hb⟩)
 go_ret
 exact ⟨rfl,((Below.refl _ _).alloc (Nat.le_refl _) _).trans (hb.mono (by simp))⟩
theorem cube_any (n:Int) (w:World) :
 Calls Tryz.prog 135 #[n] w fun e w'=>e = .returned (.agg #[(0:Int),(0:Int),(0:Int),n,n,n])∧Below w.heap.size w w':=by
 go_enter Tryz.func135,Tryz.ntmps135
 go_wp2
 generalize hW:World.alloc w _=W
 have hSz:=sz1 hW
 have hB:=bl1 hW
 have kr:Bk W (w.heap.size) #[(0:Int),(0:Int),(0:Int),n,n,n] 25:=bk0 hW
 clear hW
 exact bodyPost_ret (v:=.agg #[(0:Int),(0:Int),(0:Int),n,n,n]) (results_cell_row rfl _ _ _ 25 #[(0:Int),(0:Int),(0:Int),n,n,n] (0,0) _ rfl kr Tryz.underlying25 rfl (by kernel_rfl)) rfl ⟨rfl,hB⟩
theorem neg_any (qx qy qz:Int) (hqx : -9000000000000000000≤qx∧qx≤9000000000000000000) (hqy : -9000000000000000000≤qy∧qy≤9000000000000000000) (hqz : -9000000000000000000≤qz∧qz≤9000000000000000000) (w:World) :
 Calls Tryz.prog 128 #[.agg #[qx,qy,qz],.int .i64 (-1)] w fun e w'=>e = .returned (.agg #[.int .i64 (-qx),.int .i64 (-qy),.int .i64 (-qz)])∧Below w.heap.size w w':=by
 have h:=scale_any qx qy qz (-1) w
 have key : ∀ q:Int,(-9000000000000000000≤q∧q≤9000000000000000000)→wrap64 (-1 * q) = -q:=fun q h=>by
  rw [show -1 * q = -q by omega];exact IntWalk.wrap64_in _ (by omega)
 rw [key qx hqx,key qy hqy,key qz hqz] at h
 exact h
theorem sub_any (px py pz qx qy qz:Int) (hqx : -9000000000000000000≤qx∧qx≤9000000000000000000) (hqy : -9000000000000000000≤qy∧qy≤9000000000000000000) (hqz : -9000000000000000000≤qz∧qz≤9000000000000000000) (w:World) :
 Calls Tryz.prog 179 #[.agg #[px,py,pz],.agg #[qx,qy,qz]] w fun e w'=>e = .returned (.agg #[.int .i64 (wrap64 (px - qx)),.int .i64 (wrap64 (py - qy)),.int .i64 (wrap64 (pz - qz))])∧Below w.heap.size w w':=by
 have hn:=Bx.mk (neg_any qx qy qz hqx hqy hqz)
 clear hqx hqy hqz
 go_enter Tryz.func179,Tryz.ntmps179
 go_wp2
 generalize hW:World.alloc (World.alloc (World.alloc w _) _) _=W
 have hSz:=sz3 hW
 have hB:=bl3 hW
 have kp:Bk W (w.heap.size) #[px,py,pz] 23:=bk2 hW
 have kq:Bk W (w.heap.size+1) #[qx,qy,qz] 23:=bk1 hW
 have kr:Bk W (w.heap.size+1+1) #[(0:Int),(0:Int),(0:Int)] 23:=bk0 hW
 clear hW
 obtain ⟨cp0,cp1,cp2⟩:=kp.r3
 obtain ⟨cq0,cq1,cq2⟩:=kq.r3
 have q0:=Bx.mk fun dk osk=>Calls.regrown_of (hn.out (grow (redrawn W dk) osk))
 have q1:=Bx.mk fun dk osk=>Calls.regrown_of (add_any px py pz (-qx) (-qy) (-qz) (grow (redrawn W dk) osk))
 refine wp_region_head_below 4 (by kernel_rfl) (by kernel_rfl) ?_
 simp only [List.take_succ_cons,List.take_zero,List.drop_succ_cons,List.drop_zero]
 repeat (first | go_big_quiet_step ((first | with_reducible exact q0.out _ _ | with_reducible exact q1.out _ _)) | quiet_step (first | with_reducible exact q0.out _ _ | with_reducible exact q1.out _ _))
 refine wpQuiet_nil ?_
 rintro _ ⟨⟨dq,osq⟩,rfl⟩
 have hb:=below_regrown W dq osq
 replace hB:=hB.trans (hb.mono hB.size)
 clear cp0 cp1 cp2
 clear cq0 cq1 cq2
 clear q0
 clear q1
 replace kp:=kp.later hb
 replace kq:=kq.later hb
 replace kr:=kr.later hb
 replace hSz:=Nat.le_trans hSz hb.size
 clear hb
 generalize grow (redrawn W dq) osq=W1 at *
 have cr0:=kr.cell 0 rfl
 have fr0:=kr.frozen 0
 have cr1:=kr.cell 1 rfl
 have fr1:=kr.frozen 1
 have cr2:=kr.cell 2 rfl
 have fr2:=kr.frozen 2
 go_wp2
 replace kr:=kr.put3 (.int .i64 (wrap64 (px + -qx))) (.int .i64 (wrap64 (py + -qy))) (.int .i64 (wrap64 (pz + -qz)))
 exact bodyPost_ret (v:=.agg #[.int .i64 (wrap64 (px + -qx)),.int .i64 (wrap64 (py + -qy)),.int .i64 (wrap64 (pz + -qz))]) (results_cell_row rfl _ _ _ 23 #[.int .i64 (wrap64 (px + -qx)),.int .i64 (wrap64 (py + -qy)),.int .i64 (wrap64 (pz + -qz))] (0,0) _ rfl kr Tryz.underlying23 rfl (by kernel_rfl)) rfl ⟨rfl,blw3 hB (by omega) _ _ _⟩
theorem shift_any (a b c d e f px py pz:Int) (w:World) :
 Calls Tryz.prog 134 #[.agg #[a,b,c,d,e,f],.agg #[px,py,pz]] w fun e' w'=>e' = .returned (.agg #[.int .i64 (wrap64 (a+px)),.int .i64 (wrap64 (b+py)),.int .i64 (wrap64 (c+pz)),.int .i64 (wrap64 (d+px)),.int .i64 (wrap64 (e+py)),.int .i64 (wrap64 (f+pz))])∧Below w.heap.size w w':=by
 go_enter Tryz.func134,Tryz.ntmps134
 go_wp2
 generalize hW:World.alloc (World.alloc (World.alloc w _) _) _=W
 have hSz:=sz3 hW
 have hB:=bl3 hW
 have kb:Bk W (w.heap.size) #[a,b,c,d,e,f] 25:=bk2 hW
 have kp:Bk W (w.heap.size+1) #[px,py,pz] 23:=bk1 hW
 have kr:Bk W (w.heap.size+1+1) #[(0:Int),(0:Int),(0:Int),(0:Int),(0:Int),(0:Int)] 25:=bk0 hW
 clear hW
 obtain ⟨cb0,cb1,cb2,cb3,cb4,cb5⟩:=kb.r6
 obtain ⟨cp0,cp1,cp2⟩:=kp.r3
 have q0:=Bx.mk fun dk osk=>Calls.regrown_of (add_any a b c px py pz (grow (redrawn W dk) osk))
 have q1:=Bx.mk fun dk osk=>Calls.regrown_of (add_any d e f px py pz (grow (redrawn W dk) osk))
 refine wp_region_head_below 9 (by kernel_rfl) (by kernel_rfl) ?_
 simp only [List.take_succ_cons,List.take_zero,List.drop_succ_cons,List.drop_zero]
 repeat (first | go_big_quiet_step ((first | with_reducible exact q0.out _ _ | with_reducible exact q1.out _ _)) | quiet_step (first | with_reducible exact q0.out _ _ | with_reducible exact q1.out _ _))
 refine wpQuiet_nil ?_
 rintro _ ⟨⟨dq,osq⟩,rfl⟩
 have hb:=below_regrown W dq osq
 replace hB:=hB.trans (hb.mono hB.size)
 clear cb0 cb1 cb2 cb3 cb4 cb5
 clear cp0 cp1 cp2
 clear q0
 clear q1
 replace kb:=kb.later hb
 replace kp:=kp.later hb
 replace kr:=kr.later hb
 replace hSz:=Nat.le_trans hSz hb.size
 clear hb
 generalize grow (redrawn W dq) osq=W1 at *
 have cr0:=kr.cell 0 rfl
 have fr0:=kr.frozen 0
 have cr1:=kr.cell 1 rfl
 have fr1:=kr.frozen 1
 have cr2:=kr.cell 2 rfl
 have fr2:=kr.frozen 2
 have cr3:=kr.cell 3 rfl
 have fr3:=kr.frozen 3
 have cr4:=kr.cell 4 rfl
 have fr4:=kr.frozen 4
 have cr5:=kr.cell 5 rfl
 have fr5:=kr.frozen 5
 go_wp2
 replace kr:=kr.put6 (.int .i64 (wrap64 (a+px))) (.int .i64 (wrap64 (b+py))) (.int .i64 (wrap64 (c+pz))) (.int .i64 (wrap64 (d+px))) (.int .i64 (wrap64 (e+py))) (.int .i64 (wrap64 (f+pz)))
 exact bodyPost_ret (v:=.agg #[.int .i64 (wrap64 (a+px)),.int .i64 (wrap64 (b+py)),.int .i64 (wrap64 (c+pz)),.int .i64 (wrap64 (d+px)),.int .i64 (wrap64 (e+py)),.int .i64 (wrap64 (f+pz))]) (results_cell_row rfl _ _ _ 25 #[.int .i64 (wrap64 (a+px)),.int .i64 (wrap64 (b+py)),.int .i64 (wrap64 (c+pz)),.int .i64 (wrap64 (d+px)),.int .i64 (wrap64 (e+py)),.int .i64 (wrap64 (f+pz))] (0,0) _ rfl kr Tryz.underlying25 rfl (by kernel_rfl)) rfl ⟨rfl,blw6 hB (by omega) _ _ _ _ _ _⟩
end
section
open Go.RowKit Go.Sort
theorem grown_set {w w':World} {g:Nat} (h:w.grownBy w' (some g)) (j:Nat) (v:Value):w.grownBy (w'.setCell ⟨g,j,none⟩ v) (some g) :=
 ⟨h.os,h.tape,h.output,by rw [size_setCell];exact h.size,fun k hk hne=>by
  rw [heap_setCell_other w' _ k v (fun e=>hne (by rw [e]))]
  exact h.block k hk hne⟩
theorem alloc_pt (o:Oper) (h:o.op = .alloc 23) (ρ:Operand→Value) (w:World) :
 (execOp ρ o).run Tryz.prog w = .ok (.value (.pointer (some ⟨w.heap.size,0,none⟩))) (w.alloc (.cells #[(0:Int),(0:Int),(0:Int)] 23)):=by
 unfold execOp
 simp only [h]
 go_simp
theorem store_pt (o:Oper) (s u:Tmp) (h:o.op = .store 23 (.tmp s) (.tmp u)) (x0 x1 x2:Value) (a b c:Int) (ρ:Operand→Value) (w:World) (g:Nat) (h1:ρ (.tmp s) = .pointer (some ⟨g,0,none⟩))
 (h2:ρ (.tmp u) = .agg #[a,b,c]) (hb:Bk w g #[x0,x1,x2] 23) :
 ∃ w',(execOp ρ o).run Tryz.prog w = .ok .skip w'∧Bk w' g #[a,b,c] 23∧w.grownBy w' (some g)∧w'.heap.size=w.heap.size:=by
 obtain ⟨c0,c1,c2⟩:=hb.c3
 obtain ⟨f0,f1,f2⟩:=hb.f3
 refine ⟨_,?_,hb.put3 _ _ _,grown_set (grown_set (grown_set (World.grownBy.refl w _) _ _) _ _) _ _,by simp⟩
 unfold execOp
 simp only [h]
 go_simp
theorem alloc_tri (o:Oper) (h:o.op = .alloc 173) (ρ:Operand→Value) (w:World) :
 (execOp ρ o).run Tryz.prog w = .ok (.value (.pointer (some ⟨w.heap.size,0,none⟩))) (w.alloc (.cells #[(0:Int),(0:Int),(0:Int)] 173)):=by
 unfold execOp
 simp only [h]
 go_simp
theorem store_tri (o:Oper) (s u:Tmp) (h:o.op = .store 173 (.tmp s) (.tmp u)) (x0 x1 x2:Value) (a b c:Int) (ρ:Operand→Value) (w:World) (g:Nat) (h1:ρ (.tmp s) = .pointer (some ⟨g,0,none⟩))
 (h2:ρ (.tmp u) = .agg #[a,b,c]) (hb:Bk w g #[x0,x1,x2] 173) :
 ∃ w',(execOp ρ o).run Tryz.prog w = .ok .skip w'∧Bk w' g #[a,b,c] 173∧w.grownBy w' (some g)∧w'.heap.size=w.heap.size:=by
 obtain ⟨c0,c1,c2⟩:=hb.c3
 obtain ⟨f0,f1,f2⟩:=hb.f3
 refine ⟨_,?_,hb.put3 _ _ _,grown_set (grown_set (grown_set (World.grownBy.refl w _) _ _) _ _) _ _,by simp⟩
 unfold execOp
 simp only [h]
 go_simp
end
end Go.Proofs.YtfcbajmjaifjlaaGreat
