/- Make, Read, App, Pnt, DecP, MakeN: joined by program, for one claim. -/
import Derived.Test.YtfcbajmjaifjlaaGreatDoorMr
import Derived.Test.YtfcbajmjaifjlaaGreatDoorM3
import Derived.Deep.Cut
import Derived.Deep.RegionLaw
import Derived.Deep.RegionHeld3
import Derived.Deep.DrawnRows
import Derived.Deep.AppendLies
set_option maxHeartbeats 2000000
set_option maxRecDepth 100000
set_option linter.unusedVariables false
set_option linter.unusedSimpArgs false
namespace Go.Proofs.YtfcbajmjaifjlaaGreatDoor
section
open Go.RowKit Go.Sort Go.Maps
open Oct
theorem zLk (Far:Nat→Prop) (sb:Nat) (most:Int) (ts:List Tr) (t:Tr) (k c d x0 x1 x2 x3 x4 x5 x6 x7:Int) (s:ByteArray) (hV:zl ts t=zAW k c s d x0 x1 x2 x3 x4 x5 x6 x7) (hG:Good ts) (ht:t∈ts) (hk : ∃ kl,keyOf Tryz.prog 101 (zAW k c s d x0 x1 x2 x3 x4 x5 x6 x7)=some kl)
 (w:World) (hS:StoreIs w Far sb most ts) :
 Calls Tryz.prog 63 #[.pointer (some ⟨sb,0,none⟩),.agg #[k,c,.string s,d,x0,x1,x2,x3,x4,x5,x6,x7]] w fun e' w'=>e' = .returned (.tuple #[(idT ts t:Int),(0:Int)])∧Below w.heap.size w w':=by
 obtain ⟨mb,nv,ks,hrow,hmap,hS'⟩:=hS;obtain ⟨kl,hk⟩:=hk;have hkf:=zEp hG ht;rw [hV] at hkf
 have hlook : ∀ W,Below w.heap.size w W→(Instr.lookup 78 (.map (some mb)) (.agg #[k,c,.string s,d,x0,x1,x2,x3,x4,x5,x6,x7]) true).run Tryz.prog W = .ok (.tuple #[(idT ts t:Int),.bool true]) W :=
  fun W hb=>((hmap.kept (row:=none) (zJ hb) (by simp)).look hk).1 _ hkf
 have Hl:=Bx.mk hlook;have Ks:=Bx.mk ks;clear hS' hmap hrow hlook hkf hk hV ks;generalize (idT ts t:Int)=ii at *;go_enter Tryz.func63,Tryz.ntmps63;go_wp2_with fail;generalize hW:World.alloc w _=W;have hSz:=sz1 hW;have hB:=bl1 hW;have kn:Bk W (w.heap.size) #[k,c,.string s,d,x0,x1,x2,x3,x4,x5,x6,x7] 101:=bk0 hW;clear hW;have ks:=Ks.out.later hB
 have hl2 : ∀ dk osk,(Instr.lookup 78 (.map (some mb)) (.agg #[k,c,.string s,d,x0,x1,x2,x3,x4,x5,x6,x7]) true).run Tryz.prog (grow (redrawn W dk) osk) = .ok (.tuple #[ii,.bool true]) (grow (redrawn W dk) osk) :=
  fun dk osk=>Hl.out _ (hB.trans ((below_regrown W dk osk).mono hB.size))
 clear Hl Ks;obtain ⟨cn0,cn1,cn2,cn3,cn4,cn5,cn6,cn7⟩:=kn.r8;have cn8 : ∀ dk osk,(grow (redrawn W dk) osk).cell? ⟨w.heap.size,8,none⟩=some (.int .i64 x4):=cell_regrown (kn.cell 8 rfl);have cn9 : ∀ dk osk,(grow (redrawn W dk) osk).cell? ⟨w.heap.size,9,none⟩=some (.int .i64 x5):=cell_regrown (kn.cell 9 rfl);have cn10 : ∀ dk osk,(grow (redrawn W dk) osk).cell? ⟨w.heap.size,10,none⟩=some (.int .i64 x6):=cell_regrown (kn.cell 10 rfl);have cn11 : ∀ dk osk,(grow (redrawn W dk) osk).cell? ⟨w.heap.size,11,none⟩=some (.int .i64 x7):=cell_regrown (kn.cell 11 rfl);obtain ⟨cs0,cs1,cs2⟩:=ks.r3;refine wp_region_quiet_below (by kernel_rfl) (by kernel_rfl) ?_
 repeat (first | go_big_quiet_step ((fail)) | quiet_step (fail))
 refine wpQuiet_nil ?_;rintro _ ⟨⟨dq,osq⟩,rfl⟩;have hb:=below_regrown W dq osq;clear cn0 cn1 cn2 cn3 cn4 cn5 cn6 cn7 cn8 cn9 cn10 cn11;clear cs0 cs1 cs2;replace hB:=hB.trans (hb.mono hB.size);replace kn:=kn.later hb;replace ks:=ks.later hb;replace hSz:=Nat.le_trans hSz hb.size;clear hb;generalize grow (redrawn W dq) osq=W1 at *;clear hl2;go_wp2_with fail
 go_ret2
 exact ⟨rfl,hB⟩
theorem zk {w:World} {B n:Nat} {e:TypeId} {sz:Nat} {v:Value} {xs:List Value} (h:w.ownsRow B e sz v n xs) : ∃ a cap,v = .slice a n cap:=by
 rcases h.2 with ⟨rfl,rfl⟩ | ⟨g,cap,cur,rfl,_⟩
 · exact ⟨_,_,rfl⟩
 · exact ⟨_,_,rfl⟩
theorem zJp (Far:Nat→Prop) (sb:Nat) (most:Int) (ts:List Tr) (t:Tr) (k c d x0 x1 x2 x3 x4 x5 x6 x7:Int) (s:ByteArray) (hV:zl ts t=zAW k c s d x0 x1 x2 x3 x4 x5 x6 x7) (hG:Good ts) (ht:t ∉ ts) (hle:Leans ts t) (hby:Bytes t) (hm:most≤(ts.length:Int))
 (hk : ∃ kl,keyOf Tryz.prog 101 (zAW k c s d x0 x1 x2 x3 x4 x5 x6 x7)=some kl) (w:World) (hS:StoreIs w Far sb most ts) :
 Calls Tryz.prog 63 #[.pointer (some ⟨sb,0,none⟩),.agg #[k,c,.string s,d,x0,x1,x2,x3,x4,x5,x6,x7]] w fun e' w'=>e' = .returned (.tuple #[(0:Int),(14:Int)])∧Below w.heap.size w w':=by
 obtain ⟨mb,nv,ks,hrow,hmap,hS'⟩:=hS;obtain ⟨kl,hk⟩:=hk;obtain ⟨na,nc,rfl⟩:=zk hrow;have hkf:=zEo hG ht hle hby;rw [hV] at hkf
 have hlook : ∀ W,Below w.heap.size w W→(Instr.lookup 78 (.map (some mb)) (.agg #[k,c,.string s,d,x0,x1,x2,x3,x4,x5,x6,x7]) true).run Tryz.prog W = .ok (.tuple #[(0:Int),.bool false]) W :=
  fun W hb=>((hmap.kept (row:=none) (zJ hb) (by simp)).look hk).2 hkf
 have Hl:=Bx.mk hlook;have Ks:=Bx.mk ks;clear hS' hmap hrow hlook hkf hk hV ks hG ht hle hby;generalize ts.length=nn at *;go_enter Tryz.func63,Tryz.ntmps63;go_wp2_with fail;generalize hW:World.alloc w _=W;have hSz:=sz1 hW;have hB:=bl1 hW;have kn:Bk W (w.heap.size) #[k,c,.string s,d,x0,x1,x2,x3,x4,x5,x6,x7] 101:=bk0 hW;clear hW;have ks:=Ks.out.later hB
 have hl2 : ∀ dk osk,(Instr.lookup 78 (.map (some mb)) (.agg #[k,c,.string s,d,x0,x1,x2,x3,x4,x5,x6,x7]) true).run Tryz.prog (grow (redrawn W dk) osk) = .ok (.tuple #[(0:Int),.bool false]) (grow (redrawn W dk) osk) :=
  fun dk osk=>Hl.out _ (hB.trans ((below_regrown W dk osk).mono hB.size))
 clear Hl Ks;obtain ⟨cn0,cn1,cn2,cn3,cn4,cn5,cn6,cn7⟩:=kn.r8;have cn8 : ∀ dk osk,(grow (redrawn W dk) osk).cell? ⟨w.heap.size,8,none⟩=some (.int .i64 x4):=cell_regrown (kn.cell 8 rfl);have cn9 : ∀ dk osk,(grow (redrawn W dk) osk).cell? ⟨w.heap.size,9,none⟩=some (.int .i64 x5):=cell_regrown (kn.cell 9 rfl);have cn10 : ∀ dk osk,(grow (redrawn W dk) osk).cell? ⟨w.heap.size,10,none⟩=some (.int .i64 x6):=cell_regrown (kn.cell 10 rfl);have cn11 : ∀ dk osk,(grow (redrawn W dk) osk).cell? ⟨w.heap.size,11,none⟩=some (.int .i64 x7):=cell_regrown (kn.cell 11 rfl);obtain ⟨cs0,cs1,cs2⟩:=ks.r3;refine wp_region_quiet_below (by kernel_rfl) (by kernel_rfl) ?_
 repeat (first | go_big_quiet_step ((fail)) | quiet_step (fail))
 refine wpQuiet_nil ?_;rintro _ ⟨⟨dq,osq⟩,rfl⟩;have hb:=below_regrown W dq osq;clear cn0 cn1 cn2 cn3 cn4 cn5 cn6 cn7 cn8 cn9 cn10 cn11;clear cs0 cs1 cs2;replace hB:=hB.trans (hb.mono hB.size);replace kn:=kn.later hb;replace ks:=ks.later hb;replace hSz:=Nat.le_trans hSz hb.size;clear hb;generalize grow (redrawn W dq) osq=W1 at *;clear hl2;go_wp2_with fail;obtain ⟨cs0,cs1,cs2⟩:=ks.r3;refine wp_region_quiet_below (by kernel_rfl) (by kernel_rfl) ?_
 repeat (first | go_big_quiet_step ((fail)) | quiet_step (fail))
 refine wpQuiet_nil ?_;rintro _ ⟨⟨dq,osq⟩,rfl⟩;have hb:=below_regrown W1 dq osq;clear cs0 cs1 cs2;replace hB:=hB.trans (hb.mono hB.size);replace kn:=kn.later hb;replace ks:=ks.later hb;replace hSz:=Nat.le_trans hSz hb.size;clear hb;generalize grow (redrawn W1 dq) osq=W2 at *;go_wp2_with fail
 go_ret2
 exact ⟨rfl,hB⟩
theorem zHM {α:Type} (f:Tr→List α) (m:Nat) : ∀ (l:List Tr),(∀ x∈l,(f x).length=m) → ∀ (i:Nat) (t:Tr) (j:Nat),l[i]? = some t→j<m→(l.flatMap f)[i * m+j]? = (f t)[j]?
 | [],_,i,t,j,h,_=>by simp at h
 | x :: r, hl, 0, t, j, h, hj => by
   simp at h;subst h;rw [List.flatMap_cons,Nat.zero_mul,Nat.zero_add,List.getElem?_append_left (by rw [hl x (by simp)];exact hj)]
 | x :: r, hl, i + 1, t, j, h, hj => by
   rw [List.flatMap_cons,List.getElem?_append_right (by rw [hl x (by simp),Nat.succ_mul];omega),hl x (by simp)]
   rw [show (i+1) * m+j - m=i * m+j by rw [Nat.succ_mul];omega]
   exact zHM f m r (fun y hy=>hl y (by simp [hy])) i t j (by simpa using h) hj
theorem zFb (ts:List Tr) (t:Tr):(zl ts t).cells.toList.length=12:=by cases t <;> rfl
theorem StoreIs.node {w:World} {Far:Nat→Prop} {sb:Nat} {most:Int} {ts:List Tr} (h:StoreIs w Far sb most ts) {i:Nat} {t:Tr} (ht:ts[i]? = some t) :
 ∃ g cap mb,Bk w sb #[most,.slice (some ⟨g,0,none⟩) ts.length cap,.map (some mb)] 80∧i<ts.length ∧ ∀ j u,j<12→(zl ts t).cells.toList[j]? = some u→w.cell? ⟨g,i * 12+j,none⟩=some u:=by
 obtain ⟨mb,nv,h1,h2,_⟩:=h;have hi:i<ts.length:=(List.getElem?_eq_some_iff.1 ht).1;rcases h2.2 with ⟨_,h0⟩ | ⟨g,cap,cur,rfl,_⟩
 · omega
 · refine ⟨g,cap,mb,h1,hi,fun j u hj hu=>?_⟩;have hc:=World.ownsRow.cells h2 (g:=g) rfl (i * 12+j) u (by unfold zIs;rw [zHM _ 12 ts (fun x _=>zFb ts x) i t j ht hj];exact hu)
   have e:(⟨g,0,none⟩:Addr).add (i * 12+j)=⟨g,i * 12+j,none⟩:=by unfold Addr.add;split <;> simp_all
   rw [e] at hc;exact hc
theorem zLm (Far:Nat→Prop) (sb:Nat) (most:Int) (ts:List Tr) (i:Nat) (t:Tr) (ht:ts[i]? = some t) (v:Int) (hv:(zl ts t).cells.toList[0]? = some (.int .i64 v)) (_hlen:ts.length≤4194304) (w:World) (hS:StoreIs w Far sb most ts) :
 Calls Tryz.prog 24 #[.pointer (some ⟨sb,0,none⟩),(i:Int)] w fun e' w'=>e' = .returned (.int .i64 v)∧w=w':=by
 obtain ⟨g,cap,mb,ks,hi,hc⟩:=hS.node ht;have hcv:=hc 0 _ (by omega) hv
 try rw [Nat.add_zero] at hcv
 have cs1:=ks.cell 1 rfl;have b1:(0:Int)≤(i:Int):=by omega
 have b2:(i:Int)<(ts.length:Int):=by omega
 clear hc ks hS hv ht;generalize ts.length=n at *;go_enter Tryz.func24,Tryz.ntmps24;go_wp2_with fail;go_ret;exact ⟨rfl,rfl⟩
theorem zDc (Far:Nat→Prop) (sb:Nat) (most:Int) (ts:List Tr) (w:World) (hS:StoreIs w Far sb most ts) :
 Calls Tryz.prog 9 #[.pointer (some ⟨sb,0,none⟩)] w fun e' w'=>e' = .returned (.int .i64 (ts.length:Int))∧w=w':=by
 obtain ⟨mb,nv,ks,hrow,_⟩:=hS;obtain ⟨na,nc,rfl⟩:=zk hrow;have cs1:=ks.cell 1 rfl;clear hrow ks;generalize ts.length=n at *;go_enter Tryz.func9,Tryz.ntmps9;go_wp2_with fail;go_ret;exact ⟨rfl,rfl⟩
theorem Bk.put8 {w:World} {g:Nat} {t:TypeId} {v:Value} (h:Bk w g #[v,v,v,v,v,v,v,v] t) (a b c d e f i j:Value) :
 Bk ((((((((w.setCell ⟨g,0,none⟩ a).setCell ⟨g,1,none⟩ b).setCell ⟨g,2,none⟩ c).setCell ⟨g,3,none⟩ d).setCell ⟨g,4,none⟩ e).setCell ⟨g,5,none⟩ f).setCell ⟨g,6,none⟩ i).setCell ⟨g,7,none⟩ j) g #[a,b,c,d,e,f,i,j] t:=by
 simpa using (((((((h.set 0 a).set 1 b).set 2 c).set 3 d).set 4 e).set 5 f).set 6 i).set 7 j
theorem blw8 {B:Nat} {a w:World} (h:Below B a w) {g:Nat} (hg:B≤g) (x y z x' y' z' s s':Value) :
 Below B a ((((((((w.setCell ⟨g,0,none⟩ x).setCell ⟨g,1,none⟩ y).setCell ⟨g,2,none⟩ z).setCell ⟨g,3,none⟩ x').setCell ⟨g,4,none⟩ y').setCell ⟨g,5,none⟩ z').setCell ⟨g,6,none⟩ s).setCell ⟨g,7,none⟩ s') :=
 (((((((h.setCell hg _).setCell hg _).setCell hg _).setCell hg _).setCell hg _).setCell hg _).setCell hg _).setCell hg _
theorem zBd (Far:Nat→Prop) (sb:Nat) (most:Int) (ts:List Tr) (i:Nat) (t:Tr) (ht:ts[i]? = some t) (x0 x1 x2 x3 x4 x5 x6 x7:Int) (hv : ∀ j u,#[Value.int .i64 x0,Value.int .i64 x1,Value.int .i64 x2,Value.int .i64 x3,Value.int .i64 x4,Value.int .i64 x5,Value.int .i64 x6,Value.int .i64 x7].toList[j]? = some u→(zl ts t).cells.toList[4+j]? = some u) (w:World) (hS:StoreIs w Far sb most ts) :
 Calls Tryz.prog 49 #[.pointer (some ⟨sb,0,none⟩),(i:Int)] w fun e' w'=>e' = .returned (.agg #[x0,x1,x2,x3,x4,x5,x6,x7])∧Below w.heap.size w w':=by
 have HS:=Bx.mk hS;have Hv:=Bx.mk hv;have Ht:=Bx.mk ht;clear hS hv ht;go_enter Tryz.func49,Tryz.ntmps49;go_upto_region 1 with fail;generalize hW:World.alloc w _=W;have hSz:=sz1 hW;have hB:=bl1 hW;have kr:Bk W (w.heap.size) #[(0:Int),(0:Int),(0:Int),(0:Int),(0:Int),(0:Int),(0:Int),(0:Int)] 98:=bk0 hW;clear hW;obtain ⟨cr0,cr1,cr2,cr3,cr4,cr5,cr6,cr7⟩:=kr.c8;obtain ⟨fr0,fr1,fr2,fr3,fr4,fr5,fr6,fr7⟩:=kr.f8;obtain ⟨g,cap,mb,ks,hi,hc⟩:=(HS.out.later hB).node Ht.out;have d0:=hc 4 _ (by omega) (Hv.out 0 _ rfl)
 have d1:=hc 5 _ (by omega) (Hv.out 1 _ rfl)
 have d2:=hc 6 _ (by omega) (Hv.out 2 _ rfl)
 have d3:=hc 7 _ (by omega) (Hv.out 3 _ rfl)
 have d4:=hc 8 _ (by omega) (Hv.out 4 _ rfl)
 have d5:=hc 9 _ (by omega) (Hv.out 5 _ rfl)
 have d6:=hc 10 _ (by omega) (Hv.out 6 _ rfl)
 have d7:=hc 11 _ (by omega) (Hv.out 7 _ rfl)
 have cs1:=ks.cell 1 rfl;have b1:(0:Int)≤(i:Int):=by omega
 have b2:(i:Int)<(ts.length:Int):=by omega
 clear hc HS Hv Ht ks;generalize ts.length=n at *;go_wp2_with fail;replace kr:=kr.put8 (.int .i64 x0) (.int .i64 x1) (.int .i64 x2) (.int .i64 x3) (.int .i64 x4) (.int .i64 x5) (.int .i64 x6) (.int .i64 x7);exact bodyPost_ret (v:=.agg #[x0,x1,x2,x3,x4,x5,x6,x7]) (results_cell_row rfl _ _ _ 98 #[x0,x1,x2,x3,x4,x5,x6,x7] (0,0) _ rfl kr Tryz.underlying98 rfl (by kernel_rfl)) rfl ⟨rfl,blw8 hB (by omega) _ _ _ _ _ _ _ _⟩
theorem zLn (v:Value):zEN [] v=none:=by
 unfold zEN;rw [dif_neg];rintro ⟨t,h,_⟩;cases h
theorem zCy (most:Int) (w:World):Calls Tryz.prog 19 #[most] w fun e' w' => ∃ sb,e' = .returned (.pointer (some ⟨sb,0,none⟩))∧StoreIs w' (fun k=>k<w.heap.size) sb most []∧Below w.heap.size w w':=by
 have hmm:=@run_makeMap Tryz.prog;go_enter Tryz.func19,Tryz.ntmps19;go_wp2_with fail;generalize hW1:World.alloc w (Obj.map #[] 0)=W1;have hB1:=bl1 hW1;have hM:MapFn W1 w.heap.size 0 (fun _=>none):=by rw [←hW1];exact MapFn.made w
 have hs1:W1.heap.size=w.heap.size+1:=by rw [←hW1];simp
 clear hW1;generalize hW2:World.alloc W1 _=W2;have hb2:=bl1 hW2;have ks:Bk W2 W1.heap.size #[most,.slice none 0 0,.map (some w.heap.size)] 80:=bk0 hW2 rfl;clear hW2;rw [hs1] at ks;go_ret;refine ⟨w.heap.size+1,by simp,⟨w.heap.size,.slice none 0 0,ks,World.ownsRow_nil _ _ _ _,((hM.kept (row:=none) (zJ hb2) (by simp)).congr fun key kl _=>(zLn key).symm),by omega,by omega,fun g hg=>by simp [Value.ownBlock] at hg,by omega,by simp [Value.ownBlock],by simp [Value.ownBlock]⟩,hB1.trans (hb2.mono (by omega))⟩
end
section
open Go.RowKit Go.Sort Go.Maps
theorem zD0 {P:Program} {ops:Array Oper} {o:Oper} {a:Act} {w:World} {K:Act→World→Prop} {Q:Exit→Act→World→Prop} {E:Prop} (hgd:o.guard=none) (s x:Operand) (t:TypeId)
 (ho:o.op = .call { callee:=.builtin .append,args:=#[s,x],argTypes:=#[t,t] })
 (base:Nat) (e:TypeId) (i:TypeInfo) (z:Value) (size bytes:Nat) (ht:P.underlying t=some (.slice e)) (hi:P.info? e=some i) (hz:i.zero=some z)
 (hsize:i.size=size) (hby:i.bytes=bytes) (hzs:z.cells.size=size) (hsz:0<size)
 (v:Value) (n:Nat) (xs:List Value) (hs:a.eval s=v) (hown:w.ownsRow base e size v n xs)
 (ad:Addr) (m c:Nat) (news:List Value) (hx:a.eval x = .slice (some ad) m c) (hl:news.length=m * size) (hnews : ∀ j u,news[j]? = some u→w.cell? (ad.add j)=some u) (h1 : ∀ u∈news,u.oneCell'=true)
 (h63:n+m≤maxLen) (hbytes:(n+m) * bytes≤140737488355328) (hbase:base≤w.heap.size)
 (h : ∀ v' w',Bx (w'.ownsRow base e size v' (n+m) (xs++news))→Bx (w.grownBy w' v.ownBlock)→Bx (v'.ownBlock=v.ownBlock∨v'.ownBlock=some w.heap.size)→K (a.put o.dst v') w') :
 if Region.wanted o (yielded ops a.tmps)=true then Oper.wp P o a w K Q else E:=by
 have hw:Region.wanted o (yielded ops a.tmps)=true:=by simp [Region.wanted,hgd]
 rw [if_pos hw];obtain ⟨v',w',hr,h2,h3,h4,h5⟩:=run_append_own_at (P:=P) w base t o.type e i z size bytes ht hi hz hsize hby hzs hsz v n xs hown ad m c news hl hnews h1 h63 hbytes hbase;unfold Oper.wp;simp [execOp,ho,resolve,invoke,builtin,hs,hx,hr,Result.andThen];exact h v' w' ⟨h2⟩ ⟨h3⟩ ⟨h5⟩
end
section
open Go.RowKit Go.Sort
theorem zu (px py pz qx qy qz:Int) (w:World) :
 Calls Tryz.prog 116 #[.agg #[px,py,pz],.agg #[qx,qy,qz]] w fun e w'=>e = .returned (.agg #[.int .i64 (wrap64 (px+qx)),.int .i64 (wrap64 (py+qy)),.int .i64 (wrap64 (pz+qz))])∧Below w.heap.size w w':=by
 go_enter Tryz.func116,Tryz.ntmps116;go_wp2;generalize hW:World.alloc (World.alloc (World.alloc w _) _) _=W;have hSz:=sz3 hW;have hB:=bl3 hW;have kp:Bk W (w.heap.size) #[px,py,pz] 23:=bk2 hW;have kq:Bk W (w.heap.size+1) #[qx,qy,qz] 23:=bk1 hW;have kr:Bk W (w.heap.size+1+1) #[.int .i64 (wrap64 (px+qx)),.int .i64 (wrap64 (py+qy)),.int .i64 (wrap64 (pz+qz))] 23:=bk0 hW;clear hW;exact bodyPost_ret (v:=.agg #[.int .i64 (wrap64 (px+qx)),.int .i64 (wrap64 (py+qy)),.int .i64 (wrap64 (pz+qz))]) (results_cell_row rfl _ _ _ 23 #[.int .i64 (wrap64 (px+qx)),.int .i64 (wrap64 (py+qy)),.int .i64 (wrap64 (pz+qz))] (0,0) _ rfl kr Tryz.underlying23 rfl (by kernel_rfl)) rfl ⟨rfl,hB⟩
theorem zAO (px py pz n:Int) (w:World) :
 Calls Tryz.prog 117 #[.agg #[px,py,pz],n] w fun e w'=>e = .returned (.agg #[.int .i64 (wrap64 (n * px)),.int .i64 (wrap64 (n * py)),.int .i64 (wrap64 (n * pz))])∧Below w.heap.size w w':=by
 go_enter Tryz.func117,Tryz.ntmps117;go_wp2;generalize hW:World.alloc (World.alloc w _) _=W;have hSz:=sz2 hW;have hB:=bl2 hW;have kp:Bk W (w.heap.size) #[px,py,pz] 23:=bk1 hW;have kr:Bk W (w.heap.size+1) #[.int .i64 (wrap64 (n * px)),.int .i64 (wrap64 (n * py)),.int .i64 (wrap64 (n * pz))] 23:=bk0 hW;clear hW;exact bodyPost_ret (v:=.agg #[.int .i64 (wrap64 (n * px)),.int .i64 (wrap64 (n * py)),.int .i64 (wrap64 (n * pz))]) (results_cell_row rfl _ _ _ 23 #[.int .i64 (wrap64 (n * px)),.int .i64 (wrap64 (n * py)),.int .i64 (wrap64 (n * pz))] (0,0) _ rfl kr Tryz.underlying23 rfl (by kernel_rfl)) rfl ⟨rfl,hB⟩
theorem zFm (px py pz a b c d e f:Int) (w:World) :
 Calls Tryz.prog 35 #[.agg #[px,py,pz],.agg #[a,b,c,d,e,f]] w fun e' w'=>e' = .returned (.bool (inB ⟨px,py,pz⟩ ⟨⟨a,b,c⟩,⟨d,e,f⟩⟩))∧Below w.heap.size w w':=by
 go_enter Tryz.func35,Tryz.ntmps35;go_wp2
 all_goals
  go_ret;exact ⟨zK (by rw [Bool.eq_iff_iff];simp [inB];omega),((Below.refl _ _).alloc (Nat.le_refl _) _).alloc (by simp) _⟩
theorem zj (a b c d e f:Int) (w:World) :
 Calls Tryz.prog 77 #[.agg #[a,b,c,d,e,f]] w fun e' w'=>e' = .returned (.bool (zG ⟨⟨a,b,c⟩,⟨d,e,f⟩⟩))∧Below w.heap.size w w':=by
 go_enter Tryz.func77,Tryz.ntmps77;go_wp2_with (go_at_call 35;refine (zFm _ _ _ _ _ _ _ _ _ _).mono ?_;rintro e' w1 ⟨rfl,hb⟩);go_ret;exact ⟨rfl,((Below.refl _ _).alloc (Nat.le_refl _) _).trans (hb.mono (by simp))⟩
theorem zEx (n:Int) (w:World) :
 Calls Tryz.prog 92 #[n] w fun e w'=>e = .returned (.agg #[(0:Int),(0:Int),(0:Int),n,n,n])∧Below w.heap.size w w':=by
 go_enter Tryz.func92,Tryz.ntmps92;go_wp2;generalize hW:World.alloc w _=W;have hSz:=sz1 hW;have hB:=bl1 hW;have kr:Bk W (w.heap.size) #[(0:Int),(0:Int),(0:Int),n,n,n] 25:=bk0 hW;clear hW;exact bodyPost_ret (v:=.agg #[(0:Int),(0:Int),(0:Int),n,n,n]) (results_cell_row rfl _ _ _ 25 #[(0:Int),(0:Int),(0:Int),n,n,n] (0,0) _ rfl kr Tryz.underlying25 rfl (by kernel_rfl)) rfl ⟨rfl,hB⟩
theorem zNe (qx qy qz:Int) (hqx : -9000000000000000000≤qx∧qx≤9000000000000000000) (hqy : -9000000000000000000≤qy∧qy≤9000000000000000000) (hqz : -9000000000000000000≤qz∧qz≤9000000000000000000) (w:World) :
 Calls Tryz.prog 117 #[.agg #[qx,qy,qz],.int .i64 (-1)] w fun e w'=>e = .returned (.agg #[.int .i64 (-qx),.int .i64 (-qy),.int .i64 (-qz)])∧Below w.heap.size w w':=by
 have h:=zAO qx qy qz (-1) w
 have key : ∀ q:Int,(-9000000000000000000≤q∧q≤9000000000000000000)→wrap64 (-1 * q) = -q:=fun q h=>by
  rw [show -1 * q = -q by omega];exact IntWalk.wrap64_in _ (by omega)
 rw [key qx hqx,key qy hqy,key qz hqz] at h;exact h
theorem zI8 (px py pz qx qy qz:Int) (hqx : -9000000000000000000≤qx∧qx≤9000000000000000000) (hqy : -9000000000000000000≤qy∧qy≤9000000000000000000) (hqz : -9000000000000000000≤qz∧qz≤9000000000000000000) (w:World) :
 Calls Tryz.prog 139 #[.agg #[px,py,pz],.agg #[qx,qy,qz]] w fun e w'=>e = .returned (.agg #[.int .i64 (wrap64 (px - qx)),.int .i64 (wrap64 (py - qy)),.int .i64 (wrap64 (pz - qz))])∧Below w.heap.size w w':=by
 have hn:=Bx.mk (zNe qx qy qz hqx hqy hqz);clear hqx hqy hqz;go_enter Tryz.func139,Tryz.ntmps139;go_wp2;generalize hW:World.alloc (World.alloc (World.alloc w _) _) _=W;have hSz:=sz3 hW;have hB:=bl3 hW;have kp:Bk W (w.heap.size) #[px,py,pz] 23:=bk2 hW;have kq:Bk W (w.heap.size+1) #[qx,qy,qz] 23:=bk1 hW;have kr:Bk W (w.heap.size+1+1) #[(0:Int),(0:Int),(0:Int)] 23:=bk0 hW;clear hW;obtain ⟨cp0,cp1,cp2⟩:=kp.r3;obtain ⟨cq0,cq1,cq2⟩:=kq.r3;have q0:=Bx.mk fun dk osk=>Calls.regrown_of (hn.out (grow (redrawn W dk) osk));have q1:=Bx.mk fun dk osk=>Calls.regrown_of (zu px py pz (-qx) (-qy) (-qz) (grow (redrawn W dk) osk));refine zA 4 (by kernel_rfl) (by kernel_rfl) ?_
 simp only [List.take_succ_cons,List.take_zero,List.drop_succ_cons,List.drop_zero]
 repeat (first | go_big_quiet_step ((first | with_reducible exact q0.out _ _ | with_reducible exact q1.out _ _)) | quiet_step (first | with_reducible exact q0.out _ _ | with_reducible exact q1.out _ _))
 refine wpQuiet_nil ?_;rintro _ ⟨⟨dq,osq⟩,rfl⟩;have hb:=below_regrown W dq osq;replace hB:=hB.trans (hb.mono hB.size);clear cp0 cp1 cp2;clear cq0 cq1 cq2;clear q0;clear q1;replace kp:=kp.later hb;replace kq:=kq.later hb;replace kr:=kr.later hb;replace hSz:=Nat.le_trans hSz hb.size;clear hb;generalize grow (redrawn W dq) osq=W1 at *;have cr0:=kr.cell 0 rfl;have fr0:=kr.frozen 0;have cr1:=kr.cell 1 rfl;have fr1:=kr.frozen 1;have cr2:=kr.cell 2 rfl;have fr2:=kr.frozen 2;go_wp2;replace kr:=kr.put3 (.int .i64 (wrap64 (px + -qx))) (.int .i64 (wrap64 (py + -qy))) (.int .i64 (wrap64 (pz + -qz)));exact bodyPost_ret (v:=.agg #[.int .i64 (wrap64 (px + -qx)),.int .i64 (wrap64 (py + -qy)),.int .i64 (wrap64 (pz + -qz))]) (results_cell_row rfl _ _ _ 23 #[.int .i64 (wrap64 (px + -qx)),.int .i64 (wrap64 (py + -qy)),.int .i64 (wrap64 (pz + -qz))] (0,0) _ rfl kr Tryz.underlying23 rfl (by kernel_rfl)) rfl ⟨rfl,zF3 hB (by omega) _ _ _⟩
theorem zFK (a b c d e f px py pz:Int) (w:World) :
 Calls Tryz.prog 91 #[.agg #[a,b,c,d,e,f],.agg #[px,py,pz]] w fun e' w'=>e' = .returned (.agg #[.int .i64 (wrap64 (a+px)),.int .i64 (wrap64 (b+py)),.int .i64 (wrap64 (c+pz)),.int .i64 (wrap64 (d+px)),.int .i64 (wrap64 (e+py)),.int .i64 (wrap64 (f+pz))])∧Below w.heap.size w w':=by
 go_enter Tryz.func91,Tryz.ntmps91;go_wp2;generalize hW:World.alloc (World.alloc (World.alloc w _) _) _=W;have hSz:=sz3 hW;have hB:=bl3 hW;have kb:Bk W (w.heap.size) #[a,b,c,d,e,f] 25:=bk2 hW;have kp:Bk W (w.heap.size+1) #[px,py,pz] 23:=bk1 hW;have kr:Bk W (w.heap.size+1+1) #[(0:Int),(0:Int),(0:Int),(0:Int),(0:Int),(0:Int)] 25:=bk0 hW;clear hW;obtain ⟨cb0,cb1,cb2,cb3,cb4,cb5⟩:=kb.r6;obtain ⟨cp0,cp1,cp2⟩:=kp.r3;have q0:=Bx.mk fun dk osk=>Calls.regrown_of (zu a b c px py pz (grow (redrawn W dk) osk));have q1:=Bx.mk fun dk osk=>Calls.regrown_of (zu d e f px py pz (grow (redrawn W dk) osk));refine zA 9 (by kernel_rfl) (by kernel_rfl) ?_
 simp only [List.take_succ_cons,List.take_zero,List.drop_succ_cons,List.drop_zero]
 repeat (first | go_big_quiet_step ((first | with_reducible exact q0.out _ _ | with_reducible exact q1.out _ _)) | quiet_step (first | with_reducible exact q0.out _ _ | with_reducible exact q1.out _ _))
 refine wpQuiet_nil ?_;rintro _ ⟨⟨dq,osq⟩,rfl⟩;have hb:=below_regrown W dq osq;replace hB:=hB.trans (hb.mono hB.size);clear cb0 cb1 cb2 cb3 cb4 cb5;clear cp0 cp1 cp2;clear q0;clear q1;replace kb:=kb.later hb;replace kp:=kp.later hb;replace kr:=kr.later hb;replace hSz:=Nat.le_trans hSz hb.size;clear hb;generalize grow (redrawn W dq) osq=W1 at *;have cr0:=kr.cell 0 rfl;have fr0:=kr.frozen 0;have cr1:=kr.cell 1 rfl;have fr1:=kr.frozen 1;have cr2:=kr.cell 2 rfl;have fr2:=kr.frozen 2;have cr3:=kr.cell 3 rfl;have fr3:=kr.frozen 3;have cr4:=kr.cell 4 rfl;have fr4:=kr.frozen 4;have cr5:=kr.cell 5 rfl;have fr5:=kr.frozen 5;go_wp2;replace kr:=kr.put6 (.int .i64 (wrap64 (a+px))) (.int .i64 (wrap64 (b+py))) (.int .i64 (wrap64 (c+pz))) (.int .i64 (wrap64 (d+px))) (.int .i64 (wrap64 (e+py))) (.int .i64 (wrap64 (f+pz)));exact bodyPost_ret (v:=.agg #[.int .i64 (wrap64 (a+px)),.int .i64 (wrap64 (b+py)),.int .i64 (wrap64 (c+pz)),.int .i64 (wrap64 (d+px)),.int .i64 (wrap64 (e+py)),.int .i64 (wrap64 (f+pz))]) (results_cell_row rfl _ _ _ 25 #[.int .i64 (wrap64 (a+px)),.int .i64 (wrap64 (b+py)),.int .i64 (wrap64 (c+pz)),.int .i64 (wrap64 (d+px)),.int .i64 (wrap64 (e+py)),.int .i64 (wrap64 (f+pz))] (0,0) _ rfl kr Tryz.underlying25 rfl (by kernel_rfl)) rfl ⟨rfl,zMO hB (by omega) _ _ _ _ _ _⟩
theorem zC {w w':World} {g:Nat} (h:w.grownBy w' (some g)) (j:Nat) (v:Value):w.grownBy (w'.setCell ⟨g,j,none⟩ v) (some g) :=
 ⟨h.os,h.tape,h.output,by rw [zq];exact h.size,fun k hk hne=>by
  rw [heap_setCell_other w' _ k v (fun e=>hne (by rw [e]))]
  exact h.block k hk hne⟩
theorem zHV (o:Oper) (h:o.op = .alloc 23) (ρ:Operand→Value) (w:World) :
 (execOp ρ o).run Tryz.prog w = .ok (.value (.pointer (some ⟨w.heap.size,0,none⟩))) (w.alloc (.cells #[(0:Int),(0:Int),(0:Int)] 23)):=by
 unfold execOp;simp only [h];go_simp
theorem zG0 (o:Oper) (s u:Tmp) (h:o.op = .store 23 (.tmp s) (.tmp u)) (x0 x1 x2:Value) (a b c:Int) (ρ:Operand→Value) (w:World) (g:Nat) (h1:ρ (.tmp s) = .pointer (some ⟨g,0,none⟩))
 (h2:ρ (.tmp u) = .agg #[a,b,c]) (hb:Bk w g #[x0,x1,x2] 23) :
 ∃ w',(execOp ρ o).run Tryz.prog w = .ok .skip w'∧Bk w' g #[a,b,c] 23∧w.grownBy w' (some g)∧w'.heap.size=w.heap.size:=by
 obtain ⟨c0,c1,c2⟩:=hb.c3;obtain ⟨f0,f1,f2⟩:=hb.f3;refine ⟨_,?_,hb.put3 _ _ _,zC (zC (zC (World.grownBy.refl w _) _ _) _ _) _ _,by simp⟩
 unfold execOp;simp only [h];go_simp
theorem zCQ (o:Oper) (h:o.op = .alloc 178) (ρ:Operand→Value) (w:World) :
 (execOp ρ o).run Tryz.prog w = .ok (.value (.pointer (some ⟨w.heap.size,0,none⟩))) (w.alloc (.cells #[(0:Int),(0:Int),(0:Int)] 178)):=by
 unfold execOp;simp only [h];go_simp
theorem zCB (o:Oper) (s u:Tmp) (h:o.op = .store 178 (.tmp s) (.tmp u)) (x0 x1 x2:Value) (a b c:Int) (ρ:Operand→Value) (w:World) (g:Nat) (h1:ρ (.tmp s) = .pointer (some ⟨g,0,none⟩))
 (h2:ρ (.tmp u) = .agg #[a,b,c]) (hb:Bk w g #[x0,x1,x2] 178) :
 ∃ w',(execOp ρ o).run Tryz.prog w = .ok .skip w'∧Bk w' g #[a,b,c] 178∧w.grownBy w' (some g)∧w'.heap.size=w.heap.size:=by
 obtain ⟨c0,c1,c2⟩:=hb.c3;obtain ⟨f0,f1,f2⟩:=hb.f3;refine ⟨_,?_,hb.put3 _ _ _,zC (zC (zC (World.grownBy.refl w _) _ _) _ _) _ _,by simp⟩
 unfold execOp;simp only [h];go_simp
end
section
open Go.RowKit Go.Sort Go.Maps
open Oct
attribute [local go_sem ↓] Go.wp_at_zero Go.wp_at_succ
theorem zLd:(Tryz.prog.info? 101).map (fun i=>(i.zero,i.size,i.bytes))=some (some (.agg #[(0:Int),(0:Int),.string ByteArray.empty,(0:Int),(0:Int),(0:Int),(0:Int),(0:Int),(0:Int),(0:Int),(0:Int),(0:Int)]),12,104):=by kernel_rfl
theorem Bk.grownO {w w':World} {b:Nat} {vs:Array Value} {t:TypeId} {row:Option Nat} (h:Bk w b vs t) (hg:w.grownBy w' row) (hne:row ≠ some b):Bk w' b vs t:=(hg.block b h.lt (fun e=>hne e.symm)).trans h
theorem Keeps.set {Far:Nat→Prop} {a b:World} (h:Keeps Far a b) (p:Addr) (v:Value) (hp : ¬Far p.block):Keeps Far a (b.setCell p v) :=
 h.trans ⟨rfl,rfl,rfl,by simp [World.setCell],fun k hk _=>heap_setCell_other b p k v (fun e=>hp (e ▸ hk))⟩
theorem zW (W:World) (o:Obj):Below W.heap.size W (W.alloc o):=(Below.refl _ _).alloc (Nat.le_refl _) _
theorem zS (w:World) (p:Addr) (v:Value):w.grownBy (w.setCell p v) (some p.block) :=
 ⟨rfl,rfl,rfl,by simp [World.setCell],fun k _ hne=>heap_setCell_other w p k v (fun e=>hne (by rw [e]))⟩
structure Places (Far:Nat→Prop) (sb mb:Nat) (nv:Value):Prop where
 fs : ¬Far sb
 fm : ¬Far mb
 fn : ∀ g,nv.ownBlock=some g → ¬Far g
 apart:sb ≠ mb
 ns:nv.ownBlock ≠ some sb
 nm:nv.ownBlock ≠ some mb
theorem StoreIs.parts {w:World} {Far:Nat→Prop} {sb:Nat} {most:Int} {ts:List Tr} (h:StoreIs w Far sb most ts) :
 ∃ mb nv,Bk w sb #[most,nv,.map (some mb)] 80∧w.ownsRow 0 101 12 nv ts.length (zIs ts)∧MapFn w mb ts.length (zEN ts)∧Places Far sb mb nv:=by
 obtain ⟨mb,nv,h1,h2,h3,g1,g2,g3,g4,g5,g6⟩:=h;exact ⟨mb,nv,h1,h2,h3,g1,g2,g3,g4,g5,g6⟩
theorem StoreIs.of {w:World} {Far:Nat→Prop} {sb mb:Nat} {nv:Value} {most:Int} {ts:List Tr} (h1:Bk w sb #[most,nv,.map (some mb)] 80) (h2:w.ownsRow 0 101 12 nv ts.length (zIs ts))
 (h3:MapFn w mb ts.length (zEN ts)) (g:Places Far sb mb nv):StoreIs w Far sb most ts:=⟨mb,nv,h1,h2,h3,g.fs,g.fm,g.fn,g.apart,g.ns,g.nm⟩
theorem zGG {w W1 w1:World} {Far:Nat→Prop} {sb mb n1 n2 n3:Nat} {nv v1:Value} {F:Value→Option Int} {row xs:List Value} (hB:w.grownBy W1 none) (hFar : ∀ k,Far k→k<w.heap.size) (_hrow:w.ownsRow 0 101 12 nv n1 row)
 (hmap:MapFn w mb n2 F) (G:Places Far sb mb nv) (hsb:sb<w.heap.size) (hown:w1.ownsRow 0 101 12 v1 n3 xs) (hg:W1.grownBy w1 nv.ownBlock) (hat:v1.ownBlock=nv.ownBlock∨v1.ownBlock=some W1.heap.size) :
 (w1.setCell ⟨sb,1,none⟩ v1).ownsRow 0 101 12 v1 n3 xs∧MapFn (w1.setCell ⟨sb,1,none⟩ v1) mb n2 F∧Keeps Far w (w1.setCell ⟨sb,1,none⟩ v1)∧Places Far sb mb v1:=by
 have hmb:=hmap.lt;have hle:=hB.size
 have P:Places Far sb mb v1:=by
  rcases hat with e | e
  · exact ⟨G.fs,G.fm,by rw [e];exact G.fn,G.apart,by rw [e];exact G.ns,by rw [e];exact G.nm⟩
  · refine ⟨G.fs,G.fm,fun g hg h=>?_,G.apart,?_,?_⟩
    · rw [e] at hg;have:=hFar g h;simp at hg;omega
    · rw [e];simp;omega
    · rw [e];simp;omega
 have hs:=zS w1 ⟨sb,1,none⟩ v1;refine ⟨World.ownsRow.kept hown hs (.inr P.ns),((hmap.kept hB (by simp)).kept hg (fun e=>G.nm e.symm)).kept hs (by simp only [ne_eq,Option.some.injEq];exact fun e=>G.apart e.symm),?_,P⟩
 refine ((Keeps.grown (Far:=Far) hB (by simp)).trans ?_).trans (Keeps.grown hs (fun g e=>by simp only [Option.some.injEq] at e;rw [←e];exact G.fs))
 exact Keeps.grown hg G.fn
theorem zHn {w W4 W5:World} {Far:Nat→Prop} {sb mb n':Nat} {most:Int} {v1:Value} {F:Value→Option Int} {ts':List Tr} {xs:List Value} (ks:Bk W4 sb #[most,v1,.map (some mb)] 80) (hown:W4.ownsRow 0 101 12 v1 n' xs)
 (hK:Keeps Far w W4) (G:Places Far sb mb v1) (hg:W4.grownBy W5 (some mb)) (hm:MapFn W5 mb n' F) (hn:n'=ts'.length) (hx:xs=zIs ts') (hF : ∀ v,F v=zEN ts' v):StoreIs W5 Far sb most ts'∧Keeps Far w W5:=by
 subst hn hx;refine ⟨StoreIs.of (ks.grownO hg (by simpa using fun e=>G.apart e.symm)) (World.ownsRow.kept hown hg (.inr G.nm)) (hm.congr fun key _ _=>hF key) G,hK.trans (Keeps.grown hg fun g e=>by simp only [Option.some.injEq] at e;rw [←e];exact G.fm)⟩
theorem zLj (w:World) (Far:Nat→Prop) (sb:Nat) (most:Int) (ts:List Tr) (t:Tr) (k c d x0 x1 x2 x3 x4 x5 x6 x7:Int) (s:ByteArray) (hV:zl ts t=zAW k c s d x0 x1 x2 x3 x4 x5 x6 x7) (hG:Good ts) (ht:t ∉ ts) (hle:Leans ts t) (hby:Bytes t) (hm:(ts.length:Int)<most) (hlen:ts.length≤1000000000000) (hFar : ∀ k,Far k→k<w.heap.size)
 (hk : ∃ kl,keyOf Tryz.prog 101 (zAW k c s d x0 x1 x2 x3 x4 x5 x6 x7)=some kl) (hS:StoreIs w Far sb most ts) :
 Calls Tryz.prog 63 #[.pointer (some ⟨sb,0,none⟩),.agg #[k,c,.string s,d,x0,x1,x2,x3,x4,x5,x6,x7]] w fun e' w'=>e' = .returned (.tuple #[(ts.length:Int),(0:Int)])∧StoreIs w' Far sb most (ts++[t])∧Keeps Far w w':=by
 obtain ⟨mb,nv,ks,hrow,hmap,hP⟩:=hS.parts;obtain ⟨kl,hk⟩:=hk;obtain ⟨i0,hi0,hz0,hz1,hz2⟩:=info_parts zLd;obtain ⟨na,nc,rfl⟩:=zk hrow;have hkf:=zEo hG ht hle hby;rw [hV] at hkf
 have hlook : ∀ W,Below w.heap.size w W→(Instr.lookup 78 (.map (some mb)) (.agg #[k,c,.string s,d,x0,x1,x2,x3,x4,x5,x6,x7]) true).run Tryz.prog W = .ok (.tuple #[(0:Int),.bool false]) W :=
  fun W hb=>((hmap.kept (row:=none) (zJ hb) (by simp)).look hk).2 hkf
 have Hl:=Bx.mk hlook;have Ks:=Bx.mk ks;have Hrow:=Bx.mk hrow;have Hmap:=Bx.mk hmap;have Hkf:=Bx.mk hkf;have Hk:=Bx.mk hk;have Radd:=Bx.mk (zG6 hG hle);have Kadd:=Bx.mk (fun v=>zHC hG ht hle hby v);rw [hV] at Radd Kadd;have hsb:=ks.lt;have hmb:=hmap.lt;clear hmap hrow hlook hkf hk hV ks hG ht hle hby;have G:=Bx.mk hP;have HF:=Bx.mk hFar;clear hP hFar hS;have Hts:=Bx.mk (show ts.length+1=(ts++[t]).length by simp)
 generalize ts++[t]=ts' at *;generalize zIs ts=row at *;generalize zEN ts=F at *;generalize ts.length=nn at *;go_enter Tryz.func63,Tryz.ntmps63;go_wp2_with fail;generalize hW:World.alloc w _=W;have hSz:=sz1 hW;have hB:=bl1 hW;have kn:Bk W (w.heap.size) #[k,c,.string s,d,x0,x1,x2,x3,x4,x5,x6,x7] 101:=bk0 hW;clear hW;have ks:=Ks.out.later hB
 have hl2 : ∀ dk osk,(Instr.lookup 78 (.map (some mb)) (.agg #[k,c,.string s,d,x0,x1,x2,x3,x4,x5,x6,x7]) true).run Tryz.prog (grow (redrawn W dk) osk) = .ok (.tuple #[(0:Int),.bool false]) (grow (redrawn W dk) osk) :=
  fun dk osk=>Hl.out _ (hB.trans ((below_regrown W dk osk).mono hB.size))
 clear Hl Ks;obtain ⟨cn0,cn1,cn2,cn3,cn4,cn5,cn6,cn7⟩:=kn.r8;have cn8 : ∀ dk osk,(grow (redrawn W dk) osk).cell? ⟨w.heap.size,8,none⟩=some (.int .i64 x4):=cell_regrown (kn.cell 8 rfl);have cn9 : ∀ dk osk,(grow (redrawn W dk) osk).cell? ⟨w.heap.size,9,none⟩=some (.int .i64 x5):=cell_regrown (kn.cell 9 rfl);have cn10 : ∀ dk osk,(grow (redrawn W dk) osk).cell? ⟨w.heap.size,10,none⟩=some (.int .i64 x6):=cell_regrown (kn.cell 10 rfl);have cn11 : ∀ dk osk,(grow (redrawn W dk) osk).cell? ⟨w.heap.size,11,none⟩=some (.int .i64 x7):=cell_regrown (kn.cell 11 rfl);obtain ⟨cs0,cs1,cs2⟩:=ks.r3;refine wp_region_quiet_below (by kernel_rfl) (by kernel_rfl) ?_
 repeat (first | go_big_quiet_step ((fail)) | quiet_step (fail))
 refine wpQuiet_nil ?_;rintro _ ⟨⟨dq,osq⟩,rfl⟩;have hb:=below_regrown W dq osq;clear cn0 cn1 cn2 cn3 cn4 cn5 cn6 cn7 cn8 cn9 cn10 cn11;clear cs0 cs1 cs2;replace hB:=hB.trans (hb.mono hB.size);replace kn:=kn.later hb;replace ks:=ks.later hb;replace hSz:=Nat.le_trans hSz hb.size;clear hb;generalize grow (redrawn W dq) osq=W1 at *;clear hl2;go_wp2_with fail;obtain ⟨cs0,cs1,cs2⟩:=ks.r3;refine wp_region_quiet_below (by kernel_rfl) (by kernel_rfl) ?_
 repeat (first | go_big_quiet_step ((fail)) | quiet_step (fail))
 refine wpQuiet_nil ?_;rintro _ ⟨⟨dq,osq⟩,rfl⟩;have hb:=below_regrown W1 dq osq;clear cs0 cs1 cs2;replace hB:=hB.trans (hb.mono hB.size);replace kn:=kn.later hb;replace ks:=ks.later hb;replace hSz:=Nat.le_trans hSz hb.size;clear hb;generalize grow (redrawn W1 dq) osq=W2 at *;go_wp2_with fail;obtain ⟨cn0,cn1,cn2,cn3,cn4,cn5,cn6,cn7,cn8,cn9,cn10,cn11⟩:=kn.c12;obtain ⟨cs0,cs1,cs2⟩:=ks.c3;have fs1:=ks.frozen 1;have hrow2 : ∀ o,((W2.alloc o).drew).ownsRow 0 101 12 (.slice na nn nc) nn row:=fun o=>(World.ownsRow.alloc (World.ownsRow.kept Hrow.out (zJ hB) (by cases (Value.slice na nn nc).ownBlock <;> simp)) o).drew
 have hne1:(Value.slice na nn nc).ownBlock ≠ some sb:=G.out.ns;have hne2:(Value.slice na nn nc).ownBlock ≠ some w.heap.size:=fun e=>by have:=(World.ownsRow.lt Hrow.out _ e).2;omega
 have al1 : ∀ o,(W2.alloc o).cell? ⟨sb,1,none⟩=some (.slice na nn nc):=fun o=>(ks.alloc o).cell 1 rfl;have ks2:=Bx.mk ks;have kn2:=Bx.mk kn;replace hrow2:=Bx.mk hrow2;replace hne1:=Bx.mk hne1;replace hne2:=Bx.mk hne2;clear ks kn
 go_region_law
  ((refine zD0 (by rfl) _ _ 77 (by rfl) 0 101 i0 _ 12 104 Tryz.underlying77 hi0 hz0 hz1 hz2 rfl (by omega) (.slice na nn nc) nn row (by rfl) (hrow2.out _) ⟨W2.heap.size,0,none⟩ 1 1 [.int .i64 k,.int .i64 c,.string s,.int .i64 d,.int .i64 x0,.int .i64 x1,.int .i64 x2,.int .i64 x3,.int .i64 x4,.int .i64 x5,.int .i64 x6,.int .i64 x7] (by rfl) (by rfl) (World.news_of_block (cs:=#[k,c,.string s,d,x0,x1,x2,x3,x4,x5,x6,x7]) (t:=101) (fr:=(0,0)) (heap_alloc_new W2 _)) (by simp [Value.oneCell']) (by simp [maxLen];omega) (by omega) (Nat.zero_le _) ?_;intro v1 w1 hown1 hgrow hat;obtain ⟨va,vc,rfl⟩:=zk hown1.out;have ks1:=Bk.grownO ((ks2.out.alloc _).drew) hgrow.out hne1.out;have kn1:=Bk.grownO ((kn2.out.alloc _).drew) hgrow.out hne2.out;have cs1':=ks1.cell 1 rfl;have fs1':=ks1.frozen 1;have cn0':=kn1.cell 0 rfl;have cn1':=kn1.cell 1 rfl;have cn2':=kn1.cell 2 rfl;have cn3':=kn1.cell 3 rfl;have cn4':=kn1.cell 4 rfl;have cn5':=kn1.cell 5 rfl;have cn6':=kn1.cell 6 rfl;have cn7':=kn1.cell 7 rfl;have cn8':=kn1.cell 8 rfl;have cn9':=kn1.cell 9 rfl;have cn10':=kn1.cell 10 rfl;have cn11':=kn1.cell 11 rfl))
 all_goals (clear al1 cn0 cn1 cn2 cn3 cn4 cn5 cn6 cn7 cn8 cn9 cn10 cn11 cs0 cs1 cs2 fs1)
 all_goals
  replace ks1:Bk (w1.setCell ⟨sb,1,none⟩ (.slice va (nn+1) vc)) sb #[most,.slice va (nn+1) vc,.map (some mb)] 80:=by simpa using ks1.set 1 (.slice va (nn+1) vc)
  replace kn1:=kn1.other ⟨sb,1,none⟩ (.slice va (nn+1) vc) (by simp only;omega)
  obtain ⟨hown3,hmap3,hK3,hP3⟩:=zGG (zJ (hB.trans ((zW W2 _).drew.mono hB.size))) HF.out Hrow.out Hmap.out G.out hsb hown1.out hgrow.out hat.out;replace hown3:=Bx.mk hown3;replace hmap3:=Bx.mk hmap3;replace hK3:=Bx.mk hK3;replace hP3:=Bx.mk hP3;clear hgrow hown1 hat fs1' cs1' cn0' cn1' cn2' cn3' cn4' cn5' cn6' cn7' cn8' cn9' cn10' cn11' ks2 kn2 hrow2 hne1 hne2;generalize w1.setCell ⟨sb,1,none⟩ (.slice va (nn+1) vc)=W3 at *;go_wp2_with fail;clear hB hSz;have hB:Below W3.heap.size W3 W3:=Below.refl _ _;have hSz:W3.heap.size≤W3.heap.size:=Nat.le_refl _;obtain ⟨cn0,cn1,cn2,cn3,cn4,cn5,cn6,cn7⟩:=kn1.r8;have cn8 : ∀ dk osk,(grow (redrawn W3 dk) osk).cell? ⟨w.heap.size,8,none⟩=some (.int .i64 x4):=cell_regrown (kn1.cell 8 rfl);have cn9 : ∀ dk osk,(grow (redrawn W3 dk) osk).cell? ⟨w.heap.size,9,none⟩=some (.int .i64 x5):=cell_regrown (kn1.cell 9 rfl);have cn10 : ∀ dk osk,(grow (redrawn W3 dk) osk).cell? ⟨w.heap.size,10,none⟩=some (.int .i64 x6):=cell_regrown (kn1.cell 10 rfl);have cn11 : ∀ dk osk,(grow (redrawn W3 dk) osk).cell? ⟨w.heap.size,11,none⟩=some (.int .i64 x7):=cell_regrown (kn1.cell 11 rfl);obtain ⟨cs0,cs1,cs2⟩:=ks1.r3;refine zA 11 (by kernel_rfl) (by kernel_rfl) ?_
  simp only [List.take_succ_cons,List.take_zero,List.drop_succ_cons,List.drop_zero]
  repeat (first | go_big_quiet_step ((fail)) | quiet_step (fail))
  refine wpQuiet_nil ?_;rintro _ ⟨⟨dq,osq⟩,rfl⟩;have hb:=below_regrown W3 dq osq;replace hB:=hB.trans (hb.mono hB.size);clear cn0 cn1 cn2 cn3 cn4 cn5 cn6 cn7 cn8 cn9 cn10 cn11;clear cs0 cs1 cs2;replace kn1:=kn1.later hb;replace ks1:=ks1.later hb;replace hSz:=Nat.le_trans hSz hb.size;clear hb;generalize grow (redrawn W3 dq) osq=W4 at *;obtain ⟨W5,hrun,hm5,hg5⟩:=(hmap3.out.kept (row:=none) (zJ hB) (by simp)).put (by simp [maxLen];omega) Hk.out Hkf.out (nn:Int) (WalkArith.wf_i64 (by omega))
  obtain ⟨hS5,hK5⟩:=zHn (Far:=Far) ks1 (World.ownsRow.kept hown3.out (zJ hB) (by cases (Value.slice va (nn+1) vc).ownBlock <;> simp)) (hK3.out.trans (Keeps.below hB)) hP3.out hg5 hm5 Hts.out Radd.out.symm (fun v=>(Kadd.out v).symm)
  have HS5:=Bx.mk hS5;have HK5:=Bx.mk hK5;obtain ⟨p5,q5,k5,r5,-⟩:=hS5;obtain ⟨ra,rc,rfl⟩:=zk r5;rw [←Hts.out] at k5;have c5:=k5.cell 1 rfl;clear hm5 hg5 hK5 r5 k5;unfold zAW at hrun;go_wp2_with fail
  go_ret2
  exact ⟨rfl,HS5.out,HK5.out⟩
end
end Go.Proofs.YtfcbajmjaifjlaaGreatDoor
