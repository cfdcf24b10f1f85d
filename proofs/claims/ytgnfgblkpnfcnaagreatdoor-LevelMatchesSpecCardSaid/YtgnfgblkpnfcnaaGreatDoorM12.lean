/- Pla, Grd2, Rep: joined by program, for one claim. -/
import Derived.Test.YtgnfgblkpnfcnaaGreatDoorM11
import Derived.Laws.CopyOwn
import Derived.Laws.BitsAllLaws
set_option maxHeartbeats 1000000
set_option maxRecDepth 100000
set_option linter.unusedVariables false
set_option linter.unusedSimpArgs false
namespace Go.Proofs.YtgnfgblkpnfcnaaGreatDoor
section
open Oct
theorem WF.bytes {t:Tr} (h:Tr.WF t):Bytes t:=by
 cases t with
 | uni c=>exact Bytes.uni h
 | brick l=>exact Bytes.brick h
 | node d ch=>exact Bytes.node h.1 ch
theorem WF.kid {d:Nat} {ch:Fin 8→Tr} (h:Tr.WF (.node d ch)) (i:Fin 8):Tr.WF (ch i):=h.2 i
theorem zN6 {l:List Int} (h:l.length=64) (hb : ∀ x∈l,0≤x∧x≤255):Tr.WF (Tr.mkBrick l):=by
 unfold Tr.mkBrick;split
 · cases l with
   | nil=>simp at h
   | cons x r=>exact hb x (by simp)
 · exact ⟨h,hb⟩
theorem zN7 {d:Nat} {ch:Fin 8→Tr} (hd:d≤255) (h : ∀ i,Tr.WF (ch i)):Tr.WF (Tr.mkInner d ch):=by
 unfold Tr.mkInner;split
 · exact h 0
 · exact ⟨hd,h⟩
theorem zAD {f:Pt→Int} (hf : ∀ p,0≤f p∧f p≤255) : ∀ (n:Nat) (a:Pt),n≤200→Tr.WF (Tr.can f n a)
 | 0, a, _ => by
   unfold Tr.can;refine zN6 (by simp) fun x hx=>?_
   obtain ⟨k,_,rfl⟩:=List.mem_map.1 hx;exact hf _
 | n + 1, a, hn => by
   unfold Tr.can;exact zN7 (by omega) fun i=>zAD hf n _ (by omega)
theorem zDQ (l:List Int):Dep 0 (Tr.mkBrick l):=by
 unfold Tr.mkBrick;split
 · exact Dep.uni _ _
 · exact Dep.brick _
theorem zDR {n:Nat} {ch:Fin 8→Tr} (h : ∀ i,Dep n (ch i)):Dep (n+1) (Tr.mkInner (n+3) ch):=by
 unfold Tr.mkInner;split
 · rename_i hc;obtain ⟨⟨c,hc⟩,_⟩:=hc;rw [hc];exact Dep.uni _ _
 · exact Dep.node n ch h
theorem zDP (f:Pt→Int) : ∀ (n:Nat) (a:Pt),Dep n (Tr.can f n a)
 | 0,a=>by unfold Tr.can;exact zDQ _
 | n+1,a=>by unfold Tr.can;exact zDR fun i=>zDP f n _
theorem Dep.kid {n:Nat} {t:Tr} (h:Dep (n+1) t) (i:Fin 8):Dep n (t.kid i):=by
 cases h with
 | uni _ c=>exact Dep.uni _ _
 | node _ ch h=>exact h i
theorem zEj : ∀ (t:Tr) {ts:List Tr},Good ts→Tr.WF t→Good (Tr.add t ts):=by
 intro t
 induction t with
 | uni c=>intro ts hG h;rw [Tr.add_uni];exact hG.ins (fun d ch e=>by cases e) (WF.bytes h)
 | brick l=>intro ts hG h;rw [Tr.add_brick];exact hG.ins (fun d ch e=>by cases e) (WF.bytes h)
 | node d ch ih =>
   intro ts hG h;rw [Tr.node_add hG.closed];have hk:=Tr.addK_ind (P:=Good) (fun i a ha=>ih i ha (h.2 i)) 8 (Nat.le_refl _) ts hG;refine hk.ins (fun d' ch' e i=>?_) (WF.bytes h);injection e with e1 e2;subst e2;exact Tr.addK_mem _ ts 8 (Nat.le_refl _) i i.isLt
theorem zEk {ch:Fin 8→Tr} {ts:List Tr} (hG:Good ts) (h : ∀ i,Tr.WF (ch i)) (k:Nat) (hk:k≤8):Good (Tr.addK ch k ts):=Tr.addK_ind (P:=Good) (fun i _a ha=>zEj _ ha (h i)) k hk ts hG
def Between (ts ts':List Tr):Prop := ∀ vs,ts <+: vs→vs <+: ts'→Good vs
theorem Between.same {ts:List Tr} (hG:Good ts):Between ts ts:=fun vs h1 h2=>by
 have:=h1.eq_of_length_le h2.length_le;exact this ▸ hG
theorem Between.trans {a b c:List Tr} (h:Between a b) (h':Between b c) (hbc:b <+: c):Between a c:=fun vs h1 h2=>by
 rcases List.prefix_or_prefix_of_prefix h2 hbc with h3 | h3
 · exact h vs h1 h3
 · exact h' vs h3 h2
theorem Between.left {a b c:List Tr} (h:Between a c) (hbc:b <+: c):Between a b:=fun vs h1 h2=>h vs h1 (h2.trans hbc)
theorem zBb {ts:List Tr} {t:Tr} (hG:Good ts) (h2:Good (Tr.ins t ts)):Between ts (Tr.ins t ts):=fun vs h1 h3=>by
 by_cases ht:t∈ts
 · rw [Tr.ins_of_mem ht] at h3;exact (h1.eq_of_length_le h3.length_le) ▸ hG
 · rw [Tr.ins_of_not ht] at h3 h2;by_cases hl:vs.length≤ts.length
   · exact (h1.eq_of_length_le hl) ▸ hG
   · have:=h3.eq_of_length_le (by simp;omega)
     exact this ▸ h2
theorem zBa : ∀ (t:Tr) {ts:List Tr},Good ts→Tr.WF t→Between ts (Tr.add t ts):=by
 intro t
 induction t with
 | uni c=>intro ts hG h;have h2:=zEj _ hG h;rw [Tr.add_uni] at h2 ⊢; exact zBb hG h2
 | brick l=>intro ts hG h;have h2:=zEj _ hG h;rw [Tr.add_brick] at h2 ⊢; exact zBb hG h2
 | node d ch ih =>
   intro ts hG h;have h2:=zEj _ hG h;rw [Tr.node_add hG.closed] at h2 ⊢;have key:=Tr.addK_ind (P:=fun a=>ts <+: a∧Good a∧Between ts a) (fun i a ha=>⟨ha.1.trans (Tr.add_prefix _ _),zEj _ ha.2.1 (h.2 i),ha.2.2.trans (ih i ha.2.1 (h.2 i)) (Tr.add_prefix _ _)⟩) 8 (Nat.le_refl _) ts ⟨List.prefix_refl _,hG,Between.same hG⟩;exact key.2.2.trans (zBb key.2.1 h2) (Tr.ins_prefix _ _)
theorem zFi (t:Tr) (ts:List Tr):(Tr.ins t ts).length≤ts.length+1:=by
 by_cases h:t∈ts
 · rw [Tr.ins_of_mem h];omega
 · rw [Tr.ins_of_not h];simp
theorem zAs : ∀ (t:Tr) (ts:List Tr),(Tr.add t ts).length≤ts.length+Tr.sz t:=by
 intro t
 induction t with
 | uni c=>intro ts;rw [Tr.add_uni];exact zFi _ _
 | brick l=>intro ts;rw [Tr.add_brick];exact zFi _ _
 | node d ch ih =>
   intro ts
   have key : ∀ k,k≤8→(Tr.addK ch k ts).length≤ts.length+((List.ofFn fun i=>Tr.sz (ch i)).take k).sum:=by
    intro k
    induction k with
    | zero=>intro _;rw [Tr.addK_zero];simp
    | succ k ihk =>
      intro hk;rw [Tr.addK_succ ch (by omega)]
      have h1:=ih ⟨k,by omega⟩ (Tr.addK ch k ts)
      have h2:=ihk (by omega)
      rw [List.take_succ_eq_append_getElem (by simpa using (show k<8 by omega)),List.sum_append]
      simp only [List.getElem_ofFn,List.sum_cons,List.sum_nil];omega
   have h8:=key 8 (Nat.le_refl _);rw [List.take_of_length_le (by simp)] at h8
   rw [Tr.add_node];split
   · simp only [Tr.sz];omega
   · simp only [Tr.sz,List.length_append,List.length_singleton];omega
theorem zM7 (l:List Int):Tr.sz (Tr.mkBrick l)=1:=by unfold Tr.mkBrick;split <;> rfl
theorem sum8 {g:Fin 8→Nat} {m:Nat} (h : ∀ i,g i≤m):(List.ofFn g).sum≤8 * m:=by
 have h0:=h 0;have h1:=h 1;have h2:=h 2;have h3:=h 3;have h4:=h 4;have h5:=h 5;have h6:=h 6;have h7:=h 7;simp only [List.ofFn_succ,List.ofFn_zero,List.sum_cons,List.sum_nil];simp only [Fin.reduceSucc,Fin.isValue] at *;omega
theorem zM8 {d:Nat} {ch:Fin 8→Tr} {m:Nat} (h : ∀ i,Tr.sz (ch i)≤m):Tr.sz (Tr.mkInner d ch)≤1+8 * m:=by
 unfold Tr.mkInner;split
 · have:=h 0;omega
 · simp only [Tr.sz];have:=sum8 h;omega
def zHl:Nat→Nat
 | 0=>1
 | n+1=>1+8 * zHl n
theorem zM6 (f:Pt→Int) : ∀ (n:Nat) (a:Pt),Tr.sz (Tr.can f n a)≤zHl n
 | 0,a=>by unfold Tr.can;rw [zM7];exact Nat.le_refl _
 | n+1,a=>by unfold Tr.can;exact zM8 fun i=>zM6 f n _
theorem zHm {n:Nat} (hn:n≤12):zHl n≤80000000000:=by
 have key : ∀ m,m≤n→zHl m≤zHl n:=by
  intro m h
  induction n with
  | zero=>rw [show m=0 by omega];exact Nat.le_refl _
  | succ n ih =>
    by_cases e:m=n+1
    · rw [e];exact Nat.le_refl _
    · have:=ih (by omega) (by omega)
      show _≤1+8 * zHl n
      omega
 have mono : ∀ a b,a≤b→zHl a≤zHl b:=by
  intro a b h
  induction b with
  | zero=>rw [show a=0 by omega];exact Nat.le_refl _
  | succ b ih =>
    by_cases e:a=b+1
    · rw [e];exact Nat.le_refl _
    · have:=ih (by omega)
      show _≤1+8 * zHl b
      omega
 exact Nat.le_trans (mono n 12 hn) (by decide)
theorem zCC {f:Pt→Int} {n:Nat} (hn:n≤12) (a:Pt) (ts:List Tr):(Tr.add (Tr.can f n a) ts).length≤ts.length+80000000000 :=
 Nat.le_trans (zAs _ _) (Nat.add_le_add_left (Nat.le_trans (zM6 f n a) (zHm hn)) _)
theorem zCG : ∀ (n:Nat) (a:Pt) (f:Pt→Int),Tr.Al n a→(∀ p,Tr.InC n a p→f p=0)→Tr.can f n a = .uni 0
 | 0, a, f, ha, h => by
   unfold Tr.can Tr.mkBrick
   have key : ∀ x∈(List.range 64).map fun k=>f (Tr.cellAt a k),x=0:=by
    intro x hx;obtain ⟨k,hk,rfl⟩:=List.mem_map.1 hx;exact h _ (Tr.inC_cell ha (List.mem_range.1 hk) rfl).1
   have h0:((List.range 64).map fun k=>f (Tr.cellAt a k)).headD 0=0:=by
    rw [show List.range 64=0::(List.range 63).map Nat.succ from List.range_succ_eq_map];simp only [List.map_cons,List.headD_cons];exact key _ (List.mem_map.2 ⟨0,by simp,rfl⟩)
   rw [h0,if_pos key]
 | n + 1, a, f, ha, h => by
   have key : ∀ i:Fin 8,Tr.can f n (Tr.cor a n i.val) = .uni 0:=fun i=>zCG n _ f (Tr.al_cor ha _) fun p hp=>h p (Tr.inC_other ha hp).2;unfold Tr.can Tr.mkInner;rw [if_pos ⟨⟨0,key 0⟩,fun i=>(key i).trans (key 0).symm⟩];exact key 0
theorem zFZ {d:Nat} {ch:Fin 8→Tr} {ts:List Tr} (hG:Good ts) (h : ∀ i,Tr.WF (ch i)):Tr.add (Tr.mkInner d ch) (Tr.addK ch 8 ts)=Tr.add (Tr.mkInner d ch) ts:=by
 have hG8:=zEk hG h 8 (Nat.le_refl _);have hm : ∀ i,ch i∈Tr.addK ch 8 ts:=fun i=>Tr.addK_mem ch ts 8 (Nat.le_refl _) i i.isLt;rw [Tr.inner_add hG8.closed,Tr.inner_add hG.closed,zAp hm]
theorem zAo {ch:Fin 8→Tr} {ts:List Tr} {k m:Nat} (hkm:k≤m) (hm:m≤8):Tr.addK ch k ts <+: Tr.addK ch m ts:=by
 induction m with
 | zero=>rw [show k=0 by omega];exact List.prefix_refl _
 | succ m ih =>
   by_cases e:k=m+1
   · rw [e];exact List.prefix_refl _
   · rw [Tr.addK_succ ch (by omega)]
     exact (ih (by omega) (by omega)).trans (Tr.add_prefix _ _)
theorem zFf {d:Nat} {ch:Fin 8→Tr} {ts:List Tr} (hG:Good ts):Tr.addK ch 8 ts <+: Tr.add (Tr.mkInner d ch) ts:=by
 rw [Tr.inner_add hG.closed];split
 · exact List.prefix_refl _
 · exact Tr.ins_prefix _ _
end
section
open Go.RowKit Go.Sort
def zAB (b:Box) (l:List Int):Bool:=okB b && (!zN b || decide (b=Box.zero)) && decide (zAC b≤2097152) && decide (zAC b=l.length) && l.all Pal.cell
def zIE (b:Box) (c:Int):Int:=if okB b=false∨Pal.cell c=false then 1 else if 2097152<zAC b then 2 else 0
theorem zNs (a b c d e f:Int) (sa:Option Addr) (cap:Nat) (xs:List Int) (w:World) (hl:xs.length≤1000000000) (h:Sl w .i64 sa xs) :
 Calls Tryz.prog 78 #[.agg #[a,b,c,d,e,f,.slice sa xs.length cap]] w fun e' w'=>e' = .returned (.bool (zAB ⟨⟨a,b,c⟩,⟨d,e,f⟩⟩ xs))∧Below w.heap.size w w':=by
 have hV:=Bx.mk (show zAB ⟨⟨a,b,c⟩,⟨d,e,f⟩⟩ xs=(okB ⟨⟨a,b,c⟩,⟨d,e,f⟩⟩ && (!zN ⟨⟨a,b,c⟩,⟨d,e,f⟩⟩ || decide (⟨⟨a,b,c⟩,⟨d,e,f⟩⟩=Box.zero)) && decide (zAC ⟨⟨a,b,c⟩,⟨d,e,f⟩⟩≤2097152) && decide (zAC ⟨⟨a,b,c⟩,⟨d,e,f⟩⟩=xs.length) && xs.all Pal.cell) from rfl);have hr:=Bx.mk fun W=>zKE a b c d e f W;have he:=Bx.mk fun W=>zP a b c d e f W;have hq:=fun W=>zIC a b c d e f 0 0 0 0 0 0 W;have hcon:=Bx.mk fun W h=>zCt sa cap xs W hl h;have hvol:Bx (okB ⟨⟨a,b,c⟩,⟨d,e,f⟩⟩=true → ∀ W,Calls Tryz.prog 124 #[.agg #[a,b,c,d,e,f]] W fun e' w'=>e' = .returned (.int .i64 (zAC ⟨⟨a,b,c⟩,⟨d,e,f⟩⟩))∧Below W.heap.size W w'):=⟨fun h W=>zN0 a b c d e f (zk h) W⟩;generalize hn:xs.length=n at *;clear hn;rw [show decide (⟨⟨a,b,c⟩,⟨d,e,f⟩⟩=Box.zero)=decide ((⟨⟨a,b,c⟩,⟨d,e,f⟩⟩:Box)=⟨⟨0,0,0⟩,⟨0,0,0⟩⟩) from rfl] at hV;generalize okB ⟨⟨a,b,c⟩,⟨d,e,f⟩⟩=r1 at *;generalize zN ⟨⟨a,b,c⟩,⟨d,e,f⟩⟩=r2 at *;generalize decide ((⟨⟨a,b,c⟩,⟨d,e,f⟩⟩:Box)=⟨⟨0,0,0⟩,⟨0,0,0⟩⟩)=r3 at *;generalize zAC ⟨⟨a,b,c⟩,⟨d,e,f⟩⟩=v at *;generalize xs.all Pal.cell=r4 at *;cases r1 with
 | false =>
   clear hvol;go_enter Tryz.func78,Tryz.ntmps78;go_wp2_with fail;generalize hW:World.alloc w _=W;have hSz:=sz1 hW;have hB:=bl1 hW;have kg:Bk W (w.heap.size) #[a,b,c,d,e,f,.slice sa n cap] 28:=bk0 hW;clear hW;refine (hr.out _).mono ?_;rintro e' w1 ⟨rfl,hb⟩;replace hB:=hB.trans (hb.mono hB.size);replace kg:=kg.later hb;replace hSz:=Nat.le_trans hSz hb.size;clear hb;obtain ⟨cg0,cg1,cg2,cg3,cg4,cg5,cg6⟩:=kg.c7;go_wp2_with fail;go_ret;exact ⟨zr (by rw [hV.out];simp [*]),hB⟩
 | true =>
   replace hvol:=Bx.mk (hvol.out rfl);cases r2 with
   | false =>
     by_cases h1:2097152<v
     · have h1':decide (v≤2097152)=false:=by simp;omega
       go_enter Tryz.func78,Tryz.ntmps78;go_wp2_with fail;generalize hW:World.alloc w _=W;have hSz:=sz1 hW;have hB:=bl1 hW;have kg:Bk W (w.heap.size) #[a,b,c,d,e,f,.slice sa n cap] 28:=bk0 hW;clear hW;refine (hr.out _).mono ?_;rintro e' w1 ⟨rfl,hb⟩;replace hB:=hB.trans (hb.mono hB.size);replace kg:=kg.later hb;replace hSz:=Nat.le_trans hSz hb.size;clear hb;obtain ⟨cg0,cg1,cg2,cg3,cg4,cg5,cg6⟩:=kg.c7;go_wp2_with fail;refine (he.out _).mono ?_;rintro e' w2 ⟨rfl,hb⟩;clear cg0 cg1 cg2 cg3 cg4 cg5 cg6;replace hB:=hB.trans (hb.mono hB.size);replace kg:=kg.later hb;replace hSz:=Nat.le_trans hSz hb.size;clear hb;obtain ⟨cg0,cg1,cg2,cg3,cg4,cg5,cg6⟩:=kg.c7;go_wp2_with fail;refine (hvol.out _).mono ?_;rintro e' w3 ⟨rfl,hb⟩;clear cg0 cg1 cg2 cg3 cg4 cg5 cg6;replace hB:=hB.trans (hb.mono hB.size);replace kg:=kg.later hb;replace hSz:=Nat.le_trans hSz hb.size;clear hb;obtain ⟨cg0,cg1,cg2,cg3,cg4,cg5,cg6⟩:=kg.c7;go_wp2_with fail;go_ret;exact ⟨zr (by rw [hV.out];simp [*]),hB⟩
     · have h1':decide (v≤2097152)=true:=by simp;omega
       by_cases h2:v=(n:Int)
       · have h2':(v == (n:Int))=true:=by simp [h2]
         have h2d:Bx (decide (v=(n:Int))=true):=⟨by simp [h2]⟩
         clear h2;cases r4
         all_goals
          go_enter Tryz.func78,Tryz.ntmps78;go_wp2_with fail;generalize hW:World.alloc w _=W;have hSz:=sz1 hW;have hB:=bl1 hW;have kg:Bk W (w.heap.size) #[a,b,c,d,e,f,.slice sa n cap] 28:=bk0 hW;clear hW;refine (hr.out _).mono ?_;rintro e' w1 ⟨rfl,hb⟩;replace hB:=hB.trans (hb.mono hB.size);replace kg:=kg.later hb;replace hSz:=Nat.le_trans hSz hb.size;clear hb;obtain ⟨cg0,cg1,cg2,cg3,cg4,cg5,cg6⟩:=kg.c7;go_wp2_with fail;refine (he.out _).mono ?_;rintro e' w2 ⟨rfl,hb⟩;clear cg0 cg1 cg2 cg3 cg4 cg5 cg6;replace hB:=hB.trans (hb.mono hB.size);replace kg:=kg.later hb;replace hSz:=Nat.le_trans hSz hb.size;clear hb;obtain ⟨cg0,cg1,cg2,cg3,cg4,cg5,cg6⟩:=kg.c7;go_wp2_with fail;refine (hvol.out _).mono ?_;rintro e' w3 ⟨rfl,hb⟩;clear cg0 cg1 cg2 cg3 cg4 cg5 cg6;replace hB:=hB.trans (hb.mono hB.size);replace kg:=kg.later hb;replace hSz:=Nat.le_trans hSz hb.size;clear hb;obtain ⟨cg0,cg1,cg2,cg3,cg4,cg5,cg6⟩:=kg.c7;go_wp2_with fail;refine (hcon.out _ (h.below hB)).mono ?_;rintro e' w4 ⟨rfl,rfl⟩;go_wp2_with fail;go_ret;exact ⟨zr (by rw [hV.out,h2d.out];simp [h1']),hB⟩
       · have h2':(v == (n:Int))=false:=by simp [h2]
         have h2d:Bx (decide (v=(n:Int))=false):=⟨by simp [h2]⟩
         clear h2;go_enter Tryz.func78,Tryz.ntmps78;go_wp2_with fail;generalize hW:World.alloc w _=W;have hSz:=sz1 hW;have hB:=bl1 hW;have kg:Bk W (w.heap.size) #[a,b,c,d,e,f,.slice sa n cap] 28:=bk0 hW;clear hW;refine (hr.out _).mono ?_;rintro e' w1 ⟨rfl,hb⟩;replace hB:=hB.trans (hb.mono hB.size);replace kg:=kg.later hb;replace hSz:=Nat.le_trans hSz hb.size;clear hb;obtain ⟨cg0,cg1,cg2,cg3,cg4,cg5,cg6⟩:=kg.c7;go_wp2_with fail;refine (he.out _).mono ?_;rintro e' w2 ⟨rfl,hb⟩;clear cg0 cg1 cg2 cg3 cg4 cg5 cg6;replace hB:=hB.trans (hb.mono hB.size);replace kg:=kg.later hb;replace hSz:=Nat.le_trans hSz hb.size;clear hb;obtain ⟨cg0,cg1,cg2,cg3,cg4,cg5,cg6⟩:=kg.c7;go_wp2_with fail;refine (hvol.out _).mono ?_;rintro e' w3 ⟨rfl,hb⟩;clear cg0 cg1 cg2 cg3 cg4 cg5 cg6;replace hB:=hB.trans (hb.mono hB.size);replace kg:=kg.later hb;replace hSz:=Nat.le_trans hSz hb.size;clear hb;obtain ⟨cg0,cg1,cg2,cg3,cg4,cg5,cg6⟩:=kg.c7;go_wp2_with fail;go_ret;exact ⟨zr (by rw [hV.out,h2d.out];simp),hB⟩
   | true =>
     cases r3 with
     | false =>
       go_enter Tryz.func78,Tryz.ntmps78;go_wp2_with fail;generalize hW:World.alloc w _=W;have hSz:=sz1 hW;have hB:=bl1 hW;have kg:Bk W (w.heap.size) #[a,b,c,d,e,f,.slice sa n cap] 28:=bk0 hW;clear hW;refine (hr.out _).mono ?_;rintro e' w1 ⟨rfl,hb⟩;replace hB:=hB.trans (hb.mono hB.size);replace kg:=kg.later hb;replace hSz:=Nat.le_trans hSz hb.size;clear hb;obtain ⟨cg0,cg1,cg2,cg3,cg4,cg5,cg6⟩:=kg.c7;go_wp2_with fail;refine (he.out _).mono ?_;rintro e' w2 ⟨rfl,hb⟩;clear cg0 cg1 cg2 cg3 cg4 cg5 cg6;replace hB:=hB.trans (hb.mono hB.size);replace kg:=kg.later hb;replace hSz:=Nat.le_trans hSz hb.size;clear hb;obtain ⟨cg0,cg1,cg2,cg3,cg4,cg5,cg6⟩:=kg.c7;go_wp2_with fail;go_ret;exact ⟨zr (by rw [hV.out];simp [*]),hB⟩
     | true =>
       by_cases h1:2097152<v
       · have h1':decide (v≤2097152)=false:=by simp;omega
         go_enter Tryz.func78,Tryz.ntmps78;go_wp2_with fail;generalize hW:World.alloc w _=W;have hSz:=sz1 hW;have hB:=bl1 hW;have kg:Bk W (w.heap.size) #[a,b,c,d,e,f,.slice sa n cap] 28:=bk0 hW;clear hW;refine (hr.out _).mono ?_;rintro e' w1 ⟨rfl,hb⟩;replace hB:=hB.trans (hb.mono hB.size);replace kg:=kg.later hb;replace hSz:=Nat.le_trans hSz hb.size;clear hb;obtain ⟨cg0,cg1,cg2,cg3,cg4,cg5,cg6⟩:=kg.c7;go_wp2_with fail;refine (he.out _).mono ?_;rintro e' w2 ⟨rfl,hb⟩;clear cg0 cg1 cg2 cg3 cg4 cg5 cg6;replace hB:=hB.trans (hb.mono hB.size);replace kg:=kg.later hb;replace hSz:=Nat.le_trans hSz hb.size;clear hb;obtain ⟨cg0,cg1,cg2,cg3,cg4,cg5,cg6⟩:=kg.c7;go_wp2_with fail;refine (hvol.out _).mono ?_;rintro e' w3 ⟨rfl,hb⟩;clear cg0 cg1 cg2 cg3 cg4 cg5 cg6;replace hB:=hB.trans (hb.mono hB.size);replace kg:=kg.later hb;replace hSz:=Nat.le_trans hSz hb.size;clear hb;obtain ⟨cg0,cg1,cg2,cg3,cg4,cg5,cg6⟩:=kg.c7;go_wp2_with fail;go_ret;exact ⟨zr (by rw [hV.out];simp [*]),hB⟩
       · have h1':decide (v≤2097152)=true:=by simp;omega
         by_cases h2:v=(n:Int)
         · have h2':(v == (n:Int))=true:=by simp [h2]
           have h2d:Bx (decide (v=(n:Int))=true):=⟨by simp [h2]⟩
           clear h2;cases r4
           all_goals
            go_enter Tryz.func78,Tryz.ntmps78;go_wp2_with fail;generalize hW:World.alloc w _=W;have hSz:=sz1 hW;have hB:=bl1 hW;have kg:Bk W (w.heap.size) #[a,b,c,d,e,f,.slice sa n cap] 28:=bk0 hW;clear hW;refine (hr.out _).mono ?_;rintro e' w1 ⟨rfl,hb⟩;replace hB:=hB.trans (hb.mono hB.size);replace kg:=kg.later hb;replace hSz:=Nat.le_trans hSz hb.size;clear hb;obtain ⟨cg0,cg1,cg2,cg3,cg4,cg5,cg6⟩:=kg.c7;go_wp2_with fail;refine (he.out _).mono ?_;rintro e' w2 ⟨rfl,hb⟩;clear cg0 cg1 cg2 cg3 cg4 cg5 cg6;replace hB:=hB.trans (hb.mono hB.size);replace kg:=kg.later hb;replace hSz:=Nat.le_trans hSz hb.size;clear hb;obtain ⟨cg0,cg1,cg2,cg3,cg4,cg5,cg6⟩:=kg.c7;go_wp2_with fail;refine (hvol.out _).mono ?_;rintro e' w3 ⟨rfl,hb⟩;clear cg0 cg1 cg2 cg3 cg4 cg5 cg6;replace hB:=hB.trans (hb.mono hB.size);replace kg:=kg.later hb;replace hSz:=Nat.le_trans hSz hb.size;clear hb;obtain ⟨cg0,cg1,cg2,cg3,cg4,cg5,cg6⟩:=kg.c7;go_wp2_with fail;refine (hcon.out _ (h.below hB)).mono ?_;rintro e' w4 ⟨rfl,rfl⟩;go_wp2_with fail;go_ret;exact ⟨zr (by rw [hV.out,h2d.out];simp [h1']),hB⟩
         · have h2':(v == (n:Int))=false:=by simp [h2]
           have h2d:Bx (decide (v=(n:Int))=false):=⟨by simp [h2]⟩
           clear h2;go_enter Tryz.func78,Tryz.ntmps78;go_wp2_with fail;generalize hW:World.alloc w _=W;have hSz:=sz1 hW;have hB:=bl1 hW;have kg:Bk W (w.heap.size) #[a,b,c,d,e,f,.slice sa n cap] 28:=bk0 hW;clear hW;refine (hr.out _).mono ?_;rintro e' w1 ⟨rfl,hb⟩;replace hB:=hB.trans (hb.mono hB.size);replace kg:=kg.later hb;replace hSz:=Nat.le_trans hSz hb.size;clear hb;obtain ⟨cg0,cg1,cg2,cg3,cg4,cg5,cg6⟩:=kg.c7;go_wp2_with fail;refine (he.out _).mono ?_;rintro e' w2 ⟨rfl,hb⟩;clear cg0 cg1 cg2 cg3 cg4 cg5 cg6;replace hB:=hB.trans (hb.mono hB.size);replace kg:=kg.later hb;replace hSz:=Nat.le_trans hSz hb.size;clear hb;obtain ⟨cg0,cg1,cg2,cg3,cg4,cg5,cg6⟩:=kg.c7;go_wp2_with fail;refine (hvol.out _).mono ?_;rintro e' w3 ⟨rfl,hb⟩;clear cg0 cg1 cg2 cg3 cg4 cg5 cg6;replace hB:=hB.trans (hb.mono hB.size);replace kg:=kg.later hb;replace hSz:=Nat.le_trans hSz hb.size;clear hb;obtain ⟨cg0,cg1,cg2,cg3,cg4,cg5,cg6⟩:=kg.c7;go_wp2_with fail;go_ret;exact ⟨zr (by rw [hV.out,h2d.out];simp),hB⟩
theorem zH8 (n:Nat) (hn:n≤4194304) (w:World) :
 Calls Tryz.prog 151 #[.int .u64 1,.int .u64 (n:Int)] w fun e w'=>e = .returned (.tuple #[.int .u64 0,.int .u64 (n:Int)])∧w=w':=by
 have b1:bits .and .u64 1 4294967295=1:=by decide
 have b0:bits .and .u64 0 4294967295=0:=by decide
 have bn:bits .and .u64 (n:Int) 4294967295=(n:Int):=by
  have h:=u64_and_nat n 4294967295 (by omega) (by decide)
  have h2:n &&& 4294967295=n:=by
   have:=Nat.and_two_pow_sub_one_eq_mod n 32;rw [show 2 ^ 32 - 1=4294967295 by decide] at this
   rw [this];exact Nat.mod_eq_of_lt (by omega)
  rw [h2] at h;exact h
 have d1:(n:Int) / 4294967296=0:=by omega
 have k1:(0:Int)≤(n:Int):=by omega
 have k2:(n:Int)≤4194304:=by omega
 go_enter Tryz.func151,Tryz.ntmps151;go_wp2_with fail
 go_ret2
 exact ⟨rfl,rfl⟩
theorem zIA (n:Nat) (hn:n≤4194304) (w:World) :
 Calls Tryz.prog 117 #[.int .u64 1,.int .u64 (n:Int)] w fun e w'=>e = .returned (.tuple #[.int .u64 0,.int .u64 (n:Int)])∧w=w':=by
 have hm:=Bx.mk (zH8 n hn);go_enter Tryz.func117,Tryz.ntmps117;go_wp2_with fail;refine (hm.out _).mono ?_;rintro e w1 ⟨rfl,rfl⟩;go_wp2_with fail
 go_ret2
 exact ⟨rfl,rfl⟩
def rep (c:Int) (k n:Nat):List Value:=List.replicate k (.int .i64 c)++List.replicate (n - k) (.int .i64 0)
theorem zLH (c:Int) {k n:Nat} (h:k≤n):(rep c k n).length=n:=by simp [rep];omega
theorem zLI (c:Int) (n:Nat):madeCells #[(0:Int)] n=(rep c 0 n).toArray:=by
 apply Array.ext';simp only [madeCells,rep,List.replicate_zero,List.nil_append,Nat.sub_zero];apply List.ext_getElem?;intro i;by_cases h:i<n
 · simp [h,Nat.mod_one]
 · simp [h]
theorem zMX (c:Int) {k m n:Nat} (_h:k+m≤n):splice (rep c k n) k (List.replicate m (.int .i64 c))=rep c (k+m) n:=by
 unfold splice rep;have e1:(List.replicate k (Value.int .i64 c)++List.replicate (n - k) (Value.int .i64 0)).take k=List.replicate k (Value.int .i64 c):=by simp
 have e2:(List.replicate k (Value.int .i64 c)++List.replicate (n - k) (Value.int .i64 0)).drop (k+(List.replicate m (Value.int .i64 c)).length)=List.replicate (n - (k+m)) (Value.int .i64 0):=by
  rw [List.length_replicate,List.drop_append,List.drop_eq_nil_of_le (by simp),List.nil_append,List.drop_replicate]
  congr 1
  simp;omega
 rw [e1,e2,←List.append_assoc,List.replicate_append_replicate]
theorem zLF (c:Int) {k n i:Nat} (hi:i<k):(rep c k n)[i]? = some (.int .i64 c):=by
 simp [rep,List.getElem?_append,hi]
theorem zI8 {w:World} {B g:Nat} {c:Int} {n:Nat} (h:Bk w g (rep c n n).toArray 3) (hB:B≤g) (hn:n≤maxLen):Own w B 3 .i64 (.slice (some ⟨g,0,none⟩) n n) (List.replicate n c):=by
 refine ⟨by simp,.inr ⟨g,n,(rep c n n).toArray,by simp,hB,h,by simp,hn,by simp [rep],by simp [rep]⟩⟩
theorem cp_src (w:World) (ad:Addr) (c:Int) (n:Nat) (hc:w.cell? ad=some (.int .i64 c)):0<[Value.int .i64 c].length→(some (⟨w.heap.size,0,none⟩:Addr))=some ⟨w.heap.size,0,none⟩ ∧ ∃ ad',some ad=some ad' ∧
 ∀ j v,[Value.int .i64 c][j]? = some v→(w.alloc (.cells (rep c 0 n).toArray 3)).cell? (ad'.add j)=some v :=
 fun _=>⟨rfl,ad,rfl,fun j v hj=>by
  cases j with
  | zero=>simp at hj;subst hj;simpa [Addr.add] using cell_later ((Below.refl _ _).alloc (Nat.le_refl _) _) hc
  | succ j=>simp at hj⟩
theorem zC6 (w:World) (g:Nat) (c:Int) (k m n:Nat) (hm:m≤k) (kw:Bx (Bk w g (rep c k n).toArray 3)):0<(List.replicate m (Value.int .i64 c)).length→(some (⟨g,k,none⟩:Addr))=some ⟨g,k,none⟩ ∧ ∃ ad',(some (⟨g,0,none⟩:Addr))=some ad' ∧
 ∀ j v,(List.replicate m (Value.int .i64 c))[j]? = some v→w.cell? (ad'.add j)=some v :=
 fun _=>⟨rfl,⟨g,0,none⟩,rfl,fun j v hj=>by
  rw [List.getElem?_replicate] at hj;split at hj
  · rename_i h;have e:(⟨g,0,none⟩:Addr).add j=⟨g,j,none⟩:=by unfold Addr.add;split <;> simp_all
    rw [e,←hj];exact kw.out.cell j (by simpa using zLF c (by omega))
  · cases hj⟩
theorem cp_len (c:Int) (k m n:Nat) (h:m=min k (n - k)):(List.replicate m (Value.int .i64 c)).length=Nat.min k (n - k):=by rw [List.length_replicate,h]
theorem cp_fit (c:Int) (k m n:Nat) (h:k+m≤n):k+(List.replicate m (Value.int .i64 c)).length≤(rep c k n).length:=by rw [zLH c (by omega),List.length_replicate];exact h
theorem cp_one (c:Int) (m:Nat) : ∀ v∈List.replicate m (Value.int .i64 c),v.oneCell'=true:=by
 intro v hv;rw [(List.mem_replicate.1 hv).2];rfl
theorem zLJ (ad:Addr) (cap:Nat) (c:Int) (n:Nat) (h1:1≤n) (hn:n≤4194304) (w:World) (hc:w.cell? ad=some (.int .i64 c)) :
 Calls Tryz.prog 66 #[.slice (some ad) 1 cap,(n:Int)] w fun e w' => ∃ v,e = .returned v∧Own w' w.heap.size 3 .i64 v (List.replicate n c)∧Below w.heap.size w w':=by
 have hm:=Bx.mk (zIA n hn);have k1:(1:Int)≤(n:Int):=by omega
 have k2:(n:Int)≤4194304:=by omega
 have hmk : ∀ W,(Instr.makeSlice 26 (.int .i64 (n:Int)) (.int .i64 (n:Int))).run Tryz.prog W = .ok (.slice (some ⟨W.heap.size,0,none⟩) n n) (W.alloc (.cells (rep c 0 n).toArray 3)) :=
  fun W=>by rw [←zLI];exact run_make_row' (P:=Tryz.prog) 26 3 (.int .i64 0) 8 Tryz.underlying26 (by kernel_rfl) rfl .i64 .i64 n (by omega) (by omega) W
 go_enter Tryz.func66,Tryz.ntmps66;go_wp2_with fail;refine (hm.out _).mono ?_;rintro e w1 ⟨rfl,rfl⟩;have hb0:Below w.heap.size w (w.alloc (.cells (rep c 0 n).toArray 3)):=(Below.refl _ _).alloc (Nat.le_refl _) _;have c1:=Bx.mk (show [Value.int .i64 c].length=Nat.min 1 n by show 1=min 1 n;omega)
 have c3:=Bx.mk (show 0+[Value.int .i64 c].length≤(rep c 0 n).length by rw [zLH c (by omega)];simp;omega)
 have c4:=Bx.mk (show ∀ v∈[Value.int .i64 c],v.oneCell'=true by simp [Value.oneCell'])
 go_wp2_with (refine wpList_copy_splice rfl (.tmp 31) (.tmp 32) 26 26 rfl 3 Tryz.underlying26 (by kernel_rfl) (some ⟨w.heap.size,0,none⟩) (some ad) n n 1 cap rfl rfl w.heap.size 0 (rep c 0 n) 3 (heap_alloc_new w _) [.int .i64 c] c1.out (cp_src w ad c n hc) c3.out c4.out w.heap.size w hb0 (Nat.le_refl _) ?_)
 clear c1 c3 c4 hb0;intro w1 hg1 hb1;have kg:Bx (Bk w1 w.heap.size (rep c 1 n).toArray 3):=⟨by have:=hg1.out;rw [show [Value.int .i64 c]=List.replicate 1 (.int .i64 c) from rfl,zMX c (by omega)] at this;exact this⟩
 clear hg1 hmk hm;go_wp2_with fail
 go_loopw [8] (fun i wr => ∃ k:Nat,1≤k∧k≤n∧i = .int .i64 k∧Bk wr w.heap.size (rep c k n).toArray 3∧Below w.heap.size w wr) (fun i _=>n - (intOf i).toNat)
 case atStart=>exact ⟨1,by omega,h1,rfl,kg.out,hb1⟩
 case round =>
  obtain ⟨k,hk1,hk,rfl,kw,hB⟩:=hrel;clear kg hb1;have Kw:=Bx.mk kw;clear kw;have b1:(0:Int)≤(k:Int):=by omega
  have b2:(k:Int)≤(n:Int):=by omega
  by_cases hlt:k<n
  · have hlt':(k:Int)<(n:Int):=by omega
    have hne : ¬n=k:=by omega
    obtain ⟨m,hm⟩ : ∃ m,m=min k (n - k):=⟨_,rfl⟩;have hmk:m≤k∧k+m≤n∧1≤m:=by omega
    have hwr:IntKind.i64.wrap ((k:Int)+(m:Int))=(k:Int)+(m:Int):=IntWalk.i64_in _ (by omega)
    have Hm:=Bx.mk hm;clear hm;go_wp2_with fail
    go_region_law ((refine step_copy_splice rfl (.tmp 41) (.tmp 44) 26 26 rfl 3 Tryz.underlying26 (by kernel_rfl) (some ⟨w.heap.size,k,none⟩) (some ⟨w.heap.size,0,none⟩) (n - k) (n - k) k n (by simp [Act.eval,Act.put]) (by simp [Act.eval,Act.put]) w.heap.size k (rep c k n) 3 Kw.out (List.replicate m (.int .i64 c)) (cp_len c k m n Hm.out) (zC6 wr.drew w.heap.size c k m n hmk.1 Kw) (cp_fit c k m n hmk.2.1) (cp_one c m) w.heap.size w hB.drew (Nat.le_refl _) ?_;intro w2 hg2 hb2))
    have kg:Bx (Bk w2 w.heap.size (rep c (k+m) n).toArray 3):=⟨by have:=hg2.out;rw [zMX c (by omega)] at this;exact this⟩
    clear hg2 Kw;simp only [List.getElem_toArray,List.getElem_cons_succ,List.getElem_cons_zero,Act.put];go_wp2_with fail
    go_frame
    go_roundw
    case rel=>exact ⟨k+m,by omega,by omega,by go_num,kg.out,hb2⟩
    case measure=>simp [intOf];omega
  · obtain rfl:k=n:=by omega
    go_wp2_with fail;go_ret;refine ⟨_,rfl,zI8 Kw.out (Nat.le_refl _) (by simp only [maxLen];omega),hB⟩
end
end Go.Proofs.YtgnfgblkpnfcnaaGreatDoor
