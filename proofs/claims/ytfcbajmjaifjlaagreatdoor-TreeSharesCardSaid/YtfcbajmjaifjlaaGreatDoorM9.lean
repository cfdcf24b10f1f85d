/- Pla, Grd2, Rep, New: joined by program, for one claim. -/
import Derived.Test.YtfcbajmjaifjlaaGreatDoorM8
import Derived.Laws.CopyOwn
import Derived.Laws.BitsAllLaws
set_option maxHeartbeats 1000000
set_option maxRecDepth 100000
set_option linter.unusedVariables false
set_option linter.unusedSimpArgs false
namespace Go.Proofs.YtfcbajmjaifjlaaGreatDoor
section
open Oct
theorem WF.bytes {t:Tr} (h:Tr.WF t):Bytes t:=by
 cases t with
 | uni c=>exact Bytes.uni h
 | brick l=>exact Bytes.brick h
 | node d ch=>exact Bytes.node h.1 ch
theorem WF.kid {d:Nat} {ch:Fin 8→Tr} (h:Tr.WF (.node d ch)) (i:Fin 8):Tr.WF (ch i):=h.2 i
theorem zD9 {l:List Int} (h:l.length=64) (hb : ∀ x∈l,0≤x∧x≤255):Tr.WF (Tr.mkBrick l):=by
 unfold Tr.mkBrick;split
 · cases l with
   | nil=>simp at h
   | cons x r=>exact hb x (by simp)
 · exact ⟨h,hb⟩
theorem zD8 {d:Nat} {ch:Fin 8→Tr} (hd:d≤255) (h : ∀ i,Tr.WF (ch i)):Tr.WF (Tr.mkInner d ch):=by
 unfold Tr.mkInner;split
 · exact h 0
 · exact ⟨hd,h⟩
theorem zAm {f:Pt→Int} (hf : ∀ p,0≤f p∧f p≤255) : ∀ (n:Nat) (a:Pt),n≤200→Tr.WF (Tr.can f n a)
 | 0, a, _ => by
   unfold Tr.can;refine zD9 (by simp) fun x hx=>?_
   obtain ⟨k,_,rfl⟩:=List.mem_map.1 hx;exact hf _
 | n + 1, a, hn => by
   unfold Tr.can;exact zD8 (by omega) fun i=>zAm hf n _ (by omega)
theorem zDi (l:List Int):Dep 0 (Tr.mkBrick l):=by
 unfold Tr.mkBrick;split
 · exact Dep.uni _ _
 · exact Dep.brick _
theorem zDh {n:Nat} {ch:Fin 8→Tr} (h : ∀ i,Dep n (ch i)):Dep (n+1) (Tr.mkInner (n+3) ch):=by
 unfold Tr.mkInner;split
 · rename_i hc;obtain ⟨⟨c,hc⟩,_⟩:=hc;rw [hc];exact Dep.uni _ _
 · exact Dep.node n ch h
theorem zA5 (f:Pt→Int) : ∀ (n:Nat) (a:Pt),Dep n (Tr.can f n a)
 | 0,a=>by unfold Tr.can;exact zDi _
 | n+1,a=>by unfold Tr.can;exact zDh fun i=>zA5 f n _
theorem Dep.kid {n:Nat} {t:Tr} (h:Dep (n+1) t) (i:Fin 8):Dep n (t.kid i):=by
 cases h with
 | uni _ c=>exact Dep.uni _ _
 | node _ ch h=>exact h i
theorem zCr {t:Tr} (h:Tr.WF t) (i:Fin 8):Tr.WF (t.kid i):=by
 cases t with
 | uni c=>exact h
 | brick l=>exact h
 | node d ch=>exact h.2 i
theorem zKQ {t:Tr} (h:Tr.WF t) (hD:Dep 0 t):t.cells.length=64 ∧ ∀ x∈t.cells,0≤x∧x≤255:=by
 cases hD with
 | uni _ c=>exact ⟨by simp [Tr.cells],fun x hx=>by simp [Tr.cells] at hx;rw [hx];exact h⟩
 | brick l=>exact h
theorem zD7 {c:Int} (hc:0≤c∧c≤255) (p:Pt) : ∀ (n:Nat) (t:Tr),n≤200→Tr.WF t→Dep n t→Tr.WF (Tr.setT n t p c)∧Dep n (Tr.setT n t p c)
 | 0, t, _, h, hD => by
   obtain ⟨h1,h2⟩:=zKQ h hD;unfold Tr.setT;refine ⟨zD9 (by simp [h1]) fun x hx=>?_,zDi _⟩
   rcases List.mem_or_eq_of_mem_set hx with hx | rfl
   · exact h2 x hx
   · exact hc
 | n + 1, t, hn, h, hD => by
   unfold Tr.setT
   have key : ∀ i:Fin 8,Tr.WF (if i=Tr.oct n p then Tr.setT n (t.kid i) p c else t.kid i)∧Dep n (if i=Tr.oct n p then Tr.setT n (t.kid i) p c else t.kid i):=by
    intro i;split
    · exact zD7 hc p n _ (by omega) (zCr h i) (hD.kid i)
    · exact ⟨zCr h i,hD.kid i⟩
   exact ⟨zD8 (by omega) fun i=>(key i).1,zDh fun i=>(key i).2⟩
theorem zAV : ∀ (t:Tr) {ts:List Tr},Good ts→Tr.WF t→Good (Tr.add t ts):=by
 intro t
 induction t with
 | uni c=>intro ts hG h;rw [Tr.add_uni];exact hG.ins (fun d ch e=>by cases e) (WF.bytes h)
 | brick l=>intro ts hG h;rw [Tr.add_brick];exact hG.ins (fun d ch e=>by cases e) (WF.bytes h)
 | node d ch ih =>
   intro ts hG h;rw [Tr.node_add hG.closed];have hk:=Tr.addK_ind (P:=Good) (fun i a ha=>ih i ha (h.2 i)) 8 (Nat.le_refl _) ts hG;refine hk.ins (fun d' ch' e i=>?_) (WF.bytes h);injection e with e1 e2;subst e2;exact Tr.addK_mem _ ts 8 (Nat.le_refl _) i i.isLt
theorem zA8 {ch:Fin 8→Tr} {ts:List Tr} (hG:Good ts) (h : ∀ i,Tr.WF (ch i)) (k:Nat) (hk:k≤8):Good (Tr.addK ch k ts):=Tr.addK_ind (P:=Good) (fun i _a ha=>zAV _ ha (h i)) k hk ts hG
def Between (ts ts':List Tr):Prop := ∀ vs,ts <+: vs→vs <+: ts'→Good vs
theorem Between.same {ts:List Tr} (hG:Good ts):Between ts ts:=fun vs h1 h2=>by
 have:=h1.eq_of_length_le h2.length_le;exact this ▸ hG
theorem Between.trans {a b c:List Tr} (h:Between a b) (h':Between b c) (hbc:b <+: c):Between a c:=fun vs h1 h2=>by
 rcases List.prefix_or_prefix_of_prefix h2 hbc with h3 | h3
 · exact h vs h1 h3
 · exact h' vs h3 h2
theorem Between.left {a b c:List Tr} (h:Between a c) (hbc:b <+: c):Between a b:=fun vs h1 h2=>h vs h1 (h2.trans hbc)
theorem zB3 {ts:List Tr} {t:Tr} (hG:Good ts) (h2:Good (Tr.ins t ts)):Between ts (Tr.ins t ts):=fun vs h1 h3=>by
 by_cases ht:t∈ts
 · rw [Tr.ins_of_mem ht] at h3;exact (h1.eq_of_length_le h3.length_le) ▸ hG
 · rw [Tr.ins_of_not ht] at h3 h2;by_cases hl:vs.length≤ts.length
   · exact (h1.eq_of_length_le hl) ▸ hG
   · have:=h3.eq_of_length_le (by simp;omega)
     exact this ▸ h2
theorem zBN : ∀ (t:Tr) {ts:List Tr},Good ts→Tr.WF t→Between ts (Tr.add t ts):=by
 intro t
 induction t with
 | uni c=>intro ts hG h;have h2:=zAV _ hG h;rw [Tr.add_uni] at h2 ⊢; exact zB3 hG h2
 | brick l=>intro ts hG h;have h2:=zAV _ hG h;rw [Tr.add_brick] at h2 ⊢; exact zB3 hG h2
 | node d ch ih =>
   intro ts hG h;have h2:=zAV _ hG h;rw [Tr.node_add hG.closed] at h2 ⊢;have key:=Tr.addK_ind (P:=fun a=>ts <+: a∧Good a∧Between ts a) (fun i a ha=>⟨ha.1.trans (Tr.add_prefix _ _),zAV _ ha.2.1 (h.2 i),ha.2.2.trans (ih i ha.2.1 (h.2 i)) (Tr.add_prefix _ _)⟩) 8 (Nat.le_refl _) ts ⟨List.prefix_refl _,hG,Between.same hG⟩;exact key.2.2.trans (zB3 key.2.1 h2) (Tr.ins_prefix _ _)
theorem zGZ (t:Tr) (ts:List Tr):(Tr.ins t ts).length≤ts.length+1:=by
 by_cases h:t∈ts
 · rw [Tr.ins_of_mem h];omega
 · rw [Tr.ins_of_not h];simp
theorem zGu : ∀ (t:Tr) (ts:List Tr),(Tr.add t ts).length≤ts.length+Tr.sz t:=by
 intro t
 induction t with
 | uni c=>intro ts;rw [Tr.add_uni];exact zGZ _ _
 | brick l=>intro ts;rw [Tr.add_brick];exact zGZ _ _
 | node d ch ih =>
   intro ts
   have key : ∀ k,k≤8→(Tr.addK ch k ts).length≤ts.length+((List.ofFn fun i=>Tr.sz (ch i)).take k).sum:=by
    intro k
    induction k with
    | zero=>intro _;rw [Tr.addK_zero];simp
    | succ k ihk =>
      intro hk;rw [Tr.addK_succ ch (by omega)]
      have h1:=ih ⟨k,by omega⟩ (Tr.addK ch k ts)
      have h2:=ihk (by omega)
      rw [List.take_succ_eq_append_getElem (by simpa using (show k<8 by omega)),List.sum_append]
      simp only [List.getElem_ofFn,List.sum_cons,List.sum_nil];omega
   have h8:=key 8 (Nat.le_refl _);rw [List.take_of_length_le (by simp)] at h8
   rw [Tr.add_node];split
   · simp only [Tr.sz];omega
   · simp only [Tr.sz,List.length_append,List.length_singleton];omega
theorem zEC (l:List Int):Tr.sz (Tr.mkBrick l)=1:=by unfold Tr.mkBrick;split <;> rfl
theorem sum8 {g:Fin 8→Nat} {m:Nat} (h : ∀ i,g i≤m):(List.ofFn g).sum≤8 * m:=by
 have h0:=h 0;have h1:=h 1;have h2:=h 2;have h3:=h 3;have h4:=h 4;have h5:=h 5;have h6:=h 6;have h7:=h 7;simp only [List.ofFn_succ,List.ofFn_zero,List.sum_cons,List.sum_nil];simp only [Fin.reduceSucc,Fin.isValue] at *;omega
theorem zHl {d:Nat} {ch:Fin 8→Tr} {m:Nat} (h : ∀ i,Tr.sz (ch i)≤m):Tr.sz (Tr.mkInner d ch)≤1+8 * m:=by
 unfold Tr.mkInner;split
 · have:=h 0;omega
 · simp only [Tr.sz];have:=sum8 h;omega
def zLh:Nat→Nat
 | 0=>1
 | n+1=>1+8 * zLh n
theorem zI6 (f:Pt→Int) : ∀ (n:Nat) (a:Pt),Tr.sz (Tr.can f n a)≤zLh n
 | 0,a=>by unfold Tr.can;rw [zEC];exact Nat.le_refl _
 | n+1,a=>by unfold Tr.can;exact zHl fun i=>zI6 f n _
theorem zNi {n:Nat} (hn:n≤12):zLh n≤80000000000:=by
 have key : ∀ m,m≤n→zLh m≤zLh n:=by
  intro m h
  induction n with
  | zero=>rw [show m=0 by omega];exact Nat.le_refl _
  | succ n ih =>
    by_cases e:m=n+1
    · rw [e];exact Nat.le_refl _
    · have:=ih (by omega) (by omega)
      show _≤1+8 * zLh n
      omega
 have mono : ∀ a b,a≤b→zLh a≤zLh b:=by
  intro a b h
  induction b with
  | zero=>rw [show a=0 by omega];exact Nat.le_refl _
  | succ b ih =>
    by_cases e:a=b+1
    · rw [e];exact Nat.le_refl _
    · have:=ih (by omega)
      show _≤1+8 * zLh b
      omega
 exact Nat.le_trans (mono n 12 hn) (by decide)
theorem zOK {f:Pt→Int} {n:Nat} (hn:n≤12) (a:Pt) (ts:List Tr):(Tr.add (Tr.can f n a) ts).length≤ts.length+80000000000 :=
 Nat.le_trans (zGu _ _) (Nat.add_le_add_left (Nat.le_trans (zI6 f n a) (zNi hn)) _)
theorem zJy {d:Nat} {ch:Fin 8→Tr} {ts:List Tr} (hG:Good ts):(Tr.add (Tr.mkInner d ch) ts).length≤(Tr.addK ch 8 ts).length+1:=by
 rw [Tr.inner_add hG.closed];split
 · omega
 · exact zGZ _ _
theorem zBM : ∀ (n:Nat) (a:Pt) (f:Pt→Int),Tr.Al n a→(∀ p,Tr.InC n a p→f p=0)→Tr.can f n a = .uni 0
 | 0, a, f, ha, h => by
   unfold Tr.can Tr.mkBrick
   have key : ∀ x∈(List.range 64).map fun k=>f (Tr.cellAt a k),x=0:=by
    intro x hx;obtain ⟨k,hk,rfl⟩:=List.mem_map.1 hx;exact h _ (Tr.inC_cell ha (List.mem_range.1 hk) rfl).1
   have h0:((List.range 64).map fun k=>f (Tr.cellAt a k)).headD 0=0:=by
    rw [show List.range 64=0::(List.range 63).map Nat.succ from List.range_succ_eq_map];simp only [List.map_cons,List.headD_cons];exact key _ (List.mem_map.2 ⟨0,by simp,rfl⟩)
   rw [h0,if_pos key]
 | n + 1, a, f, ha, h => by
   have key : ∀ i:Fin 8,Tr.can f n (Tr.cor a n i.val) = .uni 0:=fun i=>zBM n _ f (Tr.al_cor ha _) fun p hp=>h p (Tr.inC_other ha hp).2;unfold Tr.can Tr.mkInner;rw [if_pos ⟨⟨0,key 0⟩,fun i=>(key i).trans (key 0).symm⟩];exact key 0
theorem zBJ {d:Nat} {ch:Fin 8→Tr} {ts:List Tr} (hG:Good ts) (h : ∀ i,Tr.WF (ch i)):Tr.add (Tr.mkInner d ch) (Tr.addK ch 8 ts)=Tr.add (Tr.mkInner d ch) ts:=by
 have hG8:=zA8 hG h 8 (Nat.le_refl _);have hm : ∀ i,ch i∈Tr.addK ch 8 ts:=fun i=>Tr.addK_mem ch ts 8 (Nat.le_refl _) i i.isLt;rw [Tr.inner_add hG8.closed,Tr.inner_add hG.closed,zDu hm]
theorem zA4 {ch:Fin 8→Tr} {ts:List Tr} {k m:Nat} (hkm:k≤m) (hm:m≤8):Tr.addK ch k ts <+: Tr.addK ch m ts:=by
 induction m with
 | zero=>rw [show k=0 by omega];exact List.prefix_refl _
 | succ m ih =>
   by_cases e:k=m+1
   · rw [e];exact List.prefix_refl _
   · rw [Tr.addK_succ ch (by omega)]
     exact (ih (by omega) (by omega)).trans (Tr.add_prefix _ _)
theorem zAU {d:Nat} {ch:Fin 8→Tr} {ts:List Tr} (hG:Good ts):Tr.addK ch 8 ts <+: Tr.add (Tr.mkInner d ch) ts:=by
 rw [Tr.inner_add hG.closed];split
 · exact List.prefix_refl _
 · exact Tr.ins_prefix _ _
end
section
open Go.RowKit Go.Sort
def zAA (b:Box) (l:List Int):Bool:=okB b && (!zG b || decide (b=Box.zero)) && decide (zU b≤2097152) && decide (zU b=l.length) && l.all Pal.cell
def zJk (b:Box) (c:Int):Int:=if okB b=false∨Pal.cell c=false then 1 else if 2097152<zU b then 2 else 0
theorem zFC (a b c d e f:Int) (sa:Option Addr) (cap:Nat) (xs:List Int) (w:World) (hl:xs.length≤1000000000) (h:Sl w .i64 sa xs) :
 Calls Tryz.prog 86 #[.agg #[a,b,c,d,e,f,.slice sa xs.length cap]] w fun e' w'=>e' = .returned (.bool (zAA ⟨⟨a,b,c⟩,⟨d,e,f⟩⟩ xs))∧Below w.heap.size w w':=by
 have hV:=Bx.mk (show zAA ⟨⟨a,b,c⟩,⟨d,e,f⟩⟩ xs=(okB ⟨⟨a,b,c⟩,⟨d,e,f⟩⟩ && (!zG ⟨⟨a,b,c⟩,⟨d,e,f⟩⟩ || decide (⟨⟨a,b,c⟩,⟨d,e,f⟩⟩=Box.zero)) && decide (zU ⟨⟨a,b,c⟩,⟨d,e,f⟩⟩≤2097152) && decide (zU ⟨⟨a,b,c⟩,⟨d,e,f⟩⟩=xs.length) && xs.all Pal.cell) from rfl);have hr:=Bx.mk fun W=>zEG a b c d e f W;have he:=Bx.mk fun W=>zj a b c d e f W;have hq:=fun W=>zJl a b c d e f 0 0 0 0 0 0 W;have hcon:=Bx.mk fun W h=>zIf sa cap xs W hl h;have hvol:Bx (okB ⟨⟨a,b,c⟩,⟨d,e,f⟩⟩=true → ∀ W,Calls Tryz.prog 134 #[.agg #[a,b,c,d,e,f]] W fun e' w'=>e' = .returned (.int .i64 (zU ⟨⟨a,b,c⟩,⟨d,e,f⟩⟩))∧Below W.heap.size W w'):=⟨fun h W=>zCW a b c d e f (zAS h) W⟩;generalize hn:xs.length=n at *;clear hn;rw [show decide (⟨⟨a,b,c⟩,⟨d,e,f⟩⟩=Box.zero)=decide ((⟨⟨a,b,c⟩,⟨d,e,f⟩⟩:Box)=⟨⟨0,0,0⟩,⟨0,0,0⟩⟩) from rfl] at hV;generalize okB ⟨⟨a,b,c⟩,⟨d,e,f⟩⟩=r1 at *;generalize zG ⟨⟨a,b,c⟩,⟨d,e,f⟩⟩=r2 at *;generalize decide ((⟨⟨a,b,c⟩,⟨d,e,f⟩⟩:Box)=⟨⟨0,0,0⟩,⟨0,0,0⟩⟩)=r3 at *;generalize zU ⟨⟨a,b,c⟩,⟨d,e,f⟩⟩=v at *;generalize xs.all Pal.cell=r4 at *;cases r1 with
 | false =>
   clear hvol;go_enter Tryz.func86,Tryz.ntmps86;go_wp2_with fail;generalize hW:World.alloc w _=W;have hSz:=sz1 hW;have hB:=bl1 hW;have kg:Bk W (w.heap.size) #[a,b,c,d,e,f,.slice sa n cap] 28:=bk0 hW;clear hW;refine (hr.out _).mono ?_;rintro e' w1 ⟨rfl,hb⟩;replace hB:=hB.trans (hb.mono hB.size);replace kg:=kg.later hb;replace hSz:=Nat.le_trans hSz hb.size;clear hb;obtain ⟨cg0,cg1,cg2,cg3,cg4,cg5,cg6⟩:=kg.c7;go_wp2_with fail;go_ret;exact ⟨zK (by rw [hV.out];simp [*]),hB⟩
 | true =>
   replace hvol:=Bx.mk (hvol.out rfl);cases r2 with
   | false =>
     by_cases h1:2097152<v
     · have h1':decide (v≤2097152)=false:=by simp;omega
       go_enter Tryz.func86,Tryz.ntmps86;go_wp2_with fail;generalize hW:World.alloc w _=W;have hSz:=sz1 hW;have hB:=bl1 hW;have kg:Bk W (w.heap.size) #[a,b,c,d,e,f,.slice sa n cap] 28:=bk0 hW;clear hW;refine (hr.out _).mono ?_;rintro e' w1 ⟨rfl,hb⟩;replace hB:=hB.trans (hb.mono hB.size);replace kg:=kg.later hb;replace hSz:=Nat.le_trans hSz hb.size;clear hb;obtain ⟨cg0,cg1,cg2,cg3,cg4,cg5,cg6⟩:=kg.c7;go_wp2_with fail;refine (he.out _).mono ?_;rintro e' w2 ⟨rfl,hb⟩;clear cg0 cg1 cg2 cg3 cg4 cg5 cg6;replace hB:=hB.trans (hb.mono hB.size);replace kg:=kg.later hb;replace hSz:=Nat.le_trans hSz hb.size;clear hb;obtain ⟨cg0,cg1,cg2,cg3,cg4,cg5,cg6⟩:=kg.c7;go_wp2_with fail;refine (hvol.out _).mono ?_;rintro e' w3 ⟨rfl,hb⟩;clear cg0 cg1 cg2 cg3 cg4 cg5 cg6;replace hB:=hB.trans (hb.mono hB.size);replace kg:=kg.later hb;replace hSz:=Nat.le_trans hSz hb.size;clear hb;obtain ⟨cg0,cg1,cg2,cg3,cg4,cg5,cg6⟩:=kg.c7;go_wp2_with fail;go_ret;exact ⟨zK (by rw [hV.out];simp [*]),hB⟩
     · have h1':decide (v≤2097152)=true:=by simp;omega
       by_cases h2:v=(n:Int)
       · have h2':(v == (n:Int))=true:=by simp [h2]
         have h2d:Bx (decide (v=(n:Int))=true):=⟨by simp [h2]⟩
         clear h2;cases r4
         all_goals
          go_enter Tryz.func86,Tryz.ntmps86;go_wp2_with fail;generalize hW:World.alloc w _=W;have hSz:=sz1 hW;have hB:=bl1 hW;have kg:Bk W (w.heap.size) #[a,b,c,d,e,f,.slice sa n cap] 28:=bk0 hW;clear hW;refine (hr.out _).mono ?_;rintro e' w1 ⟨rfl,hb⟩;replace hB:=hB.trans (hb.mono hB.size);replace kg:=kg.later hb;replace hSz:=Nat.le_trans hSz hb.size;clear hb;obtain ⟨cg0,cg1,cg2,cg3,cg4,cg5,cg6⟩:=kg.c7;go_wp2_with fail;refine (he.out _).mono ?_;rintro e' w2 ⟨rfl,hb⟩;clear cg0 cg1 cg2 cg3 cg4 cg5 cg6;replace hB:=hB.trans (hb.mono hB.size);replace kg:=kg.later hb;replace hSz:=Nat.le_trans hSz hb.size;clear hb;obtain ⟨cg0,cg1,cg2,cg3,cg4,cg5,cg6⟩:=kg.c7;go_wp2_with fail;refine (hvol.out _).mono ?_;rintro e' w3 ⟨rfl,hb⟩;clear cg0 cg1 cg2 cg3 cg4 cg5 cg6;replace hB:=hB.trans (hb.mono hB.size);replace kg:=kg.later hb;replace hSz:=Nat.le_trans hSz hb.size;clear hb;obtain ⟨cg0,cg1,cg2,cg3,cg4,cg5,cg6⟩:=kg.c7;go_wp2_with fail;refine (hcon.out _ (h.below hB)).mono ?_;rintro e' w4 ⟨rfl,rfl⟩;go_wp2_with fail;go_ret;exact ⟨zK (by rw [hV.out,h2d.out];simp [h1']),hB⟩
       · have h2':(v == (n:Int))=false:=by simp [h2]
         have h2d:Bx (decide (v=(n:Int))=false):=⟨by simp [h2]⟩
         clear h2;go_enter Tryz.func86,Tryz.ntmps86;go_wp2_with fail;generalize hW:World.alloc w _=W;have hSz:=sz1 hW;have hB:=bl1 hW;have kg:Bk W (w.heap.size) #[a,b,c,d,e,f,.slice sa n cap] 28:=bk0 hW;clear hW;refine (hr.out _).mono ?_;rintro e' w1 ⟨rfl,hb⟩;replace hB:=hB.trans (hb.mono hB.size);replace kg:=kg.later hb;replace hSz:=Nat.le_trans hSz hb.size;clear hb;obtain ⟨cg0,cg1,cg2,cg3,cg4,cg5,cg6⟩:=kg.c7;go_wp2_with fail;refine (he.out _).mono ?_;rintro e' w2 ⟨rfl,hb⟩;clear cg0 cg1 cg2 cg3 cg4 cg5 cg6;replace hB:=hB.trans (hb.mono hB.size);replace kg:=kg.later hb;replace hSz:=Nat.le_trans hSz hb.size;clear hb;obtain ⟨cg0,cg1,cg2,cg3,cg4,cg5,cg6⟩:=kg.c7;go_wp2_with fail;refine (hvol.out _).mono ?_;rintro e' w3 ⟨rfl,hb⟩;clear cg0 cg1 cg2 cg3 cg4 cg5 cg6;replace hB:=hB.trans (hb.mono hB.size);replace kg:=kg.later hb;replace hSz:=Nat.le_trans hSz hb.size;clear hb;obtain ⟨cg0,cg1,cg2,cg3,cg4,cg5,cg6⟩:=kg.c7;go_wp2_with fail;go_ret;exact ⟨zK (by rw [hV.out,h2d.out];simp),hB⟩
   | true =>
     cases r3 with
     | false =>
       go_enter Tryz.func86,Tryz.ntmps86;go_wp2_with fail;generalize hW:World.alloc w _=W;have hSz:=sz1 hW;have hB:=bl1 hW;have kg:Bk W (w.heap.size) #[a,b,c,d,e,f,.slice sa n cap] 28:=bk0 hW;clear hW;refine (hr.out _).mono ?_;rintro e' w1 ⟨rfl,hb⟩;replace hB:=hB.trans (hb.mono hB.size);replace kg:=kg.later hb;replace hSz:=Nat.le_trans hSz hb.size;clear hb;obtain ⟨cg0,cg1,cg2,cg3,cg4,cg5,cg6⟩:=kg.c7;go_wp2_with fail;refine (he.out _).mono ?_;rintro e' w2 ⟨rfl,hb⟩;clear cg0 cg1 cg2 cg3 cg4 cg5 cg6;replace hB:=hB.trans (hb.mono hB.size);replace kg:=kg.later hb;replace hSz:=Nat.le_trans hSz hb.size;clear hb;obtain ⟨cg0,cg1,cg2,cg3,cg4,cg5,cg6⟩:=kg.c7;go_wp2_with fail;go_ret;exact ⟨zK (by rw [hV.out];simp [*]),hB⟩
     | true =>
       by_cases h1:2097152<v
       · have h1':decide (v≤2097152)=false:=by simp;omega
         go_enter Tryz.func86,Tryz.ntmps86;go_wp2_with fail;generalize hW:World.alloc w _=W;have hSz:=sz1 hW;have hB:=bl1 hW;have kg:Bk W (w.heap.size) #[a,b,c,d,e,f,.slice sa n cap] 28:=bk0 hW;clear hW;refine (hr.out _).mono ?_;rintro e' w1 ⟨rfl,hb⟩;replace hB:=hB.trans (hb.mono hB.size);replace kg:=kg.later hb;replace hSz:=Nat.le_trans hSz hb.size;clear hb;obtain ⟨cg0,cg1,cg2,cg3,cg4,cg5,cg6⟩:=kg.c7;go_wp2_with fail;refine (he.out _).mono ?_;rintro e' w2 ⟨rfl,hb⟩;clear cg0 cg1 cg2 cg3 cg4 cg5 cg6;replace hB:=hB.trans (hb.mono hB.size);replace kg:=kg.later hb;replace hSz:=Nat.le_trans hSz hb.size;clear hb;obtain ⟨cg0,cg1,cg2,cg3,cg4,cg5,cg6⟩:=kg.c7;go_wp2_with fail;refine (hvol.out _).mono ?_;rintro e' w3 ⟨rfl,hb⟩;clear cg0 cg1 cg2 cg3 cg4 cg5 cg6;replace hB:=hB.trans (hb.mono hB.size);replace kg:=kg.later hb;replace hSz:=Nat.le_trans hSz hb.size;clear hb;obtain ⟨cg0,cg1,cg2,cg3,cg4,cg5,cg6⟩:=kg.c7;go_wp2_with fail;go_ret;exact ⟨zK (by rw [hV.out];simp [*]),hB⟩
       · have h1':decide (v≤2097152)=true:=by simp;omega
         by_cases h2:v=(n:Int)
         · have h2':(v == (n:Int))=true:=by simp [h2]
           have h2d:Bx (decide (v=(n:Int))=true):=⟨by simp [h2]⟩
           clear h2;cases r4
           all_goals
            go_enter Tryz.func86,Tryz.ntmps86;go_wp2_with fail;generalize hW:World.alloc w _=W;have hSz:=sz1 hW;have hB:=bl1 hW;have kg:Bk W (w.heap.size) #[a,b,c,d,e,f,.slice sa n cap] 28:=bk0 hW;clear hW;refine (hr.out _).mono ?_;rintro e' w1 ⟨rfl,hb⟩;replace hB:=hB.trans (hb.mono hB.size);replace kg:=kg.later hb;replace hSz:=Nat.le_trans hSz hb.size;clear hb;obtain ⟨cg0,cg1,cg2,cg3,cg4,cg5,cg6⟩:=kg.c7;go_wp2_with fail;refine (he.out _).mono ?_;rintro e' w2 ⟨rfl,hb⟩;clear cg0 cg1 cg2 cg3 cg4 cg5 cg6;replace hB:=hB.trans (hb.mono hB.size);replace kg:=kg.later hb;replace hSz:=Nat.le_trans hSz hb.size;clear hb;obtain ⟨cg0,cg1,cg2,cg3,cg4,cg5,cg6⟩:=kg.c7;go_wp2_with fail;refine (hvol.out _).mono ?_;rintro e' w3 ⟨rfl,hb⟩;clear cg0 cg1 cg2 cg3 cg4 cg5 cg6;replace hB:=hB.trans (hb.mono hB.size);replace kg:=kg.later hb;replace hSz:=Nat.le_trans hSz hb.size;clear hb;obtain ⟨cg0,cg1,cg2,cg3,cg4,cg5,cg6⟩:=kg.c7;go_wp2_with fail;refine (hcon.out _ (h.below hB)).mono ?_;rintro e' w4 ⟨rfl,rfl⟩;go_wp2_with fail;go_ret;exact ⟨zK (by rw [hV.out,h2d.out];simp [h1']),hB⟩
         · have h2':(v == (n:Int))=false:=by simp [h2]
           have h2d:Bx (decide (v=(n:Int))=false):=⟨by simp [h2]⟩
           clear h2;go_enter Tryz.func86,Tryz.ntmps86;go_wp2_with fail;generalize hW:World.alloc w _=W;have hSz:=sz1 hW;have hB:=bl1 hW;have kg:Bk W (w.heap.size) #[a,b,c,d,e,f,.slice sa n cap] 28:=bk0 hW;clear hW;refine (hr.out _).mono ?_;rintro e' w1 ⟨rfl,hb⟩;replace hB:=hB.trans (hb.mono hB.size);replace kg:=kg.later hb;replace hSz:=Nat.le_trans hSz hb.size;clear hb;obtain ⟨cg0,cg1,cg2,cg3,cg4,cg5,cg6⟩:=kg.c7;go_wp2_with fail;refine (he.out _).mono ?_;rintro e' w2 ⟨rfl,hb⟩;clear cg0 cg1 cg2 cg3 cg4 cg5 cg6;replace hB:=hB.trans (hb.mono hB.size);replace kg:=kg.later hb;replace hSz:=Nat.le_trans hSz hb.size;clear hb;obtain ⟨cg0,cg1,cg2,cg3,cg4,cg5,cg6⟩:=kg.c7;go_wp2_with fail;refine (hvol.out _).mono ?_;rintro e' w3 ⟨rfl,hb⟩;clear cg0 cg1 cg2 cg3 cg4 cg5 cg6;replace hB:=hB.trans (hb.mono hB.size);replace kg:=kg.later hb;replace hSz:=Nat.le_trans hSz hb.size;clear hb;obtain ⟨cg0,cg1,cg2,cg3,cg4,cg5,cg6⟩:=kg.c7;go_wp2_with fail;go_ret;exact ⟨zK (by rw [hV.out,h2d.out];simp),hB⟩
theorem zJm (n:Nat) (hn:n≤4194304) (w:World) :
 Calls Tryz.prog 141 #[.int .u64 1,.int .u64 (n:Int)] w fun e w'=>e = .returned (.tuple #[.int .u64 0,.int .u64 (n:Int)])∧w=w':=by
 have b1:bits .and .u64 1 4294967295=1:=by decide
 have b0:bits .and .u64 0 4294967295=0:=by decide
 have bn:bits .and .u64 (n:Int) 4294967295=(n:Int):=by
  have h:=u64_and_nat n 4294967295 (by omega) (by decide)
  have h2:n &&& 4294967295=n:=by
   have:=Nat.and_two_pow_sub_one_eq_mod n 32;rw [show 2 ^ 32 - 1=4294967295 by decide] at this
   rw [this];exact Nat.mod_eq_of_lt (by omega)
  rw [h2] at h;exact h
 have d1:(n:Int) / 4294967296=0:=by omega
 have k1:(0:Int)≤(n:Int):=by omega
 have k2:(n:Int)≤4194304:=by omega
 go_enter Tryz.func141,Tryz.ntmps141;go_wp2_with fail
 go_ret2
 exact ⟨rfl,rfl⟩
theorem zLf (n:Nat) (hn:n≤4194304) (w:World) :
 Calls Tryz.prog 100 #[.int .u64 1,.int .u64 (n:Int)] w fun e w'=>e = .returned (.tuple #[.int .u64 0,.int .u64 (n:Int)])∧w=w':=by
 have hm:=Bx.mk (zJm n hn);go_enter Tryz.func100,Tryz.ntmps100;go_wp2_with fail;refine (hm.out _).mono ?_;rintro e w1 ⟨rfl,rfl⟩;go_wp2_with fail
 go_ret2
 exact ⟨rfl,rfl⟩
def rep (c:Int) (k n:Nat):List Value:=List.replicate k (.int .i64 c)++List.replicate (n - k) (.int .i64 0)
theorem zEF (c:Int) {k n:Nat} (h:k≤n):(rep c k n).length=n:=by simp [rep];omega
theorem zLL (c:Int) (n:Nat):madeCells #[(0:Int)] n=(rep c 0 n).toArray:=by
 apply Array.ext';simp only [madeCells,rep,List.replicate_zero,List.nil_append,Nat.sub_zero];apply List.ext_getElem?;intro i;by_cases h:i<n
 · simp [h,Nat.mod_one]
 · simp [h]
theorem zED (c:Int) {k m n:Nat} (_h:k+m≤n):splice (rep c k n) k (List.replicate m (.int .i64 c))=rep c (k+m) n:=by
 unfold splice rep;have e1:(List.replicate k (Value.int .i64 c)++List.replicate (n - k) (Value.int .i64 0)).take k=List.replicate k (Value.int .i64 c):=by simp
 have e2:(List.replicate k (Value.int .i64 c)++List.replicate (n - k) (Value.int .i64 0)).drop (k+(List.replicate m (Value.int .i64 c)).length)=List.replicate (n - (k+m)) (Value.int .i64 0):=by
  rw [List.length_replicate,List.drop_append,List.drop_eq_nil_of_le (by simp),List.nil_append,List.drop_replicate]
  congr 1
  simp;omega
 rw [e1,e2,←List.append_assoc,List.replicate_append_replicate]
theorem zLN (c:Int) {k n i:Nat} (hi:i<k):(rep c k n)[i]? = some (.int .i64 c):=by
 simp [rep,List.getElem?_append,hi]
theorem zNR {w:World} {B g:Nat} {c:Int} {n:Nat} (h:Bk w g (rep c n n).toArray 3) (hB:B≤g) (hn:n≤maxLen):Own w B 3 .i64 (.slice (some ⟨g,0,none⟩) n n) (List.replicate n c):=by
 refine ⟨by simp,.inr ⟨g,n,(rep c n n).toArray,by simp,hB,h,by simp,hn,by simp [rep],by simp [rep]⟩⟩
theorem cp_src (w:World) (ad:Addr) (c:Int) (n:Nat) (hc:w.cell? ad=some (.int .i64 c)):0<[Value.int .i64 c].length→(some (⟨w.heap.size,0,none⟩:Addr))=some ⟨w.heap.size,0,none⟩ ∧ ∃ ad',some ad=some ad' ∧
 ∀ j v,[Value.int .i64 c][j]? = some v→(w.alloc (.cells (rep c 0 n).toArray 3)).cell? (ad'.add j)=some v :=
 fun _=>⟨rfl,ad,rfl,fun j v hj=>by
  cases j with
  | zero=>simp at hj;subst hj;simpa [Addr.add] using cell_later ((Below.refl _ _).alloc (Nat.le_refl _) _) hc
  | succ j=>simp at hj⟩
theorem zOA (w:World) (g:Nat) (c:Int) (k m n:Nat) (hm:m≤k) (kw:Bx (Bk w g (rep c k n).toArray 3)):0<(List.replicate m (Value.int .i64 c)).length→(some (⟨g,k,none⟩:Addr))=some ⟨g,k,none⟩ ∧ ∃ ad',(some (⟨g,0,none⟩:Addr))=some ad' ∧
 ∀ j v,(List.replicate m (Value.int .i64 c))[j]? = some v→w.cell? (ad'.add j)=some v :=
 fun _=>⟨rfl,⟨g,0,none⟩,rfl,fun j v hj=>by
  rw [List.getElem?_replicate] at hj;split at hj
  · rename_i h;have e:(⟨g,0,none⟩:Addr).add j=⟨g,j,none⟩:=by unfold Addr.add;split <;> simp_all
    rw [e,←hj];exact kw.out.cell j (by simpa using zLN c (by omega))
  · cases hj⟩
theorem cp_len (c:Int) (k m n:Nat) (h:m=min k (n - k)):(List.replicate m (Value.int .i64 c)).length=Nat.min k (n - k):=by rw [List.length_replicate,h]
theorem cp_fit (c:Int) (k m n:Nat) (h:k+m≤n):k+(List.replicate m (Value.int .i64 c)).length≤(rep c k n).length:=by rw [zEF c (by omega),List.length_replicate];exact h
theorem cp_one (c:Int) (m:Nat) : ∀ v∈List.replicate m (Value.int .i64 c),v.oneCell'=true:=by
 intro v hv;rw [(List.mem_replicate.1 hv).2];rfl
theorem zCd (ad:Addr) (cap:Nat) (c:Int) (n:Nat) (h1:1≤n) (hn:n≤4194304) (w:World) (hc:w.cell? ad=some (.int .i64 c)) :
 Calls Tryz.prog 47 #[.slice (some ad) 1 cap,(n:Int)] w fun e w' => ∃ v,e = .returned v∧Own w' w.heap.size 3 .i64 v (List.replicate n c)∧Below w.heap.size w w':=by
 have hm:=Bx.mk (zLf n hn);have k1:(1:Int)≤(n:Int):=by omega
 have k2:(n:Int)≤4194304:=by omega
 have hmk : ∀ W,(Instr.makeSlice 26 (.int .i64 (n:Int)) (.int .i64 (n:Int))).run Tryz.prog W = .ok (.slice (some ⟨W.heap.size,0,none⟩) n n) (W.alloc (.cells (rep c 0 n).toArray 3)) :=
  fun W=>by rw [←zLL];exact run_make_row' (P:=Tryz.prog) 26 3 (.int .i64 0) 8 Tryz.underlying26 (by kernel_rfl) rfl .i64 .i64 n (by omega) (by omega) W
 go_enter Tryz.func47,Tryz.ntmps47;go_wp2_with fail;refine (hm.out _).mono ?_;rintro e w1 ⟨rfl,rfl⟩;have hb0:Below w.heap.size w (w.alloc (.cells (rep c 0 n).toArray 3)):=(Below.refl _ _).alloc (Nat.le_refl _) _;have c1:=Bx.mk (show [Value.int .i64 c].length=Nat.min 1 n by show 1=min 1 n;omega)
 have c3:=Bx.mk (show 0+[Value.int .i64 c].length≤(rep c 0 n).length by rw [zEF c (by omega)];simp;omega)
 have c4:=Bx.mk (show ∀ v∈[Value.int .i64 c],v.oneCell'=true by simp [Value.oneCell'])
 go_wp2_with (refine wpList_copy_splice rfl (.tmp 31) (.tmp 32) 26 26 rfl 3 Tryz.underlying26 (by kernel_rfl) (some ⟨w.heap.size,0,none⟩) (some ad) n n 1 cap rfl rfl w.heap.size 0 (rep c 0 n) 3 (heap_alloc_new w _) [.int .i64 c] c1.out (cp_src w ad c n hc) c3.out c4.out w.heap.size w hb0 (Nat.le_refl _) ?_)
 clear c1 c3 c4 hb0;intro w1 hg1 hb1;have kg:Bx (Bk w1 w.heap.size (rep c 1 n).toArray 3):=⟨by have:=hg1.out;rw [show [Value.int .i64 c]=List.replicate 1 (.int .i64 c) from rfl,zED c (by omega)] at this;exact this⟩
 clear hg1 hmk hm;go_wp2_with fail
 go_loopw [8] (fun i wr => ∃ k:Nat,1≤k∧k≤n∧i = .int .i64 k∧Bk wr w.heap.size (rep c k n).toArray 3∧Below w.heap.size w wr) (fun i _=>n - (intOf i).toNat)
 case atStart=>exact ⟨1,by omega,h1,rfl,kg.out,hb1⟩
 case round =>
  obtain ⟨k,hk1,hk,rfl,kw,hB⟩:=hrel;clear kg hb1;have Kw:=Bx.mk kw;clear kw;have b1:(0:Int)≤(k:Int):=by omega
  have b2:(k:Int)≤(n:Int):=by omega
  by_cases hlt:k<n
  · have hlt':(k:Int)<(n:Int):=by omega
    have hne : ¬n=k:=by omega
    obtain ⟨m,hm⟩ : ∃ m,m=min k (n - k):=⟨_,rfl⟩;have hmk:m≤k∧k+m≤n∧1≤m:=by omega
    have hwr:IntKind.i64.wrap ((k:Int)+(m:Int))=(k:Int)+(m:Int):=IntWalk.i64_in _ (by omega)
    have Hm:=Bx.mk hm;clear hm;go_wp2_with fail
    go_region_law ((refine step_copy_splice rfl (.tmp 41) (.tmp 44) 26 26 rfl 3 Tryz.underlying26 (by kernel_rfl) (some ⟨w.heap.size,k,none⟩) (some ⟨w.heap.size,0,none⟩) (n - k) (n - k) k n (by simp [Act.eval,Act.put]) (by simp [Act.eval,Act.put]) w.heap.size k (rep c k n) 3 Kw.out (List.replicate m (.int .i64 c)) (cp_len c k m n Hm.out) (zOA wr.drew w.heap.size c k m n hmk.1 Kw) (cp_fit c k m n hmk.2.1) (cp_one c m) w.heap.size w hB.drew (Nat.le_refl _) ?_;intro w2 hg2 hb2))
    have kg:Bx (Bk w2 w.heap.size (rep c (k+m) n).toArray 3):=⟨by have:=hg2.out;rw [zED c (by omega)] at this;exact this⟩
    clear hg2 Kw;simp only [List.getElem_toArray,List.getElem_cons_succ,List.getElem_cons_zero,Act.put];go_wp2_with fail
    go_frame
    go_roundw
    case rel=>exact ⟨k+m,by omega,by omega,by go_num,kg.out,hb2⟩
    case measure=>simp [intOf];omega
  · obtain rfl:k=n:=by omega
    go_wp2_with fail;go_ret;refine ⟨_,rfl,zNR Kw.out (Nat.le_refl _) (by simp only [maxLen];omega),hB⟩
theorem zKN (a b c d e f m:Int) (w:World) :
 Calls Tryz.prog 154 #[.agg #[a,b,c,d,e,f],m] w fun e' w'=>e' = .returned (.int .i64 (zJk ⟨⟨a,b,c⟩,⟨d,e,f⟩⟩ m))∧Below w.heap.size w w':=by
 have hr:=Bx.mk fun W=>zEG a b c d e f W;have hm:=Bx.mk fun W=>zCz m W;have hvol:Bx (okB ⟨⟨a,b,c⟩,⟨d,e,f⟩⟩=true → ∀ W,Calls Tryz.prog 134 #[.agg #[a,b,c,d,e,f]] W fun e' w'=>e' = .returned (.int .i64 (zU ⟨⟨a,b,c⟩,⟨d,e,f⟩⟩))∧Below W.heap.size W w'):=⟨fun h W=>zCW a b c d e f (zAS h) W⟩;have hE:=Bx.mk (show zJk ⟨⟨a,b,c⟩,⟨d,e,f⟩⟩ m=if okB ⟨⟨a,b,c⟩,⟨d,e,f⟩⟩=false∨Pal.cell m=false then 1 else if 2097152<zU ⟨⟨a,b,c⟩,⟨d,e,f⟩⟩ then 2 else 0 from rfl);rw [←Pal.cell_eq] at hm;generalize okB ⟨⟨a,b,c⟩,⟨d,e,f⟩⟩=r1 at *;generalize zU ⟨⟨a,b,c⟩,⟨d,e,f⟩⟩=v at *;generalize Pal.cell m=r2 at *;generalize zJk ⟨⟨a,b,c⟩,⟨d,e,f⟩⟩ m=ee at *;cases r1 with
 | false =>
   clear hvol;go_enter Tryz.func154,Tryz.ntmps154;go_wp2_with fail;generalize hW:World.alloc w _=W;have hSz:=sz1 hW;have hB:=bl1 hW;have kb:Bk W (w.heap.size) #[a,b,c,d,e,f] 25:=bk0 hW;clear hW;refine (hr.out _).mono ?_;rintro e' w1 ⟨rfl,hb⟩;replace hB:=hB.trans (hb.mono hB.size);replace kb:=kb.later hb;replace hSz:=Nat.le_trans hSz hb.size;clear hb;obtain ⟨cb0,cb1,cb2,cb3,cb4,cb5⟩:=kb.c6;go_wp2_with fail;go_ret;exact ⟨zY (by rw [hE.out];simp),hB⟩
 | true =>
   replace hvol:=Bx.mk (hvol.out rfl);cases r2 with
   | false =>
     go_enter Tryz.func154,Tryz.ntmps154;go_wp2_with fail;generalize hW:World.alloc w _=W;have hSz:=sz1 hW;have hB:=bl1 hW;have kb:Bk W (w.heap.size) #[a,b,c,d,e,f] 25:=bk0 hW;clear hW;refine (hr.out _).mono ?_;rintro e' w1 ⟨rfl,hb⟩;replace hB:=hB.trans (hb.mono hB.size);replace kb:=kb.later hb;replace hSz:=Nat.le_trans hSz hb.size;clear hb;obtain ⟨cb0,cb1,cb2,cb3,cb4,cb5⟩:=kb.c6;go_wp2_with fail;refine (hm.out _).mono ?_;rintro e' w2 ⟨rfl,rfl⟩;go_wp2_with fail;go_ret;exact ⟨zY (by rw [hE.out];simp),hB⟩
   | true =>
     by_cases hv:2097152<v
     · have hE2:Bx (ee=2):=⟨by rw [hE.out];simp [hv]⟩
       go_enter Tryz.func154,Tryz.ntmps154;go_wp2_with fail;generalize hW:World.alloc w _=W;have hSz:=sz1 hW;have hB:=bl1 hW;have kb:Bk W (w.heap.size) #[a,b,c,d,e,f] 25:=bk0 hW;clear hW;refine (hr.out _).mono ?_;rintro e' w1 ⟨rfl,hb⟩;replace hB:=hB.trans (hb.mono hB.size);replace kb:=kb.later hb;replace hSz:=Nat.le_trans hSz hb.size;clear hb;obtain ⟨cb0,cb1,cb2,cb3,cb4,cb5⟩:=kb.c6;go_wp2_with fail;refine (hm.out _).mono ?_;rintro e' w2 ⟨rfl,rfl⟩;go_wp2_with fail;refine (hvol.out _).mono ?_;rintro e' w3 ⟨rfl,hb⟩;clear cb0 cb1 cb2 cb3 cb4 cb5;replace hB:=hB.trans (hb.mono hB.size);replace kb:=kb.later hb;replace hSz:=Nat.le_trans hSz hb.size;clear hb;go_wp2_with fail;go_ret;exact ⟨zY hE2.out.symm,hB⟩
     · have hE2:Bx (ee=0):=⟨by rw [hE.out];simp [hv]⟩
       go_enter Tryz.func154,Tryz.ntmps154;go_wp2_with fail;generalize hW:World.alloc w _=W;have hSz:=sz1 hW;have hB:=bl1 hW;have kb:Bk W (w.heap.size) #[a,b,c,d,e,f] 25:=bk0 hW;clear hW;refine (hr.out _).mono ?_;rintro e' w1 ⟨rfl,hb⟩;replace hB:=hB.trans (hb.mono hB.size);replace kb:=kb.later hb;replace hSz:=Nat.le_trans hSz hb.size;clear hb;obtain ⟨cb0,cb1,cb2,cb3,cb4,cb5⟩:=kb.c6;go_wp2_with fail;refine (hm.out _).mono ?_;rintro e' w2 ⟨rfl,rfl⟩;go_wp2_with fail;refine (hvol.out _).mono ?_;rintro e' w3 ⟨rfl,hb⟩;clear cb0 cb1 cb2 cb3 cb4 cb5;replace hB:=hB.trans (hb.mono hB.size);replace kb:=kb.later hb;replace hSz:=Nat.le_trans hSz hb.size;clear hb;go_wp2_with fail;go_ret;exact ⟨zY hE2.out.symm,hB⟩
def RetG (a b c d e f:Int) (xs:List Int) (er:Int) (w:World) (E:Ending) (w':World):Prop :=
 ∃ pa pc,E = .returned (.tuple #[.agg #[a,b,c,d,e,f,.slice pa xs.length pc],er])∧Own w' w.heap.size 3 .i64 (.slice pa xs.length pc) xs∧Below w.heap.size w w'
theorem zLe (a b c d e f m:Int) (h0:zJk ⟨⟨a,b,c⟩,⟨d,e,f⟩⟩ m=0) (hem:zG ⟨⟨a,b,c⟩,⟨d,e,f⟩⟩=false) (n:Nat) (hn:zU ⟨⟨a,b,c⟩,⟨d,e,f⟩⟩=(n:Int)) (w:World) :
 Calls Tryz.prog 123 #[.agg #[a,b,c,d,e,f],m] w (RetG a b c d e f (List.replicate n m) 0 w):=by
 have hc:=Bx.mk fun W=>zKN a b c d e f m W;have he:=Bx.mk fun W=>zj a b c d e f W
 have hok:okB ⟨⟨a,b,c⟩,⟨d,e,f⟩⟩=true∧zU ⟨⟨a,b,c⟩,⟨d,e,f⟩⟩≤2097152:=by
  unfold zJk at h0;split at h0
  · cases h0
  · rename_i h1;split at h0
    · cases h0
    · exact ⟨by cases h:okB ⟨⟨a,b,c⟩,⟨d,e,f⟩⟩ <;> simp_all,by omega⟩
 have hvol:=Bx.mk fun W=>zCW a b c d e f (zAS hok.1) W
 have hpos:1≤n:=by
  have h:=zB4 hem;omega
 have hle:n≤4194304:=by omega
 rw [hn] at hvol;rw [h0] at hc;rw [hem] at he;clear h0 hem hok hn;go_enter Tryz.func123,Tryz.ntmps123;go_wp2_with fail;generalize hW:World.alloc (World.alloc w _) _=W;have hSz:=sz2 hW;have hB:=bl2 hW;have kb:Bk W (w.heap.size) #[a,b,c,d,e,f] 25:=bk1 hW;have kg:Bk W (w.heap.size+1) #[(0:Int),(0:Int),(0:Int),(0:Int),(0:Int),(0:Int),.slice none 0 0] 28:=bk0 hW;clear hW;refine (hc.out _).mono ?_;rintro e' w1 ⟨rfl,hb⟩;replace hB:=hB.trans (hb.mono hB.size);replace kb:=kb.later hb;replace kg:=kg.later hb;replace hSz:=Nat.le_trans hSz hb.size;clear hb;obtain ⟨cb0,cb1,cb2,cb3,cb4,cb5⟩:=kb.c6;go_wp2_with fail;refine (he.out _).mono ?_;rintro e' w2 ⟨rfl,hb⟩;clear cb0 cb1 cb2 cb3 cb4 cb5;replace hB:=hB.trans (hb.mono hB.size);replace kb:=kb.later hb;replace kg:=kg.later hb;replace hSz:=Nat.le_trans hSz hb.size;clear hb;obtain ⟨cb0,cb1,cb2,cb3,cb4,cb5⟩:=kb.c6;go_wp2_with fail;have kB:=Bx.mk kb
 refine zAH 7 (fun i v w'=>match i with
  | 0=>v = .agg #[a,b,c,d,e,f]
  | 1=>v = .int .i64 m
  | 2 => ∃ g,v = .slice (some ⟨g,0,none⟩) 1 1∧w'.cell? ⟨g,0,none⟩=some (.int .i64 m)
  | 3=>v = .agg #[a,b,c,d,e,f]
  | 4=>v = .int .i64 (n:Int)
  | 5 => ∃ pa pc,v = .slice pa n pc∧Own w' w2.heap.size 3 .i64 (.slice pa n pc) (List.replicate n m)
  | _ => ∃ pa pc,v = .agg #[a,b,c,d,e,f,.slice pa n pc]∧Own w' w2.heap.size 3 .i64 (.slice pa n pc) (List.replicate n m)) (by kernel_rfl) (by kernel_rfl) 25 (by kernel_rfl) (by rfl) ?_ ?_ ?_
 · intro i hi v u1 u2 hb h
   match i,hi with
   | 0,_=>exact h
   | 1,_=>exact h
   | 2,_=>obtain ⟨g,h1,h2⟩:=h;exact ⟨g,h1,cell_later hb h2⟩
   | 3,_=>exact h
   | 4,_=>exact h
   | 5,_=>obtain ⟨pa,pc,h1,h2⟩:=h;exact ⟨pa,pc,h1,h2.below hb⟩
   | 6,_=>obtain ⟨pa,pc,h1,h2⟩:=h;exact ⟨pa,pc,h1,h2.below hb⟩
 · intro i o hi ho ρ w1 hb hc1 hc2 hc3 hk
   match i,hi with
   | 0, _ =>
     obtain rfl:=Option.some.inj ho;have h2:ρ (.tmp 2) = .pointer (some ⟨w.heap.size,0,none⟩):=hk 2 (by simp [Op.operands])
     have k1:=kB.out.later hb;obtain ⟨c0,c1,c2,c3,c4,c5⟩:=k1.c6;clear hk hb hvol hc he kg hB;go_simp;exact Below.refl _ _
   | 1, _ =>
     obtain rfl:=Option.some.inj ho;have h2:ρ (.tmp 1) = .int .i64 m:=hk 1 (by simp [Op.operands])
     clear hk hb hvol hc he kg hB;go_simp;exact Below.refl _ _
   | 2, _ =>
     obtain rfl:=Option.some.inj ho;have h2:ρ (.tmp 19) = .int .i64 m:=hk 19 (by simp [Op.operands])
     clear hk hb hvol hc he kg hB;go_simp;exact (Below.refl _ _).alloc (Nat.le_refl _) _
   | 3, _ =>
     obtain rfl:=Option.some.inj ho;have h2:ρ (.tmp 2) = .pointer (some ⟨w.heap.size,0,none⟩):=hk 2 (by simp [Op.operands])
     have k1:=kB.out.later hb;obtain ⟨c0,c1,c2,c3,c4,c5⟩:=k1.c6;clear hk hb hvol hc he kg hB;go_simp;exact Below.refl _ _
   | 4, _ =>
     obtain rfl:=Option.some.inj ho;have h2:ρ (.tmp 21) = .agg #[a,b,c,d,e,f]:=hk 21 (by simp [Op.operands,Call.operands])
     have H3:=Bx.mk (hvol.out w1);clear hk hb hvol hc he kg hB;go_simp;exact H3.out
   | 5, _ =>
     obtain rfl:=Option.some.inj ho;obtain ⟨g,h2,h2'⟩ : ∃ g,ρ (.tmp 20) = .slice (some ⟨g,0,none⟩) 1 1∧w1.cell? ⟨g,0,none⟩=some (.int .i64 m):=hk 20 (by simp [Op.operands,Call.operands])
     have h3:ρ (.tmp 22) = .int .i64 (n:Int):=hk 22 (by simp [Op.operands,Call.operands])
     have h4:=(zCd ⟨g,0,none⟩ 1 m n hpos hle w1 h2').mono (R':=fun e w'' => ∃ v,e = .returned v∧Below w1.heap.size w1 w'' ∧ ∃ pa pc,v = .slice pa n pc∧Own w'' w2.heap.size 3 .i64 (.slice pa n pc) (List.replicate n m)) (fun e w'' ⟨v,x,y,z⟩=>by
      obtain ⟨pa,pc,hv,_⟩:=y.form;rw [List.length_replicate] at hv;subst hv;exact ⟨_,x,z,pa,pc,rfl,y.base hb.size⟩)
     have H4:=Bx.mk h4;clear hk hb hvol hc he kg hB h4 h2';go_simp;exact H4.out
   | 6, _ =>
     obtain rfl:=Option.some.inj ho;have h2:ρ (.tmp 18) = .agg #[a,b,c,d,e,f]:=hk 18 (by simp [Op.operands])
     obtain ⟨pa,pc,h3,h4⟩ : ∃ pa pc,ρ (.tmp 23) = .slice pa n pc∧Own w1 w2.heap.size 3 .i64 (.slice pa n pc) (List.replicate n m):=hk 23 (by simp [Op.operands])
     have H4:=Bx.mk h4;clear hk hb hvol hc he kg hB h4;go_simp;exact ⟨Below.refl _ _,pa,pc,⟨rfl,rfl⟩,H4.out⟩
 · intro vs W1 hlen hb hR
   match vs,hlen with
   | [v0, v1, v2, v3, v4, v5, v6], _ =>
     have r0:v0 = .agg #[a,b,c,d,e,f]:=hR 0 v0 rfl;have r1:v1 = .int .i64 m:=hR 1 v1 rfl;obtain ⟨g2,r2,_⟩ : ∃ g,v2 = .slice (some ⟨g,0,none⟩) 1 1∧W1.cell? ⟨g,0,none⟩=some (.int .i64 m):=hR 2 v2 rfl;have r3:v3 = .agg #[a,b,c,d,e,f]:=hR 3 v3 rfl;have r4:v4 = .int .i64 (n:Int):=hR 4 v4 rfl;obtain ⟨p5,c5,r5,_⟩ : ∃ pa pc,v5 = .slice pa n pc∧Own W1 w2.heap.size 3 .i64 (.slice pa n pc) (List.replicate n m):=hR 5 v5 rfl;obtain ⟨pa,pc,r6,hown⟩ : ∃ pa pc,v6 = .agg #[a,b,c,d,e,f,.slice pa n pc]∧Own W1 w2.heap.size 3 .i64 (.slice pa n pc) (List.replicate n m):=hR 6 v6 rfl;subst r0 r1 r2 r3 r4 r5 r6;clear hR kb kB;have hBase:=hB.size;have kg1:=kg.later hb;have hB1:=hB.trans (hb.mono hB.size);have cg0:=kg1.cell 0 rfl;have fg0:=kg1.frozen 0;have cg1:=kg1.cell 1 rfl;have fg1:=kg1.frozen 1;have cg2:=kg1.cell 2 rfl;have fg2:=kg1.frozen 2;have cg3:=kg1.cell 3 rfl;have fg3:=kg1.frozen 3;have cg4:=kg1.cell 4 rfl;have fg4:=kg1.frozen 4;have cg5:=kg1.cell 5 rfl;have fg5:=kg1.frozen 5;have cg6:=kg1.cell 6 rfl;have fg6:=kg1.frozen 6;clear kg hb hB hvol hc he;have Hown:=Bx.mk hown;clear hown;simp only [zAk,List.take_succ_cons,List.take_zero,List.drop_succ_cons,List.drop_zero,List.map_cons,List.map_nil,List.zip_cons_cons,List.zip_nil_right,List.foldl_cons,List.foldl_nil];go_wp2_with fail;replace kg1:=kg1.put7 (.int .i64 a) (.int .i64 b) (.int .i64 c) (.int .i64 d) (.int .i64 e) (.int .i64 f) (.slice pa n pc);obtain ⟨z0,z1,z2,z3,z4,z5,z6⟩:=kg1.c7
     exact bodyPost_ret (v:=.tuple #[.agg #[a,b,c,d,e,f,.slice pa n pc],(0:Int)]) (by simp [results,Tryz.results123,go_sem,z0,z1,z2,z3,z4,z5,z6]) rfl ⟨pa,pc,by simp,by
      have:=Hown.out;simp only [List.length_replicate];exact (((((((this.setBelow (by simp;omega) _).setBelow (by simp;omega) _).setBelow (by simp;omega) _).setBelow (by simp;omega) _).setBelow (by simp;omega) _).setBelow (by simp;omega) _).setBelow (by simp;omega) _).base hBase,zKb hB1 (by omega) _ _ _ _ _ _ _⟩
end
end Go.Proofs.YtfcbajmjaifjlaaGreatDoor
