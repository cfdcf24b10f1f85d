/- Stl, Siz, Inr, Rst, Tw5: joined by program, for one claim. -/
import Derived.Test.YtfcbajmjaifjlaaGreatM11
import Derived.Test.YtfcbajmjaifjlaaGreatM26
import Derived.Test.YtfcbajmjaifjlaaGreatM2
import Derived.Test.YtfcbajmjaifjlaaGreatM20
set_option linter.unusedVariables false
set_option linter.unusedSimpArgs false
namespace Go.Proofs.YtfcbajmjaifjlaaGreat
section
open Go.RowKit
def Slv (w:World) (a:Option Addr) (vs:List Value):Prop := ∀ i v,vs[i]? = some v → ∃ b off,a=some ⟨b,off,none⟩∧w.cell? ⟨b,off+i,none⟩=some v
theorem Slv.nil (w:World) (a:Option Addr):Slv w a []:=fun i x h=>by simp at h
theorem Slv.below {w w':World} {a:Option Addr} {vs:List Value} (h:Slv w a vs) (hb:Below w.heap.size w w'):Slv w' a vs:=by
 intro i x hx
 obtain ⟨b,off,rfl,hc⟩:=h i x hx
 exact ⟨b,off,rfl,cell_later hb hc⟩
def Ownv (w:World) (B:Nat) (e:TypeId) (v:Value) (vs:List Value):Prop:=w.ownsRow B e 1 v vs.length vs
theorem Ownv.nil (w:World) (B:Nat) (e:TypeId):Ownv w B e (.slice none 0 0) []:=World.ownsRow_nil w B e 1
theorem Ownv.form {w:World} {B:Nat} {e:TypeId} {v:Value} {vs:List Value} (h:Ownv w B e v vs) : ∃ a cap,v = .slice a vs.length cap∧Slv w a vs:=by
 rcases h.2 with ⟨rfl,hn⟩ | ⟨g,cap,cur,rfl,hb,hg,hnc,hcm,hcs,ht⟩
 · have hx:vs=[]:=List.eq_nil_of_length_eq_zero hn
   subst hx
   exact ⟨none,0,rfl,Slv.nil _ _⟩
 · refine ⟨_,cap,rfl,fun i x hx=>⟨g,0,rfl,?_⟩⟩
   have hi:i<vs.length:=(List.getElem?_eq_some_iff.1 hx).1
   have hcell:w.cell? ⟨g,i,none⟩=cur[i]? := by simp [World.cell?,hg]
   rw [Nat.zero_add,hcell]
   rw [←ht,List.getElem?_take,if_pos (by omega)] at hx
   simpa using hx
theorem Slv.grown {w w':World} {g off:Nat} {vs:List Value} {row:Option Nat} (h:Slv w (some ⟨g,off,none⟩) vs) (hg:w.grownBy w' row) (hne:row ≠ some g):Slv w' (some ⟨g,off,none⟩) vs:=by
 intro i x hx
 obtain ⟨b,o,he,hc⟩:=h i x hx
 simp only [Option.some.injEq,Addr.mk.injEq,and_true] at he
 obtain ⟨rfl,rfl⟩:=he
 refine ⟨_,_,rfl,?_⟩
 have hlt:=World.block_lt_of_cell? w _ hc
 rw [World.cell?_of_block (hg.block _ hlt (fun e=>hne e.symm))];exact hc
theorem Ownv.sl {w:World} {B:Nat} {e:TypeId} {a:Option Addr} {n c:Nat} {vs:List Value} (h:Ownv w B e (.slice a n c) vs):Slv w a vs:=by
 obtain ⟨a',c',he,hs⟩:=h.form
 injection he with h1 h2 h3
 subst h1;exact hs
theorem Ownv.lt {w:World} {B:Nat} {e:TypeId} {v:Value} {vs:List Value} (h:Ownv w B e v vs) : ∀ g,v.ownBlock=some g→B≤g∧g<w.heap.size:=World.ownsRow.lt h
theorem Ownv.below {w w':World} {B:Nat} {e:TypeId} {v:Value} {vs:List Value} (h:Ownv w B e v vs) (hb:Below w.heap.size w w'):Ownv w' B e v vs :=
 World.ownsRow.kept (row:=none) h ⟨hb.os,hb.tape,hb.output,hb.size,fun i hi _=>hb.block i hi⟩ (by cases v.ownBlock <;> simp)
theorem Ownv.alloc {w:World} {B:Nat} {e:TypeId} {v:Value} {vs:List Value} (h:Ownv w B e v vs) (o:Obj):Ownv (w.alloc o) B e v vs:=World.ownsRow.alloc h o
theorem Ownv.base {w:World} {B B':Nat} {e:TypeId} {v:Value} {vs:List Value} (h:Ownv w B e v vs) (hB:B'≤B):Ownv w B' e v vs:=by
 refine ⟨h.1,h.2.imp id ?_⟩
 rintro ⟨g,cap,cur,h1,h2,h3⟩
 exact ⟨g,cap,cur,h1,Nat.le_trans hB h2,h3⟩
theorem Ownv.grown {w w':World} {B:Nat} {e:TypeId} {v:Value} {vs:List Value} (h:Ownv w B e v vs) {row:Option Nat} (hg:w.grownBy w' row) (hne:v.ownBlock=none∨v.ownBlock ≠ row):Ownv w' B e v vs:=World.ownsRow.kept h hg hne
def strs (ls:List (List Int)):List Value:=ls.map fun l=>.string (strOfNums l)
theorem strs_length (ls:List (List Int)):(strs ls).length=ls.length:=by unfold strs;rw [List.length_map]
theorem strs_at {ls:List (List Int)} {i:Nat} {l:List Int} (h:ls[i]? = some l):(strs ls)[i]? = some (.string (strOfNums l)):=by unfold strs;rw [List.getElem?_map,h];rfl
theorem strs_snoc (ls:List (List Int)) (l:List Int):strs (ls++[l])=strs ls++[.string (strOfNums l)]:=by unfold strs;rw [List.map_append];rfl
def RowKeeps (w w':World) (v:Value) (n:Nat):Prop := ∀ g,v.ownBlock=some g → ∀ cur e,w.heap[g]? = some (.cells cur e (0,0)) → ∃ cur',w'.heap[g]? = some (.cells cur' e (0,0))∧cur'.size=cur.size∧cur'.toList.take n=cur.toList.take n
structure Added (w w':World) (v v':Value) (n:Nat):Prop where
 grown:w.grownBy w' v.ownBlock
 keeps:RowKeeps w w' v n
 where_:v'.ownBlock=v.ownBlock ∨ ∀ g,v'.ownBlock=some g→w.heap.size≤g
theorem Added.refl (w:World) (v:Value) (n:Nat):Added w w v v n:=⟨⟨rfl,rfl,rfl,Nat.le_refl _,fun _ _ _=>rfl⟩,fun _ _ cur _e h=>⟨cur,h,rfl,rfl⟩,.inl rfl⟩
theorem Added.below {w w1 w':World} {v v':Value} {n:Nat} (h:Added w w1 v v' n) (hb:Below w1.heap.size w1 w'):Added w w' v v' n:=by
 refine ⟨⟨hb.os.trans h.grown.os,hb.tape.trans h.grown.tape,hb.output.trans h.grown.output,Nat.le_trans h.grown.size hb.size,fun k hk hne=>(hb.block k (Nat.lt_of_lt_of_le hk h.grown.size)).trans (h.grown.block k hk hne)⟩,fun g hg cur e hc=>?_,h.where_⟩
 obtain ⟨cur',h1,h2,h3⟩:=h.keeps g hg cur e hc
 exact ⟨cur',(hb.block g (Array.getElem?_eq_some_iff.1 h1).1).trans h1,h2,h3⟩
theorem Added.after {w w1 w':World} {v v':Value} {n:Nat} (hb:Below w.heap.size w w1) (h:Added w1 w' v v' n) (hv : ∀ g,v.ownBlock=some g→g<w.heap.size):Added w w' v v' n:=by
 refine ⟨⟨h.grown.os.trans hb.os,h.grown.tape.trans hb.tape,h.grown.output.trans hb.output,Nat.le_trans hb.size h.grown.size,fun k hk hne=>(h.grown.block k (Nat.lt_of_lt_of_le hk hb.size) hne).trans (hb.block k hk)⟩,fun g hg cur e hc=>?_,?_⟩
 · exact h.keeps g hg cur e ((hb.block g (hv g hg)).trans hc)
 · rcases h.where_ with h1 | h1
   · exact .inl h1
   · exact .inr fun g hg=>Nat.le_trans hb.size (h1 g hg)
theorem Added.trans {w w1 w':World} {v v1 v':Value} {n m:Nat} (h:Added w w1 v v1 n) (h':Added w1 w' v1 v' m) (hnm:n≤m) (hlt : ∀ g,v.ownBlock=some g→g<w.heap.size):Added w w' v v' n:=by
 have hne : ∀ k,k<w.heap.size→some k ≠ v.ownBlock→some k ≠ v1.ownBlock:=fun k hk hne e=>by
  rcases h.where_ with h1 | h1
  · exact hne (by rw [←h1];exact e)
  · have:=h1 k e.symm;omega
 refine ⟨⟨h'.grown.os.trans h.grown.os,h'.grown.tape.trans h.grown.tape,h'.grown.output.trans h.grown.output,Nat.le_trans h.grown.size h'.grown.size,fun k hk hn=>(h'.grown.block k (Nat.lt_of_lt_of_le hk h.grown.size) (hne k hk hn)).trans (h.grown.block k hk hn)⟩,fun g hg cur e hc=>?_,?_⟩
 · obtain ⟨cur1,h1,h2,h3⟩:=h.keeps g hg cur e hc
   rcases h.where_ with he | he
   · obtain ⟨cur',h4,h5,h6⟩:=h'.keeps g (by rw [he];exact hg) cur1 e h1
     refine ⟨cur',h4,h5.trans h2,?_⟩
     have:cur'.toList.take n=cur1.toList.take n:=by
      have h7:=congrArg (List.take n) h6
      rwa [List.take_take,List.take_take,Nat.min_eq_left hnm] at h7
     exact this.trans h3
   · refine ⟨cur1,(h'.grown.block g (Array.getElem?_eq_some_iff.1 h1).1 fun e1=>?_).trans h1,h2,h3⟩
     have:=he g e1.symm
     have:=hlt g hg
     omega
 · rcases h'.where_ with he | he
   · rw [he];exact h.where_
   · exact .inr fun g hg=>Nat.le_trans h.grown.size (he g hg)
theorem Ownv.keep {w w':World} {v v' u:Value} {n B:Nat} {e:TypeId} {vs:List Value} (h:Added w w' v v' n) (hu:Ownv w B e u vs) (hn:vs.length≤n):Ownv w' B e u vs:=by
 by_cases hs:u.ownBlock=v.ownBlock
 · refine ⟨hu.1,?_⟩
   rcases hu.2 with h1 | ⟨g,cap,cur,rfl,hb,hg,hnc,hcm,hcs,ht⟩
   · exact .inl h1
   · obtain ⟨cur',h1,h2,h3⟩:=h.keeps g (by rw [←hs];rfl) cur e hg
     refine .inr ⟨g,cap,cur',rfl,hb,h1,hnc,hcm,h2.trans hcs,?_⟩
     rw [Nat.mul_one] at ht ⊢
     have h7:=congrArg (List.take vs.length) h3
     rw [List.take_take,List.take_take,Nat.min_eq_left hn] at h7
     exact h7.trans ht
 · exact Ownv.grown hu h.grown (.inr hs)
end
section
open Go.RowKit
open Oct
def kidsE (ch:Fin 8→Tr):List (List Int):=List.ofFn fun i=>Tr.enc (ch i)
theorem kidsE_len (ch:Fin 8→Tr):(kidsE ch).length=8:=List.length_ofFn
theorem kidsE_at (ch:Fin 8→Tr) {k:Nat} (hk:k<8):(kidsE ch)[k]? = some (Tr.enc (ch ⟨k,hk⟩)):=by
 unfold kidsE
 rw [List.getElem?_eq_getElem (by rw [List.length_ofFn];exact hk),List.getElem_ofFn]
theorem kidsE_take (ch:Fin 8→Tr) {k:Nat} (hk:k<8):(kidsE ch).take (k+1)=(kidsE ch).take k++[Tr.enc (ch ⟨k,hk⟩)]:=by
 have h:=kidsE_at ch hk
 rw [List.take_succ_eq_append_getElem (by rw [kidsE_len];exact hk)]
 rw [List.getElem?_eq_getElem (by rw [kidsE_len];exact hk)] at h
 injection h with h
 rw [h]
end
section
open Go.RowKit Go.Sort
open Oct
def sameS (T:Nat→ByteArray) (k:Nat):Bool:=(List.range k).all fun j=>(T j).toList == (T 0).toList
theorem sameS_succ (T:Nat→ByteArray) (k:Nat):sameS T (k+1)=(sameS T k && ((T k).toList == (T 0).toList)):=by
 unfold sameS;rw [List.range_succ,List.all_append];simp
theorem strEq_iff (a b:ByteArray):(a.toList == b.toList)=true ↔ a=b:=by
 rw [beq_iff_eq]
 constructor
 · intro h
   rw [ByteArray.toList_eq,ByteArray.toList_eq] at h
   exact ByteArray.ext (Array.ext' h)
 · intro h;rw [h]
theorem sameS_iff (T:Nat→ByteArray) (k:Nat):sameS T k=true ↔ ∀ j,j<k→T j=T 0:=by
 unfold sameS
 rw [List.all_eq_true]
 simp only [List.mem_range,strEq_iff]
def kidS (ch:Fin 8→Tr) (k:Nat):ByteArray:=strOfNums ((kidsE ch).getD k [])
theorem kidS_at (ch:Fin 8→Tr) {k:Nat} (hk:k<8):kidS ch k=strOfNums (Tr.enc (ch ⟨k,hk⟩)):=by
 unfold kidS;rw [List.getD_eq_getElem?_getD,kidsE_at ch hk];rfl
theorem kidS_eq {ch:Fin 8→Tr} (h : ∀ i,Tr.WF (ch i)) {k:Nat} (hk:k<8):kidS ch k=kidS ch 0 ↔ ch ⟨k,hk⟩=ch 0:=by
 rw [kidS_at ch hk,kidS_at ch (by omega:0<8)]
 constructor
 · intro e
   have:=strOfNums_inj (Tr.enc_byt _ (h _)) (Tr.enc_byt _ (h _)) e
   exact (Tr.enc_eq (h _) (h _)).1 this
 · intro e;rw [e];rfl
theorem same_iff {ch:Fin 8→Tr} (h : ∀ i,Tr.WF (ch i)):sameS (kidS ch) 8=true ↔ ∀ i,ch i=ch 0:=by
 rw [sameS_iff]
 constructor
 · intro e i
   exact (kidS_eq h i.isLt).1 (e i.val i.isLt)
 · intro e j hj
   exact (kidS_eq h hj).2 (e _)
def accS (d:Nat) (ch:Fin 8→Tr) (k:Nat):ByteArray:=strOfNums (110::(d:Int)::((kidsE ch).take k).flatten)
theorem accS_succ (d:Nat) (ch:Fin 8→Tr) {k:Nat} (hk:k<8):accS d ch (k+1)=accS d ch k++kidS ch k:=by
 unfold accS
 rw [kidS_at ch hk,str_append,kidsE_take ch hk,List.flatten_append]
 simp
theorem accS_all (d:Nat) (ch:Fin 8→Tr):accS d ch 8=strOfNums (Tr.enc (.node d ch)):=by
 unfold accS
 rw [List.take_of_length_le (by rw [kidsE_len];exact Nat.le_refl _),Tr.enc_node];rfl
theorem accS_size (d:Nat) (ch:Fin 8→Tr) {k:Nat} (hk:k<8) (n:Nat) (hn:(Tr.enc (.node d ch)).length≤n):(accS d ch k).size+(kidS ch k).size≤n:=by
 rw [←ByteArray.size_append,←accS_succ d ch hk]
 unfold accS
 rw [strOfNums_size]
 have:=Tr.pos_le d ch (show k+1≤8 by omega)
 unfold Tr.pos at this
 simp only [List.length_cons]
 unfold kidsE
 omega
theorem enc_head (t:Tr) : ∃ b r,Tr.enc t=b::r∧((b == 117)=true ↔ ∃ c,t = .uni c):=by
 cases t with
 | uni c=>exact ⟨117,[c],by rw [Tr.enc],by simp⟩
 | brick l=>exact ⟨98,l,by rw [Tr.enc],by simp⟩
 | node d ch=>exact ⟨110,_,by rw [Tr.enc],by simp⟩
set_option maxRecDepth 100000 in
set_option maxHeartbeats 1000000 in
theorem ref9_inner (d:Nat) (hd:d≤255) (ch:Fin 8→Tr) (h : ∀ i,Tr.WF (ch i)) (hl:(Tr.enc (.node d ch)).length≤1000000000000000) (a:Option Addr) (cap:Nat) (w:World) (hs:Slv w a (strs (kidsE ch))) :
 Calls Tryz.prog 153 #[(d:Int),.slice a 8 cap] w fun e w'=>e = .returned (.string (strOfNums (Tr.enc (Tr.mkInner d ch))))∧Below w.heap.size w w':=by
 have hat : ∀ k,k<8→(strs (kidsE ch))[k]? = some (.string (kidS ch k)):=fun k hk=>by rw [kidS_at ch hk];exact strs_at (kidsE_at ch hk)
 obtain ⟨b,off,rfl,hc0⟩:=hs 0 _ (hat 0 (by omega))
 rw [Nat.add_zero] at hc0
 obtain ⟨b0,r0,he0,hu0⟩:=enc_head (ch 0)
 have hby:=Tr.enc_byt _ (h 0)
 have hi0:=fun W:World=>idx_str (P:=Tryz.prog) 9 Tryz.underlying9 hby (k:=0) (x:=b0) (by rw [he0];rfl) W
 rw [show ((0:Nat):Int)=0 from rfl,show strOfNums (Tr.enc (ch 0))=kidS ch 0 from (kidS_at ch (by omega)).symm] at hi0
 obtain ⟨u,hu⟩ : ∃ u,(b0 == 117)=u:=⟨_,rfl⟩
 have hwd:IntKind.u8.wrap (d:Int)=d:=by unfold IntKind.wrap;simp [IntKind.bits,IntKind.signed];omega
 have hsl:Sl (w.alloc (.cells #[.int .u8 d] 5)) .u8 (some ⟨w.heap.size,0,none⟩) [(d:Int)]:=fun i x hx=>by
  match i with
  | 0=>simp at hx;subst hx;exact ⟨_,_,rfl,cell_new _ _ _⟩
  | i+1=>simp at hx
 have hcv:=conv_str (P:=Tryz.prog) 148 5 9 Tryz.underlying148 Tryz.underlying5 Tryz.underlying9 hsl 1 1 rfl
 have hst:=Bx.mk (show (strOfNums [110])++strOfNums [(d:Int)]=accS d ch 0 from str_append [110] [(d:Int)])
 have hend:=Bx.mk (show (u && sameS (kidS ch) 8)=true→Tr.mkInner d ch=ch 0 from fun e=>by
  rw [Bool.and_eq_true] at e
  unfold Tr.mkInner
  rw [if_pos ⟨hu0.1 (hu.trans e.1),(same_iff h).1 e.2⟩])
 have hend2:=Bx.mk (show (u && sameS (kidS ch) 8)=false→Tr.mkInner d ch = .node d ch from fun e=>by
  unfold Tr.mkInner
  rw [if_neg]
  rintro ⟨h1,h2⟩
  rw [←hu,hu0.2 h1,(same_iff h).2 h2] at e
  cases e)
 have hacc:=Bx.mk fun k (hk:k<8)=>accS_succ d ch hk
 have haccE:=Bx.mk (accS_all d ch)
 have hasz:=Bx.mk fun k (hk:k<8)=>accS_size d ch hk _ hl
 have h1sz:(strOfNums [(d:Int)]).size=1:=by rw [strOfNums_size];rfl
 have hk0:=Bx.mk (kidS_at ch (show 0<8 by omega))
 have Hs:=Bx.mk hs
 have Hat:=Bx.mk hat
 have Hu:=Bx.mk hu
 have Hhd:=Bx.mk hd
 clear hs hat hby he0 hu0 h hsl hd hl
 go_enter Tryz.func153,Tryz.ntmps153
 go_wp2_with fail
 generalize hW:World.alloc w _=W
 have HB:=Bx.mk (show Below w.heap.size w W from by rw [←hW];exact (Below.refl _ _).alloc (Nat.le_refl _) _)
 clear hW hcv hc0 hi0 h1sz
 clear hu
 go_loopw [5,6,7] (fun v5 v6 v7 wr => ∃ k:Nat,k≤8∧v7 = .int .i64 k∧v5 = .bool (u && sameS (kidS ch) k)∧v6 = .string (accS d ch k)∧Bx (Below w.heap.size w wr)) (fun _ _ i _=>8 - (intOf i).toNat)
 case atStart=>exact ⟨0,Nat.zero_le _,rfl,by rw [show sameS (kidS ch) 0=true from rfl,Bool.and_true],by rw [←hst.out];rfl,HB⟩
 case round =>
  clear HB
  obtain ⟨k,hk,rfl,rfl,rfl,HB⟩:=hrel
  obtain ⟨b1,off1,he1,hc0⟩:=(Hs.out.below HB.out) 0 _ (Hat.out 0 (by omega))
  simp only [Option.some.injEq,Addr.mk.injEq,and_true] at he1
  obtain ⟨rfl,rfl⟩:=he1
  rw [Nat.add_zero] at hc0
  by_cases hlt:k<8
  · have t0:decide ((k:Int)<8)=true:=by simp;omega
    obtain ⟨b1,off1,he1,hck⟩:=(Hs.out.below HB.out) k _ (Hat.out k hlt)
    simp only [Option.some.injEq,Addr.mk.injEq,and_true] at he1
    obtain ⟨rfl,rfl⟩:=he1
    have b1':(0:Int)≤(k:Int):=by omega
    have b2:(k:Int)<8:=by omega
    have hacc1:=Bx.mk (hacc.out k hlt)
    have hz1:=hasz.out k hlt
    have hsn:=Bx.mk (sameS_succ (kidS ch) k)
    have Hc0:=Bx.mk hc0
    have Hck:=Bx.mk hck
    cases hq:(u && sameS (kidS ch) k) with
    | false =>
      clear hc0 hck
      go_wp2_with fail
      refine wp_region_quiet_below (by kernel_rfl) (by kernel_rfl) ?_
      repeat (first | go_big_quiet_step ((fail)) | quiet_step (fail))
      refine wpQuiet_nil ?_
      rintro _ ⟨⟨dq,osq⟩,rfl⟩
      have hb0:=below_regrown wr dq osq
      have hck:=cell_later hb0 Hck.out
      replace HB:=Bx.mk (HB.out.trans (hb0.mono HB.out.size))
      clear hb0
      generalize grow (redrawn wr dq) osq=w7 at *
      go_wp2_with fail
      go_roundw
      case rel=>exact ⟨k+1,by omega,by go_num,by rw [hsn.out,←Bool.and_assoc,hq];rfl,by rw [hacc1.out],HB⟩
      case measure=>simp [intOf];omega
    | true =>
      have qc1 : ∀ dk osk,(grow (redrawn wr dk) osk).cell? ⟨b,off+k,none⟩=some (.string (kidS ch k)):=cell_regrown Hck.out
      have qc2 : ∀ dk osk,(grow (redrawn wr dk) osk).cell? ⟨b,off,none⟩=some (.string (kidS ch 0)):=cell_regrown Hc0.out
      clear hc0 hck
      go_wp2_with fail
      refine wp_region_quiet_below (by kernel_rfl) (by kernel_rfl) ?_
      repeat (first | go_big_quiet_step ((fail)) | quiet_step (fail))
      refine wpQuiet_nil ?_
      rintro _ ⟨⟨dq,osq⟩,rfl⟩
      have hb0:=below_regrown wr dq osq
      have hck:=cell_later hb0 Hck.out
      replace HB:=Bx.mk (HB.out.trans (hb0.mono HB.out.size))
      clear hb0 qc1 qc2
      generalize grow (redrawn wr dq) osq=w7 at *
      go_wp2_with fail
      go_roundw
      case rel=>exact ⟨k+1,by omega,by go_num,by rw [hsn.out,←Bool.and_assoc,hq];rfl,by rw [hacc1.out],HB⟩
      case measure=>simp [intOf];omega
  · obtain rfl:k=8:=by omega
    have t0:decide (((8:Nat):Int)<8)=false:=by decide
    cases hq:(u && sameS (kidS ch) 8) with
    | true =>
      have He:=Bx.mk (hend.out hq)
      clear hq
      go_wp2_with fail
      go_ret
      exact ⟨by rw [He.out];show Ending.returned (.string (kidS ch 0))=_;rw [hk0.out];rfl,HB.out⟩
    | false =>
      have He:=Bx.mk (hend2.out hq)
      clear hq
      go_wp2_with fail
      go_ret
      exact ⟨by rw [He.out];show Ending.returned (.string (accS d ch 8))=_;rw [haccE.out],HB.out⟩
end
section
open Go.RowKit Go.Sort Go.Maps
open Oct
set_option maxRecDepth 100000 in
theorem corner9_any (h:Nat) (hh:h≤14) (px py pz:Int) (i:Nat) (hi:i<8) (hx:0≤px∧px≤100000) (hy:0≤py∧py≤100000) (hz:0≤pz∧pz≤100000) (w:World) :
 Calls Tryz.prog 152 #[.agg #[px,py,pz],.int .i64 ((h:Int)+1),(i:Int)] w fun e w'=>e = .returned (.agg #[.int .i64 (px+chX i (2 ^ h)),.int .i64 (py+chY i (2 ^ h)),.int .i64 (pz+chZ i (2 ^ h))])∧Below w.heap.size w w':=by
 have hsd:=fun W=>side_any h hh W
 have hp:=pow_le hh
 generalize hm:(2:Int) ^ h=m at *
 obtain ⟨bx,by',bz⟩:=ch_bd hi (show 0≤m by omega)
 have e1:(i:Int) % 2 * m=chX i m:=by unfold chX;rw [Int.natCast_emod];rfl
 have e2:(i:Int) / 2 % 2 * m=chY i m:=by unfold chY;rw [Int.natCast_emod,Int.natCast_ediv];rfl
 have e3:(i:Int) / 4 * m=chZ i m:=by unfold chZ;rw [Int.natCast_ediv];rfl
 have w1:IntKind.i64.wrap ((i:Int) % 2 * m)=chX i m:=by rw [e1];exact IntWalk.i64_in _ (by omega)
 have w2:IntKind.i64.wrap ((i:Int) / 2 % 2 * m)=chY i m:=by rw [e2];exact IntWalk.i64_in _ (by omega)
 have w3:IntKind.i64.wrap ((i:Int) / 4 * m)=chZ i m:=by rw [e3];exact IntWalk.i64_in _ (by omega)
 generalize chX i m=cx at *
 generalize chY i m=cy at *
 generalize chZ i m=cz at *
 have hsub:IntKind.i64.wrap ((h:Int)+1 - 1)=(h:Int):=by rw [show (h:Int)+1 - 1=h by omega];exact IntWalk.i64_in _ (by omega)
 have hsd:=Bx.mk hsd
 have b1:(0:Int)≤(i:Int):=by omega
 have b2:(i:Int)<8:=by omega
 have t1:=IntWalk.i64_in (px+cx) (by omega)
 have t2:=IntWalk.i64_in (py+cy) (by omega)
 have t3:=IntWalk.i64_in (pz+cz) (by omega)
 clear hm e1 e2 e3 hx hy hz bx by' bz hi
 go_enter Tryz.func152,Tryz.ntmps152
 go_wp2_with fail
 generalize hW:World.alloc (World.alloc w _) _=W
 have hSz:=sz2 hW
 have hB:=bl2 hW
 have kp:Bk W (w.heap.size) #[px,py,pz] 23:=bk1 hW
 have kr:Bk W (w.heap.size+1) #[(0:Int),(0:Int),(0:Int)] 23:=bk0 hW
 clear hW
 refine (hsd.out _).mono ?_
 rintro _ _ ⟨rfl,rfl⟩
 obtain ⟨cp0,cp1,cp2⟩:=kp.c3
 obtain ⟨cr0,cr1,cr2⟩:=kr.c3
 obtain ⟨fr0,fr1,fr2⟩:=kr.f3
 go_wp2_with fail
 replace kr:=kr.put3 (.int .i64 (px+cx)) (.int .i64 (py+cy)) (.int .i64 (pz+cz))
 exact bodyPost_ret (v:=.agg #[.int .i64 (px+cx),.int .i64 (py+cy),.int .i64 (pz+cz)]) (results_cell_row rfl _ _ (w.heap.size+1) 23 #[.int .i64 (px+cx),.int .i64 (py+cy),.int .i64 (pz+cz)] (0,0) _ rfl kr Tryz.underlying23 rfl (by kernel_rfl)) rfl ⟨rfl,blw3 hB (by omega) _ _ _⟩
theorem inB_inC {n:Nat} {ax ay az m:Int} (hm:m=2 ^ (n+2)) (ha:Tr.Al n ⟨ax,ay,az⟩) {p:Pt}:inB p ⟨⟨ax,ay,az⟩,⟨ax+m,ay+m,az+m⟩⟩=true ↔ Tr.InC n ⟨ax,ay,az⟩ p:=by
 refine ⟨fun h=>?_,fun h=>inC_cube hm ha h⟩
 obtain ⟨a1,a2,a3⟩:=ha
 have hp:=Tr.pow_pos2 n
 rw [←hm] at a1 a2 a3 hp
 simp only [] at a1 a2 a3
 have h:=inB_iff.1 h
 have key : ∀ p a:Int,a % m=0→a≤p→p<a+m→p / m=a / m:=by
  intro p a h2 h3 h4
  have e2:=Int.mul_ediv_add_emod a m
  rw [h2,Int.add_zero] at e2
  obtain ⟨r,hr⟩ : ∃ r,r=p - a:=⟨_,rfl⟩
  have hpe:p=r+m * (a / m):=by omega
  rw [hpe,Int.add_mul_ediv_left _ _ (by omega),Int.ediv_eq_zero_of_lt (by omega) (by omega),Int.zero_add]
 refine ⟨?_,?_,?_⟩
 · show p.x / 2 ^ (n+2)=ax / 2 ^ (n+2);rw [←hm];exact key _ _ a1 h.1 h.2.1
 · show p.y / 2 ^ (n+2)=ay / 2 ^ (n+2);rw [←hm];exact key _ _ a2 h.2.2.1 h.2.2.2.1
 · show p.z / 2 ^ (n+2)=az / 2 ^ (n+2);rw [←hm];exact key _ _ a3 h.2.2.2.2.1 h.2.2.2.2.2
end
section
open Go.RowKit Go.Sort Go.Maps
open Oct
theorem wr1_cells (B:Box) (f:Pt→Int) (c:Chg):wr1 B (cellsOf B f) c=cellsOf B (Tr.upd f c.at c.n):=by
 unfold wr1
 by_cases h:inB c.at B=true
 · rw [if_pos h]
   have hb:=indexB_bd h
   apply List.ext_getElem?
   intro i
   rw [List.getElem?_set]
   by_cases hi:i<(volB B).toNat
   · obtain ⟨h1,h2⟩:=at_nat hi
     rw [cellsOf_get hi,cellsOf_get hi]
     by_cases e:(indexB B c.at).toNat=i
     · rw [if_pos e,if_pos (by rw [cellsOf_length];omega)]
       have:atB B (i:Int)=c.at:=by rw [←e,Int.toNat_of_nonneg hb.1];exact at_index h
       rw [this,upd_at]
     · rw [if_neg e,upd_off]
       intro e'
       rw [e'] at h2
       omega
   · rw [if_neg (by omega),List.getElem?_eq_none (by rw [cellsOf_length];omega),List.getElem?_eq_none (by rw [cellsOf_length];omega)]
 · rw [if_neg h]
   exact cellsOf_congr fun p hp=>(upd_off (fun e=>h (by rw [←e];exact hp))).symm
abbrev pts (cs:List Chg):List (Pt × Int):=cs.map fun c=>(c.at,c.n)
theorem write_cells {N:Nat} {a:Pt} (h:InT N 0 a) : ∀ (cs:List Chg) (g:Pt→Int),wrL (cube4B a) (inb cs a) (cells64 g a)=cells64 (writeF (pts cs) g) a
 | [],_=>rfl
 | c :: cs, g => by
   have ih:=write_cells h cs (Tr.upd g c.at c.n)
   rw [cells64_of,cells64_of] at *
   show wrL (cube4B a) (inb (c::cs) a) (cellsOf (cube4B a) g)=cellsOf (cube4B a) (writeF (pts cs) (Tr.upd g c.at c.n))
   rw [←ih]
   have hin:inB c.at (cube4B a)=true ↔ Tr.InC 0 a c.at:=inB_inC (n:=0) (m:=4) (by decide) (show Tr.Al 0 ⟨a.x,a.y,a.z⟩ from h.al)
   unfold inb
   rw [List.filter_cons]
   by_cases hc:Tr.InC 0 a c.at
   · rw [if_pos (by simpa using hc)]
     show wrL (cube4B a) _ (wr1 (cube4B a) (cellsOf (cube4B a) g) c)=_
     rw [wr1_cells]
   · rw [if_neg (by simpa using hc)]
     congr 1
     exact cellsOf_congr fun p hp=>(upd_off (fun e=>hc (hin.1 (by rw [←e];exact hp)))).symm
theorem write_off {N n:Nat} {a:Pt} (h:InT N n a) {cs:List Chg} {f:Pt→Int} (hc : ¬touT cs n a):Tr.can (writeF (pts cs) f) n a=Tr.can f n a :=
 Tr.can_congr n a h.al fun p hp=>upds_at _ _ _ fun x hx e=>hc (by
  obtain ⟨c,hc1,rfl⟩:=List.mem_map.1 hx
  exact ⟨c,hc1,by rw [show c.at=p from e];exact hp⟩)
def StayP (lo hi:Nat) (W0 W:World):Prop := ∀ k,lo≤k→k<hi→W.heap[k]? = W0.heap[k]?
theorem own_slc {W:World} {B:Nat} {v:Value} {l:List Chg} (h:W.ownsRow B 96 5 v l.length (ccells l)) : ∃ hc cap,v = .slice hc l.length cap∧l.length≤cap∧SlC W hc l:=by
 have hcell:=fun g (hg:v.ownBlock=some g)=>h.cells hg
 rcases h.2 with ⟨rfl,hn⟩ | ⟨g,cap,cur,rfl,-,-,hc,-⟩
 · exact ⟨none,0,by rw [hn],by omega,fun i c hi=>by rw [List.length_eq_zero_iff.1 hn] at hi;simp at hi⟩
 · refine ⟨_,cap,rfl,hc,fun i c hi=>⟨g,0,rfl,?_⟩⟩
   have hcell:=hcell g rfl
   have key : ∀ (l:List Chg) (i:Nat) (c:Chg) (j:Nat),l[i]? = some c→j<5→(ccells l)[i * 5+j]? = c.cells[j]? := by
    intro l
    induction l with
    | nil=>intro i c j hi;simp at hi
    | cons d r ih =>
      intro i c j hi hj
      show (d.cells++ccells r)[i * 5+j]? = _
      cases i with
      | zero =>
        obtain rfl:=Option.some.inj hi
        rw [Nat.zero_mul,Nat.zero_add,List.getElem?_append_left (by simpa [Chg.cells] using hj)]
      | succ i =>
        rw [List.getElem?_append_right (by simp [Chg.cells];omega)]
        have:=ih i c j hi hj
        rw [show (i+1) * 5+j - d.cells.length=i * 5+j by simp [Chg.cells];omega]
        exact this
   have get : ∀ j u,j<5→c.cells[j]? = some u→W.cell? ⟨g,0+i * 5+j,none⟩=some u:=fun j u hj hu=>by
    have:=hcell (i * 5+j) u ((key l i c j hi hj).trans hu)
    rw [Nat.zero_add]
    by_cases h0:i * 5+j=0
    · rw [h0] at this ⊢; exact this
    · unfold Addr.add at this
      rw [if_neg (by simpa using h0)] at this
      simpa using this
   exact ⟨get 0 _ (by omega) rfl,get 1 _ (by omega) rfl,get 2 _ (by omega) rfl,get 3 _ (by omega) rfl,get 4 _ (by omega) rfl⟩
theorem write_edit {w0 W0:World} {Av:Nat→Prop} {N vt vb tm bm m:Nat} {cs:List Chg} (hN:N≤12) (hC:cs.length≤4194304) (hK:WK w0 Av N vt vb tm bm m (touT cs) cs W0) (sb:Nat) (most:Int) (g:Pt→Int) :
 EditC [] (fun k=>w0.heap.size≤k∧k<W0.heap.size) (StayP w0.heap.size W0.heap.size W0) sb most N g (writeF (pts cs) g) (fun _ _=>True) (touT cs) 117 118
  #[.pointer (some ⟨vt,0,none⟩)] #[.pointer (some ⟨vb,0,none⟩)] (.func (.func 118) #[] #[.pointer (some ⟨vb,0,none⟩)]) where
 vtop:=trivial
 vkid:=fun _ _ _ _ _ _ _=>trivial
 stays:=fun a b hk hp k h1 h2=>by
  have h3:=hp k h1 h2
  have hl:k<a.heap.size:=by
   have hs:W0.heap[k]? = some W0.heap[k]:=Array.getElem?_eq_getElem h2
   rw [hs] at h3
   exact (Array.getElem?_eq_some_iff.1 h3).1
  exact (hk.block k ⟨h1,h2⟩ hl).trans h3
 en:=enters_of Tryz.func117 rfl rfl
 eb:=fun _ _=>⟨rfl,enters_of Tryz.func118 rfl rfl⟩
 node:=fun W Far us n a _ _ hin _ hP hG ht hlen hFar hS=>by
  obtain ⟨b1,b2,b3⟩:=hin.bd hN
  have hle:=hin.le
  obtain ⟨ft,t1,t2⟩:=hK.tmap
  obtain ⟨q1,q2⟩:=t2 n a hle hin.al
  have kt:Bk W vt #[.map (some tm)] 160:=(hP vt hK.ge.1 hK.kt.lt).trans hK.kt
  have hM:=t1.of_block (hP tm hK.ge.2.2.1 t1.lt)
  have hwf : ∀ q∈[a.x,a.y,a.z,(n:Int)+2],(Lit.int .i64 q).wf=true:=fun q hq=>wf_small q (by
   simp only [List.mem_cons,List.not_mem_nil,or_false] at hq
   rcases hq with rfl | rfl | rfl | rfl <;> omega)
  by_cases hc:touT cs n a
  · have h:=write1_any a.x a.y a.z ((n:Int)+2) (idT us (Tr.can g n a):Int) vt tm m ft true hwf (by rw [q1 hc];rfl) W kt hM
    refine h.mono ?_
    rintro e' w' ⟨rfl,hb⟩
    exact ⟨Keeps.below hb,.inr (.inr ⟨hc,⟨_,rfl⟩,hb⟩)⟩
  · have h:=write1_any a.x a.y a.z ((n:Int)+2) (idT us (Tr.can g n a):Int) vt tm m ft false hwf (by rw [q2 hc];rfl) W kt hM
    refine h.mono ?_
    rintro e' w' ⟨rfl,hb⟩
    rw [write_off hin hc]
    exact says_kept ht hS hb
 brick:=fun W B v a hin hu hP hF ho=>by
  obtain ⟨b1,b2,b3⟩:=hin.bd hN
  obtain ⟨g1,cap,rfl,-,-,-,-,-⟩:=ho.at (by rw [cells64_len];decide)
  obtain ⟨fb,m1,m2,m3⟩:=hK.bmap
  have hne:inb cs a ≠ []:=by
   obtain ⟨c,hc,hi⟩:=hu
   exact List.ne_nil_of_mem (List.mem_filter.2 ⟨hc,by simpa using hi⟩)
  obtain ⟨v,q1,q2,q3⟩:=(m2 a hin.al).2 hne
  obtain ⟨hc,hcp,rfl,hcap,hsl⟩:=own_slc q2
  have hlen:(inb cs a).length≤4194304:=Nat.le_trans (List.length_filter_le _ _) hC
  have kb:Bk W vb #[.map (some bm)] 159:=(hP vb hK.ge.2.1 hK.kb.lt).trans hK.kb
  have hM:=m1.of_block (hP bm hK.ge.2.2.2 m1.lt)
  have hs:SlC W hc (inb cs a):=hsl.of_block fun b hb _=>by
   have hob:(Value.slice hc (inb cs a).length hcp).ownBlock=some b:=by
    cases hc with
    | none=>cases hb
    | some ad=>exact hb
   have hl:=World.ownsRow.lt q2 b hob
   exact hP b hl.1 hl.2
  have h:=write_brick a.x a.y a.z b1 b2 b3 vb bm m g1 B cap fb hc hcp (cells64 g a) (inb cs a) (cells64_len _ _) hlen hcap (by rw [q1];rfl) W kb hM hs ho
  rw [show (⟨⟨a.x,a.y,a.z⟩,⟨a.x+4,a.y+4,a.z+4⟩⟩:Box)=cube4B a from rfl,write_cells hin] at h
  exact h
theorem twrite_any {N:Nat} (hN:N≤12) (sb:Nat) (ha:Option Addr) (hcp:Nat) (cs:List Chg) (hC:cs.length≤4194304) (hcap:cs.length≤hcp) (most:Int) (g:Pt→Int) (hg : ∀ p,0≤g p∧g p≤255) (w:World) (hcs:SlC w ha cs) (Far:Nat→Prop) (ts:List Tr) (hG:Good ts) (ht:Tr.can g N ⟨0,0,0⟩∈ts)
 (hok:(∀ c∈cs,okChg N c)→(∀ p,0≤writeF (pts cs) g p∧writeF (pts cs) g p≤255)∧(Tr.add (Tr.can (writeF (pts cs) g) N ⟨0,0,0⟩) ts).length≤4000000) (hFar : ∀ k,Far k→k<w.heap.size) (hS:StoreIs w Far sb most ts) :
 Calls Tryz.prog 52 #[.pointer (some ⟨sb,0,none⟩),(idT ts (Tr.can g N ⟨0,0,0⟩):Int),.int .i64 ((N:Int)+2),.slice ha cs.length hcp] w (WSays (∀ c∈cs,okChg N c) (Done Far sb most ts (Tr.add (Tr.can (writeF (pts cs) g) N ⟨0,0,0⟩) ts) (Tr.can (writeF (pts cs) g) N ⟨0,0,0⟩) w) w):=by
 by_cases hv : ∀ c∈cs,okChg N c
 · obtain ⟨hg',hlen⟩:=hok hv
   refine twrite_walk hN sb _ ha hcp cs hC hcap w hcs _ ⟨fun Av vt vb tm bm m W _ hK=>?_⟩
   refine (change_any hN (write_edit hN hC hK sb most g) hg hg' W (fun x=>Far x∨(w.heap.size≤x∧x<W.heap.size)) (fun k hk=>.inr hk) (fun k _ _=>rfl) ts List.nil_prefix hG ht hlen ?_ ?_).mono ?_
   · intro k hk
     rcases hk with hk | hk
     · exact Nat.lt_of_lt_of_le (hFar k hk) hK.bel.size
     · exact hk.2
   · exact (hS.widen (Far':=fun x=>Far x∨(w.heap.size≤x∧x<W.heap.size)) (fun k hk=>hk.imp (fun h=>h) (fun h=>h.1))).later hK.bel
   · intro e' w' hd
     refine ⟨hd.less (Far:=Far) (Keeps.below hK.bel) (fun k hk=>.inl hk),?_⟩
     obtain ⟨-,-,(⟨-,rfl,-⟩ | ⟨-,rfl,-⟩)⟩:=hd
     · exact ⟨_,_,rfl⟩
     · exact ⟨_,_,rfl⟩
 · refine (twrite_walk hN sb _ ha hcp cs hC hcap w hcs (fun _ _=>True) ⟨fun Av vt vb tm bm m W hv' _=>absurd hv' hv⟩).mono ?_
   intro e' w' h
   exact ⟨fun h'=>absurd h' hv,fun _=>h.bad hv⟩
end
end Go.Proofs.YtfcbajmjaifjlaaGreat
