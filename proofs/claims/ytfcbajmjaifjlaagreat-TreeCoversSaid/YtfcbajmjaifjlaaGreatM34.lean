/- Sn1, Sn2, Dsn, Rg4: joined by program, for one claim. -/
import Derived.Test.YtfcbajmjaifjlaaGreatM33
import Derived.Test.YtfcbajmjaifjlaaGreatM9
import Derived.Test.YtfcbajmjaifjlaaGreatM4
import Derived.Test.YtfcbajmjaifjlaaGreatM20
import Derived.Test.YtfcbajmjaifjlaaGreatM27
import Derived.Test.YtfcbajmjaifjlaaGreatM17
import Derived.Test.YtfcbajmjaifjlaaGreatM12
set_option linter.unusedVariables false
set_option linter.unusedSimpArgs false
namespace Go.Proofs.YtfcbajmjaifjlaaGreat
section
open Go.RowKit Go.Sort Go.Maps
open Oct
structure SS (w0:World) (sb:Nat) (ts:List Tr) (W:World):Prop where
 bel:Below w0.heap.size w0 W
 st:StoreIs W (fun k=>k<w0.heap.size) sb 100 ts
theorem SS.later {w0 W W':World} {sb:Nat} {ts:List Tr} (h:SS w0 sb ts W) (hb:Below W.heap.size W W'):SS w0 sb ts W':=⟨h.bel.trans (hb.mono h.bel.size),h.st.later hb⟩
theorem SS.far {w0 W:World} {sb:Nat} {ts:List Tr} (h:SS w0 sb ts W) : ∀ k,k<w0.heap.size→k<W.heap.size:=fun k hk=>Nat.lt_of_lt_of_le hk h.bel.size
theorem SS.keep {w0 W W':World} {sb:Nat} {ts:List Tr} (h:SS w0 sb ts W) (hk:Keeps (fun k=>k<w0.heap.size) W W'):Below w0.heap.size w0 W' :=
 h.bel.trans ⟨hk.os,hk.tape,hk.output,hk.size,fun k hk'=>hk.block k hk' (h.far k hk')⟩
theorem SS.done {w0 W W':World} {sb:Nat} {ts ts':List Tr} {t:Tr} {e:Ending} (h:SS w0 sb ts W) (hd:Done (fun k=>k<w0.heap.size) sb 100 ts ts' t W e W') (hl:ts'.length≤100):e=ret2 (idT ts' t:Int) 0∧SS w0 sb ts' W':=by
 rcases hd.way with ⟨_,h2,h3⟩ | ⟨hn,_⟩
 · exact ⟨h2,h.keep hd.keeps,h3⟩
 · exact absurd (Or.inr (by omega)) hn
noncomputable def s1:List Tr:=Tr.add (.uni 0) []
noncomputable def s2:List Tr:=Tr.add (Tr.can gB 1 O3) s1
noncomputable def s3:List Tr:=Tr.add (Tr.can gC 1 O3) s2
noncomputable def s4:List Tr:=Tr.add (Tr.can gD 1 O3) s3
theorem l1:s1.length≤1:=by unfold s1;rw [Tr.add_uni];exact ins_len' _ _
theorem l2:s2.length≤10:=by have h:=add_len9 gB s1;have:=l1;unfold s2;omega
theorem l3:s3.length≤19:=by have h:=add_len9 gC s2;have:=l2;unfold s3;omega
theorem l4:s4.length≤28:=by have h:=add_len9 gD s3;have:=l3;unfold s4;omega
theorem good1:Good s1:=Good.uni ⟨Tr.Closed.nil,fun t h=>by cases h⟩ (by decide)
theorem good2:Good s2:=good_add _ good1 (wf_can cellB 1 _ (by omega))
theorem good3:Good s3:=good_add _ good2 (wf_can cellC 1 _ (by omega))
theorem good4:Good s4:=good_add _ good3 (wf_can cellD 1 _ (by omega))
theorem p12:s1 <+: s2:=Tr.add_prefix _ _
theorem p23:s2 <+: s3:=Tr.add_prefix _ _
theorem p34:s3 <+: s4:=Tr.add_prefix _ _
theorem mA1:Tr.can gA 1 O3∈s1:=by rw [canA];exact Tr.mem_add _ _
theorem mB2:Tr.can gB 1 O3∈s2:=Tr.mem_add _ _
theorem mC3:Tr.can gC 1 O3∈s3:=Tr.mem_add _ _
theorem mD4:Tr.can gD 1 O3∈s4:=Tr.mem_add _ _
theorem mA2:Tr.can gA 1 O3∈s2:=p12.subset mA1
theorem mA3:Tr.can gA 1 O3∈s3:=p23.subset mA2
theorem mA4:Tr.can gA 1 O3∈s4:=p34.subset mA3
theorem mB3:Tr.can gB 1 O3∈s3:=p23.subset mB2
theorem mB4:Tr.can gB 1 O3∈s4:=p34.subset mB3
theorem mC4:Tr.can gC 1 O3∈s4:=p34.subset mC3
noncomputable def iA:Int:=(idT s4 (Tr.can gA 1 O3):Int)
noncomputable def iB:Int:=(idT s4 (Tr.can gB 1 O3):Int)
noncomputable def iC:Int:=(idT s4 (Tr.can gC 1 O3):Int)
noncomputable def iD:Int:=(idT s4 (Tr.can gD 1 O3):Int)
theorem eA1:(idT s1 (Tr.can gA 1 O3):Int)=iA:=by unfold iA;rw [idT_prefix (p12.trans (p23.trans p34)) mA1]
theorem eA2:(idT s2 (Tr.can gA 1 O3):Int)=iA:=by unfold iA;rw [idT_prefix (p23.trans p34) mA2]
theorem eA3:(idT s3 (Tr.can gA 1 O3):Int)=iA:=by unfold iA;rw [idT_prefix p34 mA3]
theorem eB2:(idT s2 (Tr.can gB 1 O3):Int)=iB:=by unfold iB;rw [idT_prefix (p23.trans p34) mB2]
theorem eC3:(idT s3 (Tr.can gC 1 O3):Int)=iC:=by unfold iC;rw [idT_prefix p34 mC3]
variable {w0:World} {sb:Nat}
theorem sn_uni (W:World) (h:SS w0 sb [] W):Calls Tryz.prog 48 #[.pointer (some ⟨sb,0,none⟩),(0:Int)] W fun e W'=>e=ret2 iA 0∧SS w0 sb s1 W':=by
 refine (uniform_any W _ sb 100 [] 0 (by decide) ⟨Tr.Closed.nil,fun t h=>by cases h⟩ (by simp) h.far h.st).mono ?_
 rintro e W' ⟨hk,hs,hw⟩
 rcases hw with ⟨_,h2,h3⟩ | ⟨hn,_⟩
 · refine ⟨?_,h.keep hk,h3⟩
   rw [h2,←eA1,canA];rfl
 · exact absurd (Or.inr (by have:=l1;unfold s1 at this;omega)) hn
theorem sn_fillB (W:World) (h:SS w0 sb s1 W):Calls Tryz.prog 49 #[.pointer (some ⟨sb,0,none⟩),iA,(3:Int),.agg #[(0:Int),(0:Int),(0:Int),(8:Int),(8:Int),(4:Int)],(5:Int)] W fun e W'=>e=ret2 iB 0∧SS w0 sb s2 W':=by
 have hc:=fillbox_any (N:=1) (by decide) sb 0 0 0 8 8 4 5 (by decide) 100 gA cellA cellB W _ s1 good1 mA1 (by have:=l2;unfold s2 at this;exact Nat.le_trans this (by decide)) h.far h.st
 rw [show (idT s1 (Tr.can gA 1 ⟨0,0,0⟩):Int)=iA from eA1] at hc
 refine Calls.mono hc ?_
 intro e W' hd
 have:=SS.done (ts':=s2) (t:=Tr.can gB 1 O3) h hd (by have:=l2;omega)
 rw [eB2] at this
 exact this
theorem sn_fillC (W:World) (h:SS w0 sb s2 W):Calls Tryz.prog 49 #[.pointer (some ⟨sb,0,none⟩),iA,(3:Int),.agg #[.int .i64 (-9),.int .i64 (-9),.int .i64 (-9),(9:Int),(9:Int),(9:Int)],(5:Int)] W fun e W'=>e=ret2 iC 0∧SS w0 sb s3 W':=by
 have hc:=fillbox_any (N:=1) (by decide) sb (-9) (-9) (-9) 9 9 9 5 (by decide) 100 gA cellA cellC W _ s2 good2 mA2 (by have:=l3;unfold s3 at this;exact Nat.le_trans this (by decide)) h.far h.st
 rw [show (idT s2 (Tr.can gA 1 ⟨0,0,0⟩):Int)=iA from eA2] at hc
 refine Calls.mono hc ?_
 intro e W' hd
 have:=SS.done (ts':=s3) (t:=Tr.can gC 1 O3) h hd (by have:=l3;omega)
 rw [eC3] at this
 exact this
theorem slc1 {W:World} {g:Nat} {x y z o n:Int} (hb:Bk W g #[x,y,z,o,n] 96):SlC W (some ⟨g,0,none⟩) [⟨x,y,z,o,n⟩]:=by
 intro i c hi
 cases i with
 | zero =>
   obtain rfl:=Option.some.inj hi
   exact ⟨g,0,rfl,hb.cell 0 rfl,hb.cell 1 rfl,hb.cell 2 rfl,hb.cell 3 rfl,hb.cell 4 rfl⟩
 | succ i=>simp at hi
theorem sn_wr1 (W:World) (g cap:Nat) (hcap:1≤cap) (hb:Bk W g #[(8:Int),(0:Int),(0:Int),(0:Int),(1:Int)] 96) (h:SS w0 sb s3 W):Calls Tryz.prog 52 #[.pointer (some ⟨sb,0,none⟩),iA,(3:Int),.slice (some ⟨g,0,none⟩) 1 cap] W fun e W'=>e=ret2 0 1∧SS w0 sb s3 W':=by
 have hbad : ¬ ∀ c∈[(⟨8,0,0,0,1⟩:Chg)],okChg 1 c:=fun h=>by
  have:=(h _ (List.mem_singleton.2 rfl)).1
  revert this;decide
 have hc:=twrite_any (N:=1) (by decide) sb (some ⟨g,0,none⟩) cap [⟨8,0,0,0,1⟩] (by decide) hcap 100 gA cellA W (slc1 hb) _ s3 good3 mA3 (fun hok=>absurd hok hbad) h.far h.st
 rw [show (idT s3 (Tr.can gA 1 ⟨0,0,0⟩):Int)=iA from eA3] at hc
 refine Calls.mono hc ?_
 intro e W' hd
 obtain ⟨h1,h2⟩:=hd.bad hbad
 exact ⟨h1,h.later h2⟩
theorem sn_wr2 (W:World) (g cap:Nat) (hcap:1≤cap) (hb:Bk W g #[(1:Int),(2:Int),(3:Int),(0:Int),(1:Int)] 96) (h:SS w0 sb s3 W):Calls Tryz.prog 52 #[.pointer (some ⟨sb,0,none⟩),iA,(3:Int),.slice (some ⟨g,0,none⟩) 1 cap] W fun e W'=>e=ret2 iD 0∧SS w0 sb s4 W':=by
 have hok : ∀ c∈[(⟨1,2,3,0,1⟩:Chg)],okChg 1 c:=fun c hc=>by
  obtain rfl:=List.mem_singleton.1 hc
  exact ⟨by decide,by decide,by decide⟩
 have hc:=twrite_any (N:=1) (by decide) sb (some ⟨g,0,none⟩) cap [⟨1,2,3,0,1⟩] (by decide) hcap 100 gA cellA W (slc1 hb) _ s3 good3 mA3 (fun _=>⟨cellD,by have:=l4;unfold s4 at this;exact Nat.le_trans this (by decide)⟩) h.far h.st
 rw [show (idT s3 (Tr.can gA 1 ⟨0,0,0⟩):Int)=iA from eA3] at hc
 refine Calls.mono hc ?_
 intro e W' hd
 exact SS.done (ts':=s4) (t:=Tr.can gD 1 O3) h (hd.ok hok) (by have:=l4;omega)
theorem sn_graft (W:World) (h:SS w0 sb s3 W):Calls Tryz.prog 53 #[.pointer (some ⟨sb,0,none⟩),iA,(3:Int),.agg #[(4:Int),(0:Int),(0:Int),(3:Int)],iA] W fun e W'=>e=ret2 0 1∧SS w0 sb s3 W':=by
 have hc:=tgraft_bad sb 1 (by decide) iA 4 0 0 3 iA (by unfold partOK;decide) W
 exact Calls.mono hc fun e W' hd=>⟨hd.1,h.later hd.2⟩
theorem sn_diffB (W:World) (h:SS w0 sb s4 W):Calls Tryz.prog 19 #[.pointer (some ⟨sb,0,none⟩),iA,iB,(3:Int)] W fun e W' => ∃ v,e = .returned v∧W'.ownsRow W.heap.size 39 4 v 4 (dcells [(⟨0,0,0⟩,0),(⟨4,0,0⟩,0),(⟨0,4,0⟩,0),(⟨4,4,0⟩,0)])∧Below W.heap.size W W':=by
 have hc:=tdiff_any 100 s4 good4 (by have:=l4;omega) sb 1 (by decide) _ _ mA4 mB4 W _ h.st
 rw [canA,canB,show (⟨0,0,0⟩:Pt)=O3 from rfl,diffAB,←canA,←canB] at hc
 exact hc
theorem sn_diffC (W:World) (h:SS w0 sb s4 W):Calls Tryz.prog 19 #[.pointer (some ⟨sb,0,none⟩),iA,iC,(3:Int)] W fun e W' => ∃ v,e = .returned v∧W'.ownsRow W.heap.size 39 4 v 1 (dcells [(⟨0,0,0⟩,1)])∧Below W.heap.size W W':=by
 have hc:=tdiff_any 100 s4 good4 (by have:=l4;omega) sb 1 (by decide) _ _ mA4 mC4 W _ h.st
 rw [canA,canC,show (⟨0,0,0⟩:Pt)=O3 from rfl,diffAC,←canA,←canC] at hc
 exact hc
theorem sn_count (W:World) (h:SS w0 sb s4 W):Calls Tryz.prog 23 #[.pointer (some ⟨sb,0,none⟩),iB,(3:Int),(5:Int)] W fun e W'=>e = .returned (.int .i64 256)∧Below W.heap.size W W':=by
 have hc:=tcount_any 100 s4 good4 (by have:=l4;omega) sb 1 (by decide) _ mB4 (dep_can gB 1 O3) 5 W _ h.st
 rw [canB,show (⟨0,0,0⟩:Pt)=O3 from rfl,cntB,←canB] at hc
 exact hc
theorem sn_has1 (W:World) (g cap:Nat) (hb:Bk W g #[(1:Int)] 3) (h:SS w0 sb s4 W):Calls Tryz.prog 21 #[.pointer (some ⟨sb,0,none⟩),iD,(3:Int),.agg #[(1:Int),(2:Int),(3:Int),(2:Int),(3:Int),(4:Int)],.slice (some ⟨g,0,none⟩) 1 cap] W fun e W'=>e = .returned (.bool true)∧Below W.heap.size W W':=by
 have hc:=thas_any 100 s4 good4 (by have:=l4;omega) sb 1 (by decide) _ mD4 (dep_can gD 1 O3) 1 2 3 2 3 4 (some ⟨g,0,none⟩) cap [1] (by decide) W (fun i x hi=>by
  cases i with
  | zero=>obtain rfl:=Option.some.inj hi;exact ⟨g,0,rfl,hb.cell 0 rfl⟩
  | succ i=>simp at hi) _ h.st
 rw [canD,show (⟨0,0,0⟩:Pt)=O3 from rfl,hasD,←canD] at hc
 exact hc
theorem sn_has2 (W:World) (g cap:Nat) (hb:Bk W g #[(1:Int),(2:Int)] 3) (h:SS w0 sb s4 W):Calls Tryz.prog 21 #[.pointer (some ⟨sb,0,none⟩),iD,(3:Int),.agg #[(2:Int),(2:Int),(3:Int),(9:Int),(9:Int),(9:Int)],.slice (some ⟨g,0,none⟩) 2 cap] W fun e W'=>e = .returned (.bool false)∧Below W.heap.size W W':=by
 have hc:=thas_any 100 s4 good4 (by have:=l4;omega) sb 1 (by decide) _ mD4 (dep_can gD 1 O3) 2 2 3 9 9 9 (some ⟨g,0,none⟩) cap [1,2] (by decide) W (fun i x hi=>by
  match i,hi with
  | 0,hi=>obtain rfl:=Option.some.inj hi;exact ⟨g,0,rfl,hb.cell 0 rfl⟩
  | 1,hi=>obtain rfl:=Option.some.inj hi;exact ⟨g,0,rfl,hb.cell 1 rfl⟩
  | i+2,hi=>simp at hi) _ h.st
 rw [canD,show (⟨0,0,0⟩:Pt)=O3 from rfl,hasD2,←canD] at hc
 exact hc
theorem sn_nodes (W:World) (h:SS w0 sb s4 W):Calls Tryz.prog 27 #[.pointer (some ⟨sb,0,none⟩),iD] W fun e W' => ∃ v i,e = .returned v∧Own W' W.heap.size 3 .i64 v [i,iA,iD]∧Below W.heap.size W W':=by
 have hc:=tnodes_any 100 s4 good4 (by have:=l4;omega) sb 1 (by decide) _ mD4 (dep_can gD 1 O3) W _ h.st
 refine Calls.mono hc ?_
 rintro e W' ⟨v,rfl,ho,hb⟩
 refine ⟨v,(idT s4 (.brick brD):Int),rfl,?_,hb⟩
 rw [canD,addD] at ho
 simp only [nids,List.map_cons,List.map_nil] at ho
 unfold iA iD
 rw [canA,canD]
 exact ho
theorem sn_paste (W:World) (g cap:Nat) (hcap:1≤cap) (hg:w0.heap.size≤g) (hb:Bk W g #[(1:Int)] 3) (V:World) (hv:SS w0 sb s4 V) (hVW:Below V.heap.size V W) (hgV:V.heap.size≤g):Calls Tryz.prog 55 #[.pointer (some ⟨sb,0,none⟩),iA,(3:Int),.agg #[(1:Int),(2:Int),(3:Int),(2:Int),(3:Int),(4:Int),.slice (some ⟨g,0,none⟩) 1 cap]] W fun e W'=>e=ret2 iD 0∧SS w0 sb s4 W':=by
 have h:=hv.later hVW
 have hS:StoreIs W (fun k=>k<w0.heap.size∨k=g) sb 100 s4:=(hv.st.widen (Far':=fun k=>k<w0.heap.size∨k=g) (fun k hk=>hk.imp (fun h=>h) (fun (e:k=g)=>by omega))).later hVW
 have he:Tr.add (Tr.can gP 1 O3) s4=s4:=by rw [canP];exact Tr.add_same _ _ mD4
 have hc:=tpaste_any (N:=1) (by decide) sb 1 2 3 2 3 4 (some ⟨g,0,none⟩) cap [1] ⟨by decide,by decide,by decide,by decide,by decide,by decide⟩ (by decide) (by decide) hcap 100 gA cellA cellP W (fun i x hi=>by
  cases i with
  | zero=>obtain rfl:=Option.some.inj hi;exact ⟨g,0,rfl,hb.cell 0 rfl⟩
  | succ i => simp at hi) (fun k => k < w0.heap.size ∨ k = g) (fun _ b hb' => .inr (Option.some.inj hb').symm) s4 good4 mA4 (by
    rw [show Tr.can (pasteF 1 ⟨⟨1,2,3⟩,⟨2,3,4⟩⟩ [1] gA) 1 ⟨0,0,0⟩=Tr.can gP 1 O3 from rfl,he];exact Nat.le_trans l4 (by decide)) (fun k hk=>by
    rcases hk with hk | rfl
    · exact h.far k hk
    · exact hb.lt) hS
 refine Calls.mono hc ?_
 intro e W' hd
 rw [show Tr.can (pasteF 1 ⟨⟨1,2,3⟩,⟨2,3,4⟩⟩ [1] gA) 1 ⟨0,0,0⟩=Tr.can gP 1 O3 from rfl,he,canP] at hd
 rcases hd.way with ⟨_,h2,h3⟩ | ⟨hn,_⟩
 · exact ⟨h2,h.bel.trans ⟨hd.keeps.os,hd.keeps.tape,hd.keeps.output,hd.keeps.size,fun k hk'=>hd.keeps.block k (.inl hk') (h.far k hk')⟩,h3.less (fun k hk=>.inl hk)⟩
 · exact absurd (Or.inl rfl) hn
end
section
open Go.RowKit Go.Sort Go.Maps
open Oct
abbrev L4:List (Pt × Nat):=[(⟨0,0,0⟩,0),(⟨4,0,0⟩,0),(⟨0,4,0⟩,0),(⟨4,4,0⟩,0)]
theorem sn_same4 (a a':Option Addr) (cap cap':Nat) (W:World) (hA:SlK W a L4) (hB:SlK W a' L4):Calls Tryz.prog 18 #[.slice a 4 cap,.slice a' 4 cap'] W fun e W'=>e = .returned (.bool true)∧Below W.heap.size W W':=by
 have h:=same_cubes L4 L4 a a' cap cap' W (by decide) (by decide) hA hB
 rw [show decide (L4=L4)=true by simp] at h
 exact h
theorem sn_same1 (a a':Option Addr) (cap cap':Nat) (W:World) (hA:SlK W a [(⟨0,0,0⟩,1)]) (hB:SlK W a' [(⟨0,0,0⟩,1)]):Calls Tryz.prog 18 #[.slice a 1 cap,.slice a' 1 cap'] W fun e W'=>e = .returned (.bool true)∧Below W.heap.size W W':=by
 have h:=same_cubes [(⟨0,0,0⟩,1)] [(⟨0,0,0⟩,1)] a a' cap cap' W (by decide) (by decide) hA hB
 rw [show decide (([(⟨0,0,0⟩,1)]:List (Pt × Nat))=[(⟨0,0,0⟩,1)])=true by simp] at h
 exact h
theorem sn_cubes4 (g cap:Nat) (W:World) (hb:Bk W g #[(0:Int),(0:Int),(0:Int),(4:Int),(0:Int),(0:Int),(0:Int),(4:Int),(0:Int),(4:Int),(4:Int),(0:Int)] 23):Calls Tryz.prog 54 #[(2:Int),.slice (some ⟨g,0,none⟩) 4 cap] W fun e W' => ∃ a c,e = .returned (.slice a 4 c)∧SlK W' a L4∧Below W.heap.size W W':=by
 refine Calls.mono (cubes_any 0 [⟨0,0,0⟩,⟨4,0,0⟩,⟨0,4,0⟩,⟨4,4,0⟩] (some ⟨g,0,none⟩) cap W (by decide) (fun i x hi=>?_)) ?_
 · match i,hi with
   | 0,hi=>obtain rfl:=Option.some.inj hi;exact ⟨g,0,rfl,hb.cell 0 rfl,hb.cell 1 rfl,hb.cell 2 rfl⟩
   | 1,hi=>obtain rfl:=Option.some.inj hi;exact ⟨g,0,rfl,hb.cell 3 rfl,hb.cell 4 rfl,hb.cell 5 rfl⟩
   | 2,hi=>obtain rfl:=Option.some.inj hi;exact ⟨g,0,rfl,hb.cell 6 rfl,hb.cell 7 rfl,hb.cell 8 rfl⟩
   | 3,hi=>obtain rfl:=Option.some.inj hi;exact ⟨g,0,rfl,hb.cell 9 rfl,hb.cell 10 rfl,hb.cell 11 rfl⟩
   | i+4,hi=>simp at hi
 · rintro e W' ⟨v,rfl,ho,hb'⟩
   obtain ⟨a,c,rfl,hs⟩:=own_slk (l:=L4) ho
   exact ⟨a,c,rfl,hs,hb'⟩
theorem sn_cubes1 (g cap:Nat) (W:World) (hb:Bk W g #[(0:Int),(0:Int),(0:Int)] 23):Calls Tryz.prog 54 #[(3:Int),.slice (some ⟨g,0,none⟩) 1 cap] W fun e W' => ∃ a c,e = .returned (.slice a 1 c)∧SlK W' a [(⟨0,0,0⟩,1)]∧Below W.heap.size W W':=by
 refine Calls.mono (cubes_any 1 [⟨0,0,0⟩] (some ⟨g,0,none⟩) cap W (by decide) (fun i x hi=>?_)) ?_
 · match i,hi with
   | 0,hi=>obtain rfl:=Option.some.inj hi;exact ⟨g,0,rfl,hb.cell 0 rfl,hb.cell 1 rfl,hb.cell 2 rfl⟩
   | i+1,hi=>simp at hi
 · rintro e W' ⟨v,rfl,ho,hb'⟩
   obtain ⟨a,c,rfl,hs⟩:=own_slk (l:=[(⟨0,0,0⟩,1)]) ho
   exact ⟨a,c,rfl,hs,hb'⟩
theorem blit (W:World) (o:Obj):Below W.heap.size W (W.alloc o):=(Below.refl _ _).alloc (Nat.le_refl _) _
set_option maxRecDepth 100000 in
set_option maxHeartbeats 4000000 in
theorem sanity10_true (w:World):Calls Tryz.prog 10 #[] w fun e w'=>e = .returned (.bool true)∧Below w.heap.size w w':=by
 have hat:=Bx.mk (fun X Y Z W=>at10_any X Y Z W)
 have hbx:=Bx.mk (fun x y z x2 y2 z2 W=>lbox_any x y z x2 y2 z2 W)
 go_enter Tryz.func10,Tryz.ntmps10
 go_wp2_with fail
 refine (newStore_any 100 _).mono ?_
 rintro _ w1 ⟨sb,rfl,hS1,hb1⟩
 have HS:Bx (SS w sb [] w1):=⟨⟨hb1,hS1⟩⟩
 clear hS1 hb1
 have HKB:=Bx.mk fun W (h:SS w sb s2 W)=>kindV_any _ sb 100 s2 _ mB2 (by have:=l2;omega) W h.st
 have HKC:=Bx.mk fun W (h:SS w sb s4 W)=>kindV_any _ sb 100 s4 _ mC4 (by have:=l4;omega) W h.st
 rw [eB2,canB,show kindV tB=3 from rfl] at HKB
 rw [show (idT s4 (Tr.can gC 1 O3):Int)=iC from rfl,canC,show kindV (.uni 5)=1 from rfl] at HKC
 go_wp2_with fail
 refine (sn_uni _ HS.out).mono ?_
 rintro _ w2 ⟨rfl,hs⟩
 replace HS:=Bx.mk hs
 clear hs
 go_wp2_with (first | (go_at_call 51;refine (hat.out _ _ _ _).mono ?_;rintro _ w3 ⟨rfl,hb3⟩;have HS3:=Bx.mk (HS.out.later hb3);clear hb3 HS;have HS:=HS3;clear HS3) | (go_at_call 50;refine (hbx.out _ _ _ _ _ _ _).mono ?_;rintro _ w3 ⟨rfl,hb3⟩;have HS3:=Bx.mk (HS.out.later hb3);clear hb3 HS;have HS:=HS3;clear HS3))
 refine (sn_fillB _ HS.out).mono ?_
 rintro _ w2 ⟨rfl,hs⟩
 replace HS:=Bx.mk hs
 clear hs
 go_wp2_with (first | (go_at_call 51;refine (hat.out _ _ _ _).mono ?_;rintro _ w3 ⟨rfl,hb3⟩;have HS3:=Bx.mk (HS.out.later hb3);clear hb3 HS;have HS:=HS3;clear HS3) | (go_at_call 50;refine (hbx.out _ _ _ _ _ _ _).mono ?_;rintro _ w3 ⟨rfl,hb3⟩;have HS3:=Bx.mk (HS.out.later hb3);clear hb3 HS;have HS:=HS3;clear HS3))
 refine (HKB.out _ HS.out).mono ?_
 rintro _ _ ⟨rfl,rfl⟩
 go_wp2_with (first | (go_at_call 51;refine (hat.out _ _ _ _).mono ?_;rintro _ w3 ⟨rfl,hb3⟩;have HS3:=Bx.mk (HS.out.later hb3);clear hb3 HS;have HS:=HS3;clear HS3) | (go_at_call 50;refine (hbx.out _ _ _ _ _ _ _).mono ?_;rintro _ w3 ⟨rfl,hb3⟩;have HS3:=Bx.mk (HS.out.later hb3);clear hb3 HS;have HS:=HS3;clear HS3))
 refine (sn_fillC _ HS.out).mono ?_
 rintro _ w2 ⟨rfl,hs⟩
 replace HS:=Bx.mk hs
 clear hs
 go_wp2_with (first | (go_at_call 51;refine (hat.out _ _ _ _).mono ?_;rintro _ w3 ⟨rfl,hb3⟩;have HS3:=Bx.mk (HS.out.later hb3);clear hb3 HS;have HS:=HS3;clear HS3) | (go_at_call 50;refine (hbx.out _ _ _ _ _ _ _).mono ?_;rintro _ w3 ⟨rfl,hb3⟩;have HS3:=Bx.mk (HS.out.later hb3);clear hb3 HS;have HS:=HS3;clear HS3))
 refine (sn_wr1 _ _ _ (Nat.le_refl _) (Bk.new _ _ _) (HS.out.later (blit _ _))).mono ?_
 rintro _ w2 ⟨rfl,hs⟩
 replace HS:=Bx.mk hs
 clear hs
 go_wp2_with (first | (go_at_call 51;refine (hat.out _ _ _ _).mono ?_;rintro _ w3 ⟨rfl,hb3⟩;have HS3:=Bx.mk (HS.out.later hb3);clear hb3 HS;have HS:=HS3;clear HS3) | (go_at_call 50;refine (hbx.out _ _ _ _ _ _ _).mono ?_;rintro _ w3 ⟨rfl,hb3⟩;have HS3:=Bx.mk (HS.out.later hb3);clear hb3 HS;have HS:=HS3;clear HS3))
 refine (sn_graft _ HS.out).mono ?_
 rintro _ w2 ⟨rfl,hs⟩
 replace HS:=Bx.mk hs
 clear hs
 go_wp2_with (first | (go_at_call 51;refine (hat.out _ _ _ _).mono ?_;rintro _ w3 ⟨rfl,hb3⟩;have HS3:=Bx.mk (HS.out.later hb3);clear hb3 HS;have HS:=HS3;clear HS3) | (go_at_call 50;refine (hbx.out _ _ _ _ _ _ _).mono ?_;rintro _ w3 ⟨rfl,hb3⟩;have HS3:=Bx.mk (HS.out.later hb3);clear hb3 HS;have HS:=HS3;clear HS3))
 refine (sn_wr2 _ _ _ (Nat.le_refl _) (Bk.new _ _ _) (HS.out.later (blit _ _))).mono ?_
 rintro _ w2 ⟨rfl,hs⟩
 replace HS:=Bx.mk hs
 clear hs
 go_wp2_with (first | (go_at_call 51;refine (hat.out _ _ _ _).mono ?_;rintro _ w3 ⟨rfl,hb3⟩;have HS3:=Bx.mk (HS.out.later hb3);clear hb3 HS;have HS:=HS3;clear HS3) | (go_at_call 50;refine (hbx.out _ _ _ _ _ _ _).mono ?_;rintro _ w3 ⟨rfl,hb3⟩;have HS3:=Bx.mk (HS.out.later hb3);clear hb3 HS;have HS:=HS3;clear HS3))
 refine (sn_diffB _ HS.out).mono ?_
 rintro _ wd ⟨v,rfl,ho,hb⟩
 obtain ⟨da,dc,rfl,hsl⟩:=own_slk (l:=L4) ho
 replace HS:=Bx.mk (HS.out.later hb)
 have HD:=Bx.mk hsl
 have HBd:Bx (Below wd.heap.size wd wd):=⟨Below.refl _ _⟩
 clear hb hsl ho
 go_wp2_with (first | (go_at_call 51;refine (hat.out _ _ _ _).mono ?_;rintro _ w3 ⟨rfl,hb3⟩;have HS3:=Bx.mk (HS.out.later hb3);have HBd3:=Bx.mk (HBd.out.trans (hb3.mono HBd.out.size));clear HBd;have HBd:=HBd3;clear HBd3;clear hb3 HS;have HS:=HS3;clear HS3) | (go_at_call 50;refine (hbx.out _ _ _ _ _ _ _).mono ?_;rintro _ w3 ⟨rfl,hb3⟩;have HS3:=Bx.mk (HS.out.later hb3);have HBd3:=Bx.mk (HBd.out.trans (hb3.mono HBd.out.size));clear HBd;have HBd:=HBd3;clear HBd3;clear hb3 HS;have HS:=HS3;clear HS3))
 refine (sn_cubes4 _ _ _ (Bk.new _ _ _)).mono ?_
 rintro _ wc ⟨ea,ec,rfl,hsk,hb⟩
 replace HS:=Bx.mk ((HS.out.later (blit _ _)).later hb)
 have HDA:=Bx.mk (HD.out.below (HBd.out.trans (((blit _ _).trans (hb.mono (blit _ _).size)).mono HBd.out.size)))
 have HDB:=Bx.mk hsk
 clear hb hsk HD HBd
 go_wp2_with (first | (go_at_call 51;refine (hat.out _ _ _ _).mono ?_;rintro _ w3 ⟨rfl,hb3⟩;have HS3:=Bx.mk (HS.out.later hb3);clear hb3 HS;have HS:=HS3;clear HS3) | (go_at_call 50;refine (hbx.out _ _ _ _ _ _ _).mono ?_;rintro _ w3 ⟨rfl,hb3⟩;have HS3:=Bx.mk (HS.out.later hb3);clear hb3 HS;have HS:=HS3;clear HS3))
 refine (sn_same4 _ _ _ _ _ HDA.out HDB.out).mono ?_
 rintro _ ws ⟨rfl,hb⟩
 replace HS:=Bx.mk (HS.out.later hb)
 clear hb HDA HDB
 go_wp2_with (first | (go_at_call 51;refine (hat.out _ _ _ _).mono ?_;rintro _ w3 ⟨rfl,hb3⟩;have HS3:=Bx.mk (HS.out.later hb3);clear hb3 HS;have HS:=HS3;clear HS3) | (go_at_call 50;refine (hbx.out _ _ _ _ _ _ _).mono ?_;rintro _ w3 ⟨rfl,hb3⟩;have HS3:=Bx.mk (HS.out.later hb3);clear hb3 HS;have HS:=HS3;clear HS3))
 refine (sn_count _ HS.out).mono ?_
 rintro _ wn ⟨rfl,hb⟩
 replace HS:=Bx.mk (HS.out.later hb)
 clear hb
 go_wp2_with (first | (go_at_call 51;refine (hat.out _ _ _ _).mono ?_;rintro _ w3 ⟨rfl,hb3⟩;have HS3:=Bx.mk (HS.out.later hb3);clear hb3 HS;have HS:=HS3;clear HS3) | (go_at_call 50;refine (hbx.out _ _ _ _ _ _ _).mono ?_;rintro _ w3 ⟨rfl,hb3⟩;have HS3:=Bx.mk (HS.out.later hb3);clear hb3 HS;have HS:=HS3;clear HS3))
 refine (sn_diffC _ HS.out).mono ?_
 rintro _ wd ⟨v,rfl,ho,hb⟩
 obtain ⟨da,dc,rfl,hsl⟩:=own_slk (l:=[(⟨0,0,0⟩,1)]) ho
 replace HS:=Bx.mk (HS.out.later hb)
 have HD:=Bx.mk hsl
 have HBd:Bx (Below wd.heap.size wd wd):=⟨Below.refl _ _⟩
 clear hb hsl ho
 go_wp2_with (first | (go_at_call 51;refine (hat.out _ _ _ _).mono ?_;rintro _ w3 ⟨rfl,hb3⟩;have HS3:=Bx.mk (HS.out.later hb3);have HBd3:=Bx.mk (HBd.out.trans (hb3.mono HBd.out.size));clear HBd;have HBd:=HBd3;clear HBd3;clear hb3 HS;have HS:=HS3;clear HS3) | (go_at_call 50;refine (hbx.out _ _ _ _ _ _ _).mono ?_;rintro _ w3 ⟨rfl,hb3⟩;have HS3:=Bx.mk (HS.out.later hb3);have HBd3:=Bx.mk (HBd.out.trans (hb3.mono HBd.out.size));clear HBd;have HBd:=HBd3;clear HBd3;clear hb3 HS;have HS:=HS3;clear HS3))
 refine (sn_cubes1 _ _ _ (Bk.new _ _ _)).mono ?_
 rintro _ wc ⟨ea2,ec2,rfl,hsk,hb⟩
 replace HS:=Bx.mk ((HS.out.later (blit _ _)).later hb)
 have HDA:=Bx.mk (HD.out.below (HBd.out.trans (((blit _ _).trans (hb.mono (blit _ _).size)).mono HBd.out.size)))
 have HDB:=Bx.mk hsk
 clear hb hsk HD HBd
 go_wp2_with (first | (go_at_call 51;refine (hat.out _ _ _ _).mono ?_;rintro _ w3 ⟨rfl,hb3⟩;have HS3:=Bx.mk (HS.out.later hb3);clear hb3 HS;have HS:=HS3;clear HS3) | (go_at_call 50;refine (hbx.out _ _ _ _ _ _ _).mono ?_;rintro _ w3 ⟨rfl,hb3⟩;have HS3:=Bx.mk (HS.out.later hb3);clear hb3 HS;have HS:=HS3;clear HS3))
 refine (sn_same1 _ _ _ _ _ HDA.out HDB.out).mono ?_
 rintro _ ws ⟨rfl,hb⟩
 replace HS:=Bx.mk (HS.out.later hb)
 clear hb HDA HDB
 go_wp2_with (first | (go_at_call 51;refine (hat.out _ _ _ _).mono ?_;rintro _ w3 ⟨rfl,hb3⟩;have HS3:=Bx.mk (HS.out.later hb3);clear hb3 HS;have HS:=HS3;clear HS3) | (go_at_call 50;refine (hbx.out _ _ _ _ _ _ _).mono ?_;rintro _ w3 ⟨rfl,hb3⟩;have HS3:=Bx.mk (HS.out.later hb3);clear hb3 HS;have HS:=HS3;clear HS3))
 refine (HKC.out _ HS.out).mono ?_
 rintro _ _ ⟨rfl,rfl⟩
 go_wp2_with (first | (go_at_call 51;refine (hat.out _ _ _ _).mono ?_;rintro _ w3 ⟨rfl,hb3⟩;have HS3:=Bx.mk (HS.out.later hb3);clear hb3 HS;have HS:=HS3;clear HS3) | (go_at_call 50;refine (hbx.out _ _ _ _ _ _ _).mono ?_;rintro _ w3 ⟨rfl,hb3⟩;have HS3:=Bx.mk (HS.out.later hb3);clear hb3 HS;have HS:=HS3;clear HS3))
 refine (sn_has1 _ _ _ (Bk.new _ _ _) (HS.out.later (blit _ _))).mono ?_
 rintro _ wn ⟨rfl,hb⟩
 replace HS:=Bx.mk ((HS.out.later (blit _ _)).later hb)
 clear hb
 go_wp2_with (first | (go_at_call 51;refine (hat.out _ _ _ _).mono ?_;rintro _ w3 ⟨rfl,hb3⟩;have HS3:=Bx.mk (HS.out.later hb3);clear hb3 HS;have HS:=HS3;clear HS3) | (go_at_call 50;refine (hbx.out _ _ _ _ _ _ _).mono ?_;rintro _ w3 ⟨rfl,hb3⟩;have HS3:=Bx.mk (HS.out.later hb3);clear hb3 HS;have HS:=HS3;clear HS3))
 refine (sn_has2 _ _ _ (Bk.new _ _ _) (HS.out.later (blit _ _))).mono ?_
 rintro _ wn ⟨rfl,hb⟩
 replace HS:=Bx.mk ((HS.out.later (blit _ _)).later hb)
 clear hb
 go_wp2_with (first | (go_at_call 51;refine (hat.out _ _ _ _).mono ?_;rintro _ w3 ⟨rfl,hb3⟩;have HS3:=Bx.mk (HS.out.later hb3);clear hb3 HS;have HS:=HS3;clear HS3) | (go_at_call 50;refine (hbx.out _ _ _ _ _ _ _).mono ?_;rintro _ w3 ⟨rfl,hb3⟩;have HS3:=Bx.mk (HS.out.later hb3);clear hb3 HS;have HS:=HS3;clear HS3))
 refine (sn_paste _ _ _ (Nat.le_refl _) HS.out.bel.size (Bk.new _ _ _) _ HS.out (blit _ _) (Nat.le_refl _)).mono ?_
 rintro _ w2 ⟨rfl,hs⟩
 replace HS:=Bx.mk hs
 clear hs
 go_wp2_with (first | (go_at_call 51;refine (hat.out _ _ _ _).mono ?_;rintro _ w3 ⟨rfl,hb3⟩;have HS3:=Bx.mk (HS.out.later hb3);clear hb3 HS;have HS:=HS3;clear HS3) | (go_at_call 50;refine (hbx.out _ _ _ _ _ _ _).mono ?_;rintro _ w3 ⟨rfl,hb3⟩;have HS3:=Bx.mk (HS.out.later hb3);clear hb3 HS;have HS:=HS3;clear HS3))
 refine (sn_nodes _ HS.out).mono ?_
 rintro _ wn ⟨v,i,rfl,ho,hb⟩
 replace HS:=Bx.mk (HS.out.later hb)
 obtain ⟨na,nc,rfl,hsl⟩:=ho.form
 obtain ⟨nb,no,rfl,c0⟩:=hsl 0 _ rfl
 have c1:=own_cell ho (j:=1) rfl
 have c2:=own_cell ho (j:=2) rfl
 clear hb ho hsl c0
 go_wp2_with fail
 go_ret
 exact ⟨rfl,HS.out.bel⟩
end
section
open Go.RowKit Go.Sort Go.Maps
open Oct
noncomputable def kidX (ts:List Tr) (ch:Fin 8→Tr) (k:Nat):Int:=if h:k<8 then (idT ts (ch ⟨k,h⟩):Int) else 0
structure DsI (w:World) (Far:Nat→Prop) (sb:Nat) (most:Int) (ts:List Tr) (ch:Fin 8→Tr) (gc g:Nat) (wr:World):Prop where
 st:StoreIs wr Far sb most ts
 bel:Below w.heap.size w wr
 kc:Bk wr gc #[.int .i64 (kidX ts ch 0),.int .i64 (kidX ts ch 1),.int .i64 (kidX ts ch 2),.int .i64 (kidX ts ch 3),.int .i64 (kidX ts ch 4),.int .i64 (kidX ts ch 5),.int .i64 (kidX ts ch 6),.int .i64 (kidX ts ch 7)] 108
 kids:Slv wr (some ⟨g,0,none⟩) (strs (kidsE ch))
theorem DsI.later {w wr w':World} {Far:Nat→Prop} {sb gc g:Nat} {most:Int} {ts:List Tr} {ch:Fin 8→Tr} (h:DsI w Far sb most ts ch gc g wr) (hb:Below wr.heap.size wr w'):DsI w Far sb most ts ch gc g w' :=
 ⟨h.st.later hb,h.bel.trans (hb.mono h.bel.size),h.kc.later hb,h.kids.below hb⟩
end
section
open Go.RowKit Go.Sort Go.Maps
open Oct
theorem ref_list (px py pz:Int) (w:World) :
 Calls Tryz.prog 139 #[.agg #[px,py,pz]] w fun e w'=>e = .returned (.agg #[px,py,pz])∧Below w.heap.size w w':=by
 go_enter Tryz.func139,Tryz.ntmps139
 go_wp2_with fail
 generalize hW:World.alloc (World.alloc w _) _=W
 have hB:=bl2 hW
 have kp:Bk W (w.heap.size) #[px,py,pz] 23:=bk1 hW
 have kr:Bk W (w.heap.size+1) #[px,py,pz] 173:=bk0 hW
 clear hW
 exact bodyPost_ret (v:=.agg #[px,py,pz]) (results_cell_row rfl _ _ _ 173 #[px,py,pz] (0,0) _ rfl kr Tryz.underlying173 rfl (by kernel_rfl)) rfl ⟨rfl,hB⟩
theorem ref_of (px py pz:Int) (w:World) :
 Calls Tryz.prog 140 #[.agg #[px,py,pz]] w fun e w'=>e = .returned (.agg #[px,py,pz])∧Below w.heap.size w w':=by
 go_enter Tryz.func140,Tryz.ntmps140
 go_wp2_with fail
 generalize hW:World.alloc (World.alloc w _) _=W
 have hB:=bl2 hW
 have kp:Bk W (w.heap.size) #[px,py,pz] 173:=bk1 hW
 have kr:Bk W (w.heap.size+1) #[px,py,pz] 23:=bk0 hW
 clear hW
 exact bodyPost_ret (v:=.agg #[px,py,pz]) (results_cell_row rfl _ _ _ 23 #[px,py,pz] (0,0) _ rfl kr Tryz.underlying23 rfl (by kernel_rfl)) rfl ⟨rfl,hB⟩
theorem ref_near (n:Int) (w:World):Calls Tryz.prog 66 #[n] w fun e w'=>e = .returned (.bool (okC n))∧w=w':=by
 by_cases h0 : -1048575≤n
 · by_cases h1:n≤1048575
   · have t0:decide (-1048575≤n)=true:=by simpa using h0
     have t1:decide (n≤1048575)=true:=by simpa using h1
     have hr:okC n=true:=by unfold okC;exact decide_eq_true ⟨h0,h1⟩
     rw [hr]
     clear hr
     go_enter Tryz.func66,Tryz.ntmps66
     go_wp2_with fail
     go_ret
     exact ⟨rfl,rfl⟩
   · have t0:decide (-1048575≤n)=true:=by simpa using h0
     have t1:decide (n≤1048575)=false:=by simpa using h1
     have hr:okC n=false:=by unfold okC;exact decide_eq_false fun h=>h1 h.2
     rw [hr]
     clear hr
     go_enter Tryz.func66,Tryz.ntmps66
     go_wp2_with fail
     go_ret
     exact ⟨rfl,rfl⟩
 · have t0:decide (-1048575≤n)=false:=by simpa using h0
   have hr:okC n=false:=by unfold okC;exact decide_eq_false fun h=>h0 h.1
   rw [hr]
   clear hr
   go_enter Tryz.func66,Tryz.ntmps66
   go_wp2_with fail
   go_ret
   exact ⟨rfl,rfl⟩
theorem ref_mat (n:Int) (w:World):Calls Tryz.prog 107 #[n] w fun e w'=>e = .returned (.bool (Pal.cell n))∧w=w':=by
 rw [Pal.cell_eq]
 by_cases h0:0≤n
 · by_cases h1:n<256
   · have t0:decide (0≤n)=true:=by simpa using h0
     have t1:decide (n<256)=true:=by simpa using h1
     have hr:decide (0≤n∧n≤255)=true:=decide_eq_true ⟨h0,by omega⟩
     rw [hr]
     clear hr
     go_enter Tryz.func107,Tryz.ntmps107
     go_wp2_with fail
     go_ret
     exact ⟨rfl,rfl⟩
   · have t0:decide (0≤n)=true:=by simpa using h0
     have t1:decide (n<256)=false:=by simpa using h1
     have hr:decide (0≤n∧n≤255)=false:=decide_eq_false fun h=>h1 (by omega)
     rw [hr]
     clear hr
     go_enter Tryz.func107,Tryz.ntmps107
     go_wp2_with fail
     go_ret
     exact ⟨rfl,rfl⟩
 · have t0:decide (0≤n)=false:=by simpa using h0
   have hr:decide (0≤n∧n≤255)=false:=decide_eq_false fun h=>h0 h.1
   rw [hr]
   clear hr
   go_enter Tryz.func107,Tryz.ntmps107
   go_wp2_with fail
   go_ret
   exact ⟨rfl,rfl⟩
theorem ref_ranged (px py pz:Int) (w:World):Calls Tryz.prog 17 #[.agg #[px,py,pz]] w fun e w'=>e = .returned (.bool (okP ⟨px,py,pz⟩))∧Below w.heap.size w w':=by
 have h0:=Bx.mk fun W=>ref_near px W
 have h1:=Bx.mk fun W=>ref_near py W
 have h2:=Bx.mk fun W=>ref_near pz W
 have hr:=Bx.mk (show okP ⟨px,py,pz⟩=(okC px && okC py && okC pz) from rfl)
 generalize okC px=x at *
 generalize okC py=y at *
 generalize okC pz=z at *
 cases x with
 | false =>
   go_enter Tryz.func17,Tryz.ntmps17
   go_wp2_with fail
   refine (h0.out _).mono ?_
   rintro _ _ ⟨rfl,rfl⟩
   go_wp2_with fail
   go_ret
   exact ⟨by rw [hr.out];rfl,(Below.refl _ _).alloc (Nat.le_refl _) _⟩
 | true =>
   cases y with
   | false =>
     go_enter Tryz.func17,Tryz.ntmps17
     go_wp2_with fail
     refine (h0.out _).mono ?_
     rintro _ _ ⟨rfl,rfl⟩
     go_wp2_with fail
     refine (h1.out _).mono ?_
     rintro _ _ ⟨rfl,rfl⟩
     go_wp2_with fail
     go_ret
     exact ⟨by rw [hr.out];rfl,(Below.refl _ _).alloc (Nat.le_refl _) _⟩
   | true =>
     go_enter Tryz.func17,Tryz.ntmps17
     go_wp2_with fail
     refine (h0.out _).mono ?_
     rintro _ _ ⟨rfl,rfl⟩
     go_wp2_with fail
     refine (h1.out _).mono ?_
     rintro _ _ ⟨rfl,rfl⟩
     go_wp2_with fail
     refine (h2.out _).mono ?_
     rintro _ _ ⟨rfl,rfl⟩
     go_wp2_with fail
     go_ret
     exact ⟨by rw [hr.out];rfl,(Below.refl _ _).alloc (Nat.le_refl _) _⟩
end
end Go.Proofs.YtfcbajmjaifjlaaGreat
