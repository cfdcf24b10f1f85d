/- Stf, Stg, Stc, Std, Ste, Stn, Cvp, Td1, Cv1: joined by program, for one claim. -/
import Derived.Test.YtfcbajmjaifjlaaGreatMr
import Derived.Test.YtfcbajmjaifjlaaGreatM40
import Derived.Test.YtfcbajmjaifjlaaGreatM18
import Derived.Test.YtfcbajmjaifjlaaGreatM31
import Derived.Test.YtfcbajmjaifjlaaGreatM28
import Derived.Test.YtfcbajmjaifjlaaGreatM7
import Derived.Test.YtfcbajmjaifjlaaGreatM17
import Derived.BigQuiet
import Derived.Test.YtfcbajmjaifjlaaGreatM20
import Derived.Test.YtfcbajmjaifjlaaGreatM26
import Derived.Test.YtfcbajmjaifjlaaGreatM39
import Derived.Test.YtfcbajmjaifjlaaGreatM16
import Derived.Test.YtfcbajmjaifjlaaGreatM33
import Derived.Deep.MidRow
import Derived.Deep.WholeRow
set_option linter.unusedVariables false
set_option linter.unusedSimpArgs false
namespace Go.Proofs.YtfcbajmjaifjlaaGreat
section
open Go.RowKit Go.Sort Go.Maps
open Oct
noncomputable def copyF (F:Pt→Int) (m:Nat) (d:Pt) (T:Tr) (c:Pt):Pt→Int :=
 open Classical in fun p=>if Tr.InC m d p then (match T with | .uni k=>k | _=>F ⟨p.x - d.x+c.x,p.y - d.y+c.y,p.z - d.z+c.z⟩) else F p
open Classical in
noncomputable def stepF (N:Nat) (F:Pt→Int) (s:Stp):Option (Pt→Int) :=
 if s.kd=1 then (if 0≤s.cell∧s.cell≤255 then some (fillF N s.b s.cell F) else none)
 else if s.kd=2 then some (pasteF N s.g s.ys F)
 else if s.kd=3 then (if ∀ c∈s.cs,okChg N c then some (writeF (pts s.cs) F) else none)
 else if partOK N s.c.x s.c.y s.c.z s.cl∧partOK N s.d.x s.d.y s.d.z s.dl∧fitsAt (Tr.can F (s.cl.toNat - 2) s.c) s.dl then some (copyF F (s.dl.toNat - 2) s.d (Tr.can F (s.cl.toNat - 2) s.c) s.c) else none
theorem Done.before {Far:Nat→Prop} {sb:Nat} {most:Int} {ts ts':List Tr} {t:Tr} {w W W':World} {e:Ending} (hb:Below w.heap.size w W) (h:Done Far sb most ts ts' t W e W'):Done Far sb most ts ts' t w e W' :=
 ⟨(Keeps.below hb).trans h.keeps,Nat.le_trans hb.size h.size,h.way⟩
structure PlayR (Far:Nat→Prop) (sb:Nat) (most:Int) (ts:List Tr) (N:Nat) (F:Pt→Int) (s:Stp) (w:World) (e:Ending) (W':World):Prop where
 yes : ∀ F',stepF N F s=some F'→Done Far sb most ts (addn N F' ts) (trF N F') w e W'
 no:stepF N F s=none→e=ret2 0 1∧Below w.heap.size w W'
theorem PlayR.pair {Far:Nat→Prop} {sb:Nat} {most:Int} {ts:List Tr} {N:Nat} {F:Pt→Int} {s:Stp} {w:World} (e:Ending) (W':World) (h:PlayR Far sb most ts N F s w e W') : ∃ a b:Int,e=ret2 a b:=by
 cases hs:stepF N F s with
 | none=>exact ⟨0,1,(h.no hs).1⟩
 | some F' =>
   rcases (h.yes F' hs).way with ⟨_,h2,_⟩ | ⟨_,h2,_⟩
   · exact ⟨_,_,h2⟩
   · exact ⟨_,_,h2⟩
theorem PlayR.of_some {Far:Nat→Prop} {sb:Nat} {most:Int} {ts:List Tr} {N:Nat} {F F':Pt→Int} {s:Stp} {w:World} {e:Ending} {W':World} (hs:stepF N F s=some F') (h:Done Far sb most ts (addn N F' ts) (trF N F') w e W'):PlayR Far sb most ts N F s w e W' :=
 ⟨fun F2 h2=>by rw [hs] at h2;obtain rfl:=Option.some.inj h2;exact h,fun h2=>by rw [hs] at h2;cases h2⟩
theorem PlayR.of_none {Far:Nat→Prop} {sb:Nat} {most:Int} {ts:List Tr} {N:Nat} {F:Pt→Int} {s:Stp} {w:World} {e:Ending} {W':World} (hs:stepF N F s=none) (h:e=ret2 0 1∧Below w.heap.size w W'):PlayR Far sb most ts N F s w e W' :=
 ⟨fun F2 h2=>(by rw [hs] at h2;cases h2),fun _=>h⟩
theorem play_s123 {N:Nat} (hN:N≤12) (F:Pt→Int) (hF:FnC N F) (s:Stp) (h123:s.kd=1∨s.kd=2∨s.kd=3) (hfew:fewS N s=true) (sb:Nat) (most:Int) (ts:List Tr) (hG:Good ts) (ht:trF N F∈ts) (hlen : ∀ F',stepF N F s=some F'→(addn N F' ts).length≤4000000) (w:World) (hok:StpOk w s) (Far:Nat→Prop) (hfx:s.ys ≠ [] → ∀ b,s.ga.map (·.block)=some b→Far b) (hFar : ∀ k,Far k→k<w.heap.size) (hS:StoreIs w Far sb most ts) :
 Calls Tryz.prog 13 #[.pointer (some ⟨sb,0,none⟩),.int .i64 (idn ts N F),.int .i64 ((N:Int)+2),.agg s.arr] w (PlayR Far sb most ts N F s w):=by
 simp only [fewS,Bool.and_eq_true,decide_eq_true_eq] at hfew
 obtain ⟨f1,f2,f3,-⟩:=hfew
 have hfar : ∀ W,Below w.heap.size w W → ∀ k,Far k→k<W.heap.size:=fun W hb k hk=>Nat.lt_of_lt_of_le (hFar k hk) hb.size
 rcases h123 with hk | hk | hk
 · refine play_1 sb (idn ts N F) ((N:Int)+2) s.kd s.b.lo.x s.b.lo.y s.b.lo.z s.b.hi.x s.b.hi.y s.b.hi.z s.cell _ _ _ _ _ _ _ _ _ _ _ _ _ _ _ _ _ _ _ _ hk w _ PlayR.pair (fun W hb=>?_)
   by_cases hc:0≤s.cell∧s.cell≤255
   · have hs:stepF N F s=some (fillF N s.b s.cell F):=by unfold stepF;rw [if_pos hk,if_pos hc]
     have h:=fillbox_any hN sb s.b.lo.x s.b.lo.y s.b.lo.z s.b.hi.x s.b.hi.y s.b.hi.z s.cell hc most F hF.range (fillF_fn hF hc).range W Far ts hG ht (hlen _ hs) (hfar W hb) (hS.later hb)
     exact Calls.mono h fun e W' hd=>.of_some hs (hd.before hb)
   · have hs:stepF N F s=none:=by unfold stepF;rw [if_pos hk,if_neg hc]
     exact Calls.mono (fillbox_bad sb _ _ _ _ _ _ _ _ s.cell hc W) fun e W' hd=>.of_none hs ⟨hd.1,hb.trans (hd.2.mono hb.size)⟩
 · refine play_2 sb (idn ts N F) ((N:Int)+2) s.kd _ _ _ _ _ _ _ s.g.lo.x s.g.lo.y s.g.lo.z s.g.hi.x s.g.hi.y s.g.hi.z s.ga s.ys.length s.gc _ _ _ _ _ _ _ _ _ _ _ hk w _ PlayR.pair (fun W hb=>?_)
   have hs:stepF N F s=some (pasteF N s.g s.ys F):=by unfold stepF;rw [if_neg (by omega),if_pos hk]
   have HX:=goodG_of (hcp:=s.gc) f3 f1 hok.yc
   have h:=tpaste_any hN sb s.g.lo.x s.g.lo.y s.g.lo.z s.g.hi.x s.g.hi.y s.g.hi.z s.ga s.gc s.ys HX.small HX.len (by omega) hok.yc most F hF.range (pasteF_fn HX hF).range W (hok.ys.below hb) Far hfx ts hG ht (hlen _ hs) (hfar W hb) (hS.later hb)
   exact Calls.mono h fun e W' hd=>.of_some hs (hd.before hb)
 · refine play_3 sb (idn ts N F) ((N:Int)+2) s.kd _ _ _ _ _ _ _ _ _ _ _ _ _ _ _ _ s.la s.cs.length s.lc _ _ _ _ _ _ _ _ hk w _ PlayR.pair (fun W hb=>?_)
   by_cases hc : ∀ c∈s.cs,okChg N c
   · have hs:stepF N F s=some (writeF (pts s.cs) F):=by unfold stepF;rw [if_neg (by omega),if_neg (by omega),if_pos hk,if_pos hc]
     have h:=twrite_any hN sb s.la s.lc s.cs (by omega) hok.cc most F hF.range W (hok.cs.below hb) Far ts hG ht (fun _=>⟨(writeF_fn (l:=pts s.cs) (fun x hx=>by
      obtain ⟨c,hcm,rfl⟩:=List.mem_map.1 hx
      exact hc c hcm) hF).range,hlen _ hs⟩) (hfar W hb) (hS.later hb)
     exact Calls.mono h fun e W' hd=>.of_some hs ((hd.ok hc).before hb)
   · have hs:stepF N F s=none:=by unfold stepF;rw [if_neg (by omega),if_neg (by omega),if_pos hk,if_neg hc]
     have h:=twrite_any hN sb s.la s.lc s.cs (by omega) hok.cc most F hF.range W (hok.cs.below hb) Far ts hG ht (fun h=>absurd h hc) (hfar W hb) (hS.later hb)
     exact Calls.mono h fun e W' hd=>.of_none hs ⟨(hd.bad hc).1,hb.trans ((hd.bad hc).2.mono hb.size)⟩
end
section
open Go.RowKit Go.Sort Go.Maps
open Oct
structure TellR (N:Nat) (F:Pt→Int) (s:Stp) (w:World) (e:Ending) (W':World):Prop where
 bel:Below w.heap.size w W'
 yes : ∀ F',stepF N F s=some F'→e = .returned (.tuple #[.string (txt N F'),(0:Int)])
 no:stepF N F s=none→e = .returned (.tuple #[.string ByteArray.empty,(1:Int)])
theorem TellR.pair {N:Nat} {F:Pt→Int} {s:Stp} {w:World} (e:Ending) (W':World) (h:TellR N F s w e W') : ∃ (S:ByteArray) (b:Int),e = .returned (.tuple #[.string S,b]):=by
 cases hs:stepF N F s with
 | none=>exact ⟨_,_,h.no hs⟩
 | some F'=>exact ⟨_,_,h.yes F' hs⟩
theorem TellR.of_some {N:Nat} {F F':Pt→Int} {s:Stp} {w:World} {e:Ending} {W':World} (hs:stepF N F s=some F') (hb:Below w.heap.size w W') (h:e = .returned (.tuple #[.string (txt N F'),(0:Int)])):TellR N F s w e W' :=
 ⟨hb,fun F2 h2=>(by rw [hs] at h2;obtain rfl:=Option.some.inj h2;exact h),fun h2=>(by rw [hs] at h2;cases h2)⟩
theorem TellR.of_none {N:Nat} {F:Pt→Int} {s:Stp} {w:World} {e:Ending} {W':World} (hs:stepF N F s=none) (hb:Below w.heap.size w W') (h:e = .returned (.tuple #[.string ByteArray.empty,(1:Int)])):TellR N F s w e W' :=
 ⟨hb,fun F2 h2=>(by rw [hs] at h2;cases h2),fun _=>h⟩
end
section
open Go.RowKit
open Oct
theorem dep_flat {n:Nat} {t:Tr} (h:Dep n t) (hk:kindV t ≠ 1):depV t=(n:Int)+2:=by
 cases h with
 | uni n c=>exact absurd rfl hk
 | brick l=>rfl
 | node n ch _=>show ((n+3:Nat):Int)=_;omega
theorem copyF_off {F:Pt→Int} {m:Nat} {d c:Pt} {T:Tr} {p:Pt} (h : ¬Tr.InC m d p):copyF F m d T c p=F p:=by
 unfold copyF;rw [if_neg h]
theorem copyF_range {F:Pt→Int} (hF : ∀ p,0≤F p∧F p≤255) {m n:Nat} (hn:n≤200) {d c a:Pt} (p:Pt):0≤copyF F m d (Tr.can F n a) c p∧copyF F m d (Tr.can F n a) c p≤255:=by
 unfold copyF
 split
 · have hw:=wf_can hF n a
   cases hT:Tr.can F n a with
   | uni k =>
     have h:=hw hn
     rw [hT] at h
     exact h
   | brick l=>exact hF _
   | node d ch=>exact hF _
 · exact hF p
theorem copy_can {F:Pt→Int} {m n:Nat} {d c:Pt} (hd:Tr.Al m d) (hf:fitsAt (Tr.can F n c) ((m:Int)+2)):Tr.can (copyF F m d (Tr.can F n c) c) m d=Tr.can F n c:=by
 by_cases hk:kindV (Tr.can F n c)=1
 · obtain ⟨k,hT⟩ : ∃ k,Tr.can F n c = .uni k:=by
    cases hT:Tr.can F n c with
    | uni k=>exact ⟨k,rfl⟩
    | brick l=>rw [hT] at hk;simp [kindV] at hk
    | node d ch=>rw [hT] at hk;simp [kindV] at hk
   rw [hT]
   exact can_uni m d _ hd fun p hp=>by unfold copyF;rw [if_pos hp]
 · have hdv:=dep_flat (dep_can F n c) hk
   have hmn:m=n:=by
    rcases hf with h | h
    · exact absurd h hk
    · omega
   subst hmn
   have hsh:=can_shift ⟨c.x - d.x,c.y - d.y,c.z - d.z⟩ F m d
   rw [show (⟨c.x - d.x+d.x,c.y - d.y+d.y,c.z - d.z+d.z⟩:Pt)=c by cases c;simp] at hsh
   rw [←hsh]
   refine Tr.can_congr m d hd fun p hp=>?_
   unfold copyF
   rw [if_pos hp,hsh]
   cases hT:Tr.can F m c with
   | uni k=>rw [hT] at hk;exact absurd rfl hk
   | brick l =>
     show F _=shf _ F p
     unfold shf
     congr 1
     simp only [Pt.mk.injEq]
     omega
   | node d' ch =>
     show F _=shf _ F p
     unfold shf
     congr 1
     simp only [Pt.mk.injEq]
     omega
end
section
open Go.RowKit Go.Sort Go.Maps
open Oct
theorem play_s4 {N:Nat} (hN:N≤12) (F:Pt→Int) (hF:FnC N F) (s:Stp) (hk:s.kd ≠ 1∧s.kd ≠ 2∧s.kd ≠ 3) (sb:Nat) (most:Int) (ts:List Tr) (hG:Good ts) (hl0:ts.length≤4000000) (ht:trF N F∈ts) (hlen : ∀ F',stepF N F s=some F'→(addn N F' ts).length≤4000000) (w:World) (Far:Nat→Prop) (hFar : ∀ k,Far k→k<w.heap.size) (hS:StoreIs w Far sb most ts) :
 Calls Tryz.prog 13 #[.pointer (some ⟨sb,0,none⟩),.int .i64 (idn ts N F),.int .i64 ((N:Int)+2),.agg s.arr] w (PlayR Far sb most ts N F s w):=by
 have h123 : ¬s.kd=1 ∧ ¬s.kd=2 ∧ ¬s.kd=3:=hk
 refine play_4 sb (idn ts N F) ((N:Int)+2) s.kd _ _ _ _ _ _ _ _ _ _ _ _ _ _ _ _ _ _ _ s.c.x s.c.y s.c.z s.cl s.d.x s.d.y s.d.z s.dl hk w _ PlayR.pair (fun W hb=>?_)
 by_cases hp:partOK N s.c.x s.c.y s.c.z s.cl
 rotate_left
 · have hs:stepF N F s=none:=by unfold stepF;rw [if_neg h123.1,if_neg h123.2.1,if_neg h123.2.2,if_neg (fun h=>hp h.1)]
   exact Calls.mono (part_bad W sb N hN (idn ts N F) _ _ _ _ hp) fun e W' hd=>⟨hd.2,.inl ⟨hd.1,.of_none hs ⟨hd.1,hb.trans (hd.2.mono hb.size)⟩⟩⟩
 obtain ⟨p1,p2,p3,p4⟩:=hp
 have hp:partOK N s.c.x s.c.y s.c.z s.cl:=⟨p1,p2,p3,p4⟩
 obtain ⟨L,hL⟩ : ∃ L:Nat,s.cl=(L:Int):=⟨s.cl.toNat,by omega⟩
 have hLn:s.cl.toNat=L:=by omega
 rw [hLn] at p4
 have hT:partT (trF N F) N L s.c=Tr.can F (L - 2) s.c:=partT_can F N L ⟨0,0,0⟩ s.c (al_zero N) (inC_of_in p1) (by omega) (by omega) (alB_iff.1 p4)
 have hTm:Tr.can F (L - 2) s.c∈ts:=by rw [←hT];exact partT_in hG L s.c N _ ht (dep_can F N _)
 have hpo:=part_ok W sb N L hN (by omega) (by omega) s.c.x s.c.y s.c.z p1 p4 Far most ts (trF N F) ht (dep_can F N _) hG (by omega) (hS.later hb)
 rw [show (⟨s.c.x,s.c.y,s.c.z⟩:Pt)=s.c from rfl,hT,←hL] at hpo
 refine Calls.mono hpo fun e W1 hd=>⟨hd.2,.inr ⟨_,hd.1,?_⟩⟩
 have hb1:=hb.trans (hd.2.mono hb.size)
 by_cases hq:partOK N s.d.x s.d.y s.d.z s.dl
 rotate_left
 · have hs:stepF N F s=none:=by unfold stepF;rw [if_neg h123.1,if_neg h123.2.1,if_neg h123.2.2,if_neg (fun h=>hq h.2.1)]
   exact Calls.mono (tgraft_bad sb N hN (idn ts N F) _ _ _ _ _ hq W1) fun e W' hg=>.of_none hs ⟨hg.1,hb1.trans (hg.2.mono hb1.size)⟩
 have q2:=hq.2.1
 obtain ⟨m,hm⟩ : ∃ m:Nat,s.dl=((m+2:Nat):Int):=⟨s.dl.toNat - 2,by omega⟩
 have hmn:s.dl.toNat - 2=m:=by omega
 have hq':=hq
 rw [hm] at hq'
 have hin:=hq'.inT
 have hst:fitsAt (Tr.can F (L - 2) s.c) ((m+2:Nat):Int)→stepF N F s=some (copyF F m s.d (Tr.can F (L - 2) s.c) s.c):=fun hf=>by
  unfold stepF
  rw [if_neg h123.1,if_neg h123.2.1,if_neg h123.2.2,hLn,hmn,if_pos ⟨hp,hq,by rw [hm];exact hf⟩]
 have hg:=tgraft_any hN sb m s.d hq' most F (copyF F m s.d (Tr.can F (L - 2) s.c) s.c) hF.range W1 Far ts hG (Tr.can F (L - 2) s.c) hTm ht hl0 (fun hf=>⟨copy_can hin.al (by rw [show ((m+2:Nat):Int)=(m:Int)+2 by omega] at hf;exact hf),fun p hp=>copyF_off hp,copyF_range hF.range (by omega),hlen _ (hst hf)⟩) (fun k hk=>Nat.lt_of_lt_of_le (hFar k hk) hb1.size) (hS.later hb1)
 rw [show cubeV s.d.x s.d.y s.d.z ((m+2:Nat):Int) = .agg #[s.d.x,s.d.y,s.d.z,s.dl] by rw [hm]] at hg
 refine Calls.mono hg fun e W' hgd=>?_
 by_cases hf:fitsAt (Tr.can F (L - 2) s.c) ((m+2:Nat):Int)
 · exact .of_some (hst hf) ((hgd.ok hf).before hb1)
 · have hs:stepF N F s=none:=by
    unfold stepF
    rw [if_neg h123.1,if_neg h123.2.1,if_neg h123.2.2,hLn,if_neg (fun h=>hf (by rw [←hm];exact h.2.2))]
   obtain ⟨g1,g2⟩:=hgd.bad hf
   exact .of_none hs ⟨g1,hb1.trans (g2.mono hb1.size)⟩
end
section
open Go.RowKit Go.Sort Go.Maps
open Oct
theorem play_any {N:Nat} (hN:N≤12) (F:Pt→Int) (hF:FnC N F) (s:Stp) (hfew:fewS N s=true) (sb:Nat) (most:Int) (ts:List Tr) (hG:Good ts) (hl0:ts.length≤4000000) (ht:trF N F∈ts) (hlen : ∀ F',stepF N F s=some F'→(addn N F' ts).length≤4000000) (w:World) (hok:StpOk w s) (Far:Nat→Prop) (hfx:s.ys ≠ [] → ∀ b,s.ga.map (·.block)=some b→Far b) (hFar : ∀ k,Far k→k<w.heap.size) (hS:StoreIs w Far sb most ts) :
 Calls Tryz.prog 13 #[.pointer (some ⟨sb,0,none⟩),.int .i64 (idn ts N F),.int .i64 ((N:Int)+2),.agg s.arr] w (PlayR Far sb most ts N F s w):=by
 by_cases h:s.kd=1∨s.kd=2∨s.kd=3
 · exact play_s123 hN F hF s h hfew sb most ts hG ht hlen w hok Far hfx hFar hS
 · exact play_s4 hN F hF s (by omega) sb most ts hG hl0 ht hlen w Far hFar hS
end
section
open Go.RowKit
open Oct
theorem wide_uni {N:Nat} {b:Box} {c:Int} {F:Pt→Int} (h:wideP N b=true):trF N (fillF N b c F) = .uni c:=by
 have hp:=Tr.pow_pos2 N
 have he:emptyB (cubeB (2 ^ (N+2)))=false:=emptyB_iff.2 ⟨by simp only [cubeB,Pt.zero];omega,by simp only [cubeB,Pt.zero];omega,by simp only [cubeB,Pt.zero];omega⟩
 unfold wideP at h
 rw [vol_meet he,decide_eq_true_eq] at h
 refine fill_in (InT.top N) ?_
 have hcube:cubeAtB N ⟨0,0,0⟩=cubeB (2 ^ (N+2)):=by unfold cubeAtB cubeB Pt.zero;simp
 rw [hcube]
 unfold containsB
 rw [h]
 simp
theorem step_both {N:Nat} (hN:N≤12) {F F':Pt→Int} (hF:FnC N F) {s:Stp} (hfew:fewS N s=true) (hs:stepF N F s=some F') :
 FnC N F' ∧ ∀ ts:List Tr,Good ts→trF N F∈ts→(addn N F' ts).length≤ts.length+52000:=by
 simp only [fewS,Bool.and_eq_true,Bool.or_eq_true,decide_eq_true_eq] at hfew
 obtain ⟨f1,f2,f3,-,-,f6⟩:=hfew
 unfold stepF at hs
 split at hs
 · split at hs
   · rename_i hc
     obtain rfl:=Option.some.inj hs
     refine ⟨fillF_fn hF hc,fun ts hG ht=>?_⟩
     rcases f6 with h | h | h
     · exact Nat.le_trans (any_len h _ ts) (by omega)
     · exact fill_len hN hF hc hG ht h
     · unfold addn
       rw [wide_uni h,Tr.add_uni]
       have:=ins_len' (.uni s.cell) ts
       omega
   · cases hs
 · split at hs
   · obtain rfl:=Option.some.inj hs
     have HX:=goodG_of (hcp:=s.ys.length) f3 f1 (Nat.le_refl _)
     exact ⟨pasteF_fn HX hF,fun ts hG ht=>Nat.le_trans (paste_len HX hN hF hG ht) (by omega)⟩
   · split at hs
     · split at hs
       · rename_i hc
         obtain rfl:=Option.some.inj hs
         have hl : ∀ x∈pts s.cs,inB x.1 (wholeB N)=true∧0≤x.2∧x.2≤255:=fun x hx=>by
          obtain ⟨c,hcm,rfl⟩:=List.mem_map.1 hx
          exact hc c hcm
         refine ⟨writeF_fn hl hF,fun ts hG ht=>?_⟩
         have h:=write_len hN hl hF hG ht
         rw [List.length_map] at h
         unfold addn
         omega
       · cases hs
     · split at hs
       · rename_i hc
         obtain ⟨hp,hq,hf⟩:=hc
         obtain rfl:=Option.some.inj hs
         obtain ⟨p1,p2,p3,p4⟩:=hp
         have q2:=hq.2.1
         have q3:=hq.2.2.1
         obtain ⟨m,hm⟩ : ∃ m:Nat,s.dl=((m+2:Nat):Int):=⟨s.dl.toNat - 2,by omega⟩
         have hmn:s.dl.toNat - 2=m:=by omega
         have hq':=hq
         rw [hm] at hq' hf
         have hin:=hq'.inT
         rw [hmn]
         have hcop:Tr.can (copyF F m s.d (Tr.can F (s.cl.toNat - 2) s.c) s.c) m s.d=Tr.can F (s.cl.toNat - 2) s.c:=copy_can hin.al (by rw [show ((m+2:Nat):Int)=(m:Int)+2 by omega] at hf;exact hf)
         refine ⟨⟨copyF_range hF.range (by omega),fun p hp=>?_⟩,fun ts hG ht=>?_⟩
         · rw [copyF_off (fun h=>by have:=hin.whole h;rw [this] at hp;cases hp)]
           exact hF.out p hp
         · have hT:partT (trF N F) N s.cl.toNat s.c=Tr.can F (s.cl.toNat - 2) s.c:=partT_can F N s.cl.toNat ⟨0,0,0⟩ s.c (al_zero N) (inC_of_in p1) (by omega) (by omega) (alB_iff.1 p4)
           have hTm:Tr.can F (s.cl.toNat - 2) s.c∈ts:=by rw [←hT];exact partT_in hG _ s.c N _ ht (dep_can F N _)
           have h:=graft_len (f:=F) (copyF_range (d:=s.d) (c:=s.c) (a:=s.c) (m:=m) hF.range (show s.cl.toNat - 2≤200 by omega)) m s.d hin.al hG (by rw [hcop];exact hTm) (fun p hp=>copyF_off hp) N ⟨0,0,0⟩ (by omega) hin.le (al_zero N) (inC_of_in hq.1) ht
           unfold addn
           exact Nat.le_trans h (by omega)
       · cases hs
end
section
open Go.RowKit
open Oct
theorem leaf_can {F:Pt→Int} : ∀ (n:Nat) (a:Pt),Tr.Al n a → ∀ x∈leavesT n a (Tr.can F n a),Tr.Al x.2.1 x.1∧x.2.2=Tr.can F x.2.1 x.1:=by
 intro n
 induction n with
 | zero =>
   intro a ha x hx
   have h:leavesT 0 a (Tr.can F 0 a)=[(a,0,Tr.can F 0 a)]:=by cases Tr.can F 0 a <;> rfl
   rw [h,List.mem_singleton] at hx
   subst hx
   exact ⟨ha,rfl⟩
 | succ n ih =>
   intro a ha x hx
   cases hT:Tr.can F (n+1) a with
   | uni c =>
     rw [hT,leavesT_uni,List.mem_singleton] at hx
     subst hx
     exact ⟨ha,hT.symm⟩
   | brick l =>
     rw [hT,leavesT_brick,List.mem_singleton] at hx
     subst hx
     exact ⟨ha,hT.symm⟩
   | node d ch =>
     rw [hT] at hx
     unfold leavesT at hx
     obtain ⟨i,-,hi⟩:=List.mem_flatMap.1 hx
     have hk:ch i=Tr.can F n (Tr.cor a n i.val):=by
      have h1:=Tr.mkInner_kid (n+3) (fun i=>Tr.can F n (Tr.cor a n i.val)) i
      rw [←h1,←(show Tr.can F (n+1) a=Tr.mkInner (n+3) (fun i=>Tr.can F n (Tr.cor a n i.val)) from rfl),hT]
      rfl
     rw [hk] at hi
     exact ih _ (Tr.al_cor ha _) x hi
theorem sum_flat {α β:Type} (f:α→List β) (g:β→Nat) (l:List α):((l.flatMap f).map g).sum=(l.map fun i=>((f i).map g).sum).sum:=by
 induction l with
 | nil=>rfl
 | cons x l ih=>rw [List.flatMap_cons,List.map_append,List.sum_append,ih,List.map_cons,List.sum_cons]
theorem sum_swap {α β:Type} (f:α→β→Nat) (l:List α) (m:List β):(l.map fun a=>(m.map fun b=>f a b).sum).sum=(m.map fun b=>(l.map fun a=>f a b).sum).sum:=by
 induction l with
 | nil =>
   simp only [List.map_nil,List.sum_nil]
   induction m with
   | nil=>rfl
   | cons y m ih=>rw [List.map_cons,List.sum_cons,←ih];rfl
 | cons x l ih =>
   rw [List.map_cons,List.sum_cons,ih]
   clear ih
   induction m with
   | nil=>rfl
   | cons y m ih=>simp only [List.map_cons,List.sum_cons] at ih ⊢; omega
theorem sum_const {α:Type} (l:List α) (v:Nat):(l.map fun _=>v).sum=l.length * v:=by
 induction l with
 | nil=>simp
 | cons x l ih=>rw [List.map_cons,List.sum_cons,ih,List.length_cons,Nat.succ_mul,Nat.add_comm]
theorem leaf_size : ∀ (n:Nat) (a:Pt) (T:Tr),Dep n T→((leavesT n a T).map fun x=>8 ^ (x.2.1+2)).sum=8 ^ (n+2):=by
 intro n
 induction n with
 | zero =>
   intro a T hD
   cases hD with
   | uni _ c=>rw [leavesT_uni];simp
   | brick l=>rw [leavesT_brick];simp
 | succ n ih =>
   intro a T hD
   cases hD with
   | uni _ c=>rw [leavesT_uni];simp
   | node _ ch h =>
     unfold leavesT
     rw [sum_flat]
     have h1:((List.finRange 8).map fun i=>((leavesT n (Tr.cor a n i.val) (ch i)).map fun x=>8 ^ (x.2.1+2)).sum)=(List.finRange 8).map fun _=>8 ^ (n+2):=List.map_congr_left fun i _=>ih _ _ (h i)
     rw [h1,sum_const,List.length_finRange,Nat.pow_succ 8 (n+1+1),Nat.mul_comm]
open Classical in
theorem leaf_one (p:Pt) : ∀ (n:Nat) (a:Pt) (T:Tr),Tr.Al n a→Dep n T→((leavesT n a T).map fun x=>if Tr.InC x.2.1 x.1 p then 1 else 0).sum=if Tr.InC n a p then 1 else 0:=by
 intro n
 induction n with
 | zero =>
   intro a T ha hD
   cases hD with
   | uni _ c=>rw [leavesT_uni];simp
   | brick l=>rw [leavesT_brick];simp
 | succ n ih =>
   intro a T ha hD
   cases hD with
   | uni _ c=>rw [leavesT_uni];simp
   | node _ ch h =>
     unfold leavesT
     rw [sum_flat]
     have h1:((List.finRange 8).map fun i=>((leavesT n (Tr.cor a n i.val) (ch i)).map fun x=>if Tr.InC x.2.1 x.1 p then 1 else 0).sum)=(List.finRange 8).map fun i=>if Tr.InC n (Tr.cor a n i.val) p then 1 else 0:=List.map_congr_left fun i _=>ih _ _ (Tr.al_cor ha _) (h i)
     rw [h1]
     by_cases hp:Tr.InC (n+1) a p
     · rw [if_pos hp]
       have h2:((List.finRange 8).map fun i=>if Tr.InC n (Tr.cor a n i.val) p then 1 else 0)=(List.finRange 8).map fun i=>if i=Tr.oct n p then 1 else 0:=List.map_congr_left fun i _=>by
        by_cases hi:Tr.InC n (Tr.cor a n i.val) p
        · rw [if_pos hi,if_pos (Tr.inC_other ha hi).1]
        · rw [if_neg hi,if_neg (fun e=>hi (by rw [e];exact Tr.inC_step ha hp))]
       rw [h2]
       have h3 : ∀ j:Fin 8,((List.finRange 8).map fun i=>if i=j then 1 else 0).sum=1:=by decide
       exact h3 _
     · rw [if_neg hp]
       have h2:((List.finRange 8).map fun i=>if Tr.InC n (Tr.cor a n i.val) p then 1 else 0)=(List.finRange 8).map fun _=>0:=List.map_congr_left fun i _=>if_neg (fun hi=>hp (Tr.inC_other ha hi).2)
       rw [h2,sum_const,Nat.mul_zero]
theorem sum_hit (d:Int) (v:Nat) : ∀ k:Nat,((List.range k).map fun c:Nat=>if d=(c:Int) then v else 0).sum=if 0≤d∧d<(k:Int) then v else 0
 | 0=>by rw [if_neg (by omega)];rfl
 | k + 1 => by
   rw [List.range_succ,List.map_append,List.sum_append,sum_hit d v k]
   simp only [List.map_cons,List.map_nil,List.sum_cons,List.sum_nil]
   by_cases h:d=(k:Int)
   · rw [if_pos h,if_neg (by omega),if_pos (by omega)];omega
   · rw [if_neg h]
     by_cases h2:0≤d∧d<(k:Int)
     · rw [if_pos h2,if_pos (by omega)];rfl
     · rw [if_neg h2,if_neg (by omega)];rfl
theorem sum_add {α:Type} (f g:α→Nat) (l:List α):(l.map fun a=>f a+g a).sum=(l.map f).sum+(l.map g).sum:=by
 induction l with
 | nil=>rfl
 | cons x l ih=>simp only [List.map_cons,List.sum_cons];omega
theorem count_all (k:Nat) : ∀ l:List Int,(∀ x∈l,0≤x∧x<(k:Int))→((List.range k).map fun c:Nat=>l.count (c:Int)).sum=l.length
 | [], _ => by
   have h:((List.range k).map fun c:Nat=>([]:List Int).count (c:Int))=(List.range k).map fun _=>0:=List.map_congr_left fun c _=>rfl
   rw [h,sum_const];simp
 | x :: l, h => by
   have h1:((List.range k).map fun c:Nat=>(x::l).count (c:Int))=(List.range k).map fun c:Nat=>l.count (c:Int)+(if x=(c:Int) then 1 else 0):=List.map_congr_left fun c _=>by
    rw [List.count_cons]
    by_cases e:x=(c:Int) <;> simp [e]
   rw [h1,sum_add,count_all k l (fun y hy=>h y (List.mem_cons_of_mem _ hy)),sum_hit,if_pos (h x (List.mem_cons_self ..)),List.length_cons]
def LeafOk (x:Pt × Nat × Tr):Prop:=(∃ d,x.2.2 = .uni d∧0≤d∧d≤255)∨(x.2.1=0 ∧ ∃ l,x.2.2 = .brick l∧l.length=64 ∧ ∀ y∈l,0≤y∧y≤255)
theorem leaf_cnt {k:Nat} (hk:k=256) {x:Pt × Nat × Tr} (h:LeafOk x):((List.range k).map fun c:Nat=>cntL (c:Int) x).sum=8 ^ (x.2.1+2):=by
 obtain ⟨a,lv,t⟩:=x
 rcases h with ⟨d,rfl,h1,h2⟩ | ⟨h0,l,rfl,h1,h2⟩
 · show ((List.range k).map fun c:Nat=>if d=(c:Int) then 8 ^ (lv+2) else 0).sum=_
   rw [sum_hit,if_pos (by omega)]
 · simp only [] at h0
   subst h0
   show ((List.range k).map fun c:Nat=>l.count (c:Int)).sum=_
   rw [count_all k l (fun x hx=>by have:=h2 x hx;omega),h1];rfl
theorem leaves_cnt {k:Nat} (hk:k=256) {L:List (Pt × Nat × Tr)} (h : ∀ x∈L,LeafOk x):((List.range k).map fun c:Nat=>(L.map (cntL (c:Int))).sum).sum=(L.map fun x=>8 ^ (x.2.1+2)).sum:=by
 have h1:(L.map fun x=>((List.range k).map fun c:Nat=>cntL (c:Int) x).sum)=L.map fun x=>8 ^ (x.2.1+2):=List.map_congr_left fun x hx=>leaf_cnt hk (h x hx)
 rw [←h1]
 exact sum_swap (fun (c:Nat) x=>cntL (c:Int) x) (List.range k) L
theorem leaves_ok {N:Nat} {F:Pt→Int} (hF : ∀ p,0≤F p∧F p≤255) : ∀ x∈leavesT N ⟨0,0,0⟩ (trF N F),LeafOk x:=by
 intro x hx
 have hc:=(leaf_can N ⟨0,0,0⟩ (al_zero N) x hx).2
 have hkind : ∀ (n:Nat) (a:Pt) (T:Tr),Dep n T → ∀ x∈leavesT n a T,(∃ d,x.2.2 = .uni d)∨(x.2.1=0 ∧ ∃ l,x.2.2 = .brick l):=by
  intro n
  induction n with
  | zero =>
    intro a T hD x hx
    cases hD with
    | uni _ c=>rw [leavesT_uni,List.mem_singleton] at hx;subst hx;exact .inl ⟨c,rfl⟩
    | brick l=>rw [leavesT_brick,List.mem_singleton] at hx;subst hx;exact .inr ⟨rfl,l,rfl⟩
  | succ n ih =>
    intro a T hD x hx
    cases hD with
    | uni _ c=>rw [leavesT_uni,List.mem_singleton] at hx;subst hx;exact .inl ⟨c,rfl⟩
    | node _ ch h =>
      unfold leavesT at hx
      obtain ⟨i,-,hi⟩:=List.mem_flatMap.1 hx
      exact ih _ (ch i) (h i) x hi
 rcases hkind N ⟨0,0,0⟩ (trF N F) (dep_can F N _) x hx with ⟨d,hd⟩ | ⟨h0,l,hl⟩
 · refine .inl ⟨d,hd,?_⟩
   have h1:=Tr.get_can F x.2.1 x.1 x.1 (leaf_can N ⟨0,0,0⟩ (al_zero N) x hx).1 ⟨rfl,rfl,rfl⟩
   rw [←hc,hd] at h1
   have h2:Tr.getT (.uni d) x.2.1 x.1=d:=by cases x.2.1 <;> rfl
   rw [h2] at h1
   rw [h1];exact hF _
 · refine .inr ⟨h0,l,hl,?_⟩
   have h1:Tr.can F 0 x.1 = .brick l:=by rw [←hl,hc,h0]
   have h2:=Tr.cells_mkBrick (Tr.can_cells_length F x.1)
   rw [show Tr.mkBrick ((List.range 64).map fun k=>F (Tr.cellAt x.1 k))=Tr.can F 0 x.1 from rfl,h1] at h2
   have h3:l=(List.range 64).map fun k=>F (Tr.cellAt x.1 k):=h2
   rw [h3]
   refine ⟨by simp,fun y hy=>?_⟩
   obtain ⟨k,-,rfl⟩:=List.mem_map.1 hy
   exact hF _
theorem leaf_get {N:Nat} {F:Pt→Int} {x:Pt × Nat × Tr} (hx:x∈leavesT N ⟨0,0,0⟩ (trF N F)) {p:Pt} (hp:Tr.InC x.2.1 x.1 p):(∀ d,x.2.2 = .uni d→F p=d)∧(∀ l,x.2.2 = .brick l→x.2.1=0→l.getD (Tr.idx p) 0=F p):=by
 have hc:=leaf_can N ⟨0,0,0⟩ (al_zero N) x hx
 have h1:=Tr.get_can F x.2.1 x.1 p hc.1 hp
 rw [←hc.2] at h1
 refine ⟨fun d hd=>?_,fun l hl h0=>?_⟩
 · rw [hd] at h1
   have h2:Tr.getT (.uni d) x.2.1 p=d:=by cases x.2.1 <;> rfl
   rw [h2] at h1
   exact h1.symm
 · rw [hl,h0] at h1
   exact h1
end
section
open Go.RowKit Go.Sort Go.Maps
open Oct
theorem cube_box {N:Nat} (hN:N≤12) {n:Nat} {a:Pt} (hin:InT N n a) (W:World) :
 Calls Tryz.prog 35 #[.agg #[a.x,a.y,a.z],.int .i64 ((n:Int)+2)] W fun e w'=>e = .returned (.agg #[a.x,a.y,a.z,.int .i64 (a.x+2 ^ (n+2)),.int .i64 (a.y+2 ^ (n+2)),.int .i64 (a.z+2 ^ (n+2))])∧Below W.heap.size W w':=by
 have hle:=hin.le
 have hp:=pow_le (show N+2≤14 by omega)
 have hq:=Tr.pow_pos2 n
 have h:=cube9_any a.x a.y a.z (n+2) (by omega) ⟨hin.x.1,by have:=hin.x.2;omega⟩ ⟨hin.y.1,by have:=hin.y.2;omega⟩ ⟨hin.z.1,by have:=hin.z.2;omega⟩ W
 rw [show ((n+2:Nat):Int)=(n:Int)+2 by omega] at h
 exact h
def inD (p:Pt) (x:Pt × Nat):Bool:=inB p ⟨⟨x.1.x,x.1.y,x.1.z⟩,⟨x.1.x+2 ^ (x.2+2),x.1.y+2 ^ (x.2+2),x.1.z+2 ^ (x.2+2)⟩⟩
end
section
open Go.RowKit Go.Sort Go.Maps
open Oct
set_option maxRecDepth 100000 in
set_option maxHeartbeats 2000000 in
theorem cv_off (a b c d e f dd px py pz:Int) (ha la:Option Addr) (xl hcp m lc:Nat) (w:World)
 (hf : ∀ W,Below w.heap.size w W→Calls Tryz.prog 9 #[.agg #[a,b,c,d,e,f,.slice ha xl hcp],dd,.slice la m lc] W fun e' w'=>e' = .returned (.bool false)∧Below W.heap.size W w') :
 Calls Tryz.prog 8 #[.agg #[a,b,c,d,e,f,.slice ha xl hcp],dd,.slice la m lc,.agg #[px,py,pz]] w fun e' w'=>e' = .returned (.bool true)∧Below w.heap.size w w':=by
 have HF:=Bx.mk hf
 clear hf
 go_enter Tryz.func8,Tryz.ntmps8
 go_upto_region 1 with fail
 generalize hW:World.alloc (World.alloc (World.alloc (World.alloc w _) _) _) _=W
 have hB:Below w.heap.size w W:=by rw [←hW];exact ((((Below.refl _ _).alloc (Nat.le_refl _) _).alloc (by simp) _).alloc (by simp;omega) _).alloc (by simp;omega) _
 have kg:Bk W w.heap.size #[a,b,c,d,e,f,.slice ha xl hcp] 28:=by rw [←hW];exact blk_old (blk_old (blk_old (blk_new _ _ _ (by simp))))
 have kd:Bk W (w.heap.size+1) #[dd] 3:=bk2 hW
 have kr:Bk W (w.heap.size+1+1+1) #[.bool false] 4:=bk0 hW
 clear hW
 obtain ⟨c0,c1,c2,c3,c4,c5,c6⟩:=kg.r7
 have d0 : ∀ dk osk,(grow (redrawn W dk) osk).cell? ⟨w.heap.size+1,0,none⟩=some (.int .i64 dd):=cell_regrown (kd.cell 0 rfl)
 have u0:=Bx.mk fun dk osk=>Calls.regrown_of (HF.out (grow (redrawn W dk) osk) (hB.trans ((below_regrown W dk osk).mono hB.size)))
 refine wp_region_quiet_below (by kernel_rfl) (by kernel_rfl) ?_
 repeat (first | go_big_quiet_step ((first | with_reducible exact u0.out _ _)) | quiet_step (first | with_reducible exact u0.out _ _))
 refine wpQuiet_nil ?_
 rintro _ ⟨⟨dq,osq⟩,rfl⟩
 have hbq:=below_regrown W dq osq
 have HB2:=Bx.mk (hB.trans (hbq.mono hB.size))
 have KR:=Bx.mk (kr.later hbq)
 clear c0 c1 c2 c3 c4 c5 c6 d0 u0 hbq hB kg kd kr HF
 generalize grow (redrawn W dq) osq=w2 at *
 go_wp2_with fail
 refine (sanity10_true _).mono ?_
 rintro _ w3 ⟨rfl,hb3⟩
 have HB3:=Bx.mk (HB2.out.trans (hb3.mono HB2.out.size))
 have kr:=KR.out.later hb3
 have x0:=kr.cell 0 rfl
 have y0:=kr.frozen 0
 clear hb3 HB2
 go_wp2_with fail
 have z0:((w3.setCell ⟨w.heap.size+1+1+1,0,none⟩ (.bool true)).cell? ⟨w.heap.size+1+1+1,0,none⟩)=some (.bool true):=(Bk.put1 kr (.bool true)).cell 0 rfl
 exact bodyPost_ret (v:=.bool true) (by simp [results,Tryz.results8,go_sem,z0]) rfl ⟨rfl,HB3.out.setCell (by simp only;omega) _⟩
set_option maxRecDepth 100000 in
set_option maxHeartbeats 2000000 in
theorem cv_out (a b c d e f px py pz:Int) (n:Nat) (hn:n≤12) (hout:inB ⟨px,py,pz⟩ (cubeB (2 ^ (n+2)))=false) (ha la:Option Addr) (xl hcp m lc:Nat) (w:World)
 (hf : ∀ W,Below w.heap.size w W→Calls Tryz.prog 9 #[.agg #[a,b,c,d,e,f,.slice ha xl hcp],.int .i64 ((n:Int)+2),.slice la m lc] W fun e' w'=>e' = .returned (.bool true)∧Below W.heap.size W w') :
 Calls Tryz.prog 8 #[.agg #[a,b,c,d,e,f,.slice ha xl hcp],.int .i64 ((n:Int)+2),.slice la m lc,.agg #[px,py,pz]] w fun e' w'=>e' = .returned (.bool true)∧Below w.heap.size w w':=by
 have HF:=Bx.mk hf
 have Hir:=Bx.mk fun W=>ref_in px py pz 0 0 0 (2 ^ (n+2)) (2 ^ (n+2)) (2 ^ (n+2)) W
 rw [show inB ⟨px,py,pz⟩ ⟨⟨0,0,0⟩,⟨2 ^ (n+2),2 ^ (n+2),2 ^ (n+2)⟩⟩=false from hout] at Hir
 have hp:=pow_le (show n+2≤14 by omega)
 have hw:IntKind.i64.wrap (2 ^ (n+2))=2 ^ (n+2):=IntWalk.i64_in _ (by omega)
 have hw2:wrap64 (2 ^ (n+2))=2 ^ (n+2):=by rw [←IntWalk.i64_left];exact hw
 have Hcu:=Bx.mk fun W=>(show Calls Tryz.prog 29 #[.int .i64 (wrap64 (2 ^ (n+2)))] W fun e w'=>e = .returned (.agg #[(0:Int),(0:Int),(0:Int),.int .i64 (2 ^ (n+2)),.int .i64 (2 ^ (n+2)),.int .i64 (2 ^ (n+2))])∧Below W.heap.size W w' by rw [hw2];exact cube4_any _ W)
 have m1:min ((n:Int)+2) 14=(n:Int)+2:=by omega
 have m2:max (0:Int) ((n:Int)+2)=(n:Int)+2:=by omega
 have hp1:(0:Int)≤(n:Int)+2:=by omega
 clear hf hout hp hn hw hw2
 go_enter Tryz.func8,Tryz.ntmps8
 go_upto_region 1 with fail
 generalize hW:World.alloc (World.alloc (World.alloc (World.alloc w _) _) _) _=W
 have hB:Below w.heap.size w W:=by rw [←hW];exact ((((Below.refl _ _).alloc (Nat.le_refl _) _).alloc (by simp) _).alloc (by simp;omega) _).alloc (by simp;omega) _
 have kg:Bk W w.heap.size #[a,b,c,d,e,f,.slice ha xl hcp] 28:=by rw [←hW];exact blk_old (blk_old (blk_old (blk_new _ _ _ (by simp))))
 have kd:Bk W (w.heap.size+1) #[.int .i64 ((n:Int)+2)] 3:=bk2 hW
 have kp:Bk W (w.heap.size+1+1) #[px,py,pz] 23:=bk1 hW
 have kr:Bk W (w.heap.size+1+1+1) #[.bool false] 4:=bk0 hW
 clear hW
 obtain ⟨c0,c1,c2,c3,c4,c5,c6⟩:=kg.r7
 have d0 : ∀ dk osk,(grow (redrawn W dk) osk).cell? ⟨w.heap.size+1,0,none⟩=some (.int .i64 ((n:Int)+2)):=cell_regrown (kd.cell 0 rfl)
 obtain ⟨e0,e1,e2⟩:=kp.r3
 have u1:=Bx.mk fun dk osk=>Calls.regrown_of (Hcu.out (grow (redrawn W dk) osk))
 have u2:=Bx.mk fun dk osk=>Calls.regrown_of (Hir.out (grow (redrawn W dk) osk))
 have u0:=Bx.mk fun dk osk=>Calls.regrown_of (HF.out (grow (redrawn W dk) osk) (hB.trans ((below_regrown W dk osk).mono hB.size)))
 refine wp_region_quiet_below (by kernel_rfl) (by kernel_rfl) ?_
 repeat (first | go_big_quiet_step ((first | with_reducible exact u0.out _ _ | with_reducible exact u1.out _ _ | with_reducible exact u2.out _ _)) | quiet_step (first | with_reducible exact u0.out _ _ | with_reducible exact u1.out _ _ | with_reducible exact u2.out _ _))
 refine wpQuiet_nil ?_
 rintro _ ⟨⟨dq,osq⟩,rfl⟩
 have hbq:=below_regrown W dq osq
 have HB2:=Bx.mk (hB.trans (hbq.mono hB.size))
 have KR:=Bx.mk (kr.later hbq)
 clear c0 c1 c2 c3 c4 c5 c6 d0 e0 e1 e2 u0 u1 u2 hbq hB kg kd kr kp HF Hcu Hir
 generalize grow (redrawn W dq) osq=w2 at *
 go_wp2_with fail
 refine (sanity10_true _).mono ?_
 rintro _ w3 ⟨rfl,hb3⟩
 have HB3:=Bx.mk (HB2.out.trans (hb3.mono HB2.out.size))
 have kr:=KR.out.later hb3
 have x0:=kr.cell 0 rfl
 have y0:=kr.frozen 0
 clear hb3 HB2
 go_wp2_with fail
 have z0:((w3.setCell ⟨w.heap.size+1+1+1,0,none⟩ (.bool true)).cell? ⟨w.heap.size+1+1+1,0,none⟩)=some (.bool true):=(Bk.put1 kr (.bool true)).cell 0 rfl
 exact bodyPost_ret (v:=.bool true) (by simp [results,Tryz.results8,go_sem,z0]) rfl ⟨rfl,HB3.out.setCell (by simp only;omega) _⟩
end
end Go.Proofs.YtfcbajmjaifjlaaGreat
