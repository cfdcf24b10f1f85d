/- Stf, Stg, Stc, Std, Ste, Stn, Cvp, Dfp, Mor, Td1: joined by program, for one claim. -/
import Derived.Test.YtfcbajmjaifjlaaGreatMr
import Derived.Test.YtfcbajmjaifjlaaGreatM40
import Derived.Test.YtfcbajmjaifjlaaGreatM18
import Derived.Test.YtfcbajmjaifjlaaGreatM31
import Derived.Test.YtfcbajmjaifjlaaGreatM28
import Derived.Test.YtfcbajmjaifjlaaGreatM7
import Derived.Test.YtfcbajmjaifjlaaGreatM17
import Derived.BigQuiet
import Derived.Test.YtfcbajmjaifjlaaGreatM20
import Derived.Test.YtfcbajmjaifjlaaGreatM26
set_option linter.unusedVariables false
set_option linter.unusedSimpArgs false
namespace Go.Proofs.YtfcbajmjaifjlaaGreat
section
open Go.RowKit Go.Sort Go.Maps
open Oct
noncomputable def copyF (F:Pt→Int) (m:Nat) (d:Pt) (T:Tr) (c:Pt):Pt→Int :=
 open Classical in fun p=>if Tr.InC m d p then (match T with | .uni k=>k | _=>F ⟨p.x - d.x+c.x,p.y - d.y+c.y,p.z - d.z+c.z⟩) else F p
open Classical in
noncomputable def stepF (N:Nat) (F:Pt→Int) (s:Stp):Option (Pt→Int) :=
 if s.kd=1 then (if 0≤s.cell∧s.cell≤255 then some (fillF N s.b s.cell F) else none)
 else if s.kd=2 then some (pasteF N s.g s.ys F)
 else if s.kd=3 then (if ∀ c∈s.cs,okChg N c then some (writeF (pts s.cs) F) else none)
 else if partOK N s.c.x s.c.y s.c.z s.cl∧partOK N s.d.x s.d.y s.d.z s.dl∧fitsAt (Tr.can F (s.cl.toNat - 2) s.c) s.dl then some (copyF F (s.dl.toNat - 2) s.d (Tr.can F (s.cl.toNat - 2) s.c) s.c) else none
theorem Done.before {Far:Nat→Prop} {sb:Nat} {most:Int} {ts ts':List Tr} {t:Tr} {w W W':World} {e:Ending} (hb:Below w.heap.size w W) (h:Done Far sb most ts ts' t W e W'):Done Far sb most ts ts' t w e W' :=
 ⟨(Keeps.below hb).trans h.keeps,Nat.le_trans hb.size h.size,h.way⟩
structure PlayR (Far:Nat→Prop) (sb:Nat) (most:Int) (ts:List Tr) (N:Nat) (F:Pt→Int) (s:Stp) (w:World) (e:Ending) (W':World):Prop where
 yes : ∀ F',stepF N F s=some F'→Done Far sb most ts (addn N F' ts) (trF N F') w e W'
 no:stepF N F s=none→e=ret2 0 1∧Below w.heap.size w W'
theorem PlayR.pair {Far:Nat→Prop} {sb:Nat} {most:Int} {ts:List Tr} {N:Nat} {F:Pt→Int} {s:Stp} {w:World} (e:Ending) (W':World) (h:PlayR Far sb most ts N F s w e W') : ∃ a b:Int,e=ret2 a b:=by
 cases hs:stepF N F s with
 | none=>exact ⟨0,1,(h.no hs).1⟩
 | some F' =>
   rcases (h.yes F' hs).way with ⟨_,h2,_⟩ | ⟨_,h2,_⟩
   · exact ⟨_,_,h2⟩
   · exact ⟨_,_,h2⟩
theorem PlayR.of_some {Far:Nat→Prop} {sb:Nat} {most:Int} {ts:List Tr} {N:Nat} {F F':Pt→Int} {s:Stp} {w:World} {e:Ending} {W':World} (hs:stepF N F s=some F') (h:Done Far sb most ts (addn N F' ts) (trF N F') w e W'):PlayR Far sb most ts N F s w e W' :=
 ⟨fun F2 h2=>by rw [hs] at h2;obtain rfl:=Option.some.inj h2;exact h,fun h2=>by rw [hs] at h2;cases h2⟩
theorem PlayR.of_none {Far:Nat→Prop} {sb:Nat} {most:Int} {ts:List Tr} {N:Nat} {F:Pt→Int} {s:Stp} {w:World} {e:Ending} {W':World} (hs:stepF N F s=none) (h:e=ret2 0 1∧Below w.heap.size w W'):PlayR Far sb most ts N F s w e W' :=
 ⟨fun F2 h2=>(by rw [hs] at h2;cases h2),fun _=>h⟩
theorem play_s123 {N:Nat} (hN:N≤12) (F:Pt→Int) (hF:FnC N F) (s:Stp) (h123:s.kd=1∨s.kd=2∨s.kd=3) (hfew:fewS N s=true) (sb:Nat) (most:Int) (ts:List Tr) (hG:Good ts) (ht:trF N F∈ts) (hlen : ∀ F',stepF N F s=some F'→(addn N F' ts).length≤4000000) (w:World) (hok:StpOk w s) (Far:Nat→Prop) (hfx:s.ys ≠ [] → ∀ b,s.ga.map (·.block)=some b→Far b) (hFar : ∀ k,Far k→k<w.heap.size) (hS:StoreIs w Far sb most ts) :
 Calls Tryz.prog 13 #[.pointer (some ⟨sb,0,none⟩),.int .i64 (idn ts N F),.int .i64 ((N:Int)+2),.agg s.arr] w (PlayR Far sb most ts N F s w):=by
 simp only [fewS,Bool.and_eq_true,decide_eq_true_eq] at hfew
 obtain ⟨f1,f2,f3,-⟩:=hfew
 have hfar : ∀ W,Below w.heap.size w W → ∀ k,Far k→k<W.heap.size:=fun W hb k hk=>Nat.lt_of_lt_of_le (hFar k hk) hb.size
 rcases h123 with hk | hk | hk
 · refine play_1 sb (idn ts N F) ((N:Int)+2) s.kd s.b.lo.x s.b.lo.y s.b.lo.z s.b.hi.x s.b.hi.y s.b.hi.z s.cell _ _ _ _ _ _ _ _ _ _ _ _ _ _ _ _ _ _ _ _ hk w _ PlayR.pair (fun W hb=>?_)
   by_cases hc:0≤s.cell∧s.cell≤255
   · have hs:stepF N F s=some (fillF N s.b s.cell F):=by unfold stepF;rw [if_pos hk,if_pos hc]
     have h:=fillbox_any hN sb s.b.lo.x s.b.lo.y s.b.lo.z s.b.hi.x s.b.hi.y s.b.hi.z s.cell hc most F hF.range (fillF_fn hF hc).range W Far ts hG ht (hlen _ hs) (hfar W hb) (hS.later hb)
     exact Calls.mono h fun e W' hd=>.of_some hs (hd.before hb)
   · have hs:stepF N F s=none:=by unfold stepF;rw [if_pos hk,if_neg hc]
     exact Calls.mono (fillbox_bad sb _ _ _ _ _ _ _ _ s.cell hc W) fun e W' hd=>.of_none hs ⟨hd.1,hb.trans (hd.2.mono hb.size)⟩
 · refine play_2 sb (idn ts N F) ((N:Int)+2) s.kd _ _ _ _ _ _ _ s.g.lo.x s.g.lo.y s.g.lo.z s.g.hi.x s.g.hi.y s.g.hi.z s.ga s.ys.length s.gc _ _ _ _ _ _ _ _ _ _ _ hk w _ PlayR.pair (fun W hb=>?_)
   have hs:stepF N F s=some (pasteF N s.g s.ys F):=by unfold stepF;rw [if_neg (by omega),if_pos hk]
   have HX:=goodG_of (hcp:=s.gc) f3 f1 hok.yc
   have h:=tpaste_any hN sb s.g.lo.x s.g.lo.y s.g.lo.z s.g.hi.x s.g.hi.y s.g.hi.z s.ga s.gc s.ys HX.small HX.len (by omega) hok.yc most F hF.range (pasteF_fn HX hF).range W (hok.ys.below hb) Far hfx ts hG ht (hlen _ hs) (hfar W hb) (hS.later hb)
   exact Calls.mono h fun e W' hd=>.of_some hs (hd.before hb)
 · refine play_3 sb (idn ts N F) ((N:Int)+2) s.kd _ _ _ _ _ _ _ _ _ _ _ _ _ _ _ _ s.la s.cs.length s.lc _ _ _ _ _ _ _ _ hk w _ PlayR.pair (fun W hb=>?_)
   by_cases hc : ∀ c∈s.cs,okChg N c
   · have hs:stepF N F s=some (writeF (pts s.cs) F):=by unfold stepF;rw [if_neg (by omega),if_neg (by omega),if_pos hk,if_pos hc]
     have h:=twrite_any hN sb s.la s.lc s.cs (by omega) hok.cc most F hF.range W (hok.cs.below hb) Far ts hG ht (fun _=>⟨(writeF_fn (l:=pts s.cs) (fun x hx=>by
      obtain ⟨c,hcm,rfl⟩:=List.mem_map.1 hx
      exact hc c hcm) hF).range,hlen _ hs⟩) (hfar W hb) (hS.later hb)
     exact Calls.mono h fun e W' hd=>.of_some hs ((hd.ok hc).before hb)
   · have hs:stepF N F s=none:=by unfold stepF;rw [if_neg (by omega),if_neg (by omega),if_pos hk,if_neg hc]
     have h:=twrite_any hN sb s.la s.lc s.cs (by omega) hok.cc most F hF.range W (hok.cs.below hb) Far ts hG ht (fun h=>absurd h hc) (hfar W hb) (hS.later hb)
     exact Calls.mono h fun e W' hd=>.of_none hs ⟨(hd.bad hc).1,hb.trans ((hd.bad hc).2.mono hb.size)⟩
end
section
open Go.RowKit Go.Sort Go.Maps
open Oct
structure TellR (N:Nat) (F:Pt→Int) (s:Stp) (w:World) (e:Ending) (W':World):Prop where
 bel:Below w.heap.size w W'
 yes : ∀ F',stepF N F s=some F'→e = .returned (.tuple #[.string (txt N F'),(0:Int)])
 no:stepF N F s=none→e = .returned (.tuple #[.string ByteArray.empty,(1:Int)])
theorem TellR.pair {N:Nat} {F:Pt→Int} {s:Stp} {w:World} (e:Ending) (W':World) (h:TellR N F s w e W') : ∃ (S:ByteArray) (b:Int),e = .returned (.tuple #[.string S,b]):=by
 cases hs:stepF N F s with
 | none=>exact ⟨_,_,h.no hs⟩
 | some F'=>exact ⟨_,_,h.yes F' hs⟩
theorem TellR.of_some {N:Nat} {F F':Pt→Int} {s:Stp} {w:World} {e:Ending} {W':World} (hs:stepF N F s=some F') (hb:Below w.heap.size w W') (h:e = .returned (.tuple #[.string (txt N F'),(0:Int)])):TellR N F s w e W' :=
 ⟨hb,fun F2 h2=>(by rw [hs] at h2;obtain rfl:=Option.some.inj h2;exact h),fun h2=>(by rw [hs] at h2;cases h2)⟩
theorem TellR.of_none {N:Nat} {F:Pt→Int} {s:Stp} {w:World} {e:Ending} {W':World} (hs:stepF N F s=none) (hb:Below w.heap.size w W') (h:e = .returned (.tuple #[.string ByteArray.empty,(1:Int)])):TellR N F s w e W' :=
 ⟨hb,fun F2 h2=>(by rw [hs] at h2;cases h2),fun _=>h⟩
end
section
open Go.RowKit
open Oct
theorem dep_flat {n:Nat} {t:Tr} (h:Dep n t) (hk:kindV t ≠ 1):depV t=(n:Int)+2:=by
 cases h with
 | uni n c=>exact absurd rfl hk
 | brick l=>rfl
 | node n ch _=>show ((n+3:Nat):Int)=_;omega
theorem copyF_off {F:Pt→Int} {m:Nat} {d c:Pt} {T:Tr} {p:Pt} (h : ¬Tr.InC m d p):copyF F m d T c p=F p:=by
 unfold copyF;rw [if_neg h]
theorem copyF_range {F:Pt→Int} (hF : ∀ p,0≤F p∧F p≤255) {m n:Nat} (hn:n≤200) {d c a:Pt} (p:Pt):0≤copyF F m d (Tr.can F n a) c p∧copyF F m d (Tr.can F n a) c p≤255:=by
 unfold copyF
 split
 · have hw:=wf_can hF n a
   cases hT:Tr.can F n a with
   | uni k =>
     have h:=hw hn
     rw [hT] at h
     exact h
   | brick l=>exact hF _
   | node d ch=>exact hF _
 · exact hF p
theorem copy_can {F:Pt→Int} {m n:Nat} {d c:Pt} (hd:Tr.Al m d) (hf:fitsAt (Tr.can F n c) ((m:Int)+2)):Tr.can (copyF F m d (Tr.can F n c) c) m d=Tr.can F n c:=by
 by_cases hk:kindV (Tr.can F n c)=1
 · obtain ⟨k,hT⟩ : ∃ k,Tr.can F n c = .uni k:=by
    cases hT:Tr.can F n c with
    | uni k=>exact ⟨k,rfl⟩
    | brick l=>rw [hT] at hk;simp [kindV] at hk
    | node d ch=>rw [hT] at hk;simp [kindV] at hk
   rw [hT]
   exact can_uni m d _ hd fun p hp=>by unfold copyF;rw [if_pos hp]
 · have hdv:=dep_flat (dep_can F n c) hk
   have hmn:m=n:=by
    rcases hf with h | h
    · exact absurd h hk
    · omega
   subst hmn
   have hsh:=can_shift ⟨c.x - d.x,c.y - d.y,c.z - d.z⟩ F m d
   rw [show (⟨c.x - d.x+d.x,c.y - d.y+d.y,c.z - d.z+d.z⟩:Pt)=c by cases c;simp] at hsh
   rw [←hsh]
   refine Tr.can_congr m d hd fun p hp=>?_
   unfold copyF
   rw [if_pos hp,hsh]
   cases hT:Tr.can F m c with
   | uni k=>rw [hT] at hk;exact absurd rfl hk
   | brick l =>
     show F _=shf _ F p
     unfold shf
     congr 1
     simp only [Pt.mk.injEq]
     omega
   | node d' ch =>
     show F _=shf _ F p
     unfold shf
     congr 1
     simp only [Pt.mk.injEq]
     omega
end
section
open Go.RowKit Go.Sort Go.Maps
open Oct
theorem play_s4 {N:Nat} (hN:N≤12) (F:Pt→Int) (hF:FnC N F) (s:Stp) (hk:s.kd ≠ 1∧s.kd ≠ 2∧s.kd ≠ 3) (sb:Nat) (most:Int) (ts:List Tr) (hG:Good ts) (hl0:ts.length≤4000000) (ht:trF N F∈ts) (hlen : ∀ F',stepF N F s=some F'→(addn N F' ts).length≤4000000) (w:World) (Far:Nat→Prop) (hFar : ∀ k,Far k→k<w.heap.size) (hS:StoreIs w Far sb most ts) :
 Calls Tryz.prog 13 #[.pointer (some ⟨sb,0,none⟩),.int .i64 (idn ts N F),.int .i64 ((N:Int)+2),.agg s.arr] w (PlayR Far sb most ts N F s w):=by
 have h123 : ¬s.kd=1 ∧ ¬s.kd=2 ∧ ¬s.kd=3:=hk
 refine play_4 sb (idn ts N F) ((N:Int)+2) s.kd _ _ _ _ _ _ _ _ _ _ _ _ _ _ _ _ _ _ _ s.c.x s.c.y s.c.z s.cl s.d.x s.d.y s.d.z s.dl hk w _ PlayR.pair (fun W hb=>?_)
 by_cases hp:partOK N s.c.x s.c.y s.c.z s.cl
 rotate_left
 · have hs:stepF N F s=none:=by unfold stepF;rw [if_neg h123.1,if_neg h123.2.1,if_neg h123.2.2,if_neg (fun h=>hp h.1)]
   exact Calls.mono (part_bad W sb N hN (idn ts N F) _ _ _ _ hp) fun e W' hd=>⟨hd.2,.inl ⟨hd.1,.of_none hs ⟨hd.1,hb.trans (hd.2.mono hb.size)⟩⟩⟩
 obtain ⟨p1,p2,p3,p4⟩:=hp
 have hp:partOK N s.c.x s.c.y s.c.z s.cl:=⟨p1,p2,p3,p4⟩
 obtain ⟨L,hL⟩ : ∃ L:Nat,s.cl=(L:Int):=⟨s.cl.toNat,by omega⟩
 have hLn:s.cl.toNat=L:=by omega
 rw [hLn] at p4
 have hT:partT (trF N F) N L s.c=Tr.can F (L - 2) s.c:=partT_can F N L ⟨0,0,0⟩ s.c (al_zero N) (inC_of_in p1) (by omega) (by omega) (alB_iff.1 p4)
 have hTm:Tr.can F (L - 2) s.c∈ts:=by rw [←hT];exact partT_in hG L s.c N _ ht (dep_can F N _)
 have hpo:=part_ok W sb N L hN (by omega) (by omega) s.c.x s.c.y s.c.z p1 p4 Far most ts (trF N F) ht (dep_can F N _) hG (by omega) (hS.later hb)
 rw [show (⟨s.c.x,s.c.y,s.c.z⟩:Pt)=s.c from rfl,hT,←hL] at hpo
 refine Calls.mono hpo fun e W1 hd=>⟨hd.2,.inr ⟨_,hd.1,?_⟩⟩
 have hb1:=hb.trans (hd.2.mono hb.size)
 by_cases hq:partOK N s.d.x s.d.y s.d.z s.dl
 rotate_left
 · have hs:stepF N F s=none:=by unfold stepF;rw [if_neg h123.1,if_neg h123.2.1,if_neg h123.2.2,if_neg (fun h=>hq h.2.1)]
   exact Calls.mono (tgraft_bad sb N hN (idn ts N F) _ _ _ _ _ hq W1) fun e W' hg=>.of_none hs ⟨hg.1,hb1.trans (hg.2.mono hb1.size)⟩
 have q2:=hq.2.1
 obtain ⟨m,hm⟩ : ∃ m:Nat,s.dl=((m+2:Nat):Int):=⟨s.dl.toNat - 2,by omega⟩
 have hmn:s.dl.toNat - 2=m:=by omega
 have hq':=hq
 rw [hm] at hq'
 have hin:=hq'.inT
 have hst:fitsAt (Tr.can F (L - 2) s.c) ((m+2:Nat):Int)→stepF N F s=some (copyF F m s.d (Tr.can F (L - 2) s.c) s.c):=fun hf=>by
  unfold stepF
  rw [if_neg h123.1,if_neg h123.2.1,if_neg h123.2.2,hLn,hmn,if_pos ⟨hp,hq,by rw [hm];exact hf⟩]
 have hg:=tgraft_any hN sb m s.d hq' most F (copyF F m s.d (Tr.can F (L - 2) s.c) s.c) hF.range W1 Far ts hG (Tr.can F (L - 2) s.c) hTm ht hl0 (fun hf=>⟨copy_can hin.al (by rw [show ((m+2:Nat):Int)=(m:Int)+2 by omega] at hf;exact hf),fun p hp=>copyF_off hp,copyF_range hF.range (by omega),hlen _ (hst hf)⟩) (fun k hk=>Nat.lt_of_lt_of_le (hFar k hk) hb1.size) (hS.later hb1)
 rw [show cubeV s.d.x s.d.y s.d.z ((m+2:Nat):Int) = .agg #[s.d.x,s.d.y,s.d.z,s.dl] by rw [hm]] at hg
 refine Calls.mono hg fun e W' hgd=>?_
 by_cases hf:fitsAt (Tr.can F (L - 2) s.c) ((m+2:Nat):Int)
 · exact .of_some (hst hf) ((hgd.ok hf).before hb1)
 · have hs:stepF N F s=none:=by
    unfold stepF
    rw [if_neg h123.1,if_neg h123.2.1,if_neg h123.2.2,hLn,if_neg (fun h=>hf (by rw [←hm];exact h.2.2))]
   obtain ⟨g1,g2⟩:=hgd.bad hf
   exact .of_none hs ⟨g1,hb1.trans (g2.mono hb1.size)⟩
end
section
open Go.RowKit Go.Sort Go.Maps
open Oct
theorem play_any {N:Nat} (hN:N≤12) (F:Pt→Int) (hF:FnC N F) (s:Stp) (hfew:fewS N s=true) (sb:Nat) (most:Int) (ts:List Tr) (hG:Good ts) (hl0:ts.length≤4000000) (ht:trF N F∈ts) (hlen : ∀ F',stepF N F s=some F'→(addn N F' ts).length≤4000000) (w:World) (hok:StpOk w s) (Far:Nat→Prop) (hfx:s.ys ≠ [] → ∀ b,s.ga.map (·.block)=some b→Far b) (hFar : ∀ k,Far k→k<w.heap.size) (hS:StoreIs w Far sb most ts) :
 Calls Tryz.prog 13 #[.pointer (some ⟨sb,0,none⟩),.int .i64 (idn ts N F),.int .i64 ((N:Int)+2),.agg s.arr] w (PlayR Far sb most ts N F s w):=by
 by_cases h:s.kd=1∨s.kd=2∨s.kd=3
 · exact play_s123 hN F hF s h hfew sb most ts hG ht hlen w hok Far hfx hFar hS
 · exact play_s4 hN F hF s (by omega) sb most ts hG hl0 ht hlen w Far hFar hS
end
section
open Go.RowKit
open Oct
theorem wide_uni {N:Nat} {b:Box} {c:Int} {F:Pt→Int} (h:wideP N b=true):trF N (fillF N b c F) = .uni c:=by
 have hp:=Tr.pow_pos2 N
 have he:emptyB (cubeB (2 ^ (N+2)))=false:=emptyB_iff.2 ⟨by simp only [cubeB,Pt.zero];omega,by simp only [cubeB,Pt.zero];omega,by simp only [cubeB,Pt.zero];omega⟩
 unfold wideP at h
 rw [vol_meet he,decide_eq_true_eq] at h
 refine fill_in (InT.top N) ?_
 have hcube:cubeAtB N ⟨0,0,0⟩=cubeB (2 ^ (N+2)):=by unfold cubeAtB cubeB Pt.zero;simp
 rw [hcube]
 unfold containsB
 rw [h]
 simp
theorem step_both {N:Nat} (hN:N≤12) {F F':Pt→Int} (hF:FnC N F) {s:Stp} (hfew:fewS N s=true) (hs:stepF N F s=some F') :
 FnC N F' ∧ ∀ ts:List Tr,Good ts→trF N F∈ts→(addn N F' ts).length≤ts.length+52000:=by
 simp only [fewS,Bool.and_eq_true,Bool.or_eq_true,decide_eq_true_eq] at hfew
 obtain ⟨f1,f2,f3,-,-,f6⟩:=hfew
 unfold stepF at hs
 split at hs
 · split at hs
   · rename_i hc
     obtain rfl:=Option.some.inj hs
     refine ⟨fillF_fn hF hc,fun ts hG ht=>?_⟩
     rcases f6 with h | h | h
     · exact Nat.le_trans (any_len h _ ts) (by omega)
     · exact fill_len hN hF hc hG ht h
     · unfold addn
       rw [wide_uni h,Tr.add_uni]
       have:=ins_len' (.uni s.cell) ts
       omega
   · cases hs
 · split at hs
   · obtain rfl:=Option.some.inj hs
     have HX:=goodG_of (hcp:=s.ys.length) f3 f1 (Nat.le_refl _)
     exact ⟨pasteF_fn HX hF,fun ts hG ht=>Nat.le_trans (paste_len HX hN hF hG ht) (by omega)⟩
   · split at hs
     · split at hs
       · rename_i hc
         obtain rfl:=Option.some.inj hs
         have hl : ∀ x∈pts s.cs,inB x.1 (wholeB N)=true∧0≤x.2∧x.2≤255:=fun x hx=>by
          obtain ⟨c,hcm,rfl⟩:=List.mem_map.1 hx
          exact hc c hcm
         refine ⟨writeF_fn hl hF,fun ts hG ht=>?_⟩
         have h:=write_len hN hl hF hG ht
         rw [List.length_map] at h
         unfold addn
         omega
       · cases hs
     · split at hs
       · rename_i hc
         obtain ⟨hp,hq,hf⟩:=hc
         obtain rfl:=Option.some.inj hs
         obtain ⟨p1,p2,p3,p4⟩:=hp
         have q2:=hq.2.1
         have q3:=hq.2.2.1
         obtain ⟨m,hm⟩ : ∃ m:Nat,s.dl=((m+2:Nat):Int):=⟨s.dl.toNat - 2,by omega⟩
         have hmn:s.dl.toNat - 2=m:=by omega
         have hq':=hq
         rw [hm] at hq' hf
         have hin:=hq'.inT
         rw [hmn]
         have hcop:Tr.can (copyF F m s.d (Tr.can F (s.cl.toNat - 2) s.c) s.c) m s.d=Tr.can F (s.cl.toNat - 2) s.c:=copy_can hin.al (by rw [show ((m+2:Nat):Int)=(m:Int)+2 by omega] at hf;exact hf)
         refine ⟨⟨copyF_range hF.range (by omega),fun p hp=>?_⟩,fun ts hG ht=>?_⟩
         · rw [copyF_off (fun h=>by have:=hin.whole h;rw [this] at hp;cases hp)]
           exact hF.out p hp
         · have hT:partT (trF N F) N s.cl.toNat s.c=Tr.can F (s.cl.toNat - 2) s.c:=partT_can F N s.cl.toNat ⟨0,0,0⟩ s.c (al_zero N) (inC_of_in p1) (by omega) (by omega) (alB_iff.1 p4)
           have hTm:Tr.can F (s.cl.toNat - 2) s.c∈ts:=by rw [←hT];exact partT_in hG _ s.c N _ ht (dep_can F N _)
           have h:=graft_len (f:=F) (copyF_range (d:=s.d) (c:=s.c) (a:=s.c) (m:=m) hF.range (show s.cl.toNat - 2≤200 by omega)) m s.d hin.al hG (by rw [hcop];exact hTm) (fun p hp=>copyF_off hp) N ⟨0,0,0⟩ (by omega) hin.le (al_zero N) (inC_of_in hq.1) ht
           unfold addn
           exact Nat.le_trans h (by omega)
       · cases hs
end
section
open Go.RowKit
open Oct
theorem sum_flat {α β:Type} (f:α→List β) (g:β→Nat) (l:List α):((l.flatMap f).map g).sum=(l.map fun i=>((f i).map g).sum).sum:=by
 induction l with
 | nil=>rfl
 | cons x l ih=>rw [List.flatMap_cons,List.map_append,List.sum_append,ih,List.map_cons,List.sum_cons]
theorem sum_const {α:Type} (l:List α) (v:Nat):(l.map fun _=>v).sum=l.length * v:=by
 induction l with
 | nil=>simp
 | cons x l ih=>rw [List.map_cons,List.sum_cons,ih,List.length_cons,Nat.succ_mul,Nat.add_comm]
end
section
open Go.RowKit
open Oct
theorem kid_can (F:Pt→Int) (n:Nat) (a:Pt) (i:Fin 8):(Tr.can F (n+1) a).kid i=Tr.can F n (Tr.cor a n i.val):=Tr.mkInner_kid (n+3) (fun i=>Tr.can F n (Tr.cor a n i.val)) i
theorem diff_mem {N:Nat} {F G:Pt→Int} : ∀ (n:Nat) (a:Pt),InT N n a → ∀ x∈diffT n a (Tr.can F n a) (Tr.can G n a),InT N x.2 x.1∧Tr.can F x.2 x.1 ≠ Tr.can G x.2 x.1∧(0<x.2→isU (Tr.can F x.2 x.1)=true∧isU (Tr.can G x.2 x.1)=true):=by
 intro n
 induction n with
 | zero =>
   intro a hin x hx
   unfold diffT at hx
   split at hx
   · simp at hx
   · rename_i h
     rw [List.mem_singleton] at hx
     subst hx
     exact ⟨hin,h,fun h=>absurd h (Nat.lt_irrefl 0)⟩
 | succ n ih =>
   intro a hin x hx
   unfold diffT at hx
   split at hx
   · simp at hx
   · rename_i h
     split at hx
     · rename_i h2
       rw [List.mem_singleton] at hx
       subst hx
       rw [Bool.and_eq_true] at h2
       exact ⟨hin,h,fun _=>h2⟩
     · obtain ⟨i,-,hi⟩:=List.mem_flatMap.1 hx
       rw [kid_can,kid_can] at hi
       exact ih _ (hin.kid i.isLt) x hi
theorem sum_one8 {f:Fin 8→Nat} {j:Fin 8} (h : ∀ i,i ≠ j→f i=0):((List.finRange 8).map f).sum=f j:=by
 have key : ∀ i,f i=if i=j then f j else 0:=fun i=>by
  by_cases e:i=j
  · rw [if_pos e,e]
  · rw [if_neg e,h i e]
 rw [List.map_congr_left (fun i _=>key i)]
 generalize f j=v
 clear key h f
 have e:List.finRange 8=[0,1,2,3,4,5,6,7]:=by decide
 rw [e]
 obtain ⟨j,hj⟩:=j
 have hc:j=0∨j=1∨j=2∨j=3∨j=4∨j=5∨j=6∨j=7:=by omega
 rcases hc with rfl | rfl | rfl | rfl | rfl | rfl | rfl | rfl <;> simp
open Classical in
noncomputable def cntP (p:Pt) (L:List (Pt × Nat)):Nat:=(L.map fun x=>if Tr.InC x.2 x.1 p then 1 else 0).sum
open Classical in
theorem diff_one {F G:Pt→Int} (p:Pt) : ∀ (n:Nat) (a:Pt),Tr.Al n a→cntP p (diffT n a (Tr.can F n a) (Tr.can G n a))≤(if Tr.InC n a p then 1 else 0)∧(Tr.InC n a p→F p ≠ G p→cntP p (diffT n a (Tr.can F n a) (Tr.can G n a))=1):=by
 intro n
 induction n with
 | zero =>
   intro a ha
   unfold diffT
   split
   · rename_i h
     exact ⟨by simp [cntP],fun h1 h2=>absurd ((Tr.can_iff 0 a ha).1 h p h1) h2⟩
   · exact ⟨by simp [cntP],fun h1 _=>by simp [cntP,h1]⟩
 | succ n ih =>
   intro a ha
   unfold diffT
   split
   · rename_i h
     exact ⟨by simp [cntP],fun h1 h2=>absurd ((Tr.can_iff (n+1) a ha).1 h p h1) h2⟩
   · split
     · exact ⟨by simp [cntP],fun h1 _=>by simp [cntP,h1]⟩
     · have hs:cntP p ((List.finRange 8).flatMap fun i=>diffT n (Tr.cor a n i.val) ((Tr.can F (n+1) a).kid i) ((Tr.can G (n+1) a).kid i))=((List.finRange 8).map fun i=>cntP p (diffT n (Tr.cor a n i.val) (Tr.can F n (Tr.cor a n i.val)) (Tr.can G n (Tr.cor a n i.val)))).sum:=by
        unfold cntP
        rw [sum_flat]
        congr 1
        exact List.map_congr_left fun i _=>by rw [kid_can,kid_can]
       rw [hs]
       have h0 : ∀ i:Fin 8,¬Tr.InC n (Tr.cor a n i.val) p→cntP p (diffT n (Tr.cor a n i.val) (Tr.can F n (Tr.cor a n i.val)) (Tr.can G n (Tr.cor a n i.val)))=0:=fun i hi=>by
        have h:=(ih _ (Tr.al_cor ha i.val)).1
        rw [if_neg hi] at h
        omega
       by_cases hp:Tr.InC (n+1) a p
       · rw [sum_one8 (j:=Tr.oct n p) (fun i hi=>h0 i fun h=>hi (Tr.inC_other ha h).1),if_pos hp]
         have hj:=Tr.inC_step ha hp
         have h:=ih _ (Tr.al_cor ha (Tr.oct n p).val)
         rw [if_pos hj] at h
         exact ⟨h.1,fun _ h2=>h.2 hj h2⟩
       · refine ⟨?_,fun h=>absurd h hp⟩
         rw [if_neg hp,List.map_congr_left (fun i _=>h0 i fun h=>hp (Tr.inC_other ha h).2),sum_const]
         simp
theorem diff_nil {N:Nat} {F G:Pt→Int}:diffT N ⟨0,0,0⟩ (trF N F) (trF N G)=[] ↔ trF N F=trF N G:=by
 refine ⟨fun h=>?_,fun h=>by rw [h];exact diffT_same _ _ _⟩
 refine (Tr.can_iff N ⟨0,0,0⟩ (al_zero N)).2 fun p hp=>?_
 by_cases e:F p=G p
 · exact e
 · have h1:=(diff_one (F:=F) (G:=G) p N ⟨0,0,0⟩ (al_zero N)).2 hp e
   rw [show diffT N ⟨0,0,0⟩ (Tr.can F N ⟨0,0,0⟩) (Tr.can G N ⟨0,0,0⟩)=[] from h] at h1
   simp [cntP] at h1
def mD:Nat→Int→Int→Int→Int
 | 0,_,_,_=>0
 | j+1,x,y,z=>8 * mD j (x / 2) (y / 2) (z / 2)+x % 2+2 * (y % 2)+4 * (z % 2)
theorem mD_succ (j:Nat) (x y z:Int):mD (j+1) x y z=8 * mD j (x / 2) (y / 2) (z / 2)+x % 2+2 * (y % 2)+4 * (z % 2):=rfl
theorem mD_bd : ∀ (j:Nat) (x y z:Int),0≤mD j x y z∧mD j x y z<8 ^ j
 | 0,_,_,_=>by simp [mD]
 | j + 1, x, y, z => by
   have h:=mD_bd j (x / 2) (y / 2) (z / 2)
   rw [mD_succ,Int.pow_succ]
   omega
theorem div_pow_succ (x:Int) (m:Nat):x / 2 / 2 ^ m=x / 2 ^ (m+1):=by
 rw [Int.ediv_ediv_of_nonneg (by omega),Int.pow_succ,Int.mul_comm]
theorem mD_split (j:Nat) : ∀ (m:Nat) (x y z:Int),mD (j+m) x y z=8 ^ m * mD j (x / 2 ^ m) (y / 2 ^ m) (z / 2 ^ m)+mD m x y z
 | 0,x,y,z=>by simp [mD]
 | m + 1, x, y, z => by
   rw [show j+(m+1)=(j+m)+1 from rfl,mD_succ,mD_succ m,mD_split j m,div_pow_succ,div_pow_succ,div_pow_succ,Int.pow_succ 8 m,Int.mul_add,←Int.mul_assoc,Int.mul_comm 8 (8 ^ m)]
   omega
theorem mD_in {n:Nat} (hn:n≤12) {a p:Pt} (h:Tr.InC n a p):8 ^ (n+2) * mD (12 - n) (a.x / 2 ^ (n+2)) (a.y / 2 ^ (n+2)) (a.z / 2 ^ (n+2))≤mD 14 p.x p.y p.z∧mD 14 p.x p.y p.z<8 ^ (n+2) * mD (12 - n) (a.x / 2 ^ (n+2)) (a.y / 2 ^ (n+2)) (a.z / 2 ^ (n+2))+8 ^ (n+2):=by
 have hs:=mD_split (12 - n) (n+2) p.x p.y p.z
 rw [show 12 - n+(n+2)=14 by omega] at hs
 rw [hs,h.1,h.2.1,h.2.2]
 have hb:=mD_bd (n+2) p.x p.y p.z
 omega
theorem cor_div {x m:Int} (hm:0<m) (h:x % (m * 2)=0) (b:Int):(x+b * m) / m=2 * (x / (m * 2))+b:=by
 obtain ⟨k,rfl⟩:=Int.dvd_of_emod_eq_zero h
 rw [Int.mul_ediv_cancel_left _ (by omega),show m * 2 * k+b * m=m * (2 * k+b) by rw [Int.mul_add,Int.mul_assoc,Int.mul_comm b m],Int.mul_ediv_cancel_left _ (by omega)]
theorem mD_cor {n:Nat} (hn:n+1≤12) {a:Pt} (ha:Tr.Al (n+1) a) (i:Fin 8):mD (12 - n) ((Tr.cor a n i.val).x / 2 ^ (n+2)) ((Tr.cor a n i.val).y / 2 ^ (n+2)) ((Tr.cor a n i.val).z / 2 ^ (n+2))=8 * mD (12 - (n+1)) (a.x / 2 ^ (n+1+2)) (a.y / 2 ^ (n+1+2)) (a.z / 2 ^ (n+1+2))+i.val:=by
 obtain ⟨a1,a2,a3⟩:=ha
 have hp:=Tr.pow_pos2 n
 rw [Tr.pow_succ2] at a1 a2 a3 ⊢
 unfold Tr.cor
 simp only []
 rw [cor_div hp a1,cor_div hp a2,cor_div hp a3,show 12 - n=(12 - (n+1))+1 by omega,mD_succ]
 have hi:=i.isLt
 have e1 : ∀ (u:Int) (b:Nat),b<2→(2 * u+(b:Int)) / 2=u∧(2 * u+(b:Int)) % 2=b:=fun u b hb=>⟨by omega,by omega⟩
 obtain ⟨q1,q2⟩:=e1 (a.x / (2 ^ (n+2) * 2)) (i.val % 2) (by omega)
 obtain ⟨q3,q4⟩:=e1 (a.y / (2 ^ (n+2) * 2)) (i.val / 2 % 2) (by omega)
 obtain ⟨q5,q6⟩:=e1 (a.z / (2 ^ (n+2) * 2)) (i.val / 4) (by omega)
 rw [q1,q2,q3,q4,q5,q6]
 omega
theorem diff_inC : ∀ (n:Nat) (a:Pt) (T U:Tr),Tr.Al n a → ∀ x∈diffT n a T U,Tr.InC n a x.1:=by
 intro n
 induction n with
 | zero =>
   intro a T U ha x hx
   unfold diffT at hx
   split at hx
   · simp at hx
   · rw [List.mem_singleton] at hx;subst hx;exact ⟨rfl,rfl,rfl⟩
 | succ n ih =>
   intro a T U ha x hx
   unfold diffT at hx
   split at hx
   · simp at hx
   · split at hx
     · rw [List.mem_singleton] at hx;subst hx;exact ⟨rfl,rfl,rfl⟩
     · obtain ⟨i,-,hi⟩:=List.mem_flatMap.1 hx
       exact (Tr.inC_other ha (ih _ _ _ (Tr.al_cor ha i.val) x hi)).2
def mcode (p:Pt):Int:=mD 14 p.x p.y p.z
theorem diff_order : ∀ (n:Nat),n≤12 → ∀ (a:Pt) (T U:Tr),Tr.Al n a→(diffT n a T U).Pairwise fun x y=>mcode x.1<mcode y.1:=by
 intro n
 induction n with
 | zero =>
   intro _ a T U _
   unfold diffT
   split
   · exact List.Pairwise.nil
   · exact List.pairwise_singleton _ _
 | succ n ih =>
   intro hn a T U ha
   unfold diffT
   split
   · exact List.Pairwise.nil
   · split
     · exact List.pairwise_singleton _ _
     · rw [List.pairwise_flatMap]
       refine ⟨fun i _=>ih (by omega) _ _ _ (Tr.al_cor ha i.val),?_⟩
       refine List.Pairwise.imp (R:=fun (i j:Fin 8)=>i<j) (fun {i j} hij x hx y hy=>?_) (List.pairwise_lt_finRange 8)
       have h1:=(mD_in (show n≤12 by omega) (diff_inC n _ _ _ (Tr.al_cor ha i.val) x hx)).2
       have h2:=(mD_in (show n≤12 by omega) (diff_inC n _ _ _ (Tr.al_cor ha j.val) y hy)).1
       rw [mD_cor hn ha] at h1 h2
       have hlt:i.val<j.val:=hij
       have h8:(0:Int)<8 ^ (n+2):=Int.pow_pos (by decide)
       generalize (8:Int) * mD (12 - (n+1)) (a.x / 2 ^ (n+1+2)) (a.y / 2 ^ (n+1+2)) (a.z / 2 ^ (n+1+2))=B at h1 h2
       unfold mcode
       have h3:(8:Int) ^ (n+2) * (B+i.val)+8 ^ (n+2)≤8 ^ (n+2) * (B+j.val):=by
        have e:(8:Int) ^ (n+2) * (B+i.val)+8 ^ (n+2)=8 ^ (n+2) * (B+i.val+1):=by rw [Int.mul_add _ (B+(i.val:Int)) 1,Int.mul_one]
        rw [e]
        exact Int.mul_le_mul_of_nonneg_left (by omega) (by omega)
       omega
end
section
open Go.RowKit Go.Sort Go.Maps
open Oct
set_option maxRecDepth 100000 in
theorem mor_bit (x:Int) (i:Nat) (hx:0≤x∧x<16384) (hi:i≤13) (w:World) :
 Calls Tryz.prog 155 #[x,(i:Int)] w fun e w'=>e = .returned (.int .i64 (x / 2 ^ i % 2))∧w=w':=by
 have h0:(0:Int)≤(i:Int):=by omega
 go_enter Tryz.func155,Tryz.ntmps155
 go_wp2_with fail
 go_ret
 refine ⟨?_,rfl⟩
 have hd:0≤x / 2 ^ i:=Int.ediv_nonneg hx.1 (Int.le_of_lt (Int.pow_pos (by decide)))
 have hd2:x / 2 ^ i≤x:=Int.ediv_le_self _ hx.1
 show Ending.returned (.int .i64 (bits .and .i64 (x / 2 ^ i) 1))=_
 rw [i64_and1 _ hd (by omega)]
set_option maxRecDepth 100000 in
theorem mor_inside (x y z:Int) (hx:0≤x∧x<16384) (hy:0≤y∧y<16384) (hz:0≤z∧z<16384) (w:World) :
 Calls Tryz.prog 154 #[.agg #[x,y,z]] w fun e w'=>e = .returned (.bool true)∧Below w.heap.size w w':=by
 have t0:decide (0≤x)=true:=by simp;omega
 have t1:decide (0≤y)=true:=by simp;omega
 have t2:decide (0≤z)=true:=by simp;omega
 have t3:decide (x<16384)=true:=by simp;omega
 have t4:decide (y<16384)=true:=by simp;omega
 have t5:decide (z<16384)=true:=by simp;omega
 clear hx hy hz
 go_enter Tryz.func154,Tryz.ntmps154
 go_wp2_with fail
 go_ret
 exact ⟨rfl,(Below.refl _ _).alloc (Nat.le_refl _) _⟩
theorem mD_le {k:Nat} (hk:k≤13) (x y z:Int):0≤mD k x y z∧mD k x y z≤549755813888:=by
 have h:=mD_bd k x y z
 have h1:(8:Nat) ^ k≤8 ^ 13:=Nat.pow_le_pow_right (by decide) hk
 have h2:((8 ^ k:Nat):Int)=(8:Int) ^ k:=by rw [Int.natCast_pow];rfl
 rw [←h2] at h
 have h3:(8:Nat) ^ 13=549755813888:=by decide
 omega
theorem mD_next (k j:Nat) (x y z:Int):mD (k+1) (x / 2 ^ j) (y / 2 ^ j) (z / 2 ^ j)=8 * mD k (x / 2 ^ (j+1)) (y / 2 ^ (j+1)) (z / 2 ^ (j+1))+x / 2 ^ j % 2+2 * (y / 2 ^ j % 2)+4 * (z / 2 ^ j % 2):=by
 have e : ∀ u:Int,u / 2 ^ j / 2=u / 2 ^ (j+1):=fun u=>by rw [Int.ediv_ediv_of_nonneg (Int.le_of_lt (Int.pow_pos (by decide))),Int.pow_succ]
 rw [mD_succ,e,e,e]
set_option maxRecDepth 100000 in
set_option maxHeartbeats 2000000 in
theorem mor_encode (x y z:Int) (hx:0≤x∧x<16384) (hy:0≤y∧y<16384) (hz:0≤z∧z<16384) (w:World) :
 Calls Tryz.prog 101 #[.agg #[x,y,z]] w fun e w'=>e = .returned (.int .i64 (mD 14 x y z))∧Below w.heap.size w w':=by
 have hins:=Bx.mk fun W=>mor_inside x y z hx hy hz W
 have hb0:=Bx.mk fun (W:World) (i:Nat) (hi:i≤13)=>(mor_bit x i hx hi W).mono (R':=fun e w'=>e = .returned (.int .i64 (x / 2 ^ i % 2))∧Below W.heap.size W w') fun e w' h=>⟨h.1,h.2 ▸ Below.refl _ _⟩
 have hb1:=Bx.mk fun (W:World) (i:Nat) (hi:i≤13)=>(mor_bit y i hy hi W).mono (R':=fun e w'=>e = .returned (.int .i64 (y / 2 ^ i % 2))∧Below W.heap.size W w') fun e w' h=>⟨h.1,h.2 ▸ Below.refl _ _⟩
 have hb2:=Bx.mk fun (W:World) (i:Nat) (hi:i≤13)=>(mor_bit z i hz hi W).mono (R':=fun e w'=>e = .returned (.int .i64 (z / 2 ^ i % 2))∧Below W.heap.size W w') fun e w' h=>⟨h.1,h.2 ▸ Below.refl _ _⟩
 have hzero:Bx ((0:Int)=mD (14 - 14) (x / 2 ^ 14) (y / 2 ^ 14) (z / 2 ^ 14)):=⟨rfl⟩
 have hend:Bx (mD (14 - 0) (x / 2 ^ 0) (y / 2 ^ 0) (z / 2 ^ 0)=mD 14 x y z):=⟨by simp⟩
 clear hx hy hz
 go_enter Tryz.func101,Tryz.ntmps101
 go_upto_region 1 with fail
 generalize hW:World.alloc w _=W
 have hB:=bl1 hW
 have kg:Bk W w.heap.size #[x,y,z] 23:=bk0 hW
 clear hW
 obtain ⟨c0,c1,c2⟩:=kg.c3
 go_wp2_with fail
 refine (hins.out _).mono ?_
 rintro _ w1 ⟨rfl,hb⟩
 have HI:Bx (Bk w1 w.heap.size #[x,y,z] 23∧Below w.heap.size w w1):=⟨⟨kg.later hb,hB.trans (hb.mono hB.size)⟩⟩
 clear kg hB hb c0 c1 c2 hins
 go_wp2_with fail
 go_loopw [4,5] (fun v4 v5 wr => ∃ j:Nat,j≤14∧v4 = .int .i64 (mD (14 - j) (x / 2 ^ j) (y / 2 ^ j) (z / 2 ^ j))∧v5 = .int .i64 ((j:Int) - 1)∧Bx (Bk wr w.heap.size #[x,y,z] 23∧Below w.heap.size w wr)) (fun _ i _=>(intOf i+1).toNat)
 case atStart=>exact ⟨14,Nat.le_refl _,by rw [←hzero.out],rfl,HI⟩
 case round =>
  clear HI
  obtain ⟨j,hj,rfl,rfl,HI⟩:=hrel
  cases j with
  | zero =>
    have t0:decide ((0:Int)≤((0:Nat):Int) - 1)=false:=by decide
    go_wp2_with fail
    go_ret
    exact ⟨by rw [←hend.out];rfl,HI.out.2⟩
  | succ j =>
    have t0:decide ((0:Int)≤((j+1:Nat):Int) - 1)=true:=by simp
    have ej:((j+1:Nat):Int) - 1=(j:Int):=by omega
    rw [ej] at t0 ⊢
    have hm:=mD_le (k:=14 - (j+1)) (by omega) (x / 2 ^ (j+1)) (y / 2 ^ (j+1)) (z / 2 ^ (j+1))
    have hnx:=mD_next (14 - (j+1)) j x y z
    rw [show 14 - (j+1)+1=14 - j by omega] at hnx
    have Hnx:=Bx.mk hnx
    generalize mD (14 - (j+1)) (x / 2 ^ (j+1)) (y / 2 ^ (j+1)) (z / 2 ^ (j+1))=v at *
    obtain ⟨ch0,ch1,ch2⟩:=HI.out.1.r3
    have q0:=Bx.mk fun dk osk=>Calls.regrown_of (hb0.out (grow (redrawn wr dk) osk) j (by omega))
    have q1:=Bx.mk fun dk osk=>Calls.regrown_of (hb1.out (grow (redrawn wr dk) osk) j (by omega))
    have q2:=Bx.mk fun dk osk=>Calls.regrown_of (hb2.out (grow (redrawn wr dk) osk) j (by omega))
    generalize hux:x / 2 ^ j % 2=ux at *
    generalize huy:y / 2 ^ j % 2=uy at *
    generalize huz:z / 2 ^ j % 2=uz at *
    have hv:Bx ((0≤v∧v≤549755813888)∧(0≤ux∧ux<2)∧(0≤uy∧uy<2)∧(0≤uz∧uz<2)):=⟨⟨hm,by omega,by omega,by omega⟩⟩
    clear hm hux huy huz ej hnx
    go_wp2_with fail
    refine wp_region_head_below 19 (by kernel_rfl) (by kernel_rfl) ?_
    simp only [List.take_succ_cons,List.take_zero,List.drop_succ_cons,List.drop_zero]
    repeat (first | go_big_quiet_step ((first | with_reducible exact q0.out _ _ | with_reducible exact q1.out _ _ | with_reducible exact q2.out _ _)) | quiet_step (first | with_reducible exact q0.out _ _ | with_reducible exact q1.out _ _ | with_reducible exact q2.out _ _))
    refine wpQuiet_nil ?_
    rintro _ ⟨⟨dq,osq⟩,rfl⟩
    have hbq:=below_regrown wr dq osq
    have HJ:=Bx.mk (And.intro (HI.out.1.later hbq) (HI.out.2.trans (hbq.mono HI.out.2.size)))
    clear q0 q1 q2 ch0 ch1 ch2 HI hbq
    generalize grow (redrawn wr dq) osq=w5 at *
    go_wp2_with fail
    have hw:wrap64 (wrap64 (wrap64 (wrap64 (8 * v)+ux)+wrap64 (2 * uy))+wrap64 (4 * uz))=8 * v+ux+2 * uy+4 * uz:=by
     have:=hv.out
     simp only [wrap64,IntKind.wrap]
     omega
    go_roundw
    case rel=>exact ⟨j,by omega,by rw [Hnx.out,hw],rfl,HJ⟩
    case measure=>simp [intOf]
def In14 (p:Pt):Prop:=(0≤p.x∧p.x<16384)∧(0≤p.y∧p.y<16384)∧(0≤p.z∧p.z<16384)
set_option maxRecDepth 100000 in
set_option maxHeartbeats 1000000 in
theorem mor_less (p q:Pt) (hp:In14 p) (hq:In14 q) (hlt:mcode p<mcode q) (w:World) :
 Calls Tryz.prog 37 #[.agg #[p.x,p.y,p.z],.agg #[q.x,q.y,q.z]] w fun e w'=>e = .returned (.int .i64 (-1))∧Below w.heap.size w w':=by
 obtain ⟨px,py,pz⟩:=p
 obtain ⟨qx,qy,qz⟩:=q
 have h0:=Bx.mk fun W=>mor_encode px py pz hp.1 hp.2.1 hp.2.2 W
 have h1:=Bx.mk fun W=>mor_encode qx qy qz hq.1 hq.2.1 hq.2.2 W
 have t0:decide (mD 14 px py pz<mD 14 qx qy qz)=true:=decide_eq_true hlt
 clear hp hq hlt
 generalize mD 14 px py pz=mp at *
 generalize mD 14 qx qy qz=mq at *
 go_enter Tryz.func37,Tryz.ntmps37
 go_upto_region 1 with fail
 generalize hW:World.alloc (World.alloc w _) _=W
 have hB:=bl2 hW
 have kp:Bk W w.heap.size #[px,py,pz] 23:=bk1 hW
 have kq:Bk W (w.heap.size+1) #[qx,qy,qz] 23:=bk0 hW
 clear hW
 obtain ⟨c0,c1,c2⟩:=kp.c3
 go_wp2_with fail
 refine (h0.out _).mono ?_
 rintro _ w1 ⟨rfl,hb⟩
 replace hB:=hB.trans (hb.mono hB.size)
 replace kq:=kq.later hb
 clear hb kp c0 c1 c2
 obtain ⟨c0,c1,c2⟩:=kq.c3
 go_wp2_with fail
 refine (h1.out _).mono ?_
 rintro _ w2 ⟨rfl,hb⟩
 replace hB:=Bx.mk (hB.trans (hb.mono hB.size))
 clear hb kq c0 c1 c2
 go_wp2_with fail
 go_ret
 exact ⟨rfl,hB.out⟩
end
section
open Go.RowKit Go.Sort Go.Maps
open Oct
structure DC (N:Nat) (F G:Pt→Int) (x:Pt × Nat):Prop where
 hin:InT N x.2 x.1
 ne:Tr.can F x.2 x.1 ≠ Tr.can G x.2 x.1
 uni:0<x.2→isU (Tr.can F x.2 x.1)=true∧isU (Tr.can G x.2 x.1)=true
theorem dc_of {N:Nat} {F G:Pt→Int} {x:Pt × Nat} (h:x∈diffT N ⟨0,0,0⟩ (trF N F) (trF N G)):DC N F G x:=by
 obtain ⟨h1,h2,h3⟩:=diff_mem N ⟨0,0,0⟩ (InT.top N) x h
 exact ⟨h1,h2,h3⟩
theorem part_mem {N:Nat} {F:Pt→Int} {n:Nat} {a:Pt} (hin:InT N n a) {ts:List Tr} (hG:Good ts) (hT:trF N F∈ts):partT (trF N F) N (n+2) a=Tr.can F n a∧Tr.can F n a∈ts:=by
 have hle:=hin.le
 have e:partT (trF N F) N (n+2) a=Tr.can F n a:=partT_can F N (n+2) ⟨0,0,0⟩ a (al_zero N) (inC_of_in (hin.whole ⟨rfl,rfl,rfl⟩)) (by omega) (by omega) hin.al
 exact ⟨e,by rw [←e];exact partT_in hG (n+2) a N _ hT (dep_can F N _)⟩
theorem part_cube {N:Nat} (hN:N≤12) {F:Pt→Int} {n:Nat} {a:Pt} (hin:InT N n a) {ts:List Tr} (hG:Good ts) (hT:trF N F∈ts) (hlen:ts.length≤4194304) (sb:Nat) (most:Int) (Far:Nat→Prop) (W:World) (hS:StoreIs W Far sb most ts) :
 Calls Tryz.prog 38 #[.pointer (some ⟨sb,0,none⟩),.int .i64 (idn ts N F),.int .i64 ((N:Int)+2),.agg #[a.x,a.y,a.z],.int .i64 ((n:Int)+2)] W fun e w'=>e=ret2 (idT ts (Tr.can F n a):Int) 0∧Below W.heap.size W w':=by
 have hle:=hin.le
 have h:=part_ok W sb N (n+2) hN (by omega) (by omega) a.x a.y a.z (hin.whole ⟨rfl,rfl,rfl⟩) (alB_iff.2 hin.al) Far most ts (trF N F) hT (dep_can F N _) hG (by omega) hS
 rw [show (⟨a.x,a.y,a.z⟩:Pt)=a from rfl,(part_mem hin hG hT).1,show ((n+2:Nat):Int)=(n:Int)+2 by omega] at h
 exact h
theorem cube_box {N:Nat} (hN:N≤12) {n:Nat} {a:Pt} (hin:InT N n a) (W:World) :
 Calls Tryz.prog 35 #[.agg #[a.x,a.y,a.z],.int .i64 ((n:Int)+2)] W fun e w'=>e = .returned (.agg #[a.x,a.y,a.z,.int .i64 (a.x+2 ^ (n+2)),.int .i64 (a.y+2 ^ (n+2)),.int .i64 (a.z+2 ^ (n+2))])∧Below W.heap.size W w':=by
 have hle:=hin.le
 have hp:=pow_le (show N+2≤14 by omega)
 have hq:=Tr.pow_pos2 n
 have h:=cube9_any a.x a.y a.z (n+2) (by omega) ⟨hin.x.1,by have:=hin.x.2;omega⟩ ⟨hin.y.1,by have:=hin.y.2;omega⟩ ⟨hin.z.1,by have:=hin.z.2;omega⟩ W
 rw [show ((n+2:Nat):Int)=(n:Int)+2 by omega] at h
 exact h
theorem in14_of {N:Nat} (hN:N≤12) {n:Nat} {a:Pt} (hin:InT N n a):In14 a:=by
 have hp:=pow_le (show N+2≤14 by omega)
 have hq:=Tr.pow_pos2 n
 exact ⟨⟨hin.x.1,by have:=hin.x.2;omega⟩,⟨hin.y.1,by have:=hin.y.2;omega⟩,⟨hin.z.1,by have:=hin.z.2;omega⟩⟩
def inD (p:Pt) (x:Pt × Nat):Bool:=inB p ⟨⟨x.1.x,x.1.y,x.1.z⟩,⟨x.1.x+2 ^ (x.2+2),x.1.y+2 ^ (x.2+2),x.1.z+2 ^ (x.2+2)⟩⟩
theorem cnt_take {p:Pt} {D:List (Pt × Nat)} {i:Nat} {x:Pt × Nat} (hx:D[i]? = some x) (ha:Tr.Al x.2 x.1):cntP p (D.take (i+1))=cntP p (D.take i)+(if inD p x=true then 1 else 0):=by
 have hj:=List.getElem?_eq_some_iff.1 hx
 unfold cntP
 rw [List.take_succ_eq_append_getElem hj.1,hj.2,List.map_append,List.sum_append]
 simp only [List.map_cons,List.map_nil,List.sum_cons,List.sum_nil,Nat.add_zero]
 have h:=inB_inC (n:=x.2) (ax:=x.1.x) (ay:=x.1.y) (az:=x.1.z) rfl (show Tr.Al x.2 ⟨x.1.x,x.1.y,x.1.z⟩ from ha) (p:=p)
 by_cases e:inD p x=true
 · rw [if_pos e,if_pos (h.1 e)]
 · rw [if_neg e,if_neg (fun h'=>e (h.2 h'))]
theorem cnt_le {p:Pt} {D:List (Pt × Nat)} (i:Nat):cntP p (D.take i)≤cntP p D:=by
 have h:cntP p D=cntP p (D.take i)+cntP p (D.drop i):=by
  conv=>lhs;rw [←List.take_append_drop i D]
  unfold cntP
  rw [List.map_append,List.sum_append]
 omega
theorem diff_lt {N:Nat} (hN:N≤12) {F G:Pt→Int} {i:Nat} {x y:Pt × Nat} (hy:(diffT N ⟨0,0,0⟩ (trF N F) (trF N G))[i]? = some y) (hx:(diffT N ⟨0,0,0⟩ (trF N F) (trF N G))[i+1]? = some x) (W:World) :
 Calls Tryz.prog 37 #[.agg #[.int .i64 y.1.x,.int .i64 y.1.y,.int .i64 y.1.z],.agg #[.int .i64 x.1.x,.int .i64 x.1.y,.int .i64 x.1.z]] W fun e w'=>e = .returned (.int .i64 (-1))∧Below W.heap.size W w':=by
 have ho:=diff_order N hN ⟨0,0,0⟩ (trF N F) (trF N G) (al_zero N)
 rw [List.pairwise_iff_getElem] at ho
 obtain ⟨h1,e1⟩:=List.getElem?_eq_some_iff.1 hy
 obtain ⟨h2,e2⟩:=List.getElem?_eq_some_iff.1 hx
 have h:=ho i (i+1) h1 h2 (Nat.lt_succ_self i)
 rw [e1,e2] at h
 exact mor_less y.1 x.1 (in14_of hN (dc_of (List.mem_of_getElem? hy)).hin) (in14_of hN (dc_of (List.mem_of_getElem? hx)).hin) h W
theorem diff_len : ∀ (n:Nat) (a:Pt) (T U:Tr),(diffT n a T U).length≤8 ^ n:=by
 intro n
 induction n with
 | zero=>intro a T U;unfold diffT;split <;> simp
 | succ n ih =>
   intro a T U
   unfold diffT
   split
   · simp
   · split
     · have:0<8 ^ (n+1):=Nat.pow_pos (by decide)
       simp only [List.length_singleton];omega
     · have h : ∀ l:List (Fin 8),(l.flatMap fun i=>diffT n (Tr.cor a n i.val) (T.kid i) (U.kid i)).length≤l.length * 8 ^ n:=by
        intro l
        induction l with
        | nil=>simp
        | cons i l ihl =>
          rw [List.flatMap_cons,List.length_append,List.length_cons,Nat.succ_mul]
          have:=ih (Tr.cor a n i.val) (T.kid i) (U.kid i)
          omega
       have h8:=h (List.finRange 8)
       rw [List.length_finRange] at h8
       rw [Nat.pow_succ]
       omega
theorem kind_uni {t:Tr} (h:isU t=true):kindV t=1:=by
 obtain ⟨c,rfl⟩:=isU_iff.1 h
 rfl
end
end Go.Proofs.YtfcbajmjaifjlaaGreat
