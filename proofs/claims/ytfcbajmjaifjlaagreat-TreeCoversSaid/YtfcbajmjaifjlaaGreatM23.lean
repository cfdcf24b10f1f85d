/- Fil, Tbr, Tbp: joined by program, for one claim. -/
import Derived.Test.YtfcbajmjaifjlaaGreatM22
import Derived.Shelf.Abstract
import Derived.Test.YtfcbajmjaifjlaaGreatM5
import Derived.Test.YtfcbajmjaifjlaaGreatM4
set_option linter.unusedVariables false
set_option linter.unusedSimpArgs false
namespace Go.Proofs.YtfcbajmjaifjlaaGreat
section
open Go.RowKit Go.Sort
theorem over_get {ys cs:List Int} {k:Nat} (hk:k≤ys.length) (j:Nat):(over ys k cs)[j]? = if j<k then ys[j]? else if j<k+cs.length then cs[j - k]? else ys[j]? := by
 unfold over splice
 by_cases h1:j<k
 · rw [if_pos h1,List.getElem?_append_left (by simp;omega),List.getElem?_take_of_lt h1]
 · rw [if_neg h1,List.getElem?_append_right (by simp;omega)]
   have e:(ys.take k).length=k:=by simp;omega
   rw [e]
   by_cases h2:j<k+cs.length
   · rw [if_pos h2,List.getElem?_append_left (by omega)]
   · rw [if_neg h2,List.getElem?_append_right (by omega),List.getElem?_drop]
     congr 1;omega
theorem over_rep_set {ys:List Int} {k j:Nat} {c:Int} (hk:k+j<ys.length):(over ys k (List.replicate j c)).set (k+j) c=over ys k (List.replicate (j+1) c):=by
 apply List.ext_getElem?
 intro i
 rw [List.getElem?_set,over_get (by omega),over_get (by omega)]
 simp only [List.length_replicate]
 have hl:(over ys k (List.replicate j c)).length=ys.length:=over_length (by simp;omega)
 by_cases h1:k+j=i
 · subst h1
   rw [if_pos rfl,if_pos (by omega),if_neg (by omega),if_pos (by omega)]
   simp
 · rw [if_neg h1]
   by_cases h2:i<k
   · rw [if_pos h2,if_pos h2]
   · rw [if_neg h2,if_neg h2]
     by_cases h3:i<k+j
     · rw [if_pos h3,if_pos (by omega)]
       rw [List.getElem?_replicate_of_lt (by omega),List.getElem?_replicate_of_lt (by omega)]
     · rw [if_neg h3,if_neg (by omega)]
set_option maxHeartbeats 1000000 in
theorem fill_row (gc pb g k n N cap Bd:Nat) (px py pz c:Int) (ys:List Int) (w:World) (hkn:k+n≤N) (hN:N≤4194304) (kc:Bk w gc #[c] 3) (kb:Bk w pb #[.slice (some ⟨g,0,none⟩) N cap] 26) (ho:Own w Bd 3 .i64 (.slice (some ⟨g,0,none⟩) N cap) ys) (hgc:g ≠ gc) (hgb:g ≠ pb) :
 Calls Tryz.prog 163 #[(k:Int),.agg #[px,py,pz],(n:Int),.pointer (some ⟨gc,0,none⟩),.pointer (some ⟨pb,0,none⟩)] w fun e w' =>
  e = .returned (.tuple #[])∧Own w' Bd 3 .i64 (.slice (some ⟨g,0,none⟩) N cap) (over ys k (List.replicate n c))∧w.grownBy w' (some g):=by
 have hNl:ys.length=N:=ho.raw.choose_spec.2.2.2.2.2.2.symm
 have Kc:=Bx.mk kc
 have Kb:=Bx.mk kb
 have Ho:=Bx.mk ho
 clear kc kb ho
 go_enter Tryz.func163,Tryz.ntmps163
 go_wp2_with fail
 generalize hW:World.alloc w _=W
 have hb:=bl1 hW
 clear hW
 have HI:Bx (Own W Bd 3 .i64 (.slice (some ⟨g,0,none⟩) N cap) (over ys k (List.replicate 0 c))∧Bk W gc #[c] 3∧Bk W pb #[.slice (some ⟨g,0,none⟩) N cap] 26∧w.grownBy W (some g)):=⟨by
  refine ⟨?_,Kc.out.later hb,Kb.out.later hb,⟨hb.os,hb.tape,hb.output,hb.size,fun k hk _=>hb.block k hk⟩⟩
  have e:over ys k (List.replicate 0 c)=ys:=by unfold over splice;simp
  rw [e];exact Ho.out.below hb⟩
 clear Kc Kb Ho hb
 go_loopw [10] (fun i wr => ∃ j:Nat,j≤n∧i = .int .i64 j∧Bx (Own wr Bd 3 .i64 (.slice (some ⟨g,0,none⟩) N cap) (over ys k (List.replicate j c))∧Bk wr gc #[c] 3∧Bk wr pb #[.slice (some ⟨g,0,none⟩) N cap] 26∧w.grownBy wr (some g))) (fun i _=>n - (intOf i).toNat)
 case atStart=>exact ⟨0,Nat.zero_le _,rfl,HI⟩
 case round =>
  clear HI
  obtain ⟨j,hj,rfl,hI⟩:=hrel
  by_cases hlt:j<n
  · have hl:(over ys k (List.replicate j c)).length=N:=by rw [over_length (by simp;omega),hNl]
    obtain ⟨g',cap',hv,-,-,h3,h4,h5⟩:=hI.out.1.at (by omega)
    injection hv with hv1 hv2 hv3
    injection hv1 with hv1
    injection hv1 with hv1
    subst hv1 hv3
    obtain ⟨old,hold⟩ : ∃ x,(over ys k (List.replicate j c))[k+j]? = some x:=⟨_,List.getElem?_eq_getElem (by omega)⟩
    have hcell:=h3 (k+j) old hold
    have hfr:=h4 (k+j)
    have h6:=h5 (k+j) c
    rw [over_rep_set (by omega),hl] at h6
    have hs:=Bx.mk (And.intro h6 (And.intro (hI.out.2.1.other ⟨g,k+j,none⟩ (.int .i64 c) (Ne.symm hgc)) (And.intro (hI.out.2.2.1.other ⟨g,k+j,none⟩ (.int .i64 c) (Ne.symm hgb)) (grown_set hI.out.2.2.2 (k+j) (.int .i64 c)))))
    have cc:=hI.out.2.1.cell 0 rfl
    have cb:=hI.out.2.2.1.cell 0 rfl
    have hw:IntKind.i64.wrap ((k:Int)+(j:Int))=((k+j:Nat):Int):=by rw [show (k:Int)+(j:Int)=((k+j:Nat):Int) by omega];exact IntWalk.i64_in _ (by omega)
    have b1:(0:Int)≤((k+j:Nat):Int):=by omega
    have b2:((k+j:Nat):Int)<(N:Int):=by omega
    have t0:decide ((j:Int)<(n:Int))=true:=by simp;omega
    clear hI h3 h4 h5 h6 hl hold
    go_wp2_with fail
    go_roundw
    case rel=>exact ⟨j+1,by omega,by go_num,hs⟩
    case measure=>simp [intOf];omega
  · obtain rfl:j=n:=by omega
    have t0:decide ((j:Int)<(j:Int))=false:=by simp
    go_wp2_with fail
    go_end0
    exact ⟨rfl,hI.out.1,hI.out.2.2.2⟩
set_option maxRecDepth 100000 in
set_option maxHeartbeats 1000000 in
theorem fill_clo (pg pq pc g N cap Bd:Nat) (a b c d e f a2 b2 c2 d2 e2 f2 v:Int) (gc:Value) (xs:List Int) (w:World) (hSA:Small ⟨⟨a,b,c⟩,⟨d,e,f⟩⟩ 1048575)
 (hxl:xs.length=(volB ⟨⟨a,b,c⟩,⟨d,e,f⟩⟩).toNat) (hN:N≤4194304)
 (kg:Bk w pg #[a,b,c,d,e,f,gc] 28) (kq:Bk w pq #[a2,b2,c2,d2,e2,f2] 25) (kc:Bk w pc #[v] 3) (ho:Own w Bd 3 .i64 (.slice (some ⟨g,0,none⟩) N cap) xs) (hgp:g ≠ pc) :
 Calls Tryz.prog 161 #[.slice (some ⟨g,0,none⟩) N cap,.pointer (some ⟨pg,0,none⟩),.pointer (some ⟨pq,0,none⟩),.pointer (some ⟨pc,0,none⟩)] w fun e' w'=>e' = .returned (.tuple #[])∧Own w' Bd 3 .i64 (.slice (some ⟨g,0,none⟩) N cap) (pasteL ⟨⟨a,b,c⟩,⟨d,e,f⟩⟩ ⟨⟨a2,b2,c2⟩,⟨d2,e2,f2⟩⟩ xs (List.replicate (volB ⟨⟨a2,b2,c2⟩,⟨d2,e2,f2⟩⟩).toNat v))∧w.grownBy w' (some g):=by
 obtain ⟨⟨⟨la,lb,lc⟩,⟨ld,le,lf⟩⟩,hM⟩ : ∃ M,meetB ⟨⟨a,b,c⟩,⟨d,e,f⟩⟩ ⟨⟨a2,b2,c2⟩,⟨d2,e2,f2⟩⟩=M:=⟨_,rfl⟩
 have hgl:=(ho.lt g rfl).2
 have hNl:xs.length=N:=ho.raw.choose_spec.2.2.2.2.2.2.symm
 have hsz:=kg.lt
 have hsz2:=kc.lt
 have cg:=fun (j:Nat) u (h:(#[a,b,c,d,e,f,gc]:Array Value)[j]? = some u)=>(kg.alloc (.cells #[.slice (some ⟨g,0,none⟩) N cap] 26)).cell j h
 have cq:=fun (j:Nat) u (h:(#[a2,b2,c2,d2,e2,f2]:Array Value)[j]? = some u)=>(kq.alloc (.cells #[.slice (some ⟨g,0,none⟩) N cap] 26)).cell j h
 have cg0:=cg 0 _ rfl
 have cg1:=cg 1 _ rfl
 have cg2:=cg 2 _ rfl
 have cg3:=cg 3 _ rfl
 have cg4:=cg 4 _ rfl
 have cg5:=cg 5 _ rfl
 have cg6:=cg 6 _ rfl
 have cq0:=cq 0 _ rfl
 have cq1:=cq 1 _ rfl
 have cq2:=cq 2 _ rfl
 have cq3:=cq 3 _ rfl
 have cq4:=cq 4 _ rfl
 have cq5:=cq 5 _ rfl
 clear cg cq
 go_enter Tryz.func161,Tryz.ntmps161
 go_wp2_with fail
 generalize hW:World.alloc w _=W
 have hb:=bl1 hW
 have kb:Bk W w.heap.size #[.slice (some ⟨g,0,none⟩) N cap] 26:=bk0 hW rfl
 clear hW cg0 cg1 cg2 cg3 cg4 cg5 cg6 cq0 cq1 cq2 cq3 cq4 cq5
 have kc1:=kc.later hb
 have ho1:=ho.below hb
 have hSz:=hb.size
 refine (rows_any 163 #[.pointer (some ⟨pc,0,none⟩),.pointer (some ⟨w.heap.size,0,none⟩)] g a b c d e f a2 b2 c2 d2 e2 f2 la lb lc ld le lf gc hSA hM ?_ ⟨enters_of Tryz.func163 rfl rfl⟩
  (fun z y W'=>Own W' Bd 3 .i64 (.slice (some ⟨g,0,none⟩) N cap) (partL ⟨⟨a,b,c⟩,⟨d,e,f⟩⟩ ⟨⟨a2,b2,c2⟩,⟨d2,e2,f2⟩⟩ xs (List.replicate (volB ⟨⟨a2,b2,c2⟩,⟨d2,e2,f2⟩⟩).toNat v) z y)∧Bk W' pc #[v] 3∧Bk W' w.heap.size #[.slice (some ⟨g,0,none⟩) N cap] 26) W (by omega) ?_ ?_ ?_ ?_).mono ?_
 · exact meet_bd hSA hM
 · rintro z y W1 W2 ⟨h1,h2,h3⟩ hb
   exact ⟨h1.below hb,h2.later hb,h3.later hb⟩
 · refine ⟨?_,kc1,kb⟩
   have:=partL_start (A:=⟨⟨a,b,c⟩,⟨d,e,f⟩⟩) (B:=⟨⟨a2,b2,c2⟩,⟨d2,e2,f2⟩⟩) (ys:=(List.replicate (volB ⟨⟨a2,b2,c2⟩,⟨d2,e2,f2⟩⟩).toNat v)) hxl
   rw [hM] at this
   rw [this];exact ho1
 · rintro z y W1 z1 z2 y1 y2 ⟨h1,h2,h3⟩ hgr
   obtain ⟨hlt,hrow⟩:=row_in hM ⟨z1,z2⟩ ⟨y1,y2⟩
   have hr0:=hrow 0 (by omega) (by omega)
   rw [Int.add_zero] at hr0
   obtain ⟨k,hk⟩ : ∃ k:Nat,indexB ⟨⟨a,b,c⟩,⟨d,e,f⟩⟩ ⟨la,y,z⟩=(k:Int):=⟨_,(Int.toNat_of_nonneg (indexB_bd hr0.1).1).symm⟩
   obtain ⟨from_,hf⟩ : ∃ k:Nat,indexB ⟨⟨a2,b2,c2⟩,⟨d2,e2,f2⟩⟩ ⟨la,y,z⟩=(k:Int):=⟨_,(Int.toNat_of_nonneg (indexB_bd hr0.2).1).symm⟩
   obtain ⟨n,hn⟩ : ∃ n:Nat,ld - la=(n:Int):=⟨(ld - la).toNat,by omega⟩
   obtain ⟨p1,p2,p3,p4⟩:=partL_row (xs:=xs) (ys:=(List.replicate (volB ⟨⟨a2,b2,c2⟩,⟨d2,e2,f2⟩⟩).toNat v)) hM ⟨z1,z2⟩ ⟨y1,y2⟩ hk hf hn (by simp)
   have er:(((List.replicate (volB ⟨⟨a2,b2,c2⟩,⟨d2,e2,f2⟩⟩).toNat v)).drop from_).take n=List.replicate n v:=by
    rw [List.length_replicate] at p2
    rw [List.drop_replicate,List.take_replicate]
    congr 1;omega
   rw [er] at p4
   rw [hk,hn]
   refine (fill_row pc w.heap.size g k n N cap Bd la y z v _ W1 (by omega) hN h2 h3 h1 hgp (by omega)).mono ?_
   rintro e' w3 ⟨rfl,h5,h6⟩
   rw [p4] at h5
   exact ⟨rfl,⟨h5,h2.grown h6 (Ne.symm hgp),h3.grown h6 (by omega)⟩,h6⟩
 · rintro z W1 z1 z2 ⟨h1,h2,h3⟩
   have:=partL_next (A:=⟨⟨a,b,c⟩,⟨d,e,f⟩⟩) (B:=⟨⟨a2,b2,c2⟩,⟨d2,e2,f2⟩⟩) (xs:=xs) (ys:=(List.replicate (volB ⟨⟨a2,b2,c2⟩,⟨d2,e2,f2⟩⟩).toNat v)) (z:=z)
   rw [hM] at this
   rw [this] at h1
   exact ⟨h1,h2,h3⟩
 · rintro e' w2 ⟨rfl,⟨h1,h2,h3⟩,h5⟩
   have:=partL_end (A:=⟨⟨a,b,c⟩,⟨d,e,f⟩⟩) (B:=⟨⟨a2,b2,c2⟩,⟨d2,e2,f2⟩⟩) (xs:=xs) (ys:=(List.replicate (volB ⟨⟨a2,b2,c2⟩,⟨d2,e2,f2⟩⟩).toNat v))
   rw [hM] at this
   rw [this] at h1
   go_wp2_with fail
   go_end0
   exact ⟨rfl,h1,(grown_trans ⟨hb.os,hb.tape,hb.output,hb.size,fun k hk _=>hb.block k hk⟩ h5)⟩
set_option maxRecDepth 100000 in
set_option maxHeartbeats 1000000 in
theorem gridFill_any (a b c d e f a2 b2 c2 d2 e2 f2 v:Int) (ga:Option Addr) (gcap:Nat) (xs:List Int) (w:World) (hSA:Small ⟨⟨a,b,c⟩,⟨d,e,f⟩⟩ 1048575) (hxl:xs.length=(volB ⟨⟨a,b,c⟩,⟨d,e,f⟩⟩).toNat) (hX1:1≤xs.length) (hN:xs.length≤4194304) (hg:Sl w .i64 ga xs) :
 Calls Tryz.prog 115 #[.agg #[a,b,c,d,e,f,.slice ga xs.length gcap],.agg #[a2,b2,c2,d2,e2,f2],v] w (RetG1 a b c d e f xs.length (pasteL ⟨⟨a,b,c⟩,⟨d,e,f⟩⟩ ⟨⟨a2,b2,c2⟩,⟨d2,e2,f2⟩⟩ xs (List.replicate (volB ⟨⟨a2,b2,c2⟩,⟨d2,e2,f2⟩⟩).toNat v)) w):=by
 have hch:=Bx.mk fun pg pq pc W (h1:Bk W pg #[a,b,c,d,e,f,.slice ga xs.length gcap] 28) (h2:Bk W pq #[a2,b2,c2,d2,e2,f2] 25) (h3:Bk W pc #[v] 3) (h4:Sl W .i64 ga xs) =>
  changed_any 161 #[.pointer (some ⟨pg,0,none⟩),.pointer (some ⟨pq,0,none⟩),.pointer (some ⟨pc,0,none⟩)] ⟨enters_of Tryz.func161 rfl rfl⟩ a b c d e f ga gcap xs (pasteL ⟨⟨a,b,c⟩,⟨d,e,f⟩⟩ ⟨⟨a2,b2,c2⟩,⟨d2,e2,f2⟩⟩ xs (List.replicate (volB ⟨⟨a2,b2,c2⟩,⟨d2,e2,f2⟩⟩).toNat v)) W hX1 hN h4
   ⟨fun Bd g N cap V hb hgs hNe ho=>fill_clo pg pq pc g N cap Bd a b c d e f a2 b2 c2 d2 e2 f2 v (.slice ga xs.length gcap) xs V hSA hxl (by omega) (h1.later hb) (h2.later hb) (h3.later hb) ho (by have:=h3.lt;omega)⟩
 have hlen:=Bx.mk (hxl.trans (pasteL_length ⟨⟨a,b,c⟩,⟨d,e,f⟩⟩ ⟨⟨a2,b2,c2⟩,⟨d2,e2,f2⟩⟩ xs (List.replicate (volB ⟨⟨a2,b2,c2⟩,⟨d2,e2,f2⟩⟩).toNat v)).symm)
 have Hg:=Bx.mk hg
 clear hSA hxl hX1 hN hg
 go_enter Tryz.func115,Tryz.ntmps115
 go_wp2_with fail
 generalize hW:World.alloc (World.alloc (World.alloc (World.alloc w _) _) _) _=W
 have hSz:w.heap.size+1+1+1+1≤W.heap.size:=by rw [←hW];simp
 have hB:Below w.heap.size w W:=by rw [←hW];exact ((((Below.refl _ _).alloc (Nat.le_refl _) _).alloc (by simp) _).alloc (by simp;omega) _).alloc (by simp;omega) _
 have kg:Bk W (w.heap.size) #[a,b,c,d,e,f,.slice ga xs.length gcap] 28:=by rw [←hW];exact blk_old (blk_old (blk_old (blk_new _ _ _ (by simp))))
 have kq:Bk W (w.heap.size+1) #[a2,b2,c2,d2,e2,f2] 25:=bk2 hW
 have kc:Bk W (w.heap.size+1+1) #[v] 3:=bk1 hW
 have kr:Bk W (w.heap.size+1+1+1) #[(0:Int),(0:Int),(0:Int),(0:Int),(0:Int),(0:Int),.slice none 0 0] 28:=bk0 hW
 clear hW
 obtain ⟨cg0,cg1,cg2,cg3,cg4,cg5,cg6⟩:=kg.c7
 go_wp2_with fail
 refine (hch.out _ _ _ _ kg kq kc (Hg.out.below hB)).mono ?_
 rintro e' w1 ⟨u,rfl,ho,hb⟩
 obtain ⟨Bd,hBd⟩ : ∃ Bd,Bd=W.heap.size:=⟨_,rfl⟩
 rw [←hBd] at ho hb
 have hSd:w.heap.size+4≤Bd:=by omega
 replace hb:Below W.heap.size W w1:=hBd ▸ hb
 clear hch Hg
 clear cg0 cg1 cg2 cg3 cg4 cg5 cg6
 replace hB:=hB.trans (hb.mono hB.size)
 replace kg:=kg.later hb
 replace kr:=kr.later hb
 replace hSz:=Nat.le_trans hSz hb.size
 clear hb
 obtain ⟨pa,pe,rfl,-⟩:=ho.form
 rw [←hlen.out] at ho
 rw [←hlen.out]
 have Ho:=Bx.mk ho
 clear ho
 obtain ⟨cr0,cr1,cr2,cr3,cr4,cr5,cr6⟩:=kr.c7
 obtain ⟨fr0,fr1,fr2,fr3,fr4,fr5,fr6⟩:=kr.f7
 go_wp2_with fail
 replace kr:=kr.put7 (.int .i64 a) (.int .i64 b) (.int .i64 c) (.int .i64 d) (.int .i64 e) (.int .i64 f) (.slice pa xs.length pe)
 exact bodyPost_ret (v:=.agg #[a,b,c,d,e,f,.slice pa xs.length pe]) (results_cell_row rfl _ _ _ 28 #[a,b,c,d,e,f,.slice pa xs.length pe] (0,0) _ rfl kr Tryz.underlying28 rfl (by kernel_rfl)) rfl ⟨_,_,rfl,hlen.out,(((((((Ho.out.setBelow (by simp;omega) _).setBelow (by simp;omega) _).setBelow (by simp;omega) _).setBelow (by simp;omega) _).setBelow (by simp;omega) _).setBelow (by simp;omega) _).setBelow (by simp;omega) _).base (by omega),blw7 hB (by omega) _ _ _ _ _ _ _⟩
end
section
open Go.RowKit Go.Sort Go.Maps
open Oct
theorem copied {w:World} {g Bd n cap:Nat} {xs zs:List Int} {cur:List Value} (h1:w.heap[g]? = some (.cells cur.toArray 3 (0,0))) (h2:cur.length=cap) (h4:n≤cap) (h5:cap≤maxLen) (h6:Bd≤g) (hz:zs.length=n) :
 Own (w.setRow g (zs.map (Value.int .i64)++cur.drop zs.length).toArray) Bd 3 .i64 (.slice (some ⟨g,0,none⟩) n cap) zs∧Keeps (fun k=>k<Bd) w (w.setRow g (zs.map (Value.int .i64)++cur.drop zs.length).toArray):=by
 refine ⟨Own.mk' (cur:=zs.map (Value.int .i64)++cur.drop n) ?_ ?_ ?_ h4 h5 h6 hz.symm,⟨rfl,rfl,rfl,by simp [World.setRow],fun k hk _=>setRow_other w g k _ (by omega)⟩⟩
 · rw [setRow_heap w g _ _ 3 _ h1,hz]
 · simp;omega
 · rw [List.take_append_of_le_length (by simp;omega),List.take_of_length_le (by simp;omega)]
theorem one_cells (zs:List Int) : ∀ v∈zs.map (Value.int .i64),v.oneCell'=true:=by
 intro v hv
 obtain ⟨x,_,rfl⟩:=List.mem_map.1 hv
 rfl
theorem src_cells {w:World} {b off:Nat} {zs:List Int} (h:Sl w .i64 (some ⟨b,off,none⟩) zs) : ∀ j v,(zs.map (Value.int .i64))[j]? = some v→w.cell? ((⟨b,off,none⟩:Addr).add j)=some v:=by
 intro j v hj
 rw [List.getElem?_map] at hj
 cases hz:zs[j]? with
 | none=>rw [hz] at hj;cases hj
 | some x =>
   rw [hz] at hj
   obtain rfl:=Option.some.inj hj
   obtain ⟨b',off',e,hc⟩:=h j x hz
   injection e with e;injection e with e1 e2;subst e1 e2
   have e3:(⟨b,off,none⟩:Addr).add j=⟨b,off+j,none⟩:=by
    by_cases hj:j=0
    · subst hj;simp [Addr.add]
    · simp [Addr.add,hj]
   rw [e3];exact hc
set_option maxRecDepth 100000 in
set_option maxHeartbeats 1000000 in
theorem fill_brick (ax ay az:Int) (hx:0≤ax∧ax≤16384) (hy:0≤ay∧ay≤16384) (hz:0≤az∧az≤16384) (gb gc g Bd cap:Nat) (a b c d e f cell:Int) (xs:List Int) (hl:xs.length=64) (w:World) (kb:Bk w gb #[a,b,c,d,e,f] 25) (kc:Bk w gc #[cell] 3) (ho:Own w Bd 3 .i64 (.slice (some ⟨g,0,none⟩) xs.length cap) xs) :
 Calls Tryz.prog 114 #[cubeV ax ay az 2,.slice (some ⟨g,0,none⟩) xs.length cap,.pointer (some ⟨gb,0,none⟩),.pointer (some ⟨gc,0,none⟩)] w fun e' w'=>e' = .returned (.tuple #[])∧Own w' Bd 3 .i64 (.slice (some ⟨g,0,none⟩) xs.length cap) (pasteL ⟨⟨ax,ay,az⟩,⟨ax+4,ay+4,az+4⟩⟩ ⟨⟨a,b,c⟩,⟨d,e,f⟩⟩ xs (List.replicate (volB ⟨⟨a,b,c⟩,⟨d,e,f⟩⟩).toNat cell))∧Keeps (fun k=>k<Bd) w w':=by
 have hbox:=Bx.mk (fun W=>box_any 2 (by omega) ax ay az 4 (by decide) (by omega) (by omega) (by omega) W)
 rw [show ((2:Nat):Int)=2 from rfl] at hbox
 have hSA:Small ⟨⟨ax,ay,az⟩,⟨ax+4,ay+4,az+4⟩⟩ 1048575:=⟨by simp only [];omega,by simp only [];omega,by simp only [];omega,by simp only [];omega,by simp only [];omega,by simp only [];omega⟩
 have hxl:xs.length=(volB ⟨⟨ax,ay,az⟩,⟨ax+4,ay+4,az+4⟩⟩).toNat:=by rw [hl,(cube4 ax ay az).2.2];rfl
 have hg:=Bx.mk (fun W h=>gridFill_any ax ay az (ax+4) (ay+4) (az+4) a b c d e f cell (some ⟨g,0,none⟩) cap xs W hSA hxl (by omega) (by omega) h)
 unfold RetG1 at hg
 have hzl:(pasteL ⟨⟨ax,ay,az⟩,⟨ax+4,ay+4,az+4⟩⟩ ⟨⟨a,b,c⟩,⟨d,e,f⟩⟩ xs (List.replicate (volB ⟨⟨a,b,c⟩,⟨d,e,f⟩⟩).toNat cell)).length=64:=by rw [pasteL_length,←hxl,hl]
 have Hzl:=Bx.mk hzl
 generalize (pasteL ⟨⟨ax,ay,az⟩,⟨ax+4,ay+4,az+4⟩⟩ ⟨⟨a,b,c⟩,⟨d,e,f⟩⟩ xs (List.replicate (volB ⟨⟨a,b,c⟩,⟨d,e,f⟩⟩).toNat cell))=zs at *
 have HL:=Bx.mk hl
 clear hl
 clear hSA hxl hx hy hz hzl
 go_enter Tryz.func114,Tryz.ntmps114
 go_upto_region 1 with fail
 generalize hW:World.alloc w _=W
 have hB:=bl1 hW
 have kp:Bk W (w.heap.size) #[ax,ay,az,(2:Int)] 39:=bk0 hW
 clear hW
 have KP:=Bx.mk kp
 have KB:=Bx.mk (kb.later hB)
 have KC:=Bx.mk (kc.later hB)
 have HO:=Bx.mk (ho.below hB)
 have HB:=Bx.mk hB
 have hgl:=(ho.lt g rfl)
 have hWs:=hB.size
 clear kp kb kc ho hB
 refine wp_region_rel 8 (fun i v w'=>match i with
  | 0=>v=cubeV ax ay az 2
  | 1=>v = .agg #[ax,ay,az,.int .i64 (ax+4),.int .i64 (ay+4),.int .i64 (az+4)]
  | 2=>v = .slice (some ⟨g,0,none⟩) xs.length cap
  | 3=>v = .agg #[ax,ay,az,.int .i64 (ax+4),.int .i64 (ay+4),.int .i64 (az+4),.slice (some ⟨g,0,none⟩) xs.length cap]
  | 4=>v = .agg #[a,b,c,d,e,f]
  | 5=>v = .int .i64 cell
  | 6 => ∃ pa pc,v = .agg #[ax,ay,az,.int .i64 (ax+4),.int .i64 (ay+4),.int .i64 (az+4),.slice pa xs.length pc]∧Own w' W.heap.size 3 .i64 (.slice pa xs.length pc) zs
  | _ => ∃ g2,v = .pointer (some ⟨g2,0,none⟩)∧W.heap.size≤g2∧Bk w' g2 #[(0:Int),(0:Int),(0:Int),(0:Int),(0:Int),(0:Int),.slice none 0 0] 28) (by kernel_rfl) (by kernel_rfl) 18 (by kernel_rfl) (by rfl) ?_ ?_ ?_
 · intro i hi v u1 u2 hb h
   match i,hi with
   | 0,_=>exact h
   | 1,_=>exact h
   | 2,_=>exact h
   | 3,_=>exact h
   | 4,_=>exact h
   | 5,_=>exact h
   | 6,_=>obtain ⟨pa,pc,h1,h2⟩:=h;exact ⟨pa,pc,h1,h2.below hb⟩
   | 7,_=>obtain ⟨g2,h1,h2,h3⟩:=h;exact ⟨g2,h1,h2,h3.later hb⟩
 · intro i o hi ho ρ w1 hb hc1 hc2 hc3 hk
   match i,hi with
   | 0, _ =>
     obtain rfl:=Option.some.inj ho
     have h2:ρ (.tmp 4) = .pointer (some ⟨w.heap.size,0,none⟩):=hk 4 (by simp [Op.operands])
     have k1:=KP.out.later hb
     obtain ⟨c0,c1,c2,c3⟩:=k1.c4
     clear hk hb hbox hg
     go_simp
     exact Below.refl _ _
   | 1, _ =>
     obtain rfl:=Option.some.inj ho
     have h2:ρ (.tmp 7)=cubeV ax ay az 2:=hk 7 (by simp [Op.operands,Call.operands])
     have h4:=hbox.out w1
     have H4:=Bx.mk h4
     clear hk hb h4 hbox hg
     go_simp
     all_goals exact H4.out
   | 2, _ =>
     obtain rfl:=Option.some.inj ho
     have h2:ρ (.tmp 1) = .slice (some ⟨g,0,none⟩) xs.length cap:=hk 1 (by simp [Op.operands])
     clear hk hb hbox hg
     go_simp
     exact Below.refl _ _
   | 3, _ =>
     obtain rfl:=Option.some.inj ho
     have h2:ρ (.tmp 8) = .agg #[ax,ay,az,.int .i64 (ax+4),.int .i64 (ay+4),.int .i64 (az+4)]:=hk 8 (by simp [Op.operands])
     have h3:ρ (.tmp 9) = .slice (some ⟨g,0,none⟩) xs.length cap:=hk 9 (by simp [Op.operands])
     clear hk hb hbox hg
     go_simp
     exact Below.refl _ _
   | 4, _ =>
     obtain rfl:=Option.some.inj ho
     have h2:ρ (.tmp 2) = .pointer (some ⟨gb,0,none⟩):=hk 2 (by simp [Op.operands])
     have k1:=KB.out.later hb
     obtain ⟨c0,c1,c2,c3,c4,c5⟩:=k1.c6
     clear hk hb hbox hg
     go_simp
     exact Below.refl _ _
   | 5, _ =>
     obtain rfl:=Option.some.inj ho
     have h2:ρ (.tmp 3) = .pointer (some ⟨gc,0,none⟩):=hk 3 (by simp [Op.operands])
     have k1:=KC.out.later hb
     have c0:=k1.cell 0 rfl
     clear hk hb hbox hg
     go_simp
     exact Below.refl _ _
   | 6, _ =>
     obtain rfl:=Option.some.inj ho
     have h2:ρ (.tmp 10) = .agg #[ax,ay,az,.int .i64 (ax+4),.int .i64 (ay+4),.int .i64 (az+4),.slice (some ⟨g,0,none⟩) xs.length cap]:=hk 10 (by simp [Op.operands,Call.operands])
     have h3:ρ (.tmp 11) = .agg #[a,b,c,d,e,f]:=hk 11 (by simp [Op.operands,Call.operands])
     have h5:ρ (.tmp 12) = .int .i64 cell:=hk 12 (by simp [Op.operands,Call.operands])
     have h4:=(hg.out w1 (by obtain ⟨a1,c1,e1,h1⟩:=(HO.out.below hb).form;injection e1 with e1 _ _;subst e1;exact h1)).mono (R':=fun e' w'' => ∃ v,e' = .returned v∧Below w1.heap.size w1 w'' ∧ ∃ pa pc,v = .agg #[ax,ay,az,.int .i64 (ax+4),.int .i64 (ay+4),.int .i64 (az+4),.slice pa xs.length pc]∧Own w'' W.heap.size 3 .i64 (.slice pa xs.length pc) zs) (fun e' w'' ⟨pa,pc,x,_,y,z⟩=>⟨_,x,z,pa,pc,rfl,y.base hb.size⟩)
     have H4:=Bx.mk h4
     clear hk hb h4 hbox hg
     go_simp
     all_goals exact H4.out
   | 7, _ =>
     obtain rfl:=Option.some.inj ho
     have hbs:=hb.size
     have hnew:Bk (w1.alloc (.cells #[(0:Int),(0:Int),(0:Int),(0:Int),(0:Int),(0:Int),.slice none 0 0] 28)) w1.heap.size #[(0:Int),(0:Int),(0:Int),(0:Int),(0:Int),(0:Int),.slice none 0 0] 28:=Bk.new _ _ _
     have Hn:=Bx.mk hnew
     clear hk hb hbox hg hnew
     go_simp
     exact ⟨(Below.refl _ _).alloc (Nat.le_refl _) _,Hn.out⟩
 · intro vs W1 hlen hb hR
   match vs,hlen with
   | [v0, v1, v2, v3, v4, v5, v6, v7], _ =>
     have r0:v0=cubeV ax ay az 2:=hR 0 v0 rfl
     have r1:v1 = .agg #[ax,ay,az,.int .i64 (ax+4),.int .i64 (ay+4),.int .i64 (az+4)]:=hR 1 v1 rfl
     have r2:v2 = .slice (some ⟨g,0,none⟩) xs.length cap:=hR 2 v2 rfl
     have r3:v3 = .agg #[ax,ay,az,.int .i64 (ax+4),.int .i64 (ay+4),.int .i64 (az+4),.slice (some ⟨g,0,none⟩) xs.length cap]:=hR 3 v3 rfl
     have r4:v4 = .agg #[a,b,c,d,e,f]:=hR 4 v4 rfl
     have r5:v5 = .int .i64 cell:=hR 5 v5 rfl
     obtain ⟨pa,pc,r6,hown⟩ : ∃ pa pc,v6 = .agg #[ax,ay,az,.int .i64 (ax+4),.int .i64 (ay+4),.int .i64 (az+4),.slice pa xs.length pc]∧Own W1 W.heap.size 3 .i64 (.slice pa xs.length pc) zs:=hR 6 v6 rfl
     obtain ⟨g2,r7,hg2,kg⟩ : ∃ g2,v7 = .pointer (some ⟨g2,0,none⟩)∧W.heap.size≤g2∧Bk W1 g2 #[(0:Int),(0:Int),(0:Int),(0:Int),(0:Int),(0:Int),.slice none 0 0] 28:=hR 7 v7 rfl
     subst r0 r1 r2 r3 r4 r5 r6 r7
     clear hR hbox hg
     obtain ⟨g3,c3,hv3,-,-,-,-,-⟩:=hown.at (by rw [Hzl.out];decide)
     injection hv3 with e1 e2 e3
     subst e1
     clear e2 e3
     have hne:g3 ≠ g2:=fun e=>by
      obtain ⟨cur3,q1,-⟩:=hown.raw
      rw [e] at q1
      have q2:W1.heap[g2]? = _:=kg
      rw [q1] at q2
      injection q2 with q2
      injection q2 with _ q2
      exact absurd q2 (by decide)
     have Hown:=Bx.mk hown
     have Hb:=Bx.mk hb
     clear hown hb
     have cg0:=kg.cell 0 rfl
     have fg0:=kg.frozen 0
     have cg1:=kg.cell 1 rfl
     have fg1:=kg.frozen 1
     have cg2:=kg.cell 2 rfl
     have fg2:=kg.frozen 2
     have cg3:=kg.cell 3 rfl
     have fg3:=kg.frozen 3
     have cg4:=kg.cell 4 rfl
     have fg4:=kg.frozen 4
     have cg5:=kg.cell 5 rfl
     have fg5:=kg.frozen 5
     have cg6:=kg.cell 6 rfl
     have fg6:=kg.frozen 6
     simp only [puts,List.take_succ_cons,List.take_zero,List.drop_succ_cons,List.drop_zero,List.map_cons,List.map_nil,List.zip_cons_cons,List.zip_nil_right,List.foldl_cons,List.foldl_nil]
     go_upto_region 2 with fail
     have kg5:=kg.put7 (.int .i64 ax) (.int .i64 ay) (.int .i64 az) (.int .i64 (ax+4)) (.int .i64 (ay+4)) (.int .i64 (az+4)) (.slice (some ⟨g3,0,none⟩) xs.length pc)
     have hgr:W1.grownBy _ (some g2):=grown_set (grown_set (grown_set (grown_set (grown_set (grown_set (grown_set (World.grownBy.refl W1 (some g2)) 0 (.int .i64 ax)) 1 (.int .i64 ay)) 2 (.int .i64 az)) 3 (.int .i64 (ax+4))) 4 (.int .i64 (ay+4))) 5 (.int .i64 (az+4))) 6 (.slice (some ⟨g3,0,none⟩) xs.length pc)
     clear cg0 fg0 cg1 fg1 cg2 fg2 cg3 fg3 cg4 fg4 cg5 fg5 cg6 fg6 kg
     generalize World.setCell _ ⟨g2,6,none⟩ _=W5 at *
     have hg2w:Bd≤g2∧g ≠ g2:=by omega
     have hown5:Own W5 W.heap.size 3 .i64 (.slice (some ⟨g3,0,none⟩) xs.length pc) zs:=World.ownsRow.kept Hown.out hgr (.inr (fun e=>by injection e with e;exact hne e))
     have ho5:Own W5 Bd 3 .i64 (.slice (some ⟨g,0,none⟩) xs.length cap) xs:=World.ownsRow.kept (HO.out.below Hb.out) hgr (.inr (fun e=>by injection e with e;exact hg2w.2 e))
     obtain ⟨a3,c3',hv3,hsl3⟩:=hown5.form
     injection hv3 with e1 e2 e3
     subst e1
     clear e2 e3
     obtain ⟨cur,q1,q2,q3,q4,q5,q6,q7⟩:=ho5.raw
     have HK:=Bx.mk ((((Keeps.below HB.out).trans (Keeps.below Hb.out)).trans (Keeps.grown hgr (fun k e hk=>by injection e with e;subst e;have:g2<Bd:=hk;omega))):Keeps (fun k=>k<Bd) w W5)
     have hcop:=Bx.mk (copied q1 q2 q4 q5 q6 (zs:=zs) (by rw [Hzl.out,HL.out]) (xs:=xs))
     have cc6:W5.cell? ⟨g2,6,none⟩=some (.slice (some ⟨g3,0,none⟩) xs.length pc):=kg5.cell 6 rfl
     have Q1:=Bx.mk q1
     have HSL:=Bx.mk hsl3
     have hn1:(zs.map (Value.int .i64)).length=Nat.min xs.length xs.length:=by rw [List.length_map,Hzl.out,HL.out];rfl
     have hfit:0+(zs.map (Value.int .i64)).length≤cur.toArray.size:=by rw [List.length_map,Hzl.out,List.size_toArray,q2];have:=HL.out;omega
     have HN1:=Bx.mk hn1
     have HF1:=Bx.mk hfit
     clear hown5 ho5 hsl3 kg5 hgr q1 q3 Hown q2 q4 q5 q6 q7 hn1 hfit hg2w hgl hWs hg2 hne
     go_wp2_with (refine wpList_copy_own rfl (.tmp 14) (.tmp 16) 26 26 rfl 3 Tryz.underlying26 (by kernel_rfl) g 0 xs.length cap ⟨g3,0,none⟩ xs.length pc rfl rfl cur.toArray 3 Q1.out (zs.map (Value.int .i64)) HN1.out (src_cells HSL.out) HF1.out (one_cells zs) ?_)
     go_end0
     exact ⟨rfl,hcop.out.1,HK.out.trans hcop.out.2⟩
set_option maxRecDepth 100000 in
set_option maxHeartbeats 1000000 in
theorem paste_brick (ax ay az:Int) (hx:0≤ax∧ax≤16384) (hy:0≤ay∧ay≤16384) (hz:0≤az∧az≤16384) (gb g Bd cap:Nat) (a b c d e f:Int) (ha:Option Addr) (hcp:Nat) (xs ys:List Int) (hl:xs.length=64) (hSB:Small ⟨⟨a,b,c⟩,⟨d,e,f⟩⟩ 1048575) (hyl:ys.length=(volB ⟨⟨a,b,c⟩,⟨d,e,f⟩⟩).toNat) (hY:ys.length≤4194304) (hcap:ys.length≤hcp) (w:World) (kb:Bk w gb #[a,b,c,d,e,f,.slice ha ys.length hcp] 28) (hs:Sl w .i64 ha ys) (ho:Own w Bd 3 .i64 (.slice (some ⟨g,0,none⟩) xs.length cap) xs) :
 Calls Tryz.prog 121 #[cubeV ax ay az 2,.slice (some ⟨g,0,none⟩) xs.length cap,.pointer (some ⟨gb,0,none⟩)] w fun e' w'=>e' = .returned (.tuple #[])∧Own w' Bd 3 .i64 (.slice (some ⟨g,0,none⟩) xs.length cap) (pasteL ⟨⟨ax,ay,az⟩,⟨ax+4,ay+4,az+4⟩⟩ ⟨⟨a,b,c⟩,⟨d,e,f⟩⟩ xs ys)∧Keeps (fun k=>k<Bd) w w':=by
 have hbox:=Bx.mk (fun W=>box_any 2 (by omega) ax ay az 4 (by decide) (by omega) (by omega) (by omega) W)
 rw [show ((2:Nat):Int)=2 from rfl] at hbox
 have hSA:Small ⟨⟨ax,ay,az⟩,⟨ax+4,ay+4,az+4⟩⟩ 1048575:=⟨by simp only [];omega,by simp only [];omega,by simp only [];omega,by simp only [];omega,by simp only [];omega,by simp only [];omega⟩
 have hxl:xs.length=(volB ⟨⟨ax,ay,az⟩,⟨ax+4,ay+4,az+4⟩⟩).toNat:=by rw [hl,(cube4 ax ay az).2.2];rfl
 have hg:=Bx.mk (fun W h1 h2=>paste_any ax ay az (ax+4) (ay+4) (az+4) a b c d e f (some ⟨g,0,none⟩) ha cap hcp xs ys W hSA hSB hxl hyl (by omega) (by omega) hY hcap h1 h2)
 unfold RetG1 at hg
 have hzl:(pasteL ⟨⟨ax,ay,az⟩,⟨ax+4,ay+4,az+4⟩⟩ ⟨⟨a,b,c⟩,⟨d,e,f⟩⟩ xs ys).length=64:=by rw [pasteL_length,←hxl,hl]
 have Hzl:=Bx.mk hzl
 generalize (pasteL ⟨⟨ax,ay,az⟩,⟨ax+4,ay+4,az+4⟩⟩ ⟨⟨a,b,c⟩,⟨d,e,f⟩⟩ xs ys)=zs at *
 have HL:=Bx.mk hl
 clear hl
 clear hSA hxl hx hy hz hzl hSB hyl hY hcap
 go_enter Tryz.func121,Tryz.ntmps121
 go_upto_region 1 with fail
 generalize hW:World.alloc w _=W
 have hB:=bl1 hW
 have kp:Bk W (w.heap.size) #[ax,ay,az,(2:Int)] 39:=bk0 hW
 clear hW
 have KP:=Bx.mk kp
 have KB:=Bx.mk (kb.later hB)
 have HS:=Bx.mk (hs.below hB)
 have HO:=Bx.mk (ho.below hB)
 have HB:=Bx.mk hB
 have hgl:=(ho.lt g rfl)
 have hWs:=hB.size
 clear kp kb hs ho hB
 refine wp_region_rel 7 (fun i v w'=>match i with
  | 0=>v=cubeV ax ay az 2
  | 1=>v = .agg #[ax,ay,az,.int .i64 (ax+4),.int .i64 (ay+4),.int .i64 (az+4)]
  | 2=>v = .slice (some ⟨g,0,none⟩) xs.length cap
  | 3=>v = .agg #[ax,ay,az,.int .i64 (ax+4),.int .i64 (ay+4),.int .i64 (az+4),.slice (some ⟨g,0,none⟩) xs.length cap]
  | 4=>v = .agg #[a,b,c,d,e,f,.slice ha ys.length hcp]
  | 5 => ∃ pa pc,v = .agg #[ax,ay,az,.int .i64 (ax+4),.int .i64 (ay+4),.int .i64 (az+4),.slice pa xs.length pc]∧Own w' W.heap.size 3 .i64 (.slice pa xs.length pc) zs
  | _ => ∃ g2,v = .pointer (some ⟨g2,0,none⟩)∧W.heap.size≤g2∧Bk w' g2 #[(0:Int),(0:Int),(0:Int),(0:Int),(0:Int),(0:Int),.slice none 0 0] 28) (by kernel_rfl) (by kernel_rfl) 16 (by kernel_rfl) (by rfl) ?_ ?_ ?_
 · intro i hi v u1 u2 hb h
   match i,hi with
   | 0,_=>exact h
   | 1,_=>exact h
   | 2,_=>exact h
   | 3,_=>exact h
   | 4,_=>exact h
   | 5,_=>obtain ⟨pa,pc,h1,h2⟩:=h;exact ⟨pa,pc,h1,h2.below hb⟩
   | 6,_=>obtain ⟨g2,h1,h2,h3⟩:=h;exact ⟨g2,h1,h2,h3.later hb⟩
 · intro i o hi ho ρ w1 hb hc1 hc2 hc3 hk
   match i,hi with
   | 0, _ =>
     obtain rfl:=Option.some.inj ho
     have h2:ρ (.tmp 3) = .pointer (some ⟨w.heap.size,0,none⟩):=hk 3 (by simp [Op.operands])
     have k1:=KP.out.later hb
     obtain ⟨c0,c1,c2,c3⟩:=k1.c4
     clear hk hb hbox hg
     go_simp
     exact Below.refl _ _
   | 1, _ =>
     obtain rfl:=Option.some.inj ho
     have h2:ρ (.tmp 6)=cubeV ax ay az 2:=hk 6 (by simp [Op.operands,Call.operands])
     have h4:=hbox.out w1
     have H4:=Bx.mk h4
     clear hk hb h4 hbox hg
     go_simp
     all_goals exact H4.out
   | 2, _ =>
     obtain rfl:=Option.some.inj ho
     have h2:ρ (.tmp 1) = .slice (some ⟨g,0,none⟩) xs.length cap:=hk 1 (by simp [Op.operands])
     clear hk hb hbox hg
     go_simp
     exact Below.refl _ _
   | 3, _ =>
     obtain rfl:=Option.some.inj ho
     have h2:ρ (.tmp 7) = .agg #[ax,ay,az,.int .i64 (ax+4),.int .i64 (ay+4),.int .i64 (az+4)]:=hk 7 (by simp [Op.operands])
     have h3:ρ (.tmp 8) = .slice (some ⟨g,0,none⟩) xs.length cap:=hk 8 (by simp [Op.operands])
     clear hk hb hbox hg
     go_simp
     exact Below.refl _ _
   | 4, _ =>
     obtain rfl:=Option.some.inj ho
     have h2:ρ (.tmp 2) = .pointer (some ⟨gb,0,none⟩):=hk 2 (by simp [Op.operands])
     have k1:=KB.out.later hb
     obtain ⟨c0,c1,c2,c3,c4,c5,c6⟩:=k1.c7
     clear hk hb hbox hg
     go_simp
     exact Below.refl _ _
   | 5, _ =>
     obtain rfl:=Option.some.inj ho
     have h2:ρ (.tmp 9) = .agg #[ax,ay,az,.int .i64 (ax+4),.int .i64 (ay+4),.int .i64 (az+4),.slice (some ⟨g,0,none⟩) xs.length cap]:=hk 9 (by simp [Op.operands,Call.operands])
     have h3:ρ (.tmp 10) = .agg #[a,b,c,d,e,f,.slice ha ys.length hcp]:=hk 10 (by simp [Op.operands,Call.operands])
     have h4:=(hg.out w1 (HS.out.below hb) (by obtain ⟨a1,c1,e1,h1⟩:=(HO.out.below hb).form;injection e1 with e1 _ _;subst e1;exact h1)).mono (R':=fun e' w'' => ∃ v,e' = .returned v∧Below w1.heap.size w1 w'' ∧ ∃ pa pc,v = .agg #[ax,ay,az,.int .i64 (ax+4),.int .i64 (ay+4),.int .i64 (az+4),.slice pa xs.length pc]∧Own w'' W.heap.size 3 .i64 (.slice pa xs.length pc) zs) (fun e' w'' ⟨pa,pc,x,_,y,z⟩=>⟨_,x,z,pa,pc,rfl,y.base hb.size⟩)
     have H4:=Bx.mk h4
     clear hk hb h4 hbox hg
     go_simp
     all_goals exact H4.out
   | 6, _ =>
     obtain rfl:=Option.some.inj ho
     have hbs:=hb.size
     have hnew:Bk (w1.alloc (.cells #[(0:Int),(0:Int),(0:Int),(0:Int),(0:Int),(0:Int),.slice none 0 0] 28)) w1.heap.size #[(0:Int),(0:Int),(0:Int),(0:Int),(0:Int),(0:Int),.slice none 0 0] 28:=Bk.new _ _ _
     have Hn:=Bx.mk hnew
     clear hk hb hbox hg hnew
     go_simp
     exact ⟨(Below.refl _ _).alloc (Nat.le_refl _) _,Hn.out⟩
 · intro vs W1 hlen hb hR
   match vs,hlen with
   | [v0, v1, v2, v3, v4, v5, v6], _ =>
     have r0:v0=cubeV ax ay az 2:=hR 0 v0 rfl
     have r1:v1 = .agg #[ax,ay,az,.int .i64 (ax+4),.int .i64 (ay+4),.int .i64 (az+4)]:=hR 1 v1 rfl
     have r2:v2 = .slice (some ⟨g,0,none⟩) xs.length cap:=hR 2 v2 rfl
     have r3:v3 = .agg #[ax,ay,az,.int .i64 (ax+4),.int .i64 (ay+4),.int .i64 (az+4),.slice (some ⟨g,0,none⟩) xs.length cap]:=hR 3 v3 rfl
     have r4:v4 = .agg #[a,b,c,d,e,f,.slice ha ys.length hcp]:=hR 4 v4 rfl
     obtain ⟨pa,pc,r5,hown⟩ : ∃ pa pc,v5 = .agg #[ax,ay,az,.int .i64 (ax+4),.int .i64 (ay+4),.int .i64 (az+4),.slice pa xs.length pc]∧Own W1 W.heap.size 3 .i64 (.slice pa xs.length pc) zs:=hR 5 v5 rfl
     obtain ⟨g2,r6,hg2,kg⟩ : ∃ g2,v6 = .pointer (some ⟨g2,0,none⟩)∧W.heap.size≤g2∧Bk W1 g2 #[(0:Int),(0:Int),(0:Int),(0:Int),(0:Int),(0:Int),.slice none 0 0] 28:=hR 6 v6 rfl
     subst r0 r1 r2 r3 r4 r5 r6
     clear hR hbox hg
     obtain ⟨g3,c3,hv3,-,-,-,-,-⟩:=hown.at (by rw [Hzl.out];decide)
     injection hv3 with e1 e2 e3
     subst e1
     clear e2 e3
     have hne:g3 ≠ g2:=fun e=>by
      obtain ⟨cur3,q1,-⟩:=hown.raw
      rw [e] at q1
      have q2:W1.heap[g2]? = _:=kg
      rw [q1] at q2
      injection q2 with q2
      injection q2 with _ q2
      exact absurd q2 (by decide)
     have Hown:=Bx.mk hown
     have Hb:=Bx.mk hb
     clear hown hb
     have cg0:=kg.cell 0 rfl
     have fg0:=kg.frozen 0
     have cg1:=kg.cell 1 rfl
     have fg1:=kg.frozen 1
     have cg2:=kg.cell 2 rfl
     have fg2:=kg.frozen 2
     have cg3:=kg.cell 3 rfl
     have fg3:=kg.frozen 3
     have cg4:=kg.cell 4 rfl
     have fg4:=kg.frozen 4
     have cg5:=kg.cell 5 rfl
     have fg5:=kg.frozen 5
     have cg6:=kg.cell 6 rfl
     have fg6:=kg.frozen 6
     simp only [puts,List.take_succ_cons,List.take_zero,List.drop_succ_cons,List.drop_zero,List.map_cons,List.map_nil,List.zip_cons_cons,List.zip_nil_right,List.foldl_cons,List.foldl_nil]
     go_upto_region 2 with fail
     have kg5:=kg.put7 (.int .i64 ax) (.int .i64 ay) (.int .i64 az) (.int .i64 (ax+4)) (.int .i64 (ay+4)) (.int .i64 (az+4)) (.slice (some ⟨g3,0,none⟩) xs.length pc)
     have hgr:W1.grownBy _ (some g2):=grown_set (grown_set (grown_set (grown_set (grown_set (grown_set (grown_set (World.grownBy.refl W1 (some g2)) 0 (.int .i64 ax)) 1 (.int .i64 ay)) 2 (.int .i64 az)) 3 (.int .i64 (ax+4))) 4 (.int .i64 (ay+4))) 5 (.int .i64 (az+4))) 6 (.slice (some ⟨g3,0,none⟩) xs.length pc)
     clear cg0 fg0 cg1 fg1 cg2 fg2 cg3 fg3 cg4 fg4 cg5 fg5 cg6 fg6 kg
     generalize World.setCell _ ⟨g2,6,none⟩ _=W5 at *
     have hg2w:Bd≤g2∧g ≠ g2:=by omega
     have hown5:Own W5 W.heap.size 3 .i64 (.slice (some ⟨g3,0,none⟩) xs.length pc) zs:=World.ownsRow.kept Hown.out hgr (.inr (fun e=>by injection e with e;exact hne e))
     have ho5:Own W5 Bd 3 .i64 (.slice (some ⟨g,0,none⟩) xs.length cap) xs:=World.ownsRow.kept (HO.out.below Hb.out) hgr (.inr (fun e=>by injection e with e;exact hg2w.2 e))
     obtain ⟨a3,c3',hv3,hsl3⟩:=hown5.form
     injection hv3 with e1 e2 e3
     subst e1
     clear e2 e3
     obtain ⟨cur,q1,q2,q3,q4,q5,q6,q7⟩:=ho5.raw
     have HK:=Bx.mk ((((Keeps.below HB.out).trans (Keeps.below Hb.out)).trans (Keeps.grown hgr (fun k e hk=>by injection e with e;subst e;have:g2<Bd:=hk;omega))):Keeps (fun k=>k<Bd) w W5)
     have hcop:=Bx.mk (copied q1 q2 q4 q5 q6 (zs:=zs) (by rw [Hzl.out,HL.out]) (xs:=xs))
     have cc6:W5.cell? ⟨g2,6,none⟩=some (.slice (some ⟨g3,0,none⟩) xs.length pc):=kg5.cell 6 rfl
     have Q1:=Bx.mk q1
     have HSL:=Bx.mk hsl3
     have hn1:(zs.map (Value.int .i64)).length=Nat.min xs.length xs.length:=by rw [List.length_map,Hzl.out,HL.out];rfl
     have hfit:0+(zs.map (Value.int .i64)).length≤cur.toArray.size:=by rw [List.length_map,Hzl.out,List.size_toArray,q2];have:=HL.out;omega
     have HN1:=Bx.mk hn1
     have HF1:=Bx.mk hfit
     clear hown5 ho5 hsl3 kg5 hgr q1 q3 Hown q2 q4 q5 q6 q7 hn1 hfit hg2w hgl hWs hg2 hne
     go_wp2_with (refine wpList_copy_own rfl (.tmp 12) (.tmp 14) 26 26 rfl 3 Tryz.underlying26 (by kernel_rfl) g 0 xs.length cap ⟨g3,0,none⟩ xs.length pc rfl rfl cur.toArray 3 Q1.out (zs.map (Value.int .i64)) HN1.out (src_cells HSL.out) HF1.out (one_cells zs) ?_)
     go_end0
     exact ⟨rfl,hcop.out.1,HK.out.trans hcop.out.2⟩
end
section
open Go.RowKit Go.Sort Go.Maps
open Oct
abbrev cube4B (a:Pt):Box:=⟨⟨a.x,a.y,a.z⟩,⟨a.x+4,a.y+4,a.z+4⟩⟩
theorem cells64_of (f:Pt→Int) (a:Pt):cells64 f a=cellsOf (cube4B a) f:=(cells_cube a.x a.y a.z f).symm
theorem whole4 {N:Nat} {a:Pt} (h:InT N 0 a) {p:Pt} (hp:inB p (cube4B a)=true):inB p (wholeB N)=true:=by
 have h1:=inB_iff.1 hp
 simp only [] at h1
 obtain ⟨-,-,x,y,z⟩:=h
 have e4:(2:Int) ^ (0+2)=4:=by decide
 rw [e4] at x y z
 exact inB_iff.2 ⟨by show (0:Int)≤_;omega,by show _<(2:Int) ^ (N+2);omega,by show (0:Int)≤_;omega,by show _<(2:Int) ^ (N+2);omega,by show (0:Int)≤_;omega,by show _<(2:Int) ^ (N+2);omega⟩
theorem paste_cells {N:Nat} {a:Pt} (h:InT N 0 a) (b:Box) (ys:List Int) (g:Pt→Int):pasteL (cube4B a) b (cells64 g a) ys=cells64 (pasteF N b ys g) a:=by
 rw [cells64_of,cells64_of]
 refine cellsOf_congr fun p hp=>?_
 unfold pasteF
 rw [whole4 h hp,Bool.and_true,cellG_cellsOf hp]
theorem cellG_rep {b:Box} {c:Int} {p:Pt} (hp:inB p b=true):cellG b (List.replicate (volB b).toNat c) p=c:=by
 unfold cellG
 rw [if_pos hp]
 have:=indexB_bd hp
 rw [List.getD_eq_getElem?_getD,List.getElem?_replicate_of_lt (by omega)];rfl
theorem fill_cells {N:Nat} {a:Pt} (h:InT N 0 a) (b:Box) (c:Int) (g:Pt→Int):pasteL (cube4B a) b (cells64 g a) (List.replicate (volB b).toNat c)=cells64 (fillF N b c g) a:=by
 rw [cells64_of,cells64_of]
 refine cellsOf_congr fun p hp=>?_
 unfold fillF
 rw [whole4 h hp,Bool.and_true,cellG_cellsOf hp]
 by_cases hb:inB p b=true
 · rw [if_pos hb,if_pos hb,cellG_rep hb]
 · rw [if_neg hb,if_neg hb]
end
end Go.Proofs.YtfcbajmjaifjlaaGreat
