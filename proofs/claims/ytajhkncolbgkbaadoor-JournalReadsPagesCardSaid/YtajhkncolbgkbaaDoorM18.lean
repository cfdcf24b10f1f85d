/- Jcg, Jwp, Jpt, Jci, Jcs, Pbt: joined by program, for one claim. -/
import Derived.Test.YtajhkncolbgkbaaDoorM17
import Derived.Test.YtajhkncolbgkbaaDoorM12
import Derived.StillTailTactics
import Derived.Test.YtajhkncolbgkbaaDoorM9
set_option linter.unusedVariables false
set_option linter.unusedSimpArgs false
namespace Go.Proofs.YtajhkncolbgkbaaDoor
section
open Go.RowKit Go.Sort Go.Maps
attribute [local go_sem] Oper.semAt_some
def chunkP (s:List Int) (k:Nat):List Int:=(s.drop (k * 116)).take 116++zerosP (116 - ((s.drop (k * 116)).take 116).length)
theorem chunk_len (s:List Int) (k:Nat):(chunkP s k).length=116:=by unfold chunkP zerosP;simp;omega
theorem chunk_byts {s:List Int} (h:Byts s) (k:Nat):Byts (chunkP s k):=fun x hx=>by
 rcases List.mem_append.1 hx with hx | hx
 · exact h x (List.mem_of_mem_drop (List.mem_of_mem_take hx))
 · unfold zerosP at hx;rw [List.mem_replicate] at hx;omega
theorem chunk_at {s:List Int} {j:Nat} (h:j<s.length):(chunkP s (j / 116))[j % 116]? = s[j]? := by
 unfold chunkP
 have hl:j % 116<((s.drop (j / 116 * 116)).take 116).length:=by rw [List.length_take,List.length_drop];omega
 rw [List.getElem?_append_left hl,List.getElem?_take,if_pos (by omega),List.getElem?_drop]
 congr 1;omega
def chgJ (h bank:Nat) (s:List Int) (fr:Nat):List (Nat × List Int):=(List.range' (fr / 116) (pagesFor s.length - fr / 116)).map fun k=>(1+bank * h+k,chunkP s k)
theorem chgJ_len (h bank:Nat) (s:List Int) (fr:Nat):(chgJ h bank s fr).length=pagesFor s.length - fr / 116:=by simp [chgJ]
theorem chgJ_at {h bank:Nat} {s:List Int} {fr i:Nat} (hi:i<pagesFor s.length - fr / 116):(chgJ h bank s fr)[i]? = some (1+bank * h+(fr / 116+i),chunkP s (fr / 116+i)):=by
 unfold chgJ
 rw [List.getElem?_map,List.getElem?_range' hi]
 simp
theorem chgJ_succ {h bank:Nat} {s:List Int} {fr i:Nat} (hi:i<pagesFor s.length - fr / 116):(chgJ h bank s fr).take (i+1)=(chgJ h bank s fr).take i++[(1+bank * h+(fr / 116+i),chunkP s (fr / 116+i))]:=by
 have hl:i<(chgJ h bank s fr).length:=by rw [chgJ_len];exact hi
 rw [List.take_succ_eq_append_getElem hl]
 have:=chgJ_at (h:=h) (bank:=bank) hi
 rw [List.getElem?_eq_getElem hl] at this
 rw [Option.some.inj this]
abbrev cgArgs (x:Nat × List Int):Array Value:=#[.agg #[.int .i64 (x.1:Int),.string (strOfNums x.2)]]
theorem rep_any (n:Nat) (hn:n≤1000) (W:World):Calls Tryd.prog 62 #[.string ⟨#[0]⟩,.int .i64 (n:Int)] W fun e w'=>e = .returned (.string (strOfNums (zerosP n)))∧Below W.heap.size W w':=by
 match n,hn with
 | 0,_=>exact (Tryd.strings_Repeat_zero ⟨#[0]⟩ W).mono fun e w' h=>⟨by rw [h.1];rfl,h.2 ▸ Below.refl _ _⟩
 | 1,_=>exact (Tryd.strings_Repeat_one ⟨#[0]⟩ W).mono fun e w' h=>⟨by rw [h.1];rfl,h.2 ▸ Below.refl _ _⟩
 | n + 2, hn =>
   have hs:(ByteArray.mk #[(0:UInt8)]).size=1:=rfl
   have:=Tryd.strings_Repeat_main ⟨#[0]⟩ (n+2) W (by omega) (by omega) (by rw [hs];omega) (by rw [hs];omega)
   rw [rep_zeros] at this
   exact this
set_option maxRecDepth 100000 in
set_option maxHeartbeats 1000000 in
theorem jpage_cell (w:World) (jp h:Nat) (c1:w.cell? ⟨jp,1,none⟩=some (.int .i64 (h:Int))) (hh:h≤1000) (b k:Nat) (hb:b≤1) (hk:k≤1000) :
 Calls Tryd.prog 52 #[.pointer (some ⟨jp,0,none⟩),.int .i64 (b:Int),.int .i64 (k:Int)] w fun e w'=>e = .returned (.int .i64 ((1+b * h+k:Nat):Int))∧w=w':=by
 obtain ⟨x,hx⟩ : ∃ x,x=b * h:=⟨_,rfl⟩
 have hx1:x≤1000:=by
  have:b * h≤1 * h:=Nat.mul_le_mul_right _ hb
  omega
 have e1:IntKind.i64.wrap ((b:Int) * (h:Int))=(x:Int):=by
  rw [hx] at hx1 ⊢
  rw [IntWalk.i64_in _ (by rw [←Int.natCast_mul];omega)]
  exact (Int.natCast_mul b h).symm
 obtain ⟨y,hy⟩ : ∃ y,y=1+x:=⟨_,rfl⟩
 have e2:IntKind.i64.wrap (1+(x:Int))=(y:Int):=by rw [IntWalk.i64_in _ (by omega)];omega
 have e3:IntKind.i64.wrap ((y:Int)+(k:Int))=((1+x+k:Nat):Int):=by rw [IntWalk.i64_in _ (by omega)];omega
 rw [←hx]
 generalize 1+x+k=z at *
 clear hx hx1 hy
 go_enter Tryd.func52,Tryd.ntmps52
 go_wp2_with fail
 go_ret
 exact ⟨rfl,rfl⟩
set_option maxRecDepth 100000 in
set_option maxHeartbeats 1000000 in
theorem jchanged_any (w:World) (jp bank fr:Nat) (S:ByteArray) :
 Calls Tryd.prog 61 #[.pointer (some ⟨jp,0,none⟩),.int .i64 (bank:Int),.string S,.int .i64 (fr:Int)] w fun e w' =>
  e = .returned (.func (.func 82) #[] #[.pointer (some ⟨w.heap.size+1+1+1,0,none⟩),.pointer (some ⟨w.heap.size+1+1,0,none⟩),.pointer (some ⟨w.heap.size,0,none⟩),.pointer (some ⟨w.heap.size+1,0,none⟩)])∧Below w.heap.size w w'∧w'.heap.size=w.heap.size+4 ∧
  Bk w' w.heap.size #[.pointer (some ⟨jp,0,none⟩)] 25∧Bk w' (w.heap.size+1) #[.int .i64 (bank:Int)] 3∧Bk w' (w.heap.size+1+1) #[.string S] 9∧Bk w' (w.heap.size+1+1+1) #[.int .i64 (fr:Int)] 3:=by
 go_enter Tryd.func61,Tryd.ntmps61
 go_wp2_with fail
 go_ret
 refine ⟨rfl,((((Below.refl _ _).alloc (Nat.le_refl _) _).alloc (by simp) _).alloc (by simp;omega) _).alloc (by simp;omega) _,by simp,?_,?_,?_,?_⟩
 · exact blk_old (blk_old (blk_old (blk_new _ _ _ rfl)))
 · exact blk_old (blk_old (blk_new _ _ _ (by simp)))
 · exact blk_old (blk_new _ _ _ (by simp))
 · exact blk_new _ _ _ (by simp)
end
section
structure DoneJ (n t0:Nat) (im0:List (List Int)) (done:List (Nat × List Int)) (t:Nat) (im:List (List Int)):Prop where
 inv:PInv n t im
 few:t0≤t∧t≤t0+done.length
 hit : ∀ x∈done,datD im x.1=x.2
 off : ∀ i,(∀ x∈done,x.1 ≠ i)→datD im i=datD im0 i
theorem DoneJ.start {n t:Nat} {im:List (List Int)} (h:PInv n t im):DoneJ n t im [] t im:=⟨h,⟨Nat.le_refl _,Nat.le_refl _⟩,fun x hx=>(by cases hx),fun _ _=>rfl⟩
theorem DoneJ.next {n t0 t:Nat} {im0 im:List (List Int)} {done b:List (Nat × List Int)} (h:DoneJ n t0 im0 done t im) (hb:BatchOk n b) (ht:t+1≤2 ^ 30) (hap : ∀ x∈done,∀ y∈b,y.1 ≠ x.1):DoneJ n t0 im0 (done++b) (t+1) (wrote (t+1) b im):=by
 have h1:=hb.one
 have h2:=h.few
 refine ⟨h.inv.write hb ht,by rw [List.length_append];omega,fun x hx=>?_,fun i hi=>?_⟩
 · rcases List.mem_append.1 hx with hx | hx
   · rw [datD_off hb (fun y hy=>hap x hx y hy)]
     exact h.hit x hx
   · exact datD_hit h.inv hb hx _
 · rw [datD_off hb (fun y hy=>hi y (List.mem_append_right _ hy))]
   exact h.off i fun x hx=>hi x (List.mem_append_left _ hx)
theorem chgJ_mem {h bank fr:Nat} {s:List Int} {x:Nat × List Int} (hx:x∈chgJ h bank s fr) : ∃ k,x=(1+bank * h+k,chunkP s k)∧fr / 116≤k∧k<pagesFor s.length:=by
 unfold chgJ at hx
 obtain ⟨k,hk,rfl⟩:=List.mem_map.1 hx
 rw [List.mem_range'_1] at hk
 exact ⟨k,rfl,hk.1,by omega⟩
theorem chgJ_sorted (h bank fr:Nat) (s:List Int):((chgJ h bank s fr).map (·.1)).Pairwise (· < ·):=by
 unfold chgJ
 rw [List.map_map,List.pairwise_map]
 refine List.Pairwise.imp ?_ (List.pairwise_lt_range' (s:=fr / 116) (n:=pagesFor s.length - fr / 116))
 intro a b hab
 simp only [Function.comp]
 omega
theorem chgJ_low {nn h bank fr:Nat} {s:List Int} (hh:h=(nn - 1) / 2∧1≤h∧nn≤200) (hbk:bank≤1) (hsl:s.length≤h * 116) {x:Nat × List Int} (hx:x∈chgJ h bank s fr):x.1+17<nn+17:=by
 have hbh:bank * h≤1 * h:=Nat.mul_le_mul_right _ hbk
 obtain ⟨k,rfl,_,hk⟩:=chgJ_mem hx
 unfold pagesFor at hk
 simp only
 omega
theorem chgJ_data {h bank fr:Nat} {s:List Int} (hs:Byts s) {x:Nat × List Int} (hx:x∈chgJ h bank s fr):x.2.length=116∧Byts x.2:=by
 obtain ⟨k,rfl,_,_⟩:=chgJ_mem hx
 exact ⟨chunk_len _ _,chunk_byts hs _⟩
theorem chgJ_batch {nn h bank fr:Nat} {s:List Int} (hh:h=(nn - 1) / 2∧1≤h) (hbk:bank≤1) (hs:Byts s) (hsl:s.length≤h * 116) {a b c:List (Nat × List Int)} (he:chgJ h bank s fr=a++b++c) (h1:1≤b.length) (h16:b.length≤16):BatchOk (nn+17) b:=by
 have hbh:bank * h≤1 * h:=Nat.mul_le_mul_right _ hbk
 have hin : ∀ x∈b,x∈chgJ h bank s fr:=fun x hx=>by rw [he];exact List.mem_append_left _ (List.mem_append_right _ hx)
 refine ⟨h1,h16,fun x hx=>?_,fun x hx=>?_,?_⟩
 · obtain ⟨k,rfl,_,hk⟩:=chgJ_mem (hin x hx)
   unfold pagesFor at hk
   simp only
   omega
 · obtain ⟨k,rfl,_,_⟩:=chgJ_mem (hin x hx)
   exact ⟨chunk_len _ _,chunk_byts hs _⟩
 · have:=chgJ_sorted h bank fr s
   rw [he,List.map_append,List.map_append] at this
   exact (List.pairwise_append.1 (List.pairwise_append.1 this).1).2.1
theorem headP_byts {bank used cnt:Nat}:Byts (headP bank used cnt):=by
 have hb : ∀ n k,Byts (bytesP n k):=fun n k x hx=>by
  unfold bytesP at hx
  obtain ⟨i,_,rfl⟩:=List.mem_map.1 hx
  omega
 intro x hx
 unfold headP at hx
 rcases List.mem_append.1 hx with hx | hx
 · rcases List.mem_append.1 hx with hx | hx
   · rcases List.mem_append.1 hx with hx | hx
     · exact hb _ _ x hx
     · exact hb _ _ x hx
   · exact hb _ _ x hx
 · unfold zerosP at hx;rw [List.mem_replicate] at hx;omega
theorem chgJ_last {nn h bank fr:Nat} {s:List Int} (hh:h=(nn - 1) / 2∧1≤h) (hbk:bank≤1) (hs:Byts s) (hsl:s.length≤h * 116) {a b:List (Nat × List Int)} (he:chgJ h bank s fr=a++b) (h15:b.length≤15) (used cnt:Nat):BatchOk (nn+17) ((0,headP bank used cnt)::b):=by
 have hin : ∀ x∈b,x∈chgJ h bank s fr:=fun x hx=>by rw [he];exact List.mem_append_right _ hx
 refine ⟨by simp,by simp;omega,fun x hx=>?_,fun x hx=>?_,?_⟩
 · rcases List.mem_cons.1 hx with rfl | hx
   · simp only;omega
   · by_cases h0:b=[]
     · subst h0;cases hx
     · exact (chgJ_batch hh hbk hs hsl (a:=a) (b:=b) (c:=[]) (by rw [he,List.append_nil]) (List.length_pos_iff.2 h0) (by omega)).low x hx
 · rcases List.mem_cons.1 hx with rfl | hx
   · exact ⟨headP_len _ _ _,headP_byts⟩
   · obtain ⟨k,rfl,_,_⟩:=chgJ_mem (hin x hx)
     exact ⟨chunk_len _ _,chunk_byts hs _⟩
 · rw [List.map_cons,List.pairwise_cons]
   have:=chgJ_sorted h bank fr s
   rw [he,List.map_append] at this
   refine ⟨fun y hy=>?_,(List.pairwise_append.1 this).2.1⟩
   obtain ⟨x,hx,rfl⟩:=List.mem_map.1 hy
   obtain ⟨k,rfl,_,_⟩:=chgJ_mem (hin x hx)
   simp only;omega
theorem chgJ_apart {h bank fr:Nat} {s:List Int} {a b c:List (Nat × List Int)} (he:chgJ h bank s fr=a++b++c) : ∀ x∈a,∀ y∈b,y.1 ≠ x.1:=fun x hx y hy=>by
 have:=chgJ_sorted h bank fr s
 rw [he,List.map_append,List.map_append] at this
 have:=(List.pairwise_append.1 (List.pairwise_append.1 this).1).2.2 x.1 (List.mem_map.2 ⟨x,hx,rfl⟩) y.1 (List.mem_map.2 ⟨y,hy,rfl⟩)
 omega
theorem chgJ_pos {h bank fr:Nat} {s:List Int} {x:Nat × List Int} (hx:x∈chgJ h bank s fr):x.1 ≠ 0:=by
 obtain ⟨k,rfl,_,_⟩:=chgJ_mem hx
 simp only;omega
theorem InvJ.wrote {nn h bank bk fr n t0 t:Nat} {s0 s:List Int} {L0 L:List (List Int)} {im0 im:List (List Int)} (hI:InvJ nn h bank s0 L0 im0) {done:List (Nat × List Int)} (hD:DoneJ n t0 im0 done t im) (hin : ∀ x,x∈done ↔ x=(0,headP bk s.length L.length)∨x∈chgJ h bk s fr)
 (hs:s=strmP L) (hsh : ∀ r∈L,r.length≤8000) (hf:s.length≤h * 116) (hbk:bk≤1) (hfr:fr=0∨(bk=bank∧fr≤s0.length ∧ ∀ j,j<fr→s[j]? = s0[j]?)):InvJ nn h bk s L im:=by
 refine ⟨hD.hit (0,headP bk s.length L.length) ((hin _).2 (.inl rfl)),fun j hj=>?_,hs,hsh,hf,hbk,hI.half⟩
 by_cases hk:fr / 116≤j / 116
 · have hm:(1+bk * h+j / 116,chunkP s (j / 116))∈chgJ h bk s fr:=by
    unfold chgJ
    refine List.mem_map.2 ⟨j / 116,List.mem_range'_1.2 ⟨hk,?_⟩,rfl⟩
    unfold pagesFor;omega
   rw [hD.hit _ ((hin _).2 (.inr hm))]
   exact chunk_at hj
 · have hjf:j<fr:=by omega
   rcases hfr with h0 | ⟨rfl,h1,h2⟩
   · omega
   · rw [hD.off _ (fun x hx=>?_),hI.bytes j (by omega),h2 j hjf]
     rcases (hin x).1 hx with rfl | hx
     · simp only;omega
     · obtain ⟨k,rfl,hk1,_⟩:=chgJ_mem hx
       simp only;omega
end
section
open Go.RowKit Go.Sort Go.Maps
def JW (jp pp dp g mb:Nat) (k:Nat):Prop:=k=jp∨k=pp∨In3 dp g mb k
set_option maxRecDepth 100000 in
set_option maxHeartbeats 1000000 in
theorem jput_any (w:World) (n jb jp pp h bank:Nat) (s:List Int) (rv:Value) (B dp g mb cap m t:Nat) (bv:Value) (im:List (List Int))
 (hj:JS w jp pp h bank s rv false) (kb:Bk w jb #[.pointer (some ⟨jp,0,none⟩)] 25) (hst:St B w dp g mb cap pp m (qDk im) t bv false) (hinv:PInv n t im) (hne:jp ≠ pp ∧ ¬In3 dp g mb jp) (hjb : ¬JW jp pp dp g mb jb) (hm:m+40<1000000) (ht:t<1073741823)
 (a:Option Addr) (c:Nat) (L:List (Nat × List Int)) (hL:BatchOk n L) (hs:SlP w a (L.map fun x=>((x.1:Int),x.2))) :
 Calls Tryd.prog 60 #[.slice a L.length c,.pointer (some ⟨jb,0,none⟩)] w fun e w'=>e = .returned (.int .i64 0)∧St B w' dp g mb cap pp (m+40) (qDk (wrote (t+1) L im)) (t+1) bv false∧JS w' jp pp h bank s rv false∧Chg (JW jp pp dp g mb) w w':=by
 have hlen:im.length=n:=hinv.len
 have hpw:Calls Tryd.prog 25 #[.pointer (some ⟨pp,0,none⟩),.slice a L.length c] w fun e w'=>e = .returned (.int .i64 0)∧St B w' dp g mb cap pp (m+40) (qDk (wrote (t+1) L im)) (t+1) bv false∧JS w' jp pp h bank s rv false∧Bk w' jb #[.pointer (some ⟨jp,0,none⟩)] 25∧Chg (JW jp pp dp g mb) w w':=by
  refine (pwrite_ok w pp dp t g mb cap m bv (qDk im) hst.ps hst.dk hst.ne hm (by omega) a c L (by rw [show (qDk im).p.length=im.length by unfold qDk;exact List.length_map _,hlen];exact hL) hs).mono ?_
  intro e w' hp
  unfold WrPost at hp
  rw [run_steps (by rw [hlen];exact hinv.big) (by rw [hlen];exact hL) hinv.len128] at hp
  obtain ⟨h1,h2,h3,h4⟩:=hp
  refine ⟨h1,⟨h3,h2,hst.ne,hst.lo⟩,Bk.chg hj h4 fun hS=>?_,Bk.chg kb h4 fun hS=>?_,h4.mono fun k _ hS=>.inr hS⟩
  · rcases hS with hS | hS
    · exact hne.1 hS
    · exact hne.2 hS
  · exact hjb (.inr hS)
 have HPW:=Bx.mk hpw
 have c0:=Bk.cell hj 0 rfl
 have c1:=kb.cell 0 rfl
 have HJP:=Bx.mk hne
 clear hlen hpw hst hinv hs hL hjb hm ht
 clear hj kb hne
 go_enter Tryd.func60,Tryd.ntmps60
 go_upto_region 2 with (go_at_call 25;refine HPW.out.mono ?_;rintro _ w1 ⟨rfl,hst1,hj1,kb1,hc1⟩)
 have HST:=Bx.mk hst1
 have HJ:=Bx.mk hj1
 have HKB:=Bx.mk kb1
 have HC:=Bx.mk hc1
 clear hst1 hc1 HPW c0 c1
 have c0:w1.cell? ⟨jb,0,none⟩=some (.pointer (some ⟨jp,0,none⟩)):=kb1.cell 0 rfl
 have c5:w1.cell? ⟨jp,5,none⟩=some (.bool false):=Bk.cell hj1 5 rfl
 have f5:w1.drew.frozen? ⟨jp,5,none⟩=false:=Bk.frozen hj1 5
 have HJ5:Bx (JS (w1.setCell ⟨jp,5,none⟩ (.bool false)) jp pp h bank s rv false∧Below (w1.setCell ⟨jp,5,none⟩ (.bool false)).heap.size (w1.setCell ⟨jp,5,none⟩ (.bool false)) (w1.setCell ⟨jp,5,none⟩ (.bool false)).drew∧Chg (· = jp) w1 (w1.setCell ⟨jp,5,none⟩ (.bool false))):=⟨by simpa [JS] using Bk.set hj1 5 (.bool false),(Below.refl _ _).drew,Chg.setCell (S:=(· = jp)) (Chg.refl _ _) (.inl rfl) _⟩
 clear hj1 kb1
 refine wp_region_still_tail 11 (by kernel_rfl) (by kernel_rfl) ?_
 simp only [List.take_succ_cons,List.take_zero,List.drop_succ_cons,List.drop_zero]
 repeat still_step
 refine wpStill_nil ?_
 change wpList _ _ _ _ _ w1.drew
 go_wp2_with fail
 go_ret
 obtain ⟨h1,h2,h3⟩:=HJ5.out
 refine ⟨rfl,St.later ⟨HST.out.dk.chg h3 fun k hk e=>HJP.out.2 (by rw [←e];exact hk),Bk.chg HST.out.ps h3 (fun e=>HJP.out.1 e.symm),HST.out.ne,HST.out.lo⟩ h2,h1.later h2,?_⟩
 exact (HC.out.trans (h3.mono fun k _ e=>.inl e) fun _ _ h=>h).trans (.ofBelow h2 _) fun _ _ h=>h
theorem chk_unsorted {n t:Nat} {L:List (Nat × List Int)} (hd : ∀ x∈L,Byts x.2) (hs : ¬(L.map (·.1)).Pairwise (· < ·)):chkV false t ((n:Int) - 17) (L.map fun x=>((x.1:Int),x.2)) ≠ 0:=fun h=>by
 obtain ⟨_,_,L2,h2,hL⟩:=chk_batch (fun x hx=>by obtain ⟨y,hy,rfl⟩:=List.mem_map.1 hx;exact hd y hy) h
 apply hs
 have e:L.map (·.1)=L2.map (·.1):=by
  have:=congrArg (fun l=>l.map (fun x:Int × List Int=>x.1.toNat)) h2
  simpa [List.map_map,Function.comp_def] using this
 rw [e]
 exact hL.sorted
set_option maxRecDepth 100000 in
set_option maxHeartbeats 1000000 in
theorem jput_no (w:World) (n jb jp pp h bank:Nat) (s:List Int) (rv:Value) (B dp g mb cap m t:Nat) (bv:Value) (im:List (List Int))
 (hj:JS w jp pp h bank s rv false) (kb:Bk w jb #[.pointer (some ⟨jp,0,none⟩)] 25) (hst:St B w dp g mb cap pp m (qDk im) t bv false) (hinv:PInv n t im)
 (a:Option Addr) (c:Nat) (L:List (Nat × List Int)) (hl:L.length≤15) (hd : ∀ x∈L,x.1≤1000∧x.2.length=116∧Byts x.2) (hsrt : ¬(L.map (·.1)).Pairwise (· < ·)) (hs:SlP w a (L.map fun x=>((x.1:Int),x.2))) :
 Calls Tryd.prog 60 #[.slice a L.length c,.pointer (some ⟨jb,0,none⟩)] w fun e w' => ∃ er:Int,er ≠ 0∧e = .returned (.int .i64 er)∧Chg (· = jp) w w':=by
 have hlen:(qDk im).p.length=n:=by rw [show (qDk im).p.length=im.length by unfold qDk;exact List.length_map _];exact hinv.len
 have hne:=chk_unsorted (n:=n) (t:=t) (fun x hx=>(hd x hx).2.2) hsrt
 obtain ⟨er,her⟩ : ∃ er,er=chkV false t ((n:Int) - 17) (L.map fun x=>((x.1:Int),x.2)):=⟨_,rfl⟩
 have hrf:=hst.refuse a c (L.map fun x=>((x.1:Int),x.2)) (by rw [List.length_map];omega) hs (fun x hx=>by
  obtain ⟨y,hy,rfl⟩:=List.mem_map.1 hx
  have:=hd y hy
  refine ⟨⟨by simp only;omega,by simp only;omega⟩,by simp only;omega⟩) (by rw [hlen]) hne
 rw [List.length_map,←her] at hrf
 have HRF:=Bx.mk hrf
 have HER:Bx (er ≠ 0):=⟨by rw [her];exact hne⟩
 have n1:(er != 0)=true:=by simpa using HER.out
 have c0:=Bk.cell hj 0 rfl
 have c1:=kb.cell 0 rfl
 have HJ:=Bx.mk hj
 have HKB:=Bx.mk kb
 clear hlen hne her hrf hst hinv hs hd hsrt hl hj kb
 go_enter Tryd.func60,Tryd.ntmps60
 go_upto_region 2 with (go_at_call 25;refine HRF.out.mono ?_;rintro _ w1 ⟨rfl,hb1⟩)
 have HC:Bx (Chg (· = jp) w w1):=⟨.ofBelow hb1 _⟩
 have c0':w1.cell? ⟨jb,0,none⟩=some (.pointer (some ⟨jp,0,none⟩)):=(HKB.out.later hb1).cell 0 rfl
 have c5:w1.cell? ⟨jp,5,none⟩=some (.bool false):=Bk.cell (HJ.out.later hb1) 5 rfl
 have f5:w1.drew.frozen? ⟨jp,5,none⟩=false:=Bk.frozen (HJ.out.later hb1) 5
 clear hb1 HRF c0 c1 HJ HKB
 refine wp_region_still_tail 11 (by kernel_rfl) (by kernel_rfl) ?_
 simp only [List.take_succ_cons,List.take_zero,List.drop_succ_cons,List.drop_zero]
 repeat still_step
 refine wpStill_nil ?_
 change wpList _ _ _ _ _ w1.drew
 go_wp2_with fail
 go_ret
 refine ⟨er,HER.out,rfl,?_⟩
 have h3:Chg (· = jp) w1 (w1.setCell ⟨jp,5,none⟩ (.bool true)):=Chg.setCell (S:=(· = jp)) (Chg.refl _ _) (.inl rfl) _
 exact (HC.out.trans h3 fun _ _ h=>h).trans (.ofBelow (Below.refl _ _).drew _) fun _ _ h=>h
end
section
open Go.RowKit Go.Sort Go.Maps
attribute [local go_sem] Oper.semAt_some
def KpJ (S:Nat→Prop) (jp:Nat) (v:Value) (W W':World):Prop:=Chg S W W'∧(W.cell? ⟨jp,1,none⟩=some v→W'.cell? ⟨jp,1,none⟩=some v)
theorem KpJ.refl (S:Nat→Prop) (jp:Nat) (v:Value) (W:World):KpJ S jp v W W:=⟨Chg.refl _ _,id⟩
theorem KpJ.trans {S:Nat→Prop} {jp:Nat} {v:Value} {W W1 W2:World} (h:KpJ S jp v W W1) (h':KpJ S jp v W1 W2):KpJ S jp v W W2:=⟨h.1.trans h'.1 fun _ _ h=>h,fun c=>h'.2 (h.2 c)⟩
theorem KpJ.later {S:Nat→Prop} {jp:Nat} {v:Value} {W W1:World} (h:Below W.heap.size W W1):KpJ S jp v W W1:=⟨.ofBelow h S,fun c=>cell_later h c⟩
set_option maxRecDepth 100000 in
set_option maxHeartbeats 4000000 in
theorem chg1_any (l fb sb jc bb jp h bank fr:Nat) (s:List Int) (S:Nat→Prop) (hS : ¬S fb ∧ ¬S sb ∧ ¬S jc ∧ ¬S bb) (hh:h≤1000) (hsl:s.length≤h * 116) (hbk:bank≤1) (hfr:fr≤s.length) (J Jx:List (Nat × List Int)→World→Prop) (hJ : ∀ t W W',J t W→Below W.heap.size W W'→J t W')
 (W:World) (kf:Bk W fb #[.int .i64 (fr:Int)] 3) (ks:Bk W sb #[.string (strOfNums s)] 9) (kj:Bk W jc #[.pointer (some ⟨jp,0,none⟩)] 25) (kb:Bk W bb #[.int .i64 (bank:Int)] 3) (c1:W.cell? ⟨jp,1,none⟩=some (.int .i64 (h:Int)))
 (hY : ∀ n pre x W,x∈chgJ h bank s fr→J pre W→pre.length<(chgJ h bank s fr).length→YieldAt Fence.wide n Tryd.prog l (cgArgs x) W fun e W'=>(e = .returned (.bool true)∧J (pre++[x]) W'∧KpJ S jp (.int .i64 (h:Int)) W W')∨(e = .returned (.bool false)∧Jx (pre++[x]) W')) (h0:J [] W) :
 Calls Tryd.prog 82 #[.func (.yield l) #[] #[],.pointer (some ⟨fb,0,none⟩),.pointer (some ⟨sb,0,none⟩),.pointer (some ⟨jc,0,none⟩),.pointer (some ⟨bb,0,none⟩)] W fun e W'=>(∃ v,e = .returned v)∧(J (chgJ h bank s fr) W' ∨ ∃ q,q <+: chgJ h bank s fr∧Jx q W'):=by
 have HKF:=Bx.mk fun W' (h:KpJ S jp (.int .i64 (h:Int)) W W')=>kf.chg h.1 hS.1
 have HKS:=Bx.mk fun W' (h:KpJ S jp (.int .i64 (h:Int)) W W')=>ks.chg h.1 hS.2.1
 have HKJ:=Bx.mk fun W' (h:KpJ S jp (.int .i64 (h:Int)) W W')=>kj.chg h.1 hS.2.2.1
 have HKB:=Bx.mk fun W' (h:KpJ S jp (.int .i64 (h:Int)) W W')=>kb.chg h.1 hS.2.2.2
 have HPG:=Bx.mk fun W' (hk:KpJ S jp (.int .i64 (h:Int)) W W') (k:Nat) (hk2:k≤1000)=>jpage_cell W' jp h (hk.2 c1) hh bank k hbk hk2
 have HY:=Bx.mk hY
 have HJ:=Bx.mk hJ
 have H0:=Bx.mk h0
 have cf:=kf.cell 0 rfl
 obtain ⟨K,hK⟩ : ∃ K,K=pagesFor s.length:=⟨_,rfl⟩
 obtain ⟨k0,hk0⟩ : ∃ k0,k0=fr / 116:=⟨_,rfl⟩
 obtain ⟨n,hn⟩ : ∃ n,n=K - k0:=⟨_,rfl⟩
 have hKe:K=(s.length+115) / 116:=by rw [hK];rfl
 have HK:Bx (K=(s.length+115) / 116∧k0≤K∧K≤1000∧n=K - k0):=⟨by omega⟩
 have hLl:(chgJ h bank s fr).length=n:=by rw [chgJ_len,←hK,←hk0,hn]
 have HLl:=Bx.mk hLl
 have HSU:=Bx.mk fun (i:Nat) (hi:i<n)=>(show (chgJ h bank s fr).take (i+1)=(chgJ h bank s fr).take i++[(1+bank * h+(k0+i),chunkP s (k0+i))] by rw [hk0];exact chgJ_succ (by rw [←hK,←hk0,←hn];exact hi))
 have HMEM:=Bx.mk fun (i:Nat) (hi:i<n)=>(show (1+bank * h+(k0+i),chunkP s (k0+i))∈chgJ h bank s fr by rw [hk0];exact List.mem_of_getElem? (chgJ_at (by rw [←hK,←hk0,←hn];exact hi)))
 have HPRE:=Bx.mk fun (i:Nat)=>List.take_prefix i (chgJ h bank s fr)
 have HALL:Bx ((chgJ h bank s fr).take n=chgJ h bank s fr):=⟨List.take_of_length_le (by rw [hLl];exact Nat.le_refl _)⟩
 have d1:((fr:Int)).tdiv 116=(k0:Int):=by rw [Int.tdiv_eq_ediv_of_nonneg (by omega)];omega
 have d2:(fr:Int) / 116=(k0:Int):=by omega
 have d3:IntKind.i64.wrap (k0:Int)=(k0:Int):=IntWalk.i64_in _ (by omega)
 obtain ⟨sl,hsle⟩ : ∃ sl,sl=s.length:=⟨_,rfl⟩
 have HSL:Bx (sl=s.length∧sl≤116000):=⟨by omega⟩
 have hszs:(strOfNums s).size=sl:=by rw [strOfNums_size,hsle]
 generalize chgJ h bank s fr=L at *
 clear hS hsl hfr hJ kf ks kj kb hY h0 hK hk0 hn hKe hLl hsle
 refine (callsIn_wide (n:=3)).1 ?_
 refine callsIn_of_wp Tryd.func82 rfl trivial ?_ rfl
 simp only [Tryd.ntmps82,List.size_toArray,List.length_cons,List.length_nil,Nat.reduceAdd,Nat.reduceSub,Array.replicate_succ,Array.replicate_zero,List.push_toArray,List.append_toArray,List.nil_append,List.cons_append]
 gi_wp2
 clear cf d1 d2 d3
 gi_loopw [6] (fun v6 wr => ∃ i:Nat,i≤n∧v6 = .int .i64 ((k0+i:Nat):Int)∧Bx (J (L.take i) wr)∧Bx (KpJ S jp (.int .i64 (h:Int)) W wr)) (fun v _=>k0+n - (intOf v).toNat)
 case atStart=>exact ⟨0,Nat.zero_le _,rfl,⟨by simpa using H0.out⟩,⟨KpJ.refl _ _ _ _⟩⟩
 case round =>
  obtain ⟨i,hi,rfl,HI,HC⟩:=hrel
  obtain ⟨k,hk⟩ : ∃ k,k=k0+i:=⟨_,rfl⟩
  rw [←hk]
  have cs:=(HKS.out wr HC.out).cell 0 rfl
  have hk1000:k≤1000:=by have:=HK.out;omega
  obtain ⟨a,ha⟩ : ∃ a,a=k * 116:=⟨_,rfl⟩
  have e1:IntKind.i64.wrap ((k:Int) * 116)=(a:Int):=by rw [IntWalk.i64_in _ (by omega)];omega
  have HA:Bx (a=k * 116):=⟨ha⟩
  clear ha
  by_cases hlt:i<n
  · have hal:a<sl:=by have:=HK.out;have:=HSL.out;have:=HA.out;omega
    have t0:decide ((a:Int)<(sl:Int))=true:=by simp;omega
    have t0b:decide (a<sl)=true:=by simpa using hal
    obtain ⟨k1,hk1⟩ : ∃ k1,k1=k+1:=⟨_,rfl⟩
    have e2:IntKind.i64.wrap ((k:Int)+1)=(k1:Int):=by rw [IntWalk.i64_in _ (by omega)];omega
    obtain ⟨a1,ha1⟩ : ∃ a1,a1=a+116:=⟨_,rfl⟩
    have e3:IntKind.i64.wrap ((k1:Int) * 116)=(a1:Int):=by have:=HA.out;rw [IntWalk.i64_in _ (by omega)];omega
    obtain ⟨b,hb⟩ : ∃ b,b=min sl a1:=⟨_,rfl⟩
    have hab:a≤b:=by omega
    have hbs:b≤sl:=by omega
    have hmin : ∀ W',(Builtin.min_ #[3,3] 3 #[.int .i64 (sl:Int),.int .i64 (a1:Int)]).run Tryd.prog W' = .ok (.int .i64 (b:Int)) W':=fun W'=>by
     have h1:Builtin.min_ #[3,3] 3 #[.int .i64 (sl:Int),.int .i64 (a1:Int)]=pure (.int .i64 (if (a1:Int)<(sl:Int) then (a1:Int) else (sl:Int))):=rfl
     rw [h1,Sem.run_pure]
     congr 2
     by_cases hx:a1<sl
     · rw [if_pos (by omega)];omega
     · rw [if_neg (by omega)];omega
    obtain ⟨d,hd⟩ : ∃ d,d=(s.drop a).take 116:=⟨_,rfl⟩
    obtain ⟨dl,hdl⟩ : ∃ dl,dl=d.length:=⟨_,rfl⟩
    have hdb:dl=b - a∧dl≤116:=by
     have:=HSL.out.1
     rw [hdl,hd,List.length_take,List.length_drop];omega
    have hex:(strOfNums s).extract a b=strOfNums d:=by
     rw [str_extract,hd]
     congr 1
     have h1:b - a≤116:=by omega
     by_cases hx:a+116≤sl
     · congr 1;omega
     · rw [List.take_of_length_le (by rw [List.length_drop,←HSL.out.1];omega),List.take_of_length_le (by rw [List.length_drop,←HSL.out.1];omega)]
    have zd:(strOfNums d).size=dl:=by rw [strOfNums_size,hdl]
    obtain ⟨rz,hrz⟩ : ∃ rz,rz=116 - dl:=⟨_,rfl⟩
    have e4:IntKind.i64.wrap (116 - (dl:Int))=(rz:Int):=by rw [IntWalk.i64_in _ (by omega)];omega
    have hrep:=Bx.mk fun W'=>rep_any rz (by omega) W'
    have z5:(strOfNums (zerosP rz)).size=rz:=by rw [strOfNums_size];simp [zerosP]
    have ha2:strOfNums d++strOfNums (zerosP rz)=strOfNums (chunkP s k):=by
     rw [str_append];congr 1
     unfold chunkP
     rw [←HA.out,←hd,←hdl,←hrz]
    have g1:(0:Int)≤(a:Int):=by omega
    have g2:(a:Int)≤(b:Int):=by omega
    have g3:(b:Int)≤(sl:Int):=by omega
    have hsm:dl+rz≤1000:=by omega
    have HLn:Bx ((L.take i).length<L.length):=⟨by rw [List.length_take,HLl.out];omega⟩
    have HPGk:=Bx.mk fun W' hk'=>HPG.out W' hk' k hk1000
    have HMk:=HMEM.out i hlt
    have HSk:=HSU.out i hlt
    rw [←hk] at HMk HSk
    replace HMk:=Bx.mk HMk
    replace HSk:=Bx.mk HSk
    have Hlt:=Bx.mk hlt
    have Hk:=Bx.mk hk
    have HK1:=Bx.mk hk1
    clear hd hdl hdb hrz hlt hk hal hab hbs hb ha1 hk1
    generalize strOfNums d=D at *
    generalize strOfNums (zerosP rz)=Z at *
    obtain ⟨pg,hpg⟩ : ∃ pg,pg=1+bank * h+k:=⟨_,rfl⟩
    rw [←hpg] at HMk HSk HPGk
    obtain ⟨ck,hck⟩ : ∃ ck,ck=chunkP s k:=⟨_,rfl⟩
    rw [←hck] at HMk HSk ha2
    clear hpg hck
    gi_upto_region 5 with ((try refine ⟨trivial,?_⟩);gi_at_call 62;refine (callsIn_wide.2 (hrep.out _)).mono ?_;rintro _ w2 ⟨rfl,hb2⟩)
    have HC2:=Bx.mk (HC.out.trans (KpJ.later hb2))
    have HI2:=Bx.mk (HJ.out _ _ _ HI.out hb2)
    have cj:=(HKJ.out w2 HC2.out).cell 0 rfl
    have cb:=(HKB.out w2 HC2.out).cell 0 rfl
    have hpgc:=Bx.mk (HPGk.out w2 HC2.out)
    clear hb2 hrep hmin hex zd e4 z5 ha2 g1 g2 g3 hsm cs e3 t0 t0b HI HC
    gi_wp2_with ((try refine ⟨trivial,?_⟩);gi_at_call 52;refine (callsIn_wide.2 hpgc.out).mono ?_;rintro _ _ ⟨rfl,rfl⟩;obtain ⟨fn,tmps,assign,body,hy,hYr⟩:=HY.out 3 _ (pg,ck) w2 HMk.out HI2.out HLn.out;replace hYr:=Bx.mk hYr)
    refine (pg_round hYr.out).mono ?_
    rintro e w3 (⟨rfl,hj,hc⟩ | ⟨rfl,hj⟩)
    · rw [←HSk.out] at hj
      have HJ3:=Bx.mk hj
      have HC3:=Bx.mk (HC2.out.trans hc)
      clear hj hc hYr hy cj cb hpgc HI2 HC2
      gi_wp2
      go_roundw
      case rel=>exact ⟨i+1,by have:=Hlt.out;omega,by rw [HK1.out,Hk.out];rfl,HJ3,HC3⟩
      case measure=>have:=Hlt.out;have:=Hk.out;have:=HK1.out;simp [intOf];omega
    · rw [←HSk.out] at hj
      have HJ3:=Bx.mk hj
      clear hj hYr hy cj cb hpgc HI2 HC2
      gi_wp2
      exact ⟨rfl,_,results_none rfl _ _ _,⟨_,rfl⟩,.inr ⟨_,HPRE.out _,HJ3.out⟩⟩
  · obtain rfl:i=n:=by omega
    have hal : ¬a<sl:=by have:=HK.out;have:=HSL.out;have:=HA.out;omega
    have t0:decide ((a:Int)<(sl:Int))=false:=by simp;omega
    have t0b:decide (a<sl)=false:=by simpa using hal
    rw [HALL.out] at HI
    clear hal hk hk1000
    gi_wp2
    go_end0
    exact ⟨⟨_,rfl⟩,.inl HI.out⟩
end
section
open Go.RowKit Go.Sort Go.Maps
theorem chg_stops (fb sb jc bb jp h bank fr:Nat) (s:List Int) (S:Nat→Prop) (hS : ¬S fb ∧ ¬S sb ∧ ¬S jc ∧ ¬S bb) (hh:h≤1000) (hsl:s.length≤h * 116) (hbk:bank≤1) (hfr:fr≤s.length) (n:Nat)
 (w:World) (kf:Bk w fb #[.int .i64 (fr:Int)] 3) (ks:Bk w sb #[.string (strOfNums s)] 9) (kj:Bk w jc #[.pointer (some ⟨jp,0,none⟩)] 25) (kb:Bk w bb #[.int .i64 (bank:Int)] 3) (c1:w.cell? ⟨jp,1,none⟩=some (.int .i64 (h:Int))) :
 SeqStopsK Fence.wide n Tryd.prog 82 #[.pointer (some ⟨fb,0,none⟩),.pointer (some ⟨sb,0,none⟩),.pointer (some ⟨jc,0,none⟩),.pointer (some ⟨bb,0,none⟩)] (fun x:{ x // x∈chgJ h bank s fr }=>cgArgs x.1) (KpJ S jp (.int .i64 (h:Int))) (fun xs=>xs.map (·.1)=chgJ h bank s fr) (fun xs=>xs.map (·.1) <+: chgJ h bank s fr) (chgJ h bank s fr).length w:=by
 intro l J Jx W hW hJ hJx hY h0
 refine callsIn_wide.2 ?_
 refine (chg1_any l fb sb jc bb jp h bank fr s S hS hh hsl hbk hfr (fun p W' => ∃ ys:List { x // x∈chgJ h bank s fr },ys.map (·.1)=p∧J ys W') (fun p W' => ∃ ys:List { x // x∈chgJ h bank s fr },ys.map (·.1)=p∧Jx ys W') ?_ W (kf.later hW) (ks.later hW) (kj.later hW) (kb.later hW) (cell_later hW c1) ?_ ⟨[],rfl,h0⟩).mono ?_
 · rintro s A B ⟨ys,hy,hj⟩ hb
   exact ⟨ys,hy,hJ _ _ _ none hj (grown_of_below hb) (fun r e=>by cases e)⟩
 · rintro m' pre x W1 hx ⟨ys,rfl,hj⟩ hl
   rw [List.length_map] at hl
   refine YieldAt.mono (pg_yield m' (hY ys ⟨x,hx⟩ W1 hj hl)) ?_
   rintro e W' (⟨rfl,h1,h2⟩ | ⟨rfl,h1⟩)
   · exact .inl ⟨rfl,⟨_,by simp,h1⟩,h2⟩
   · exact .inr ⟨rfl,⟨_,by simp,h1⟩⟩
 · rintro e W' ⟨hv,⟨ys,hy,hj⟩ | ⟨q,hq,ys,rfl,hj⟩⟩
   · exact ⟨hv,.inl ⟨ys,hy,hj⟩⟩
   · exact ⟨hv,.inr ⟨ys,hq,hj⟩⟩
end
section
open Go.RowKit Go.Sort Go.Maps
def rowP (l:List (Int × List Int)):List Value:=l.flatMap fun x=>[.int .i64 x.1,.string (strOfNums x.2)]
theorem rowP_snoc (l:List (Int × List Int)) (x:Int) (s:List Int):rowP l++[.int .i64 x,.string (strOfNums s)]=rowP (l++[(x,s)]):=by simp [rowP]
theorem rowP_at : ∀ (l:List (Int × List Int)) (i:Nat) x,l[i]? = some x→(rowP l)[i * 2]? = some (.int .i64 x.1)∧(rowP l)[i * 2+1]? = some (.string (strOfNums x.2))
 | [],i,x,h=>by simp at h
 | y :: l, 0, x, h => by
   simp only [List.getElem?_cons_zero,Option.some.injEq] at h
   subst h
   exact ⟨rfl,rfl⟩
 | y :: l, i + 1, x, h => by
   have ih:=rowP_at l i x (by simpa using h)
   have e:rowP (y::l) = .int .i64 y.1 :: .string (strOfNums y.2)::rowP l:=rfl
   rw [e,show (i+1) * 2=i * 2+1+1 by omega,show i * 2+1+1+1=(i * 2+1)+1+1 by omega]
   simpa using ih
structure BatI (w1:World) (v:Value) (k:Nat) (W:World):Prop where
 bel:Below w1.heap.size w1 W
 ex : ∃ l:List (Int × List Int),l.length=k∧(∀ x∈l,(-9223372036854775808≤x.1∧x.1≤9223372036854775807)∧x.2.length=116∧Byts x.2)∧W.ownsRow w1.heap.size 93 2 v k (rowP l)
theorem BatI.start (w1:World):BatI w1 (.slice none 0 0) 0 w1:=⟨Below.refl _ _,[],rfl,by simp,World.ownsRow_nil _ _ _ _⟩
theorem BatI.later {w1 W W':World} {v:Value} {k:Nat} (h:BatI w1 v k W) (hb:Below W.heap.size W W'):BatI w1 v k W':=by
 obtain ⟨l,h1,h2,h3⟩:=h.ex
 exact ⟨h.bel.trans (hb.mono h.bel.size),l,h1,h2,ownsRow_below h3 hb⟩
theorem BatI.add {w1 W:World} {v:Value} {k:Nat} (h:BatI w1 v k W) {x:Int} {s:List Int} (hx : -9223372036854775808≤x∧x≤9223372036854775807) (hs:s.length=116∧Byts s) :
 ∃ xs,W.ownsRow w1.heap.size 93 2 v k xs∧w1.heap.size≤W.heap.size ∧ ∀ v' W',W'.ownsRow w1.heap.size 93 2 v' (k+1) (xs++[.int .i64 x,.string (strOfNums s)])→W.grownBy W' v.ownBlock→BatI w1 v' (k+1) W':=by
 obtain ⟨l,h1,h2,h3⟩:=h.ex
 refine ⟨rowP l,h3,h.bel.size,fun v' W' g1 g2=>⟨h.bel.grown g2 h.bel.size fun g hg=>?_,l++[(x,s)],by rw [List.length_append,h1];rfl,fun y hy=>?_,by rw [←rowP_snoc];exact g1⟩⟩
 · rcases h3.2 with ⟨rfl,_⟩ | ⟨g',cap,cur,rfl,hb,_⟩
   · cases hg
   · injection hg with hg
     subst hg
     exact hb
 · rcases List.mem_append.1 hy with hy | hy
   · exact h2 y hy
   · rw [List.mem_singleton] at hy;subst hy;exact ⟨hx,hs⟩
theorem BatI.done {w1 W:World} {v:Value} {k:Nat} (h:BatI w1 v k W) : ∃ a c l,v = .slice a l.length c∧SlP W a l∧l.length=k ∧ ∀ x∈l,(-9223372036854775808≤x.1∧x.1≤9223372036854775807)∧x.2.length=116∧Byts x.2:=by
 obtain ⟨l,h1,h2,h3⟩:=h.ex
 obtain ⟨a,c,rfl,_,_,hc⟩:=ownsRow_form h3
 refine ⟨a,c,l,by rw [h1],fun i x hx=>?_,h1,h2⟩
 obtain ⟨k1,k2⟩:=rowP_at l i x hx
 obtain ⟨g,rfl,c1⟩:=hc _ _ k1
 obtain ⟨g',e,c2⟩:=hc _ _ k2
 simp only [Option.some.injEq,Addr.mk.injEq,and_true] at e
 subst e
 exact ⟨g,0,rfl,by rw [Nat.zero_add];exact c1,by rw [Nat.zero_add];exact c2⟩
def WrR (x:Int) (s:List Int) (v:Value) (w:World):Prop := ∃ h,v = .slice (some ⟨h,0,none⟩) 1 1∧Bk w h #[.int .i64 x,.string (strOfNums s)] 93
theorem WrR.later {w w':World} {x:Int} {s:List Int} {v:Value} (h:WrR x s v w) (hb:Below w.heap.size w w'):WrR x s v w':=by
 obtain ⟨k,h1,h2⟩:=h
 exact ⟨k,h1,h2.later hb⟩
theorem WrR.src {w:World} {x:Int} {s:List Int} {g:Nat} (h:Bk w g #[.int .i64 x,.string (strOfNums s)] 93) : ∀ (j:Nat) u,[Value.int .i64 x,.string (strOfNums s)][j]? = some u → ∃ ad:Addr,some (⟨g,0,none⟩:Addr)=some ad∧w.cell? (ad.add j)=some u:=fun j u hj=>by
 match j,hj with
 | 0,hj=>obtain rfl:=Option.some.inj hj;exact ⟨_,rfl,h.cell 0 rfl⟩
 | 1,hj=>obtain rfl:=Option.some.inj hj;exact ⟨_,rfl,h.cell 1 rfl⟩
end
end Go.Proofs.YtajhkncolbgkbaaDoor
