/- Jle, Jap: joined by program, for one claim. -/
import Derived.Test.YtajhkncolbgkbaaDoorM9
import Derived.Test.YtajhkncolbgkbaaDoorM20
import Derived.Test.YtajhkncolbgkbaaDoorM16
set_option linter.unusedVariables false
set_option linter.unusedSimpArgs false
namespace Go.Proofs.YtajhkncolbgkbaaDoor
section
open Go.RowKit Go.Sort Go.Maps
structure LeC (B i:Nat) (u:Value) (a b:World):Prop where
 os:b.os=a.os
 tape:b.tape=a.tape
 output:b.output=a.output
 size:a.heap.size≤b.heap.size
 block : ∀ k,k<a.heap.size→b.heap[k]? = a.heap[k]? ∨ (B≤k ∧ ∃ cur e,a.heap[k]? = some (.cells cur e (0,0))∧i<cur.size∧b.heap[k]? = some (.cells (cur.setIfInBounds i u) e (0,0)))
section
variable {B i:Nat} {u:Value} {a b:World}
theorem LeC.of (h:Below a.heap.size a b):LeC B i u a b:=⟨h.os,h.tape,h.output,h.size,fun k hk=>.inl (h.block k hk)⟩
theorem LeC.below (h:LeC B i u a b) (hB:B≤a.heap.size):Below B a b:=⟨h.os,h.tape,h.output,h.size,fun k hk=>(h.block k (by omega)).elim id fun h=>by omega⟩
theorem LeC.leW (B i:Nat) (u:Value):LeW (LeC B i u):=by
 refine ⟨fun {a b c} h h'=>⟨h'.os.trans h.os,h'.tape.trans h.tape,h'.output.trans h.output,Nat.le_trans h.size h'.size,fun k hk=>?_⟩,fun w n=>⟨rfl,rfl,rfl,Nat.le_refl _,fun _ _=>.inl rfl⟩⟩
 rcases h'.block k (Nat.lt_of_lt_of_le hk h.size) with h1 | ⟨hB,cur,e,h1,h2,h3⟩
 · rw [h1];exact h.block k hk
 · rcases h.block k hk with h4 | ⟨_,cur2,e2,h4,h5,h6⟩
   · exact .inr ⟨hB,cur,e,by rw [←h4];exact h1,h2,h3⟩
   · rw [h6] at h1
     injection h1 with h1
     injection h1 with h1 h1' _
     refine .inr ⟨hB,cur2,e2,h4,h5,?_⟩
     rw [h3,←h1,←h1']
     congr 2
     apply Array.ext_getElem?
     intro j
     simp only [Array.getElem?_setIfInBounds]
     split <;> simp <;> omega
theorem Ownv.leC {e:TypeId} {v:Value} {vs:List Value} (h:Ownv a B e v vs) (hu:i<vs.length→vs[i]? = some u) (hl:LeC B i u a b):Ownv b B e v vs:=by
 refine ⟨h.1,?_⟩
 rcases h.2 with h1 | ⟨g,cap,cur,rfl,hb,hg,hnc,hcm,hcs,ht⟩
 · exact .inl h1
 · rcases hl.block g (Array.getElem?_eq_some_iff.1 hg).1 with h2 | ⟨_,cur',e',h3,h4,h5⟩
   · exact .inr ⟨g,cap,cur,rfl,hb,h2.trans hg,hnc,hcm,hcs,ht⟩
   · rw [hg] at h3
     injection h3 with h3
     injection h3 with h3 h3' _
     subst h3 h3'
     refine .inr ⟨g,cap,_,rfl,hb,h5,hnc,hcm,by rw [Array.size_setIfInBounds];exact hcs,?_⟩
     rw [Array.toList_setIfInBounds,List.take_set,ht]
     apply List.ext_getElem?
     intro j
     rw [List.getElem?_set]
     split
     · rename_i hij
       subst hij
       split
       · rename_i hlt;exact (hu hlt).symm
       · rename_i hlt;rw [List.getElem?_eq_none (by omega)]
     · rfl
theorem append_leC {P:Program} (w:World) (t e:TypeId) (z:Value) (bytes:Nat) (hbz:bytes≤24) (ht:P.underlying t=some (.slice e)) (hi:(P.info? e).map (fun i=>(i.zero,i.size,i.bytes))=some (some z,1,bytes)) (hzs:z.cells.size=1)
 (v:Value) (xs:List Value) (hown:Ownv w B e v xs) (h1:u.oneCell'=true) (h63:xs.length+1≤1000000000) (hB:B≤w.heap.size) (ty:TypeId) (ad:Addr) (c:Nat) (hc:w.cell? ad=some u) :
 ∃ v' w',(Builtin.append_ #[t,t] ty #[v,.slice (some ad) 1 c]).run P w = .ok v' w'∧LeC B xs.length u w w'∧Ownv w' B e v' (xs++[u]):=by
 obtain ⟨i,hi0,hz0,hz1,hz2⟩:=info_parts hi
 have hm1:xs.length+1≤maxLen:=by simp only [maxLen];omega
 have hm2:(xs.length+1) * bytes≤140737488355328:=by have:(xs.length+1) * bytes≤(xs.length+1) * 24:=Nat.mul_le_mul_left _ hbz;omega
 have hc' : ∀ j x,[u][j]? = some x→w.cell? (ad.add j)=some x:=fun j x hx=>by
  match j,hx with
  | 0,hx=>simp at hx;subst hx;simpa [Addr.add] using hc
 have h1' : ∀ y∈[u],y.oneCell'=true:=fun y hy=>by rw [List.mem_singleton] at hy;rw [hy];exact h1
 obtain ⟨v',w',hr,h2,h3,_,h4⟩:=run_append_own_at (P:=P) w B t ty e i z 1 bytes ht hi0 hz0 hz1 hz2 hzs (by omega) v xs.length xs hown ad 1 c [u] rfl hc' h1' hm1 hm2 hB
 have hO:Ownv w' B e v' (xs++[u]):=by unfold Ownv;simpa using h2
 rcases hown.2 with ⟨rfl,hn⟩ | ⟨g,cap,cur,rfl,hbg,hg,hnc,hcm,hcs,htk⟩
 · exact ⟨v',w',hr,.of ⟨h3.os,h3.tape,h3.output,h3.size,fun k hk=>h3.block k hk (by simp [Value.ownBlock])⟩,hO⟩
 · rw [Nat.mul_one] at hcs htk
   by_cases hroom:xs.length+1≤cap
   · have hcl:cur.toList.length=cap:=by rw [Array.length_toList];exact hcs
     have hr2:=run_append_room (P:=P) w t ty e i ht hi0 g xs.length cap cur hg ad 1 c [u] (by rw [hz1];rfl) hc' h1' hroom (by rw [hz1,Nat.mul_one,hcs];exact hroom)
     rw [hz1,Nat.mul_one] at hr2
     rw [hr] at hr2
     injection hr2 with e1 e2
     have hset:=setRow_heap w g cur (cur.toList.take xs.length++[u]++cur.toList.drop (xs.length+[u].length)).toArray e (0,0) hg
     refine ⟨v',w',hr,⟨h3.os,h3.tape,h3.output,h3.size,fun k hk=>?_⟩,hO⟩
     by_cases hkg:k=g
     · subst hkg
       refine .inr ⟨hbg,cur,e,hg,by omega,?_⟩
       rw [e2]
       refine hset.trans ?_
       congr 2
       apply Array.ext'
       rw [Array.toList_setIfInBounds,List.set_eq_take_append_cons_drop,if_pos (by rw [hcl];omega)]
       simp
     · exact .inl (h3.block k hk fun e=>hkg (by injection e))
   · have hr2:=run_append_grow (P:=P) w t ty e i z ht hi0 hz0 ⟨g,0,none⟩ xs.length cap xs (by rw [hz1,Nat.mul_one]) (World.ownsRow.cells (g:=g) hown rfl) ad 1 c [u] (by rw [hz1];rfl) hc' (by omega) (by omega) (growslice_fits (by omega) (by rw [hz2];exact hm2))
     rw [hr] at hr2
     injection hr2 with e1 e2
     exact ⟨v',w',hr,.of ⟨h3.os,h3.tape,h3.output,h3.size,fun k hk=>by rw [e2];exact heap_alloc_old w.drew _ hk⟩,hO⟩
end
end
section
open Go.RowKit Go.Sort Go.Maps
theorem bytesP_byts (n k:Nat):Byts (bytesP n k):=fun x hx=>by
 unfold bytesP at hx
 obtain ⟨i,_,rfl⟩:=List.mem_map.1 hx
 omega
theorem recS_byts {r:List Int} (h:Byts r):Byts (recS r):=fun x hx=>(List.mem_append.1 hx).elim (bytesP_byts _ _ x) (h x)
theorem strm_byts {L:List (List Int)} (h : ∀ r∈L,Byts r):Byts (strmP L):=fun x hx=>by
 obtain ⟨r,hr,hx⟩:=List.mem_flatMap.1 hx
 exact recS_byts (h r hr) x hx
structure JD (F:Nat→Prop) (B:Nat) (W:World) (dp g mb cap pp jp nn h bank:Nat) (bv:Value) (t m:Nat) (im:List (List Int)) (s:List Int) (L:List (List Int)):Prop where
 st:St B W dp g mb cap pp m (qDk im) t bv false
 inv:PInv (nn+17) t im
 js : ∃ ra rc,JS W jp pp h bank s (.slice ra L.length rc) false∧Slv W ra (strs L) ∧ ∀ b,ra=some b → ¬F b.block ∧ ¬JW jp pp dp g mb b.block∧b.block<W.heap.size
 ne:jp ≠ pp ∧ ¬In3 dp g mb jp
 far : ∀ k,JW jp pp dp g mb k → ¬F k
 inj:InvJ nn h bank s L im
 byt : ∀ r∈L,Byts r
section
variable {F:Nat→Prop} {B:Nat} {W W':World} {dp g mb cap pp jp nn h bank:Nat} {bv:Value} {t m:Nat} {im:List (List Int)} {s:List Int} {L:List (List Int)}
theorem slv_chg {S:Nat→Prop} {a:Option Addr} {vs:List Value} (h:Slv W a vs) (hc:Chg S W W') (hn : ∀ b,a=some b → ¬S b.block):Slv W' a vs:=fun i x hx=>by
 obtain ⟨b,off,e,hcell⟩:=h i x hx
 refine ⟨b,off,e,?_⟩
 rw [World.cell?_of_block (hc.block _ (World.block_lt_of_cell? W _ hcell) (show ¬S b from hn _ e))]
 exact hcell
theorem JD.chg (hJ:JD F B W dp g mb cap pp jp nn h bank bv t m im s L) (hc:Chg F W W'):JD F B W' dp g mb cap pp jp nn h bank bv t m im s L:=by
 obtain ⟨ra,rc,h1,h2,h3⟩:=hJ.js
 exact ⟨⟨hJ.st.dk.chg hc fun k hk=>hJ.far k (.inr (.inr hk)),Bk.chg hJ.st.ps hc (hJ.far _ (.inr (.inl rfl))),hJ.st.ne,hJ.st.lo⟩,hJ.inv,⟨ra,rc,Bk.chg h1 hc (hJ.far _ (.inl rfl)),slv_chg h2 hc fun b hb=>(h3 b hb).1,fun b hb=>⟨(h3 b hb).1,(h3 b hb).2.1,Nat.lt_of_lt_of_le (h3 b hb).2.2 hc.size⟩⟩,hJ.ne,hJ.far,hJ.inj,hJ.byt⟩
theorem JD.later (hJ:JD F B W dp g mb cap pp jp nn h bank bv t m im s L) (hb:Below W.heap.size W W'):JD F B W' dp g mb cap pp jp nn h bank bv t m im s L:=hJ.chg (.ofBelow hb F)
theorem JD.small (hJ:JD F B W dp g mb cap pp jp nn h bank bv t m im s L):s.length≤11600∧L.length≤5800∧h≤99∧Byts s∧s=strmP L:=by
 have h1:=hJ.inj.half
 have h2:=hJ.inj.fits
 have h3:=strm_cnt L
 rw [←hJ.inj.strm] at h3
 refine ⟨by omega,by omega,by omega,?_,hJ.inj.strm⟩
 rw [hJ.inj.strm]
 exact strm_byts hJ.byt
def apE (h:Nat) (L:List (List Int)) (r:List Int):Int:=if 8000<r.length then 2 else if h * 116<(strmP (L++[r])).length then 21 else 0
def ApPost (F:Nat→Prop) (B dp g mb cap pp jp nn h:Nat) (bv:Value) (t m:Nat) (L L':List (List Int)) (er:Int) (v:Value) (W:World) (e:Ending) (w':World):Prop :=
 (er ≠ 0∧Below W.heap.size W w')∨(er=0 ∧ ∃ t' m' im' s' bank',t'≤t+100∧m'≤m+4000∧JD F B w' dp g mb cap pp jp nn h bank' bv t' m' im' s' L'∧Chg (JW jp pp dp g mb) W w')
end
def StR (s:List Int) (v:Value) (w:World):Prop := ∃ h,v = .slice (some ⟨h,0,none⟩) 1 1∧Bk w h #[.string (strOfNums s)] 9
theorem StR.later {s:List Int} {v:Value} {w w':World} (h:StR s v w) (hb:Below w.heap.size w w'):StR s v w':=by
 obtain ⟨k,h1,h2⟩:=h
 exact ⟨k,h1,h2.later hb⟩
theorem StR.leC {B i:Nat} {s:List Int} {v:Value} {w w':World} (h:StR s v w) (hl:LeC B i (.string (strOfNums s)) w w'):StR s v w':=by
 obtain ⟨k,h1,h2⟩:=h
 refine ⟨k,h1,?_⟩
 rcases hl.block k h2.lt with h3 | ⟨_,cur,e,h4,h5,h6⟩
 · exact h3.trans h2
 · rw [show w.heap[k]? = _ from h2] at h4
   injection h4 with h4
   injection h4 with h4 h4' _
   subst h4 h4'
   obtain rfl:i=0:=by simpa using h5
   exact h6
theorem st_slv {s:List Int} {w:World} {k:Nat} (h:Bk w k #[.string (strOfNums s)] 9):Slv w (some ⟨k,0,none⟩) (strs [s]):=fun i x hx=>by
 match i,hx with
 | 0, hx =>
   have e:(strs [s])[0]? = some (.string (strOfNums s)):=strs_at rfl
   rw [e] at hx
   rw [←Option.some.inj hx]
   exact ⟨k,0,rfl,h.cell 0 rfl⟩
 | i+1,hx=>rw [List.getElem?_eq_none (by rw [strs_length];simp)] at hx;cases hx
theorem strm_one (r:List Int):strmP [r]=recS r:=by simp [strmP]
theorem jchk_one (h:Nat) (L:List (List Int)) (r:List Int):jchkV false h (strmP (L++[r])) [r]=apE h L r:=by
 unfold jchkV apE longR
 simp
def MoR (B:Nat) (xs:List Value) (v:Value) (w:World):Prop:=Ownv w B 9 v xs
section
variable {F:Nat→Prop} {B:Nat} {W:World} {dp g mb cap pp jp nn h bank:Nat} {bv:Value} {t m:Nat} {im:List (List Int)} {s:List Int} {L:List (List Int)}
set_option maxRecDepth 100000 in
set_option maxHeartbeats 4000000 in
theorem jappend_any (hJ:JD F B W dp g mb cap pp jp nn h bank bv t m im s L) (hF : ∀ k,F k→k<W.heap.size) (hm:m+5000<1000000) (ht:t+200<1073741824) (r:List Int) (hrb:Byts r) (hr:r.length≤60000) :
 Calls Tryd.prog 9 #[.pointer (some ⟨jp,0,none⟩),.string (strOfNums r)] W fun e w'=>e = .returned (.tuple #[.int .i64 (if apE h L r=0 then (L.length:Int) else 0),.int .i64 (apE h L r)])∧ApPost F B dp g mb cap pp jp nn h bv t m L (L++[r]) (apE h L r) (.int .i64 0) W e w':=by
 obtain ⟨hsl,hLl,hh99,hsb,hsm⟩:=hJ.small
 obtain ⟨ra,rc,hj,hs,hro⟩:=hJ.js
 have HD:=Bx.mk hJ
 have HJS:=Bx.mk hj
 have HSL:=Bx.mk hs
 have HRO:=Bx.mk hro
 have HF:=Bx.mk hF
 have HJWl:Bx (∀ k,JW jp pp dp g mb k→k<W.heap.size):=⟨fun k hk=>by
  have h3:=hJ.st.dk.lt
  rcases hk with rfl | rfl | rfl | rfl | rfl
  · exact Bk.lt hj
  · exact Bk.lt hJ.st.ps
  · exact h3.1
  · exact h3.2.1
  · exact h3.2.2⟩
 have HMT:=Bx.mk (And.intro hm ht)
 obtain ⟨er,her⟩ : ∃ er,er=apE h L r:=⟨_,rfl⟩
 rw [←her]
 have HER:=Bx.mk her
 obtain ⟨s1,hs1⟩ : ∃ s1,s1=strmP (L++[r]):=⟨_,rfl⟩
 have hs1e:s1=s++recS r:=by rw [hs1,strmP_snoc,←hsm]
 have HS1:=Bx.mk (And.intro hs1 hs1e)
 have ha:strOfNums s++strOfNums (recS r)=strOfNums s1:=by rw [str_append,hs1e]
 obtain ⟨sl,hsle⟩ : ∃ sl,sl=s.length:=⟨_,rfl⟩
 obtain ⟨rl,hrle⟩ : ∃ rl,rl=(recS r).length:=⟨_,rfl⟩
 have z0:(strOfNums s).size=sl:=by rw [strOfNums_size,hsle]
 have z1:(strOfNums (recS r)).size=rl:=by rw [strOfNums_size,hrle]
 have hrl:rl≤60002:=by rw [hrle,recS_len];omega
 have hs1l:s1.length≤100000:=by rw [hs1e,List.length_append];omega
 have hsl2:sl≤11600:=by omega
 have hsum : ¬9223372036854775807<sl+rl:=by omega
 have HB1:=Bx.mk (show Byts s1 by rw [hs1];exact strm_byts fun x hx=>(List.mem_append.1 hx).elim (hJ.byt x) fun h=>by rw [List.mem_singleton] at h;rw [h];exact hrb)
 have HSLE:=Bx.mk hsle
 have HS1L:=Bx.mk hs1l
 have HBYT:=Bx.mk (fun x (hx:x∈L++[r])=>(show Byts x from (List.mem_append.1 hx).elim (hJ.byt x) fun h=>by rw [List.mem_singleton] at h;rw [h];exact hrb))
 have hstr:=Bx.mk fun (wx:World) (k:Nat) (hk:Bk wx k #[.string (strOfNums r)] 9)=>(show Calls Tryd.prog 32 #[.slice (some ⟨k,0,none⟩) 1 1] wx fun e w'=>e = .returned (.string (strOfNums (recS r)))∧Below wx.heap.size wx w' from by
  have h0:=jstream_any (some ⟨k,0,none⟩) 1 [r] wx (st_slv hk) (by simp) (fun x hx=>by rw [List.mem_singleton] at hx;rw [hx];exact hr) (by rw [strm_one];omega)
  rw [strm_one] at h0
  exact h0)
 have HRL:=Bx.mk hr
 have HLL:=Bx.mk (And.intro hLl hh99)
 obtain ⟨n,hn⟩ : ∃ n,n=L.length:=⟨_,rfl⟩
 have HN:=Bx.mk hn
 rw [←hn] at HJS ⊢
 obtain ⟨rn,hrn⟩ : ∃ rn:Int,rn=if er=0 then (n:Int) else 0:=⟨_,rfl⟩
 rw [←hrn]
 have HRN:=Bx.mk hrn
 clear hrn hJ hF hm ht hsl hLl hsb hsm hj hs hro her hs1 hs1e hrb hr hsle hrle hs1l hn hh99
 go_enter Tryd.func9,Tryd.ntmps9
 go_upto_region 1 with fail
 refine wp_region_relT 8 (fun ii v w'=>match ii with
  | 0=>v = .pointer (some ⟨jp,0,none⟩)
  | 1=>v = .pointer (some ⟨jp,0,none⟩)
  | 2=>v = .pointer (some ⟨jp,3,none⟩)
  | 3=>v = .string (strOfNums s)
  | 4=>v = .string (strOfNums r)
  | 5=>StR r v w'
  | 6=>v = .string (strOfNums (recS r))
  | _=>v = .string (strOfNums s1)) (by kernel_rfl) (by kernel_rfl) 55 (by kernel_rfl) (by rfl) ?_ ?_ ?_
 · intro ii hi v u1 u2 hb h
   match ii,hi with
   | 0,_=>exact h
   | 1,_=>exact h
   | 2,_=>exact h
   | 3,_=>exact h
   | 4,_=>exact h
   | 5,_=>exact h.later hb
   | 6,_=>exact h
   | 7,_=>exact h
 · intro ii o hi ho ρ wx hb hc1 hc2 hc3 hk
   match ii,hi with
   | 0, _ =>
     obtain rfl:=Option.some.inj ho
     have g0:ρ (.tmp 0) = .pointer (some ⟨jp,0,none⟩):=hk 0 (by simp [Op.operands,Call.operands])
     clear hk hb HD HJS HSL HRO HF hstr
     go_simp
     exact Below.refl _ _
   | 1, _ =>
     obtain rfl:=Option.some.inj ho
     have g0:ρ (.tmp 10) = .pointer (some ⟨jp,0,none⟩):=hk 10 (by simp [Op.operands,Call.operands])
     clear hk hb HD HJS HSL HRO HF hstr
     go_simp
     exact Below.refl _ _
   | 2, _ =>
     obtain rfl:=Option.some.inj ho
     have g0:ρ (.tmp 11) = .pointer (some ⟨jp,0,none⟩):=hk 11 (by simp [Op.operands,Call.operands])
     clear hk hb HD HJS HSL HRO HF hstr
     go_simp
     exact Below.refl _ _
   | 3, _ =>
     obtain rfl:=Option.some.inj ho
     have g0:ρ (.tmp 12) = .pointer (some ⟨jp,3,none⟩):=hk 12 (by simp [Op.operands,Call.operands])
     have k1:=HJS.out.later hb
     have zz:=Bk.cell k1 3 rfl
     clear hk hb HD HJS HSL HRO HF hstr
     go_simp
     exact Below.refl _ _
   | 4, _ =>
     obtain rfl:=Option.some.inj ho
     have g0:ρ (.tmp 1) = .string (strOfNums r):=hk 1 (by simp [Op.operands,Call.operands])
     clear hk hb HD HJS HSL HRO HF hstr
     go_simp
     exact Below.refl _ _
   | 5, _ =>
     obtain rfl:=Option.some.inj ho
     have g0:ρ (.tmp 14) = .string (strOfNums r):=hk 14 (by simp [Op.operands,Call.operands])
     have Hn2:Bx (StR r (.slice (some ⟨wx.heap.size,0,none⟩) 1 1) (wx.alloc (.cells #[.string (strOfNums r)] 9))):=⟨_,rfl,Bk.new _ _ _⟩
     clear hk hb HD HJS HSL HRO HF hstr
     go_simp
     exact ⟨(Below.refl _ _).alloc (Nat.le_refl _) _,Hn2.out⟩
   | 6, _ =>
     obtain rfl:=Option.some.inj ho
     have gp:StR r (ρ (.tmp 15)) wx:=hk 15 (by simp [Op.operands,Call.operands])
     obtain ⟨hh,g1,hc⟩:=gp
     have h4:=hstr.out wx hh hc
     have H4:=Bx.mk h4
     clear h4 hc
     clear hk hb HD HJS HSL HRO HF hstr
     go_simp
     all_goals exact H4.out
   | 7, _ =>
     obtain rfl:=Option.some.inj ho
     have g0:ρ (.tmp 13) = .string (strOfNums s):=hk 13 (by simp [Op.operands,Call.operands])
     have g1:ρ (.tmp 16) = .string (strOfNums (recS r)):=hk 16 (by simp [Op.operands,Call.operands])
     clear hk hb HD HJS HSL HRO HF hstr
     go_simp
     exact Below.refl _ _
 · intro vs w1 hlen hb hR
   match vs,hlen with
   | [v0, v1, v2, v3, v4, v5, v6, v7], _ =>
     have r0:v0 = .pointer (some ⟨jp,0,none⟩):=hR 0 v0 rfl
     have r1:v1 = .pointer (some ⟨jp,0,none⟩):=hR 1 v1 rfl
     have r2:v2 = .pointer (some ⟨jp,3,none⟩):=hR 2 v2 rfl
     have r3:v3 = .string (strOfNums s):=hR 3 v3 rfl
     have r4:v4 = .string (strOfNums r):=hR 4 v4 rfl
     have r6:v6 = .string (strOfNums (recS r)):=hR 6 v6 rfl
     have r7:v7 = .string (strOfNums s1):=hR 7 v7 rfl
     subst r0 r1 r2 r3 r4 r6 r7
     clear hR
     have HD1:=Bx.mk (HD.out.later hb)
     have HJ1:=Bx.mk (HJS.out.later hb)
     have HSL1:=Bx.mk (Slv.below HSL.out hb)
     have HBB:=Bx.mk hb
     clear ha z0 z1 hb
     simp only [puts,List.take_succ_cons,List.take_zero,List.drop_succ_cons,List.drop_zero,List.map_cons,List.map_nil,List.zip_cons_cons,List.zip_nil_right,List.foldl_cons,List.foldl_nil]
     have hck:=Bx.mk (jcheck_any (w1.alloc (.cells #[.string (strOfNums r)] 9)) jp pp h bank s (.slice ra n rc) false (HJ1.out.later ((Below.refl _ _).alloc (Nat.le_refl _) _)) (by have:=HLL.out;omega) s1 (some ⟨w1.heap.size,0,none⟩) 1 [r] (st_slv (Bk.new _ _ _)) (by simp) (by have:=HS1L.out;omega))
     rw [HS1.out.1,jchk_one,←HER.out,←HS1.out.1] at hck
     go_upto_region 3 with (go_at_call 33;refine hck.out.mono ?_;rintro _ _ ⟨rfl,rfl⟩)
     generalize hW2:World.alloc w1 _=w2
     have hb2:=bl1 hW2
     replace HD1:=Bx.mk (HD1.out.later hb2)
     replace HJ1:=Bx.mk (HJ1.out.later hb2)
     replace HSL1:=Bx.mk (Slv.below HSL1.out hb2)
     replace HBB:=Bx.mk (HBB.out.trans (hb2.mono HBB.out.size))
     clear hW2 hb2 hck hstr
     by_cases h0:er=0
     · have n1:(er != 0)=false:=by simp [h0]
       have n2:(er == 0)=true:=by simp [h0]
       have H0:=Bx.mk h0
       clear h0
       have c4:w2.cell? ⟨jp,4,none⟩=some (.slice ra n rc):=Bk.cell HJ1.out 4 rfl
       go_upto_region 6 with fail
       clear c4
       have hcl:=Bx.mk fun (wx:World) (hw:LeC w2.heap.size n (.string (strOfNums r)) w2 wx)=>(show Calls Tryd.prog 35 #[.slice ra n rc] wx fun e w' => ∃ v,e = .returned v∧LeC w2.heap.size n (.string (strOfNums r)) wx w'∧MoR w2.heap.size (strs L) v w' from by
        have hb:=hw.below (Nat.le_refl _)
        have h0:=jclone_any ra rc L wx (Slv.below HSL1.out hb) (by have:=HLL.out;omega)
        rw [←HN.out] at h0
        refine h0.mono fun e w' h=>?_
        obtain ⟨v,h1,h2,h3⟩:=h
        exact ⟨v,h1,.of h2,h3.base hw.size⟩)
       have hjl:=Bx.mk fun (wx:World) (hw:LeC w2.heap.size n (.string (strOfNums r)) w2 wx)=>(show JS wx jp pp h bank s (.slice ra n rc) false from HJ1.out.later (hw.below (Nat.le_refl _)))
       have hsn:(strs L).length=n:=by rw [strs_length,←HN.out]
       have HSN:=Bx.mk hsn
       have hszs:(strOfNums s).size=sl:=by rw [strOfNums_size,HSLE.out]
       clear hsn
       refine wp_region_relE (LeC.leW w2.heap.size n (.string (strOfNums r))) 19 1 (fun ii v w'=>match ii with
        | 0=>v = .pointer (some ⟨jp,0,none⟩)
        | 1=>v = .pointer (some ⟨jp,0,none⟩)
        | 2=>v = .pointer (some ⟨jp,0,none⟩)
        | 3=>v = .pointer (some ⟨jp,2,none⟩)
        | 4=>v = .int .i64 (bank:Int)
        | 5=>v = .string (strOfNums s1)
        | 6=>v = .pointer (some ⟨jp,0,none⟩)
        | 7=>v = .pointer (some ⟨jp,0,none⟩)
        | 8=>v = .pointer (some ⟨jp,4,none⟩)
        | 9=>v = .slice ra n rc
        | 10=>MoR w2.heap.size (strs L) v w'
        | 11=>v = .string (strOfNums r)
        | 12=>StR r v w'
        | 13=>MoR w2.heap.size (strs L++[.string (strOfNums r)]) v w'
        | 14=>v = .pointer (some ⟨jp,0,none⟩)
        | 15=>v = .pointer (some ⟨jp,0,none⟩)
        | 16=>v = .pointer (some ⟨jp,3,none⟩)
        | 17=>v = .string (strOfNums s)
        | _=>v = .int .i64 (sl:Int)) (by kernel_rfl) (by kernel_rfl) 55 (by kernel_rfl) (by rfl) ?_ ?_ ?_
       · intro ii hi v u1 u2 hb h
         match ii,hi with
         | 0,_=>exact h
         | 1,_=>exact h
         | 2,_=>exact h
         | 3,_=>exact h
         | 4,_=>exact h
         | 5,_=>exact h
         | 6,_=>exact h
         | 7,_=>exact h
         | 8,_=>exact h
         | 9,_=>exact h
         | 10,_=>exact Ownv.leC h (fun hi=>absurd hi (by rw [HSN.out];omega)) hb
         | 11,_=>exact h
         | 12,_=>exact h.leC hb
         | 13,_=>exact Ownv.leC h (fun _=>by rw [List.getElem?_append_right (by rw [HSN.out];omega),HSN.out];simp) hb
         | 14,_=>exact h
         | 15,_=>exact h
         | 16,_=>exact h
         | 17,_=>exact h
         | 18,_=>exact h
         | j+19,hi=>exact absurd hi (by omega)
       · intro ii o hi ho ρ wx hb hc1 hc2 hc3 hk
         match ii,hi with
         | 0, _ =>
           obtain rfl:=Option.some.inj ho
           have g0:ρ (.tmp 0) = .pointer (some ⟨jp,0,none⟩):=hk 0 (by simp [Op.operands,Call.operands])
           clear hk hb HD1 HJ1 HSL1 HRO HF hcl hjl HD HJS HSL
           go_simp
           exact LeC.of (Below.refl _ _)
         | 1, _ =>
           obtain rfl:=Option.some.inj ho
           have g0:ρ (.tmp 0) = .pointer (some ⟨jp,0,none⟩):=hk 0 (by simp [Op.operands,Call.operands])
           clear hk hb HD1 HJ1 HSL1 HRO HF hcl hjl HD HJS HSL
           go_simp
           exact LeC.of (Below.refl _ _)
         | 2, _ =>
           obtain rfl:=Option.some.inj ho
           have g0:ρ (.tmp 32) = .pointer (some ⟨jp,0,none⟩):=hk 32 (by simp [Op.operands,Call.operands])
           clear hk hb HD1 HJ1 HSL1 HRO HF hcl hjl HD HJS HSL
           go_simp
           exact LeC.of (Below.refl _ _)
         | 3, _ =>
           obtain rfl:=Option.some.inj ho
           have g0:ρ (.tmp 33) = .pointer (some ⟨jp,0,none⟩):=hk 33 (by simp [Op.operands,Call.operands])
           clear hk hb HD1 HJ1 HSL1 HRO HF hcl hjl HD HJS HSL
           go_simp
           exact LeC.of (Below.refl _ _)
         | 4, _ =>
           obtain rfl:=Option.some.inj ho
           have g0:ρ (.tmp 34) = .pointer (some ⟨jp,2,none⟩):=hk 34 (by simp [Op.operands,Call.operands])
           have zz:=Bk.cell (hjl.out wx hb) 2 rfl
           clear hk hb HD1 HJ1 HSL1 HRO HF hcl hjl HD HJS HSL
           go_simp
           exact LeC.of (Below.refl _ _)
         | 5, _ =>
           obtain rfl:=Option.some.inj ho
           have g0:ρ (.tmp 6) = .string (strOfNums s1):=hk 6 (by simp [Op.operands,Call.operands])
           clear hk hb HD1 HJ1 HSL1 HRO HF hcl hjl HD HJS HSL
           go_simp
           exact LeC.of (Below.refl _ _)
         | 6, _ =>
           obtain rfl:=Option.some.inj ho
           have g0:ρ (.tmp 0) = .pointer (some ⟨jp,0,none⟩):=hk 0 (by simp [Op.operands,Call.operands])
           clear hk hb HD1 HJ1 HSL1 HRO HF hcl hjl HD HJS HSL
           go_simp
           exact LeC.of (Below.refl _ _)
         | 7, _ =>
           obtain rfl:=Option.some.inj ho
           have g0:ρ (.tmp 37) = .pointer (some ⟨jp,0,none⟩):=hk 37 (by simp [Op.operands,Call.operands])
           clear hk hb HD1 HJ1 HSL1 HRO HF hcl hjl HD HJS HSL
           go_simp
           exact LeC.of (Below.refl _ _)
         | 8, _ =>
           obtain rfl:=Option.some.inj ho
           have g0:ρ (.tmp 38) = .pointer (some ⟨jp,0,none⟩):=hk 38 (by simp [Op.operands,Call.operands])
           clear hk hb HD1 HJ1 HSL1 HRO HF hcl hjl HD HJS HSL
           go_simp
           exact LeC.of (Below.refl _ _)
         | 9, _ =>
           obtain rfl:=Option.some.inj ho
           have g0:ρ (.tmp 39) = .pointer (some ⟨jp,4,none⟩):=hk 39 (by simp [Op.operands,Call.operands])
           have zz:=Bk.cell (hjl.out wx hb) 4 rfl
           clear hk hb HD1 HJ1 HSL1 HRO HF hcl hjl HD HJS HSL
           go_simp
           exact LeC.of (Below.refl _ _)
         | 10, _ =>
           obtain rfl:=Option.some.inj ho
           have g0:ρ (.tmp 40) = .slice ra n rc:=hk 40 (by simp [Op.operands,Call.operands])
           have h4:=hcl.out wx hb
           have H4:=Bx.mk h4
           clear h4
           clear hk hb HD1 HJ1 HSL1 HRO HF hcl hjl HD HJS HSL
           go_simp
           all_goals exact H4.out
         | 11, _ =>
           obtain rfl:=Option.some.inj ho
           have g0:ρ (.tmp 1) = .string (strOfNums r):=hk 1 (by simp [Op.operands,Call.operands])
           clear hk hb HD1 HJ1 HSL1 HRO HF hcl hjl HD HJS HSL
           go_simp
           exact LeC.of (Below.refl _ _)
         | 12, _ =>
           obtain rfl:=Option.some.inj ho
           have g0:ρ (.tmp 42) = .string (strOfNums r):=hk 42 (by simp [Op.operands,Call.operands])
           have Hn2:Bx (StR r (.slice (some ⟨wx.heap.size,0,none⟩) 1 1) (wx.alloc (.cells #[.string (strOfNums r)] 9))):=⟨_,rfl,Bk.new _ _ _⟩
           clear hk hb HD1 HJ1 HSL1 HRO HF hcl hjl HD HJS HSL
           go_simp
           exact ⟨LeC.of ((Below.refl _ _).alloc (Nat.le_refl _) _),Hn2.out⟩
         | 13, _ =>
           obtain rfl:=Option.some.inj ho
           have gp:StR r (ρ (.tmp 43)) wx:=hk 43 (by simp [Op.operands,Call.operands])
           have gq:MoR w2.heap.size (strs L) (ρ (.tmp 41)) wx:=hk 41 (by simp [Op.operands,Call.operands])
           obtain ⟨hh,g1,hc⟩:=gp
           obtain ⟨v2,w2',hr,hl,hR⟩:=append_leC (P:=Tryd.prog) wx 30 9 (.string ByteArray.empty) 16 (by omega) Tryd.underlying30 (by kernel_rfl) rfl (ρ (.tmp 41)) (strs L) gq (show (Value.string (strOfNums r)).oneCell'=true from rfl) (by rw [HSN.out];have:=HLL.out;have:=HN.out;omega) hb.size 30 ⟨hh,0,none⟩ 1 (hc.cell 0 rfl)
           rw [HSN.out] at hl
           simp only [execOp,resolve,invoke,builtin,Sem.run_bind,Sem.run_pure,Result.andThen_ok,List.map_toArray,List.map_cons,List.map_nil,g1,hr]
           exact ⟨hl,hR⟩
         | 14, _ =>
           obtain rfl:=Option.some.inj ho
           have g0:ρ (.tmp 0) = .pointer (some ⟨jp,0,none⟩):=hk 0 (by simp [Op.operands,Call.operands])
           clear hk hb HD1 HJ1 HSL1 HRO HF hcl hjl HD HJS HSL
           go_simp
           exact LeC.of (Below.refl _ _)
         | 15, _ =>
           obtain rfl:=Option.some.inj ho
           have g0:ρ (.tmp 45) = .pointer (some ⟨jp,0,none⟩):=hk 45 (by simp [Op.operands,Call.operands])
           clear hk hb HD1 HJ1 HSL1 HRO HF hcl hjl HD HJS HSL
           go_simp
           exact LeC.of (Below.refl _ _)
         | 16, _ =>
           obtain rfl:=Option.some.inj ho
           have g0:ρ (.tmp 46) = .pointer (some ⟨jp,0,none⟩):=hk 46 (by simp [Op.operands,Call.operands])
           clear hk hb HD1 HJ1 HSL1 HRO HF hcl hjl HD HJS HSL
           go_simp
           exact LeC.of (Below.refl _ _)
         | 17, _ =>
           obtain rfl:=Option.some.inj ho
           have g0:ρ (.tmp 47) = .pointer (some ⟨jp,3,none⟩):=hk 47 (by simp [Op.operands,Call.operands])
           have zz:=Bk.cell (hjl.out wx hb) 3 rfl
           clear hk hb HD1 HJ1 HSL1 HRO HF hcl hjl HD HJS HSL
           go_simp
           exact LeC.of (Below.refl _ _)
         | 18, _ =>
           obtain rfl:=Option.some.inj ho
           have g0:ρ (.tmp 48) = .string (strOfNums s):=hk 48 (by simp [Op.operands,Call.operands])
           clear hk hb HD1 HJ1 HSL1 HRO HF hcl hjl HD HJS HSL
           go_simp
           exact LeC.of (Below.refl _ _)
         | j+19,hi=>exact absurd hi (by omega)
       · intro vs w3 hlen hb hR
         match vs,hlen with
         | [v0, v1, v2, v3, v4, v5, v6, v7, v8, v9, v10, v11, v12, v13, v14, v15, v16, v17, v18], _ =>
           have r0:v0 = .pointer (some ⟨jp,0,none⟩):=hR 0 v0 rfl
           have r1:v1 = .pointer (some ⟨jp,0,none⟩):=hR 1 v1 rfl
           have r2:v2 = .pointer (some ⟨jp,0,none⟩):=hR 2 v2 rfl
           have r3:v3 = .pointer (some ⟨jp,2,none⟩):=hR 3 v3 rfl
           have r4:v4 = .int .i64 (bank:Int):=hR 4 v4 rfl
           have r5:v5 = .string (strOfNums s1):=hR 5 v5 rfl
           have r6:v6 = .pointer (some ⟨jp,0,none⟩):=hR 6 v6 rfl
           have r7:v7 = .pointer (some ⟨jp,0,none⟩):=hR 7 v7 rfl
           have r8:v8 = .pointer (some ⟨jp,4,none⟩):=hR 8 v8 rfl
           have r9:v9 = .slice ra n rc:=hR 9 v9 rfl
           have r11:v11 = .string (strOfNums r):=hR 11 v11 rfl
           have r14:v14 = .pointer (some ⟨jp,0,none⟩):=hR 14 v14 rfl
           have r15:v15 = .pointer (some ⟨jp,0,none⟩):=hR 15 v15 rfl
           have r16:v16 = .pointer (some ⟨jp,3,none⟩):=hR 16 v16 rfl
           have r17:v17 = .string (strOfNums s):=hR 17 v17 rfl
           have r18:v18 = .int .i64 (sl:Int):=hR 18 v18 rfl
           have r13:MoR w2.heap.size (strs L++[.string (strOfNums r)]) v13 w3:=hR 13 v13 rfl
           clear hR
           subst r0 r1 r2 r3 r4 r5 r6 r7 r8 r9 r11 r14 r15 r16 r17 r18
           obtain ⟨ra3,rc3,rfl,hs3⟩:=Ownv.form r13
           have hlen3:(strs L++[Value.string (strOfNums r)]).length=n+1:=by rw [List.length_append,HSN.out];rfl
           rw [hlen3] at r13 ⊢
           have hb3:Below w2.heap.size w2 w3:=hb.below (Nat.le_refl _)
           have HD3:=Bx.mk (HD1.out.later hb3)
           have HJ3:=HJ1.out.later hb3
           have HF3:Bx (∀ k,F k→k<w3.heap.size):=⟨fun k hk=>Nat.lt_of_lt_of_le (HF.out k hk) (Nat.le_trans HBB.out.size hb3.size)⟩
           have HS3:=Bx.mk hs3
           have HOWN3:=Bx.mk r13
           have HB3:Bx (Below W.heap.size W w3∧W.heap.size≤w2.heap.size):=⟨HBB.out.trans (hb3.mono HBB.out.size),HBB.out.size⟩
           have hfit:s1.length≤h * 116∧r.length≤8000:=by
            have h1:=HER.out
            rw [H0.out] at h1
            unfold apE at h1
            rw [←HS1.out.1] at h1
            by_cases hx:8000<r.length
            · rw [if_pos hx] at h1;cases h1
            · rw [if_neg hx] at h1
              by_cases hy:h * 116<s1.length
              · rw [if_pos hy] at h1;cases h1
              · omega
           have HFIT:=Bx.mk hfit
           have hwr:=Bx.mk (jwrite_any w3 jp pp h bank bank sl nn s s1 (.slice ra n rc) B dp g mb cap m t bv im HJ3 HD3.out.st HD3.out.inv HD3.out.ne ⟨HD3.out.inj.half.1,HD3.out.inj.half.2⟩ HD3.out.inj.bank1 HB1.out hfit.1 (by rw [HS1.out.2,List.length_append,←HSLE.out];omega) HMT.out.1 HMT.out.2 ra3 (n+1) rc3 (by have:=HLL.out;have:=HN.out;omega))
           clear hfit HJ3 r13 hs3 hb hb3 hlen3 hcl hjl HD1 HJ1 HSL1 hszs HJS HSL HD
           simp only [puts,List.take_succ_cons,List.take_zero,List.drop_succ_cons,List.drop_zero,List.map_cons,List.map_nil,List.zip_cons_cons,List.zip_nil_right,List.foldl_cons,List.foldl_nil]
           go_upto_region 7 with (go_at_call 34;refine hwr.out.mono ?_;rintro _ w4 ⟨rfl,hpost⟩)
           have HPOST:=Bx.mk hpost
           clear hpost hwr
           go_wp2_with fail
           go_ret2
           obtain ⟨done,t',m',im',hD,hin,hdl,hm',hst',hj',hc'⟩:=HPOST.out
           refine ⟨by rw [HRN.out,if_pos H0.out,H0.out];rfl,.inr ⟨H0.out,t',m',im',s1,bank,?_,?_,⟨hst',hD.inv,⟨ra3,rc3,?_,?_,?_⟩,HD3.out.ne,HD3.out.far,?_,HBYT.out⟩,?_⟩⟩
           · have:=hD.few;have:=HLL.out;omega
           · have:=HLL.out;omega
           · rw [show (L++[r]).length=n+1 by rw [List.length_append,HN.out];rfl]
             exact hj'
           · have h3:=HS3.out
             have h3:Slv w3 ra3 (strs (L++[r])):=by rw [show strs (L++[r])=strs L++[.string (strOfNums r)] from strs_snoc L r];exact h3
             refine slv_chg h3 hc' fun b hb hS=>?_
             obtain ⟨q1,q2,_⟩:=own_at HOWN3.out b.block (by rw [hb];rfl)
             have:=HJWl.out _ hS
             have:=HB3.out.2
             omega
           · intro b hb
             obtain ⟨q1,q2,_⟩:=own_at HOWN3.out b.block (by rw [hb];rfl)
             have h2:=HB3.out.2
             refine ⟨fun hS=>?_,fun hS=>?_,Nat.lt_of_lt_of_le q2 hc'.size⟩
             · have:=HF.out _ hS;omega
             · have:=HJWl.out _ hS;omega
           · refine InvJ.wrote HD3.out.inj hD (fun x=>?_) HS1.out.1 (fun x hx=>?_) HFIT.out.1 HD3.out.inj.bank1 (.inr ⟨rfl,(show sl≤s.length by rw [HSLE.out];exact Nat.le_refl _),fun j hj=>?_⟩)
             · rw [show (L++[r]).length=n+1 by rw [List.length_append,HN.out];rfl]
               exact hin x
             · rcases List.mem_append.1 hx with hx | hx
               · exact HD3.out.inj.short x hx
               · rw [List.mem_singleton] at hx;rw [hx];exact HFIT.out.2
             · rw [HS1.out.2,List.getElem?_append_left (by rw [←HSLE.out];exact hj)]
           · exact (Chg.ofBelow HB3.out.1 _).trans hc' fun _ _ h=>h
     · have n1:(er != 0)=true:=by simpa using h0
       have n2:(er == 0)=false:=by simpa using h0
       have H0:=Bx.mk h0
       clear h0
       go_wp2_with fail
       go_ret2
       exact ⟨by rw [HRN.out,if_neg H0.out];rfl,.inl ⟨H0.out,HBB.out⟩⟩
end
end
end Go.Proofs.YtajhkncolbgkbaaDoor
