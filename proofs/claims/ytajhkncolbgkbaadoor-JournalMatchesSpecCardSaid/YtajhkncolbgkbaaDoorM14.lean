/- Pwb, Psw, Jsm, Jpl, Jst, Jck: joined by program, for one claim. -/
import Derived.Test.YtajhkncolbgkbaaDoorM11
import Derived.Test.YtajhkncolbgkbaaDoorM12
import Derived.Test.YtajhkncolbgkbaaDoorM13
import Derived.Test.YtajhkncolbgkbaaDoorM9
import Derived.Test.YtajhkncolbgkbaaDoorM5
import Derived.Laws.ResultCell
import Derived.Test.YtajhkncolbgkbaaDoorM8
import Derived.Lib.Strings
import Derived.Shelf.Abstract
set_option linter.unusedVariables false
set_option linter.unusedSimpArgs false
namespace Go.Proofs.YtajhkncolbgkbaaDoor
section
open Go.RowKit Go.Sort Go.Maps
set_option maxRecDepth 100000 in
set_option maxHeartbeats 1000000 in
theorem pwrite_bad (w:World) (pp dp N g mb cap m:Nat) (bv:Value) (cl:Bool) (d:Dk) (hp:PS w pp dp N bv cl) (h:DkIs w dp g mb cap m d) (a:Option Addr) (c:Nat) (l:List (Int × List Int)) (hl:l.length≤1000) (hs:SlP w a l) (hw64 : ∀ x∈l,(-9223372036854775808≤x.1∧x.1≤9223372036854775807)∧x.2.length≤10000)
 (hne:chkV cl N ((d.p.length:Int) - 17) l ≠ 0) :
 Calls Tryd.prog 25 #[.pointer (some ⟨pp,0,none⟩),.slice a l.length c] w fun e w'=>e = .returned (.int .i64 (chkV cl N ((d.p.length:Int) - 17) l))∧Below w.heap.size w w':=by
 have hck:=Bx.mk (pcheck_any w pp dp N g mb cap m bv cl d hp h a c l hl hs hw64)
 generalize chkV cl N ((d.p.length:Int) - 17) l=er at *
 have n1:(er != 0)=true:=by simpa using hne
 have n2:(er == 0)=false:=by simpa using hne
 clear hp h hl hs hw64 hne
 generalize l.length=n at *
 go_enter Tryd.func25,Tryd.ntmps25
 go_wp2_with fail
 refine hck.out.mono ?_
 rintro _ w1 ⟨rfl,hb1⟩
 have HB:=Bx.mk hb1
 clear hb1 hck
 go_wp2_with fail
 go_ret
 exact ⟨rfl,HB.out⟩
theorem chk_batch {cl:Bool} {N n:Nat} {l:List (Int × List Int)} (hb : ∀ x∈l,Byts x.2) (h:chkV cl N ((n:Int) - 17) l=0) :
 cl=false∧N<1073741824 ∧ ∃ L:List (Nat × List Int),l=L.map (fun x=>((x.1:Int),x.2))∧BatchOk n L:=by
 unfold chkV at h
 split at h
 · simp at h
 rename_i h1
 split at h
 · simp at h
 rename_i h2
 split at h
 · simp at h
 rename_i h3
 have hok:okTo ((n:Int) - 17) l l.length:=by
  apply Classical.byContradiction
  intro h'
  rw [okV_no h'] at h
  simp at h
 have hat : ∀ (i:Nat) x,l[i]? = some x→0≤x.1∧x.1<(n:Int) - 17∧x.2.length=116∧(0<i → ∀ y,l[i - 1]? = some y→y.1<x.1):=fun i x hx=>hok i x (List.getElem?_eq_some_iff.1 hx).1 hx
 refine ⟨by simpa using h1,by omega,l.map (fun x=>(x.1.toNat,x.2)),?_,?_⟩
 · rw [List.map_map]
   conv=>lhs;rw [←List.map_id l]
   apply List.map_congr_left
   intro x hx
   obtain ⟨i,hi⟩:=List.mem_iff_getElem?.1 hx
   obtain ⟨xp,xt⟩:=x
   have:=(hat i _ hi).1
   simp only [Function.comp,id,Prod.mk.injEq,and_true]
   simp only at this;omega
 · have hm : ∀ x∈l,0≤x.1∧x.1<(n:Int) - 17∧x.2.length=116:=fun x hx=>by
    obtain ⟨i,hi⟩:=List.mem_iff_getElem?.1 hx
    have:=hat i x hi
    exact ⟨this.1,this.2.1,this.2.2.1⟩
   refine ⟨by rw [List.length_map];omega,by rw [List.length_map];omega,fun x hx=>?_,fun x hx=>?_,?_⟩
   · obtain ⟨y,hy,rfl⟩:=List.mem_map.1 hx
     have:=hm y hy
     simp only;omega
   · obtain ⟨y,hy,rfl⟩:=List.mem_map.1 hx
     exact ⟨(hm y hy).2.2,hb y hy⟩
   · rw [List.map_map]
     -- the neighbours grow,so all do
     have key : ∀ (j i:Nat) x y,i<j→l[i]? = some x→l[j]? = some y→x.1<y.1:=by
      intro j
      induction j with
      | zero=>intro i x y h;omega
      | succ j ih =>
        intro i x y hij hx hy
        have hj:j<l.length:=by have:=(List.getElem?_eq_some_iff.1 hy).1;omega
        have hz:=List.getElem?_eq_getElem hj
        have h4:=(hat (j+1) y hy).2.2.2 (by omega) _ hz
        by_cases e:i=j
        · subst e;rw [hz] at hx;rw [←Option.some.inj hx];exact h4
        · have:=ih i x _ (by omega) hx hz
          omega
     rw [List.pairwise_iff_getElem]
     intro i j hi hj hij
     rw [List.length_map] at hi hj
     rw [List.getElem_map,List.getElem_map]
     have h5:=key j i _ _ hij (List.getElem?_eq_getElem hi) (List.getElem?_eq_getElem hj)
     have h6:=(hm _ (List.getElem_mem hi)).1
     simp only [Function.comp];omega
end
section
open Go.RowKit Go.Sort Go.Maps
structure St (B:Nat) (W:World) (dp g mb cap pp m:Nat) (d:Dk) (N:Nat) (bv:Value) (cl:Bool):Prop where
 dk:DkIs W dp g mb cap m d
 ps:PS W pp dp N bv cl
 ne : ¬In3 dp g mb pp
 lo : ∀ k,(k=pp∨In3 dp g mb k)→B≤k
theorem St.later {B:Nat} {W W':World} {dp g mb cap pp m:Nat} {d:Dk} {N:Nat} {bv:Value} {cl:Bool} (h:St B W dp g mb cap pp m d N bv cl) (hb:Below W.heap.size W W'):St B W' dp g mb cap pp m d N bv cl :=
 ⟨h.dk.later hb,h.ps.later hb,h.ne,h.lo⟩
theorem St.write {B:Nat} {W:World} {dp g mb cap pp m:Nat} {d:Dk} {N:Nat} {bv:Value} (h:St B W dp g mb cap pp m d N bv false) (hm:m+40<1000000) (hN:N<1073741824) (a:Option Addr) (c:Nat) (L:List (Nat × List Int)) (hL:BatchOk d.p.length L) (hs:SlP W a (L.map fun x=>((x.1:Int),x.2))) {d':Dk} {er:Int} (hr:d.run (stepsP (N+1) L)=(d',er)) (hB:B≤W.heap.size) :
 Calls Tryd.prog 25 #[.pointer (some ⟨pp,0,none⟩),.slice a L.length c] W fun e w'=>e = .returned (.int .i64 er)∧St B w' dp g mb cap pp (m+40) d' (if er=0 then N+1 else N) bv (decide (er ≠ 0))∧Below B W w':=by
 refine (pwrite_ok W pp dp N g mb cap m bv d h.ps h.dk h.ne hm hN a c L hL hs).mono ?_
 intro e w' hp
 unfold WrPost at hp
 rw [hr] at hp
 obtain ⟨h1,h2,h3,h4⟩:=hp
 exact ⟨h1,⟨h3,h2,h.ne,h.lo⟩,h4.below hB fun k hk hS=>by have:=h.lo k hS;omega⟩
theorem St.read {B:Nat} {W:World} {dp g mb cap pp m:Nat} {d:Dk} {N:Nat} {bv:Value} {cl:Bool} (h:St B W dp g mb cap pp m d N bv cl) (i:Int) (hi : -9223372036854775808≤i∧i≤9223372036854775807) {s:List Int} {er:Int} (hr:readP d cl i=(s,er)) :
 Calls Tryd.prog 27 #[.pointer (some ⟨pp,0,none⟩),.int .i64 i] W fun e w'=>e = .returned (.tuple #[.string (strOfNums s),.int .i64 er])∧Below W.heap.size W w':=by
 have:=pread_any W pp dp N g mb cap m bv cl d h.ps h.dk i hi
 rw [hr] at this
 exact this
theorem St.len {B:Nat} {W:World} {dp g mb cap pp m:Nat} {d:Dk} {N:Nat} {bv:Value} {cl:Bool} (h:St B W dp g mb cap pp m d N bv cl) {k:Int} (hk:(d.p.length:Int) - 17=k) :
 Calls Tryd.prog 26 #[.pointer (some ⟨pp,0,none⟩)] W fun e w'=>e = .returned (.int .i64 k)∧W=w':=by
 have:=plen_any W pp dp N g mb cap m bv cl d h.ps h.dk
 rwa [hk] at this
theorem St.refuse {B:Nat} {W:World} {dp g mb cap pp m:Nat} {d:Dk} {N:Nat} {bv:Value} {cl:Bool} (h:St B W dp g mb cap pp m d N bv cl) (a:Option Addr) (c:Nat) (l:List (Int × List Int)) (hl:l.length≤1000) (hs:SlP W a l) (hw64 : ∀ x∈l,(-9223372036854775808≤x.1∧x.1≤9223372036854775807)∧x.2.length≤10000)
 {er:Int} (hr:chkV cl N ((d.p.length:Int) - 17) l=er) (hne:er ≠ 0) :
 Calls Tryd.prog 25 #[.pointer (some ⟨pp,0,none⟩),.slice a l.length c] W fun e w'=>e = .returned (.int .i64 er)∧Below W.heap.size W w':=by
 have:=pwrite_bad W pp dp N g mb cap m bv cl d h.ps h.dk a c l hl hs hw64 (by rw [hr];exact hne)
 rw [hr] at this
 exact this
theorem St.disk {B:Nat} {W W':World} {dp g mb cap pp m m':Nat} {d d':Dk} {N:Nat} {bv:Value} {cl:Bool} (h:St B W dp g mb cap pp m d N bv cl) (hd:DkIs W' dp g mb cap m' d') (hc:Chg (In3 dp g mb) W W'):St B W' dp g mb cap pp m' d' N bv cl :=
 ⟨hd,Bk.chg h.ps hc h.ne,h.ne,h.lo⟩
theorem St.below {B:Nat} {W W':World} {dp g mb cap pp m:Nat} {d:Dk} {N:Nat} {bv:Value} {cl:Bool} (h:St B W dp g mb cap pp m d N bv cl) (hc:Chg (In3 dp g mb) W W') (hB:B≤W.heap.size):Below B W W' :=
 hc.below hB fun k hk hS=>by have:=h.lo k (.inr hS);omega
theorem St.open_ {B:Nat} {W:World} {dp g mb cap m:Nat} {d:Dk} (hd:DkIs W dp g mb cap m d) (hlo : ∀ k,In3 dp g mb k→B≤k) (h17:17<d.p.length) (ho:d.off=false) (hm:m+20<1000000) {d':Dk} (hr:d.run (replayP (nowI d))=(d',0)) (hB:B≤W.heap.size) :
 Calls Tryd.prog 24 #[.pointer (some ⟨dp,0,none⟩)] W fun e w' => ∃ pp bv,e = .returned (.tuple #[.pointer (some ⟨pp,0,none⟩),.int .i64 0])∧St B w' dp g mb cap pp (m+20) d' (mxP (nowI d)) bv false∧Own w' W.heap.size 3 .i64 bv (ints64 (badP (imgR (nowI d)) (d.p.length - 17)))∧W.heap.size≤pp∧Chg (In3 dp g mb) W w':=by
 refine (popen_on W dp g mb cap m d hd h17 ho hm).mono ?_
 intro e w' hp
 unfold OpPost at hp
 rw [hr] at hp
 obtain ⟨h1,h2,⟨h3,_⟩ | ⟨_,pp,bv,h4,h5,h6,h7⟩⟩:=hp
 · exact absurd rfl h3
 · have hlt:=hd.lt
   exact ⟨pp,bv,h4,⟨h1,h6,fun h=>by rcases h with rfl | rfl | rfl <;> omega,fun k hk=>by
    rcases hk with rfl | hk
    · omega
    · exact hlo k hk⟩,h7,h5,h2⟩
end
section
open Go.RowKit Go.Sort Go.Maps
def recS (r:List Int):List Int:=bytesP r.length 2++r
def strmP (L:List (List Int)):List Int:=L.flatMap recS
theorem strmP_snoc (L:List (List Int)) (r:List Int):strmP (L++[r])=strmP L++recS r:=by simp [strmP]
theorem recS_len (r:List Int):(recS r).length=2+r.length:=by simp [recS,bytes_len]
theorem strmP_take_le (L:List (List Int)) (k:Nat):(strmP (L.take k)).length≤(strmP L).length:=by
 have:=congrArg (fun l=>(strmP l).length) (List.take_append_drop k L)
 simp only [strmP,List.flatMap_append,List.length_append] at this ⊢
 omega
theorem jb_later {T e:TypeId} {B b:Nat} {p:Value} {bs:List Value} {w w':World} (h:Lib.BuilderAt T e B b p bs w) (hb:Below w.heap.size w w'):Lib.BuilderAt T e B b p bs w':=by
 obtain ⟨h1,v,h2,h3,h4⟩:=h
 exact ⟨h1,v,(hb.block b (Array.getElem?_eq_some_iff.1 h2).1).trans h2,World.ownsRow.kept (row:=none) h3 ⟨hb.os,hb.tape,hb.output,hb.size,fun i hi _=>hb.block i hi⟩ (by cases v.ownBlock <;> simp),h4⟩
def JS (W:World) (jp pp h bank:Nat) (s:List Int) (rv:Value) (cl:Bool):Prop :=
 Bk W jp #[.pointer (some ⟨pp,0,none⟩),.int .i64 (h:Int),.int .i64 (bank:Int),.string (strOfNums s),rv,.bool cl] 70
theorem JS.later {W W':World} {jp pp h bank:Nat} {s:List Int} {rv:Value} {cl:Bool} (hj:JS W jp pp h bank s rv cl) (hb:Below W.heap.size W W'):JS W' jp pp h bank s rv cl:=Bk.later hj hb
section
variable (w:World) (jp pp h bank:Nat) (s:List Int) (rv:Value) (cl:Bool)
set_option maxRecDepth 100000 in
set_option maxHeartbeats 1000000 in
theorem jsize_any (hj:JS w jp pp h bank s rv cl) (hh:h≤1000) :
 Calls Tryd.prog 37 #[.pointer (some ⟨jp,0,none⟩)] w fun e w'=>e = .returned (.int .i64 ((h * 116:Nat):Int))∧w=w':=by
 have c1:=Bk.cell hj 1 rfl
 have e1:IntKind.i64.wrap ((h:Int) * 116)=((h * 116:Nat):Int):=by rw [IntWalk.i64_in _ (by omega)];omega
 clear hj
 go_enter Tryd.func37,Tryd.ntmps37
 go_wp2_with fail
 go_ret
 exact ⟨rfl,rfl⟩
set_option maxRecDepth 100000 in
set_option maxHeartbeats 1000000 in
theorem jpage_any (hj:JS w jp pp h bank s rv cl) (hh:h≤1000) (b k:Nat) (hb:b≤1) (hk:k≤1000) :
 Calls Tryd.prog 52 #[.pointer (some ⟨jp,0,none⟩),.int .i64 (b:Int),.int .i64 (k:Int)] w fun e w'=>e = .returned (.int .i64 ((1+b * h+k:Nat):Int))∧w=w':=by
 have c1:=Bk.cell hj 1 rfl
 obtain ⟨x,hx⟩ : ∃ x,x=b * h:=⟨_,rfl⟩
 have hx1:x≤1000:=by
  have:b * h≤1 * h:=Nat.mul_le_mul_right _ hb
  omega
 have e1:IntKind.i64.wrap ((b:Int) * (h:Int))=(x:Int):=by
  rw [hx] at hx1 ⊢
  rw [IntWalk.i64_in _ (by rw [←Int.natCast_mul];omega)]
  exact (Int.natCast_mul b h).symm
 obtain ⟨y,hy⟩ : ∃ y,y=1+x:=⟨_,rfl⟩
 have e2:IntKind.i64.wrap (1+(x:Int))=(y:Int):=by rw [IntWalk.i64_in _ (by omega)];omega
 have e3:IntKind.i64.wrap ((y:Int)+(k:Int))=((1+x+k:Nat):Int):=by rw [IntWalk.i64_in _ (by omega)];omega
 rw [←hx]
 generalize 1+x+k=z at *
 clear hj hx hx1 hy
 go_enter Tryd.func52,Tryd.ntmps52
 go_wp2_with fail
 go_ret
 exact ⟨rfl,rfl⟩
set_option maxRecDepth 100000 in
set_option maxHeartbeats 1000000 in
theorem jused_any (hj:JS w jp pp h bank s rv cl) :
 Calls Tryd.prog 21 #[.pointer (some ⟨jp,0,none⟩)] w fun e w'=>e = .returned (.int .i64 ((s.length:Nat):Int))∧w=w':=by
 have c1:=Bk.cell hj 3 rfl
 have hsz:(strOfNums s).size=s.length:=strOfNums_size s
 clear hj
 generalize s.length=n at *
 go_enter Tryd.func21,Tryd.ntmps21
 go_wp2_with fail
 go_ret
 exact ⟨rfl,rfl⟩
set_option maxRecDepth 100000 in
set_option maxHeartbeats 1000000 in
theorem jlen_any (ra:Option Addr) (n rc:Nat) (hj:JS w jp pp h bank s (.slice ra n rc) cl) :
 Calls Tryd.prog 18 #[.pointer (some ⟨jp,0,none⟩)] w fun e w'=>e = .returned (.int .i64 (n:Int))∧w=w':=by
 have c1:=Bk.cell hj 4 rfl
 clear hj
 go_enter Tryd.func18,Tryd.ntmps18
 go_wp2_with fail
 go_ret
 exact ⟨rfl,rfl⟩
def recV (L:List (List Int)) (k:Int):Value:=if 0≤k then (match L[k.toNat]? with | some r=>.tuple #[.string (strOfNums r),.bool true] | none=>.tuple #[.string ⟨#[]⟩,.bool false]) else .tuple #[.string ⟨#[]⟩,.bool false]
set_option maxRecDepth 100000 in
set_option maxHeartbeats 1000000 in
theorem jrecord_any (ra:Option Addr) (rc:Nat) (L:List (List Int)) (hs:Slv w ra (strs L)) (hL:L.length≤1000000) (hj:JS w jp pp h bank s (.slice ra L.length rc) cl) (k:Int) (_hk : -9223372036854775808≤k∧k≤9223372036854775807) :
 Calls Tryd.prog 17 #[.pointer (some ⟨jp,0,none⟩),.int .i64 k] w fun e w'=>e = .returned (recV L k)∧w=w':=by
 have c1:=Bk.cell hj 4 rfl
 unfold recV
 obtain ⟨n,hn⟩ : ∃ n,n=L.length:=⟨_,rfl⟩
 rw [←hn] at hL c1
 clear hj
 by_cases h0:k<0
 · have t0:decide (k<0)=true:=by simpa using h0
   rw [if_neg (by omega)]
   clear hs hn h0
   go_enter Tryd.func17,Tryd.ntmps17
   go_wp2_with fail
   go_ret2
   exact ⟨rfl,rfl⟩
 · have t0:decide (k<0)=false:=by simpa using h0
   rw [if_pos (by omega)]
   obtain ⟨m,rfl⟩:=Int.eq_ofNat_of_zero_le (by omega:0≤k)
   rw [Int.toNat_natCast]
   by_cases h1:m<n
   · have t1:decide ((m:Int) ≥ (n:Int))=false:=by simp;omega
     have t1b:decide ((n:Int)≤(m:Int))=false:=by simp;omega
     have t1c:decide (n≤m)=false:=by simp;omega
     obtain ⟨r,hr⟩ : ∃ r,L[m]? = some r:=⟨_,List.getElem?_eq_getElem (by omega)⟩
     obtain ⟨b,off,rfl,hc⟩:=hs m _ (strs_at hr)
     rw [hr]
     dsimp only
     have b1:(0:Int)≤(m:Int):=by omega
     have b2:(m:Int)<(n:Int):=by omega
     clear hs hn hr h0 h1
     generalize strOfNums r=S at *
     go_enter Tryd.func17,Tryd.ntmps17
     go_wp2_with fail
     go_ret2
     exact ⟨rfl,rfl⟩
   · have t1:decide ((m:Int) ≥ (n:Int))=true:=by simp;omega
     have t1b:decide ((n:Int)≤(m:Int))=true:=by simp;omega
     have t1c:decide (n≤m)=true:=by simp;omega
     rw [List.getElem?_eq_none (by omega)]
     dsimp only
     clear hs hn h0 h1
     go_enter Tryd.func17,Tryd.ntmps17
     go_wp2_with fail
     go_ret2
     exact ⟨rfl,rfl⟩
end
theorem jclone_any (a:Option Addr) (c:Nat) (L:List (List Int)) (w:World) (hs:Slv w a (strs L)) (hL:L.length≤1000000) :
 Calls Tryd.prog 35 #[.slice a L.length c] w fun e w' => ∃ v,e = .returned v∧Below w.heap.size w w'∧Ownv w' w.heap.size 9 v (strs L):=by
 cases L with
 | nil =>
   cases a with
   | none=>exact (Tryd.slices_Clone_string_nil 0 c w).mono fun e w' h=>⟨_,h.1,h.2 ▸ Below.refl _ _,Ownv.nil _ _ _⟩
   | some a =>
     refine (Tryd.slices_Clone_string_zero a c w).mono fun e w' h=>?_
     obtain ⟨v,h1,h2,-,h3⟩:=h
     exact ⟨v,h1,h3,h2⟩
 | cons r L =>
   obtain ⟨b,off,rfl,-⟩:=hs 0 _ rfl
   refine (Tryd.slices_Clone_string b off (r::L).length c ((r::L).map strOfNums) w (by simp) (by omega) (fun j hj=>?_)).mono fun e w' h=>?_
   · rw [List.length_map] at hj
     obtain ⟨b',off',e,hc⟩:=hs j _ (strs_at (List.getElem?_eq_getElem hj))
     simp only [Option.some.injEq,Addr.mk.injEq,and_true] at e
     obtain ⟨rfl,rfl⟩:=e
     rw [hc,List.getD_eq_getElem?_getD,List.getElem?_map,List.getElem?_eq_getElem hj]
     rfl
   · obtain ⟨v,h1,h2,-,h3⟩:=h
     refine ⟨v,h1,h3,?_⟩
     rw [List.take_of_length_le (by simp),List.map_map] at h2
     have e:(strs (r::L)).length=(r::L).length:=strs_length _
     unfold Ownv
     rw [e]
     exact h2
set_option maxRecDepth 100000 in
set_option maxHeartbeats 1000000 in
theorem jrecords_any (w:World) (jp pp h bank:Nat) (s:List Int) (cl:Bool) (ra:Option Addr) (rc:Nat) (L:List (List Int)) (hs:Slv w ra (strs L)) (hL:L.length≤1000000) (hj:JS w jp pp h bank s (.slice ra L.length rc) cl) :
 Calls Tryd.prog 20 #[.pointer (some ⟨jp,0,none⟩)] w fun e w' => ∃ v,e = .returned v∧Below w.heap.size w w'∧Ownv w' w.heap.size 9 v (strs L):=by
 have c1:=Bk.cell hj 4 rfl
 have hcl:=Bx.mk (jclone_any ra rc L w hs hL)
 clear hj hs hL
 generalize L.length=n at *
 go_enter Tryd.func20,Tryd.ntmps20
 go_wp2_with fail
 refine hcl.out.mono ?_
 rintro _ w1 ⟨v,rfl,hb,hown⟩
 have H:=Bx.mk (And.intro hb hown)
 clear hb hown hcl c1
 go_wp2_with fail
 go_ret
 exact ⟨v,rfl,H.out.1,H.out.2⟩
end
section
def nextS (l:List Int):Option (List Int × List Int) :=
 if l.length<2 then none else if 8000<numK (l.take 2)∨l.length<2+numK (l.take 2) then none else some ((l.drop 2).take (numK (l.take 2)),l.drop (2+numK (l.take 2)))
theorem nextS_lt {l r rest:List Int} (h:nextS l=some (r,rest)):rest.length<l.length:=by
 unfold nextS at h
 split at h
 · cases h
 · split at h
   · cases h
   · simp only [Option.some.injEq,Prod.mk.injEq] at h
     rw [←h.2,List.length_drop];omega
def cutS (l:List Int):Option (List (List Int)) :=
 if l=[] then some [] else
  match h:nextS l with
  | none=>none
  | some (r,rest)=>(cutS rest).map (r :: ·)
termination_by l.length
decreasing_by exact nextS_lt h
theorem cutS_nil:cutS []=some []:=by rw [cutS];rfl
theorem cutS_none {l:List Int} (h0:l ≠ []) (h:nextS l=none):cutS l=none:=by
 rw [cutS,if_neg h0]
 split
 · rfl
 · rename_i h';rw [h] at h';cases h'
theorem cutS_some {l r rest:List Int} (h0:l ≠ []) (h:nextS l=some (r,rest)):cutS l=(cutS rest).map (r :: ·):=by
 rw [cutS,if_neg h0]
 split
 · rename_i h';rw [h] at h';cases h'
 · rename_i h'
   rw [h] at h'
   simp only [Option.some.injEq,Prod.mk.injEq] at h'
   rw [h'.1,h'.2]
theorem numK_bytes {n k:Nat} (h:n<256 ^ k):numK (bytesP n k)=n:=by
 induction k generalizing n with
 | zero=>simp at h;subst h;rfl
 | succ k ih =>
   have e:bytesP n (k+1)=((n % 256:Nat):Int)::bytesP (n / 256) k:=by
    unfold bytesP
    rw [List.range_succ_eq_map,List.map_cons,List.map_map]
    congr 1
    · simp
    · apply List.map_congr_left
      intro i _
      simp only [Function.comp]
      rw [Nat.pow_succ,Nat.mul_comm,←Nat.div_div_eq_div_mul]
   rw [e]
   simp only [numK]
   rw [ih (by rw [Nat.pow_succ] at h;omega)]
   omega
theorem nextS_rec {r s:List Int} (h:r.length≤8000):nextS (recS r++s)=some (r,s):=by
 have hb:(bytesP r.length 2).length=2:=bytes_len _ _
 have ht:(recS r++s).take 2=bytesP r.length 2:=by
  unfold recS
  rw [List.append_assoc,List.take_append_of_le_length (by omega),List.take_of_length_le (by omega)]
 have hn:numK ((recS r++s).take 2)=r.length:=by rw [ht,numK_bytes (by omega)]
 have hl:(recS r++s).length=2+r.length+s.length:=by rw [List.length_append,recS_len]
 unfold nextS
 rw [hn,if_neg (by omega),if_neg (by omega)]
 have hd:(recS r++s).drop 2=r++s:=by
  unfold recS
  rw [List.append_assoc,List.drop_append,List.drop_of_length_le (by omega),hb];rfl
 have hd2:(recS r++s).drop (2+r.length)=s:=by rw [←List.drop_drop,hd,List.drop_left]
 rw [hd,List.take_left,hd2]
theorem cut_strm : ∀ (L:List (List Int)),(∀ r∈L,r.length≤8000)→cutS (strmP L)=some L
 | [],_=>cutS_nil
 | r :: L, h => by
   have e:strmP (r::L)=recS r++strmP L:=rfl
   rw [e,cutS_some (by intro h0;have:=congrArg List.length h0;rw [List.length_append,recS_len] at this;simp at this) (nextS_rec (h r (List.mem_cons_self ..)))]
   rw [cut_strm L fun x hx=>h x (List.mem_cons_of_mem _ hx)];rfl
def hBank (hd:List Int):Nat:=(hd.getD 0 0).toNat
def hUsed (hd:List Int):Nat:=numK ((hd.drop 1).take 4)
def hCnt (hd:List Int):Nat:=numK ((hd.drop 5).take 4)
def headBad (h:Nat) (hd:List Int):Prop:=1<hBank hd∨h * 116<hUsed hd ∨ ¬ ∀ x∈hd.drop 9,x=0
def gatJ (rd:Nat→List Int × Int) (base:Nat):Nat→Except Int (List Int)
 | 0=>.ok []
 | k + 1 => match gatJ rd base k with
   | .error e=>.error e
   | .ok s=>if (rd (base+k)).2 ≠ 0 then .error (rd (base+k)).2 else .ok (s++(rd (base+k)).1)
def pagesFor (u:Nat):Nat:=(u+115) / 116
open Classical in
noncomputable def openJ (n:Nat) (rd:Nat→List Int × Int):Except Int (Nat × List Int × List (List Int)) :=
 if (n - 1) / 2<1 then .error 1
 else if (rd 0).2 ≠ 0 then .error (rd 0).2
 else if headBad ((n - 1) / 2) (rd 0).1 then .error 7
 else match gatJ rd (1+hBank (rd 0).1 * ((n - 1) / 2)) (pagesFor (hUsed (rd 0).1)) with
  | .error e=>.error e
  | .ok s => match cutS (s.take (hUsed (rd 0).1)) with
    | none=>.error 7
    | some L=>if L.length ≠ hCnt (rd 0).1 then .error 7 else .ok (hBank (rd 0).1,s.take (hUsed (rd 0).1),L)
def headP (bank used cnt:Nat):List Int:=bytesP bank 1++bytesP used 4++bytesP cnt 4++zerosP 107
theorem headP_len (bank used cnt:Nat):(headP bank used cnt).length=116:=by simp [headP,bytes_len,zerosP]
theorem headP_bank {bank used cnt:Nat} (h:bank≤1):hBank (headP bank used cnt)=bank:=by
 have:bytesP bank 1=[((bank % 256:Nat):Int)]:=by simp [bytesP]
 unfold hBank headP
 rw [this]
 simp only [List.cons_append,List.getD_cons_zero]
 omega
theorem headP_used {bank used cnt:Nat} (h:used<256 ^ 4):hUsed (headP bank used cnt)=used:=by
 have h1:(bytesP bank 1).length=1:=bytes_len _ _
 have h4:(bytesP used 4).length=4:=bytes_len _ _
 unfold hUsed headP
 rw [List.append_assoc,List.append_assoc,List.drop_append,List.drop_of_length_le (by omega),h1,List.nil_append]
 simp only [Nat.sub_self,List.drop_zero]
 rw [List.take_append_of_le_length (by omega),List.take_of_length_le (by omega),numK_bytes h]
theorem headP_cnt {bank used cnt:Nat} (h:cnt<256 ^ 4):hCnt (headP bank used cnt)=cnt:=by
 have h1:(bytesP bank 1++bytesP used 4).length=5:=by rw [List.length_append,bytes_len,bytes_len]
 have h4:(bytesP cnt 4).length=4:=bytes_len _ _
 unfold hCnt headP
 rw [List.append_assoc,List.drop_append,List.drop_of_length_le (by omega),h1,List.nil_append]
 simp only [Nat.sub_self,List.drop_zero]
 rw [List.take_append_of_le_length (by omega),List.take_of_length_le (by omega),numK_bytes h]
theorem headP_tail (bank used cnt:Nat) : ∀ x∈(headP bank used cnt).drop 9,x=0:=by
 have h1:(bytesP bank 1++bytesP used 4++bytesP cnt 4).length=9:=by simp [bytes_len]
 unfold headP
 rw [List.drop_append,List.drop_of_length_le (by omega),h1,List.nil_append]
 simp only [Nat.sub_self,List.drop_zero]
 intro x hx
 exact (List.mem_replicate.1 hx).2
end
section
open Go.RowKit Go.Sort Go.Maps
theorem strCells_app (a b:ByteArray):Lib.strCells a++Lib.strCells b=Lib.strCells (a++b):=by
 unfold Lib.strCells
 rw [ByteArray.data_append,Array.toList_append,List.map_append]
set_option maxRecDepth 100000 in
set_option maxHeartbeats 2000000 in
theorem jstream_any (a:Option Addr) (c:Nat) (L:List (List Int)) (w:World) (hs:Slv w a (strs L)) (hL:L.length≤100000) (hr : ∀ r∈L,r.length≤60000) (ht:(strmP L).length≤1000000) :
 Calls Tryd.prog 32 #[.slice a L.length c] w fun e w'=>e = .returned (.string (strOfNums (strmP L)))∧Below w.heap.size w w':=by
 have HS:=Bx.mk hs
 have HR:=Bx.mk hr
 have HT:=Bx.mk ht
 obtain ⟨n,hn⟩ : ∃ n,n=L.length:=⟨_,rfl⟩
 rw [←hn] at hL ⊢
 have Hn:=Bx.mk hn
 clear hs hr ht hn
 go_enter Tryd.func32,Tryd.ntmps32
 go_upto_region 2 with fail
 generalize hW:World.alloc w _=W
 have HW:Bx (Below w.heap.size w W):=⟨by rw [←hW];exact (Below.refl _ _).alloc (Nat.le_refl _) _⟩
 have HB:Bx (Lib.IsBuilder 108 5 w.heap.size w.heap.size [] W):=⟨by
  rw [←hW]
  exact .inl ⟨Nat.le_refl _,.slice none 0 0,heap_alloc_new _ _,World.ownsRow_nil _ _ _ _,by simp [Value.ownBlock]⟩⟩
 clear hW
 obtain ⟨bb,hbb⟩ : ∃ bb,bb=w.heap.size:=⟨_,rfl⟩
 rw [←hbb] at HB ⊢
 have HBB:=Bx.mk hbb
 clear hbb
 go_upto_region 3 with fail
 go_loopw [8] (fun i wr => ∃ k:Nat,k≤n∧i = .int .i64 k∧Bx (Lib.IsBuilder 108 5 bb bb (Lib.strCells (strOfNums (strmP (L.take k)))) wr)∧Bx (Below bb w wr)) (fun i _=>n - (intOf i).toNat)
 case atStart=>exact ⟨0,Nat.zero_le _,rfl,⟨by simpa [strmP,Lib.strCells,strOfNums] using HB.out⟩,⟨by rw [HBB.out];exact HW.out⟩⟩
 case round =>
  clear HB HW
  obtain ⟨k,hk,rfl,HI,HB⟩:=hrel
  have HBS:Bx (bb≤wr.heap.size):=⟨by have:=HB.out.size;have:=HBB.out;omega⟩
  by_cases hlt:k<n
  · have t0:decide ((k:Int)<(n:Int))=true:=by simp;omega
    obtain ⟨r,hr⟩ : ∃ r,L[k]? = some r:=⟨_,List.getElem?_eq_getElem (by rw [←Hn.out];exact hlt)⟩
    obtain ⟨b,off,rfl,hc⟩:=HS.out k _ (strs_at hr)
    have c0:=cell_later (by rw [HBB.out] at HB;exact HB.out) hc
    have hlen:=HR.out r (List.mem_of_getElem? hr)
    have hsz:(strOfNums r).size=r.length:=strOfNums_size r
    have hby:=Bx.mk fun W=>jbytes_any r.length 2 (by decide) W
    have z1:(strOfNums (bytesP r.length 2)).size=2:=by rw [strOfNums_size,bytes_len]
    have ha:strOfNums (bytesP r.length 2)++strOfNums r=strOfNums (recS r):=str_append _ _
    have hN:Bx (Lib.strCells (strOfNums (strmP (L.take k)))++Lib.strCells (strOfNums (recS r))=Lib.strCells (strOfNums (strmP (L.take (k+1))))):=⟨by
     obtain ⟨h1,h2⟩:=List.getElem?_eq_some_iff.1 hr
     rw [List.take_succ_eq_append_getElem h1,h2,strmP_snoc,strCells_app,str_append]⟩
    have hsz2:(Lib.strCells (strOfNums (strmP (L.take k)))).length+(strOfNums (recS r)).size≤140737488355328:=by
     have h1:=strmP_take_le L k
     have h2:=HT.out
     rw [Lib.strCells_length,strOfNums_size,strOfNums_size,recS_len]
     omega
    have hws:=Bx.mk fun W (hi:Lib.IsBuilder 108 5 bb bb (Lib.strCells (strOfNums (strmP (L.take k)))) W) (hb:bb≤W.heap.size)=>jb_write bb bb _ (strOfNums (recS r)) W hi hsz2 hb
    have hmov:Bx (∀ W,Below wr.heap.size wr W→Lib.IsBuilder 108 5 bb bb (Lib.strCells (strOfNums (strmP (L.take k)))) W):=⟨fun W hb=>by
     rcases HI.out with h | h
     · exact .inl (jb_later h hb)
     · exact .inr (jb_later h hb)⟩
    generalize r.length=rl at *
    generalize strOfNums (bytesP rl 2)=S2 at *
    generalize strOfNums (recS r)=S3 at *
    generalize strOfNums r=S1 at *
    have Hlt:=Bx.mk hlt
    have b1:(0:Int)≤(k:Int):=by omega
    have b2:(k:Int)<(n:Int):=by omega
    clear hc hr hsz2 HI hlt
    go_wp2_with fail
    refine (hby.out _).mono ?_
    rintro _ w2 ⟨rfl,hb2⟩
    have hI2:=hmov.out w2 hb2
    have hB2:Below bb w w2:=HB.out.trans (hb2.mono HBS.out)
    have hw2:=Bx.mk (hws.out w2 hI2 (Nat.le_trans HBS.out hb2.size))
    have HB2:=Bx.mk hB2
    clear hb2 hI2 hB2 hby hmov hws HB c0
    go_wp2_with fail
    refine hw2.out.mono ?_
    rintro _ w3 ⟨rfl,hI3,hb3⟩
    rw [hN.out] at hI3
    have HI3:=Bx.mk hI3
    have HB3:=Bx.mk (HB2.out.trans hb3)
    clear hI3 hb3 hw2 HB2
    go_wp2_with fail
    go_roundw
    case rel=>exact ⟨k+1,by have:=Hlt.out;omega,by go_num,HI3,HB3⟩
    case measure=>have:=Hlt.out;simp [intOf];omega
  · obtain rfl:k=n:=by omega
    have t0:decide ((k:Int)<(k:Int))=false:=by simp
    have hst:=Tryd.Builder_String_any bb bb _ wr (show Lib.IsBuilder 108 5 bb bb (Lib.byteCells _) wr from HI.out) HBS.out
    rw [List.take_of_length_le (by rw [←Hn.out];exact Nat.le_refl _)] at hst
    have HST:=Bx.mk hst
    clear hst HI t0
    go_wp2_with fail
    refine HST.out.mono ?_
    rintro _ w4 ⟨rfl,hb4⟩
    have HB4:=Bx.mk (HB.out.trans hb4)
    clear hb4 HST
    go_wp2_with fail
    go_ret
    exact ⟨rfl,by rw [←HBB.out];exact HB4.out⟩
end
section
open Go.RowKit Go.Sort Go.Maps
def longR (L:List (List Int)):Bool:=L.any fun r=>decide (8000<r.length)
set_option maxRecDepth 100000 in
set_option maxHeartbeats 1000000 in
theorem jcheck1_any (r:List Int) (w:World) :
 Calls Tryd.prog 59 #[.string (strOfNums r)] w fun e w'=>e = .returned (.bool (decide (8000<r.length)))∧w'=w:=by
 have hsz:(strOfNums r).size=r.length:=strOfNums_size r
 generalize strOfNums r=S at *
 generalize r.length=n at *
 by_cases h:8000<n
 · have t0:decide ((n:Int) > 8000)=true:=by simp;omega
   have t1:decide ((8000:Int)<(n:Int))=true:=by simp;omega
   rw [decide_eq_true h]
   clear h
   go_enter Tryd.func59,Tryd.ntmps59
   go_wp2_with fail
   go_ret
   exact ⟨rfl,rfl⟩
 · have t0:decide ((n:Int) > 8000)=false:=by simp;omega
   have t1:decide ((8000:Int)<(n:Int))=false:=by simp;omega
   rw [decide_eq_false h]
   clear h
   go_enter Tryd.func59,Tryd.ntmps59
   go_wp2_with fail
   go_ret
   exact ⟨rfl,rfl⟩
set_option maxRecDepth 100000 in
set_option maxHeartbeats 1000000 in
theorem jindex_any (a:Option Addr) (c:Nat) (L:List (List Int)) (w:World) (hs:Slv w a (strs L)) (hL:L.length≤100000) :
 Calls Tryd.prog 81 #[.slice a L.length c,.func (.func 59) #[] #[]] w fun e w'=>(∃ k:Int,e = .returned (.int .i64 k)∧(0≤k ↔ longR L=true))∧w'=w:=by
 have HS:=Bx.mk hs
 obtain ⟨n,hn⟩ : ∃ n,n=L.length:=⟨_,rfl⟩
 rw [←hn] at hL ⊢
 have Hn:=Bx.mk hn
 have HE:Bx (∀ args W,(callFunc 59 args).run Tryd.prog W = .ok (.enter 59 args) W):=⟨enters_of Tryd.func59 (by kernel_rfl) rfl⟩
 clear hs hn
 go_enter Tryd.func81,Tryd.ntmps81
 go_upto_region 2 with fail
 go_loopw [8] (fun i wr => ∃ k:Nat,k≤n∧i = .int .i64 k∧wr=w∧Bx (longR (L.take k)=false)) (fun i _=>n - (intOf i).toNat)
 case atStart=>exact ⟨0,Nat.zero_le _,rfl,rfl,⟨rfl⟩⟩
 case round =>
  obtain ⟨k,hk,rfl,rfl,HF⟩:=hrel
  by_cases hlt:k<n
  · have t0:decide ((k:Int)<(n:Int))=true:=by simp;omega
    obtain ⟨r,hr⟩ : ∃ r,L[k]? = some r:=⟨_,List.getElem?_eq_getElem (by rw [←Hn.out];exact hlt)⟩
    obtain ⟨b,off,rfl,hc⟩:=HS.out k _ (strs_at hr)
    have hck:=Bx.mk fun W=>jcheck1_any r W
    have hT:Bx (longR (L.take (k+1))=decide (8000<r.length)):=⟨by
     obtain ⟨h1,h2⟩:=List.getElem?_eq_some_iff.1 hr
     have h3:=HF.out
     unfold longR at h3 ⊢
     rw [List.take_succ_eq_append_getElem h1,h2,List.any_append,h3]
     simp⟩
    have hM:=Bx.mk (List.mem_of_getElem? hr)
    generalize hq:decide (8000<r.length)=q at *
    have Hq:=Bx.mk hq
    have Hlt:=Bx.mk hlt
    have b1:(0:Int)≤(k:Int):=by omega
    have b2:(k:Int)<(n:Int):=by omega
    generalize strOfNums r=S at *
    clear hr hlt hq
    go_wp2_with fail
    first | rw [HE.out _ _] | skip
    refine (hck.out _).mono ?_
    rintro _ _ ⟨rfl,rfl⟩
    clear hck hc
    cases q with
    | true =>
      go_wp2_with fail
      go_ret
      exact ⟨⟨_,rfl,⟨fun _=>List.any_eq_true.2 ⟨r,hM.out,Hq.out⟩,fun _=>by omega⟩⟩,by first | rfl | trivial⟩
    | false =>
      go_wp2_with fail
      go_roundw
      case rel=>exact ⟨k+1,by have:=Hlt.out;omega,by go_num,by first | rfl | trivial,hT⟩
      case measure=>have:=Hlt.out;simp [intOf];omega
  · obtain rfl:k=n:=by omega
    have t0:decide ((k:Int)<(k:Int))=false:=by simp
    have hF:longR L=false:=by
     have:=HF.out
     rwa [List.take_of_length_le (by rw [←Hn.out];exact Nat.le_refl _)] at this
    have HF2:=Bx.mk hF
    clear hF
    go_wp2_with fail
    go_ret
    exact ⟨⟨_,rfl,⟨fun h=>absurd h (by decide),fun h=>by rw [HF2.out] at h;cases h⟩⟩,by first | rfl | trivial⟩
set_option maxRecDepth 100000 in
set_option maxHeartbeats 1000000 in
theorem jcontains_any (a:Option Addr) (c:Nat) (L:List (List Int)) (w:World) (hs:Slv w a (strs L)) (hL:L.length≤100000) :
 Calls Tryd.prog 58 #[.slice a L.length c,.func (.func 59) #[] #[]] w fun e w'=>e = .returned (.bool (longR L))∧w'=w:=by
 have hix:=Bx.mk (jindex_any a c L w hs hL)
 generalize longR L=q at *
 generalize L.length=n at *
 clear hs
 go_enter Tryd.func58,Tryd.ntmps58
 go_wp2_with fail
 refine hix.out.mono ?_
 rintro _ _ ⟨⟨k,rfl,hk⟩,rfl⟩
 have HK:Bx (decide (k ≥ 0)=q):=⟨by
  cases q with
  | true=>exact decide_eq_true (hk.2 rfl)
  | false=>exact decide_eq_false fun h=>by have:=hk.1 h;cases this⟩
 have t0:=HK.out
 clear hk hix
 go_wp2_with fail
 go_ret
 exact ⟨rfl,rfl⟩
def jchkV (cl:Bool) (h:Nat) (s:List Int) (L:List (List Int)):Int:=if cl=true then 20 else if longR L=true then 2 else if h * 116<s.length then 21 else 0
set_option maxRecDepth 100000 in
set_option maxHeartbeats 1000000 in
theorem jcheck_any (w:World) (jp pp h bank:Nat) (s0:List Int) (rv:Value) (cl:Bool) (hj:JS w jp pp h bank s0 rv cl) (hh:h≤1000) (s:List Int) (a:Option Addr) (c:Nat) (L:List (List Int)) (hs:Slv w a (strs L)) (hL:L.length≤100000) (hsl:s.length≤1000000) :
 Calls Tryd.prog 33 #[.pointer (some ⟨jp,0,none⟩),.string (strOfNums s),.slice a L.length c] w fun e w'=>e = .returned (.int .i64 (jchkV cl h s L))∧w'=w:=by
 have c5:=Bk.cell hj 5 rfl
 have hct:=Bx.mk (jcontains_any a c L w hs hL)
 have hsz:=Bx.mk (jsize_any w jp pp h bank s0 rv cl hj hh)
 have hln:(strOfNums s).size=s.length:=strOfNums_size s
 unfold jchkV
 generalize strOfNums s=S at *
 generalize s.length=m at *
 generalize longR L=q at *
 generalize L.length=n at *
 clear hj hs
 cases cl with
 | true =>
   rw [if_pos rfl]
   go_enter Tryd.func33,Tryd.ntmps33
   go_wp2_with fail
   go_ret
   exact ⟨rfl,rfl⟩
 | false =>
   rw [if_neg (by decide)]
   cases q with
   | true =>
     rw [if_pos rfl]
     go_enter Tryd.func33,Tryd.ntmps33
     go_wp2_with fail
     refine hct.out.mono ?_
     rintro _ _ ⟨rfl,rfl⟩
     go_wp2_with fail
     go_ret
     exact ⟨rfl,rfl⟩
   | false =>
     rw [if_neg (by decide)]
     by_cases hb:h * 116<m
     · have t0:decide ((m:Int) > ((h * 116:Nat):Int))=true:=by simp;omega
       have t1:decide (((h * 116:Nat):Int)<(m:Int))=true:=by simp;omega
       have t2:decide (h * 116<m)=true:=by simpa using hb
       rw [if_pos hb]
       generalize h * 116=h6 at *
       clear hb
       go_enter Tryd.func33,Tryd.ntmps33
       go_wp2_with fail
       refine hct.out.mono ?_
       rintro _ _ ⟨rfl,rfl⟩
       go_wp2_with fail
       refine hsz.out.mono ?_
       rintro _ _ ⟨rfl,rfl⟩
       go_wp2_with fail
       go_ret
       exact ⟨rfl,rfl⟩
     · have t0:decide ((m:Int) > ((h * 116:Nat):Int))=false:=by simp;omega
       have t1:decide (((h * 116:Nat):Int)<(m:Int))=false:=by simp;omega
       have t2:decide (h * 116<m)=false:=by simpa using hb
       rw [if_neg hb]
       generalize h * 116=h6 at *
       clear hb
       go_enter Tryd.func33,Tryd.ntmps33
       go_wp2_with fail
       refine hct.out.mono ?_
       rintro _ _ ⟨rfl,rfl⟩
       go_wp2_with fail
       refine hsz.out.mono ?_
       rintro _ _ ⟨rfl,rfl⟩
       go_wp2_with fail
       go_ret
       exact ⟨rfl,rfl⟩
end
end Go.Proofs.YtajhkncolbgkbaaDoor
