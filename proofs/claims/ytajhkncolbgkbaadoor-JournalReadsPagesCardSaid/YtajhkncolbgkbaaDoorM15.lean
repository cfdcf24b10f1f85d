/- Psw, Jsm, Jpl, Jr1, Jr2, Jr3, Jov: joined by program, for one claim. -/
import Derived.Test.YtajhkncolbgkbaaDoorM13
import Derived.Test.YtajhkncolbgkbaaDoorM14
import Derived.Test.YtajhkncolbgkbaaDoorM12
import Derived.Test.YtajhkncolbgkbaaDoorM8
import Derived.Test.YtajhkncolbgkbaaDoorM4
import Derived.Laws.ResultCell
import Derived.Test.YtajhkncolbgkbaaDoorM7
import Derived.Lib.Strings
import Derived.BigQuiet
set_option linter.unusedVariables false
set_option linter.unusedSimpArgs false
namespace Go.Proofs.YtajhkncolbgkbaaDoor
section
open Go.RowKit Go.Sort Go.Maps
structure St (B:Nat) (W:World) (dp g mb cap pp m:Nat) (d:Dk) (N:Nat) (bv:Value) (cl:Bool):Prop where
 dk:DkIs W dp g mb cap m d
 ps:PS W pp dp N bv cl
 ne : ¬In3 dp g mb pp
 lo : ∀ k,(k=pp∨In3 dp g mb k)→B≤k
theorem St.later {B:Nat} {W W':World} {dp g mb cap pp m:Nat} {d:Dk} {N:Nat} {bv:Value} {cl:Bool} (h:St B W dp g mb cap pp m d N bv cl) (hb:Below W.heap.size W W'):St B W' dp g mb cap pp m d N bv cl :=
 ⟨h.dk.later hb,h.ps.later hb,h.ne,h.lo⟩
theorem St.write {B:Nat} {W:World} {dp g mb cap pp m:Nat} {d:Dk} {N:Nat} {bv:Value} (h:St B W dp g mb cap pp m d N bv false) (hm:m+40<1000000) (hN:N<1073741824) (a:Option Addr) (c:Nat) (L:List (Nat × List Int)) (hL:BatchOk d.p.length L) (hs:SlP W a (L.map fun x=>((x.1:Int),x.2))) {d':Dk} {er:Int} (hr:d.run (stepsP (N+1) L)=(d',er)) (hB:B≤W.heap.size) :
 Calls Tryd.prog 25 #[.pointer (some ⟨pp,0,none⟩),.slice a L.length c] W fun e w'=>e = .returned (.int .i64 er)∧St B w' dp g mb cap pp (m+40) d' (if er=0 then N+1 else N) bv (decide (er ≠ 0))∧Below B W w':=by
 refine (pwrite_ok W pp dp N g mb cap m bv d h.ps h.dk h.ne hm hN a c L hL hs).mono ?_
 intro e w' hp
 unfold WrPost at hp
 rw [hr] at hp
 obtain ⟨h1,h2,h3,h4⟩:=hp
 exact ⟨h1,⟨h3,h2,h.ne,h.lo⟩,h4.below hB fun k hk hS=>by have:=h.lo k hS;omega⟩
theorem St.read {B:Nat} {W:World} {dp g mb cap pp m:Nat} {d:Dk} {N:Nat} {bv:Value} {cl:Bool} (h:St B W dp g mb cap pp m d N bv cl) (i:Int) (hi : -9223372036854775808≤i∧i≤9223372036854775807) {s:List Int} {er:Int} (hr:readP d cl i=(s,er)) :
 Calls Tryd.prog 27 #[.pointer (some ⟨pp,0,none⟩),.int .i64 i] W fun e w'=>e = .returned (.tuple #[.string (strOfNums s),.int .i64 er])∧Below W.heap.size W w':=by
 have:=pread_any W pp dp N g mb cap m bv cl d h.ps h.dk i hi
 rw [hr] at this
 exact this
theorem St.len {B:Nat} {W:World} {dp g mb cap pp m:Nat} {d:Dk} {N:Nat} {bv:Value} {cl:Bool} (h:St B W dp g mb cap pp m d N bv cl) {k:Int} (hk:(d.p.length:Int) - 17=k) :
 Calls Tryd.prog 26 #[.pointer (some ⟨pp,0,none⟩)] W fun e w'=>e = .returned (.int .i64 k)∧W=w':=by
 have:=plen_any W pp dp N g mb cap m bv cl d h.ps h.dk
 rwa [hk] at this
theorem St.refuse {B:Nat} {W:World} {dp g mb cap pp m:Nat} {d:Dk} {N:Nat} {bv:Value} {cl:Bool} (h:St B W dp g mb cap pp m d N bv cl) (a:Option Addr) (c:Nat) (l:List (Int × List Int)) (hl:l.length≤1000) (hs:SlP W a l) (hw64 : ∀ x∈l,(-9223372036854775808≤x.1∧x.1≤9223372036854775807)∧x.2.length≤10000)
 {er:Int} (hr:chkV cl N ((d.p.length:Int) - 17) l=er) (hne:er ≠ 0) :
 Calls Tryd.prog 25 #[.pointer (some ⟨pp,0,none⟩),.slice a l.length c] W fun e w'=>e = .returned (.int .i64 er)∧Below W.heap.size W w':=by
 have:=pwrite_bad W pp dp N g mb cap m bv cl d h.ps h.dk a c l hl hs hw64 (by rw [hr];exact hne)
 rw [hr] at this
 exact this
theorem St.disk {B:Nat} {W W':World} {dp g mb cap pp m m':Nat} {d d':Dk} {N:Nat} {bv:Value} {cl:Bool} (h:St B W dp g mb cap pp m d N bv cl) (hd:DkIs W' dp g mb cap m' d') (hc:Chg (In3 dp g mb) W W'):St B W' dp g mb cap pp m' d' N bv cl :=
 ⟨hd,Bk.chg h.ps hc h.ne,h.ne,h.lo⟩
theorem St.below {B:Nat} {W W':World} {dp g mb cap pp m:Nat} {d:Dk} {N:Nat} {bv:Value} {cl:Bool} (h:St B W dp g mb cap pp m d N bv cl) (hc:Chg (In3 dp g mb) W W') (hB:B≤W.heap.size):Below B W W' :=
 hc.below hB fun k hk hS=>by have:=h.lo k (.inr hS);omega
theorem St.open_ {B:Nat} {W:World} {dp g mb cap m:Nat} {d:Dk} (hd:DkIs W dp g mb cap m d) (hlo : ∀ k,In3 dp g mb k→B≤k) (h17:17<d.p.length) (ho:d.off=false) (hm:m+20<1000000) {d':Dk} (hr:d.run (replayP (nowI d))=(d',0)) (hB:B≤W.heap.size) :
 Calls Tryd.prog 24 #[.pointer (some ⟨dp,0,none⟩)] W fun e w' => ∃ pp bv,e = .returned (.tuple #[.pointer (some ⟨pp,0,none⟩),.int .i64 0])∧St B w' dp g mb cap pp (m+20) d' (mxP (nowI d)) bv false∧Own w' W.heap.size 3 .i64 bv (ints64 (badP (imgR (nowI d)) (d.p.length - 17)))∧W.heap.size≤pp∧Chg (In3 dp g mb) W w':=by
 refine (popen_on W dp g mb cap m d hd h17 ho hm).mono ?_
 intro e w' hp
 unfold OpPost at hp
 rw [hr] at hp
 obtain ⟨h1,h2,⟨h3,_⟩ | ⟨_,pp,bv,h4,h5,h6,h7⟩⟩:=hp
 · exact absurd rfl h3
 · have hlt:=hd.lt
   exact ⟨pp,bv,h4,⟨h1,h6,fun h=>by rcases h with rfl | rfl | rfl <;> omega,fun k hk=>by
    rcases hk with rfl | hk
    · omega
    · exact hlo k hk⟩,h7,h5,h2⟩
end
section
open Go.RowKit Go.Sort Go.Maps
def recS (r:List Int):List Int:=bytesP r.length 2++r
def strmP (L:List (List Int)):List Int:=L.flatMap recS
theorem strmP_snoc (L:List (List Int)) (r:List Int):strmP (L++[r])=strmP L++recS r:=by simp [strmP]
theorem recS_len (r:List Int):(recS r).length=2+r.length:=by simp [recS,bytes_len]
theorem strmP_take_le (L:List (List Int)) (k:Nat):(strmP (L.take k)).length≤(strmP L).length:=by
 have:=congrArg (fun l=>(strmP l).length) (List.take_append_drop k L)
 simp only [strmP,List.flatMap_append,List.length_append] at this ⊢
 omega
theorem jb_later {T e:TypeId} {B b:Nat} {p:Value} {bs:List Value} {w w':World} (h:Lib.BuilderAt T e B b p bs w) (hb:Below w.heap.size w w'):Lib.BuilderAt T e B b p bs w':=by
 obtain ⟨h1,v,h2,h3,h4⟩:=h
 exact ⟨h1,v,(hb.block b (Array.getElem?_eq_some_iff.1 h2).1).trans h2,World.ownsRow.kept (row:=none) h3 ⟨hb.os,hb.tape,hb.output,hb.size,fun i hi _=>hb.block i hi⟩ (by cases v.ownBlock <;> simp),h4⟩
def JS (W:World) (jp pp h bank:Nat) (s:List Int) (rv:Value) (cl:Bool):Prop :=
 Bk W jp #[.pointer (some ⟨pp,0,none⟩),.int .i64 (h:Int),.int .i64 (bank:Int),.string (strOfNums s),rv,.bool cl] 70
theorem JS.later {W W':World} {jp pp h bank:Nat} {s:List Int} {rv:Value} {cl:Bool} (hj:JS W jp pp h bank s rv cl) (hb:Below W.heap.size W W'):JS W' jp pp h bank s rv cl:=Bk.later hj hb
section
variable (w:World) (jp pp h bank:Nat) (s:List Int) (rv:Value) (cl:Bool)
set_option maxRecDepth 100000 in
set_option maxHeartbeats 1000000 in
theorem jsize_any (hj:JS w jp pp h bank s rv cl) (hh:h≤1000) :
 Calls Tryd.prog 37 #[.pointer (some ⟨jp,0,none⟩)] w fun e w'=>e = .returned (.int .i64 ((h * 116:Nat):Int))∧w=w':=by
 have c1:=Bk.cell hj 1 rfl
 have e1:IntKind.i64.wrap ((h:Int) * 116)=((h * 116:Nat):Int):=by rw [IntWalk.i64_in _ (by omega)];omega
 clear hj
 go_enter Tryd.func37,Tryd.ntmps37
 go_wp2_with fail
 go_ret
 exact ⟨rfl,rfl⟩
set_option maxRecDepth 100000 in
set_option maxHeartbeats 1000000 in
theorem jpage_any (hj:JS w jp pp h bank s rv cl) (hh:h≤1000) (b k:Nat) (hb:b≤1) (hk:k≤1000) :
 Calls Tryd.prog 52 #[.pointer (some ⟨jp,0,none⟩),.int .i64 (b:Int),.int .i64 (k:Int)] w fun e w'=>e = .returned (.int .i64 ((1+b * h+k:Nat):Int))∧w=w':=by
 have c1:=Bk.cell hj 1 rfl
 obtain ⟨x,hx⟩ : ∃ x,x=b * h:=⟨_,rfl⟩
 have hx1:x≤1000:=by
  have:b * h≤1 * h:=Nat.mul_le_mul_right _ hb
  omega
 have e1:IntKind.i64.wrap ((b:Int) * (h:Int))=(x:Int):=by
  rw [hx] at hx1 ⊢
  rw [IntWalk.i64_in _ (by rw [←Int.natCast_mul];omega)]
  exact (Int.natCast_mul b h).symm
 obtain ⟨y,hy⟩ : ∃ y,y=1+x:=⟨_,rfl⟩
 have e2:IntKind.i64.wrap (1+(x:Int))=(y:Int):=by rw [IntWalk.i64_in _ (by omega)];omega
 have e3:IntKind.i64.wrap ((y:Int)+(k:Int))=((1+x+k:Nat):Int):=by rw [IntWalk.i64_in _ (by omega)];omega
 rw [←hx]
 generalize 1+x+k=z at *
 clear hj hx hx1 hy
 go_enter Tryd.func52,Tryd.ntmps52
 go_wp2_with fail
 go_ret
 exact ⟨rfl,rfl⟩
set_option maxRecDepth 100000 in
set_option maxHeartbeats 1000000 in
theorem jused_any (hj:JS w jp pp h bank s rv cl) :
 Calls Tryd.prog 21 #[.pointer (some ⟨jp,0,none⟩)] w fun e w'=>e = .returned (.int .i64 ((s.length:Nat):Int))∧w=w':=by
 have c1:=Bk.cell hj 3 rfl
 have hsz:(strOfNums s).size=s.length:=strOfNums_size s
 clear hj
 generalize s.length=n at *
 go_enter Tryd.func21,Tryd.ntmps21
 go_wp2_with fail
 go_ret
 exact ⟨rfl,rfl⟩
set_option maxRecDepth 100000 in
set_option maxHeartbeats 1000000 in
theorem jlen_any (ra:Option Addr) (n rc:Nat) (hj:JS w jp pp h bank s (.slice ra n rc) cl) :
 Calls Tryd.prog 18 #[.pointer (some ⟨jp,0,none⟩)] w fun e w'=>e = .returned (.int .i64 (n:Int))∧w=w':=by
 have c1:=Bk.cell hj 4 rfl
 clear hj
 go_enter Tryd.func18,Tryd.ntmps18
 go_wp2_with fail
 go_ret
 exact ⟨rfl,rfl⟩
def recV (L:List (List Int)) (k:Int):Value:=if 0≤k then (match L[k.toNat]? with | some r=>.tuple #[.string (strOfNums r),.bool true] | none=>.tuple #[.string ⟨#[]⟩,.bool false]) else .tuple #[.string ⟨#[]⟩,.bool false]
set_option maxRecDepth 100000 in
set_option maxHeartbeats 1000000 in
theorem jrecord_any (ra:Option Addr) (rc:Nat) (L:List (List Int)) (hs:Slv w ra (strs L)) (hL:L.length≤1000000) (hj:JS w jp pp h bank s (.slice ra L.length rc) cl) (k:Int) (_hk : -9223372036854775808≤k∧k≤9223372036854775807) :
 Calls Tryd.prog 17 #[.pointer (some ⟨jp,0,none⟩),.int .i64 k] w fun e w'=>e = .returned (recV L k)∧w=w':=by
 have c1:=Bk.cell hj 4 rfl
 unfold recV
 obtain ⟨n,hn⟩ : ∃ n,n=L.length:=⟨_,rfl⟩
 rw [←hn] at hL c1
 clear hj
 by_cases h0:k<0
 · have t0:decide (k<0)=true:=by simpa using h0
   rw [if_neg (by omega)]
   clear hs hn h0
   go_enter Tryd.func17,Tryd.ntmps17
   go_wp2_with fail
   go_ret2
   exact ⟨rfl,rfl⟩
 · have t0:decide (k<0)=false:=by simpa using h0
   rw [if_pos (by omega)]
   obtain ⟨m,rfl⟩:=Int.eq_ofNat_of_zero_le (by omega:0≤k)
   rw [Int.toNat_natCast]
   by_cases h1:m<n
   · have t1:decide ((m:Int) ≥ (n:Int))=false:=by simp;omega
     have t1b:decide ((n:Int)≤(m:Int))=false:=by simp;omega
     have t1c:decide (n≤m)=false:=by simp;omega
     obtain ⟨r,hr⟩ : ∃ r,L[m]? = some r:=⟨_,List.getElem?_eq_getElem (by omega)⟩
     obtain ⟨b,off,rfl,hc⟩:=hs m _ (strs_at hr)
     rw [hr]
     dsimp only
     have b1:(0:Int)≤(m:Int):=by omega
     have b2:(m:Int)<(n:Int):=by omega
     clear hs hn hr h0 h1
     generalize strOfNums r=S at *
     go_enter Tryd.func17,Tryd.ntmps17
     go_wp2_with fail
     go_ret2
     exact ⟨rfl,rfl⟩
   · have t1:decide ((m:Int) ≥ (n:Int))=true:=by simp;omega
     have t1b:decide ((n:Int)≤(m:Int))=true:=by simp;omega
     have t1c:decide (n≤m)=true:=by simp;omega
     rw [List.getElem?_eq_none (by omega)]
     dsimp only
     clear hs hn h0 h1
     go_enter Tryd.func17,Tryd.ntmps17
     go_wp2_with fail
     go_ret2
     exact ⟨rfl,rfl⟩
end
theorem jclone_any (a:Option Addr) (c:Nat) (L:List (List Int)) (w:World) (hs:Slv w a (strs L)) (hL:L.length≤1000000) :
 Calls Tryd.prog 35 #[.slice a L.length c] w fun e w' => ∃ v,e = .returned v∧Below w.heap.size w w'∧Ownv w' w.heap.size 9 v (strs L):=by
 cases L with
 | nil =>
   cases a with
   | none=>exact (Tryd.slices_Clone_string_nil 0 c w).mono fun e w' h=>⟨_,h.1,h.2 ▸ Below.refl _ _,Ownv.nil _ _ _⟩
   | some a =>
     refine (Tryd.slices_Clone_string_zero a c w).mono fun e w' h=>?_
     obtain ⟨v,h1,h2,-,h3⟩:=h
     exact ⟨v,h1,h3,h2⟩
 | cons r L =>
   obtain ⟨b,off,rfl,-⟩:=hs 0 _ rfl
   refine (Tryd.slices_Clone_string b off (r::L).length c ((r::L).map strOfNums) w (by simp) (by omega) (fun j hj=>?_)).mono fun e w' h=>?_
   · rw [List.length_map] at hj
     obtain ⟨b',off',e,hc⟩:=hs j _ (strs_at (List.getElem?_eq_getElem hj))
     simp only [Option.some.injEq,Addr.mk.injEq,and_true] at e
     obtain ⟨rfl,rfl⟩:=e
     rw [hc,List.getD_eq_getElem?_getD,List.getElem?_map,List.getElem?_eq_getElem hj]
     rfl
   · obtain ⟨v,h1,h2,-,h3⟩:=h
     refine ⟨v,h1,h3,?_⟩
     rw [List.take_of_length_le (by simp),List.map_map] at h2
     have e:(strs (r::L)).length=(r::L).length:=strs_length _
     unfold Ownv
     rw [e]
     exact h2
set_option maxRecDepth 100000 in
set_option maxHeartbeats 1000000 in
theorem jrecords_any (w:World) (jp pp h bank:Nat) (s:List Int) (cl:Bool) (ra:Option Addr) (rc:Nat) (L:List (List Int)) (hs:Slv w ra (strs L)) (hL:L.length≤1000000) (hj:JS w jp pp h bank s (.slice ra L.length rc) cl) :
 Calls Tryd.prog 20 #[.pointer (some ⟨jp,0,none⟩)] w fun e w' => ∃ v,e = .returned v∧Below w.heap.size w w'∧Ownv w' w.heap.size 9 v (strs L):=by
 have c1:=Bk.cell hj 4 rfl
 have hcl:=Bx.mk (jclone_any ra rc L w hs hL)
 clear hj hs hL
 generalize L.length=n at *
 go_enter Tryd.func20,Tryd.ntmps20
 go_wp2_with fail
 refine hcl.out.mono ?_
 rintro _ w1 ⟨v,rfl,hb,hown⟩
 have H:=Bx.mk (And.intro hb hown)
 clear hb hown hcl c1
 go_wp2_with fail
 go_ret
 exact ⟨v,rfl,H.out.1,H.out.2⟩
end
section
def nextS (l:List Int):Option (List Int × List Int) :=
 if l.length<2 then none else if 8000<numK (l.take 2)∨l.length<2+numK (l.take 2) then none else some ((l.drop 2).take (numK (l.take 2)),l.drop (2+numK (l.take 2)))
theorem nextS_lt {l r rest:List Int} (h:nextS l=some (r,rest)):rest.length<l.length:=by
 unfold nextS at h
 split at h
 · cases h
 · split at h
   · cases h
   · simp only [Option.some.injEq,Prod.mk.injEq] at h
     rw [←h.2,List.length_drop];omega
def cutS (l:List Int):Option (List (List Int)) :=
 if l=[] then some [] else
  match h:nextS l with
  | none=>none
  | some (r,rest)=>(cutS rest).map (r :: ·)
termination_by l.length
decreasing_by exact nextS_lt h
theorem cutS_nil:cutS []=some []:=by rw [cutS];rfl
theorem cutS_none {l:List Int} (h0:l ≠ []) (h:nextS l=none):cutS l=none:=by
 rw [cutS,if_neg h0]
 split
 · rfl
 · rename_i h';rw [h] at h';cases h'
theorem cutS_some {l r rest:List Int} (h0:l ≠ []) (h:nextS l=some (r,rest)):cutS l=(cutS rest).map (r :: ·):=by
 rw [cutS,if_neg h0]
 split
 · rename_i h';rw [h] at h';cases h'
 · rename_i h'
   rw [h] at h'
   simp only [Option.some.injEq,Prod.mk.injEq] at h'
   rw [h'.1,h'.2]
theorem numK_bytes {n k:Nat} (h:n<256 ^ k):numK (bytesP n k)=n:=by
 induction k generalizing n with
 | zero=>simp at h;subst h;rfl
 | succ k ih =>
   have e:bytesP n (k+1)=((n % 256:Nat):Int)::bytesP (n / 256) k:=by
    unfold bytesP
    rw [List.range_succ_eq_map,List.map_cons,List.map_map]
    congr 1
    · simp
    · apply List.map_congr_left
      intro i _
      simp only [Function.comp]
      rw [Nat.pow_succ,Nat.mul_comm,←Nat.div_div_eq_div_mul]
   rw [e]
   simp only [numK]
   rw [ih (by rw [Nat.pow_succ] at h;omega)]
   omega
theorem nextS_rec {r s:List Int} (h:r.length≤8000):nextS (recS r++s)=some (r,s):=by
 have hb:(bytesP r.length 2).length=2:=bytes_len _ _
 have ht:(recS r++s).take 2=bytesP r.length 2:=by
  unfold recS
  rw [List.append_assoc,List.take_append_of_le_length (by omega),List.take_of_length_le (by omega)]
 have hn:numK ((recS r++s).take 2)=r.length:=by rw [ht,numK_bytes (by omega)]
 have hl:(recS r++s).length=2+r.length+s.length:=by rw [List.length_append,recS_len]
 unfold nextS
 rw [hn,if_neg (by omega),if_neg (by omega)]
 have hd:(recS r++s).drop 2=r++s:=by
  unfold recS
  rw [List.append_assoc,List.drop_append,List.drop_of_length_le (by omega),hb];rfl
 have hd2:(recS r++s).drop (2+r.length)=s:=by rw [←List.drop_drop,hd,List.drop_left]
 rw [hd,List.take_left,hd2]
theorem cut_strm : ∀ (L:List (List Int)),(∀ r∈L,r.length≤8000)→cutS (strmP L)=some L
 | [],_=>cutS_nil
 | r :: L, h => by
   have e:strmP (r::L)=recS r++strmP L:=rfl
   rw [e,cutS_some (by intro h0;have:=congrArg List.length h0;rw [List.length_append,recS_len] at this;simp at this) (nextS_rec (h r (List.mem_cons_self ..)))]
   rw [cut_strm L fun x hx=>h x (List.mem_cons_of_mem _ hx)];rfl
def hBank (hd:List Int):Nat:=(hd.getD 0 0).toNat
def hUsed (hd:List Int):Nat:=numK ((hd.drop 1).take 4)
def hCnt (hd:List Int):Nat:=numK ((hd.drop 5).take 4)
def headBad (h:Nat) (hd:List Int):Prop:=1<hBank hd∨h * 116<hUsed hd ∨ ¬ ∀ x∈hd.drop 9,x=0
def gatJ (rd:Nat→List Int × Int) (base:Nat):Nat→Except Int (List Int)
 | 0=>.ok []
 | k + 1 => match gatJ rd base k with
   | .error e=>.error e
   | .ok s=>if (rd (base+k)).2 ≠ 0 then .error (rd (base+k)).2 else .ok (s++(rd (base+k)).1)
def pagesFor (u:Nat):Nat:=(u+115) / 116
open Classical in
noncomputable def openJ (n:Nat) (rd:Nat→List Int × Int):Except Int (Nat × List Int × List (List Int)) :=
 if (n - 1) / 2<1 then .error 1
 else if (rd 0).2 ≠ 0 then .error (rd 0).2
 else if headBad ((n - 1) / 2) (rd 0).1 then .error 7
 else match gatJ rd (1+hBank (rd 0).1 * ((n - 1) / 2)) (pagesFor (hUsed (rd 0).1)) with
  | .error e=>.error e
  | .ok s => match cutS (s.take (hUsed (rd 0).1)) with
    | none=>.error 7
    | some L=>if L.length ≠ hCnt (rd 0).1 then .error 7 else .ok (hBank (rd 0).1,s.take (hUsed (rd 0).1),L)
def headP (bank used cnt:Nat):List Int:=bytesP bank 1++bytesP used 4++bytesP cnt 4++zerosP 107
theorem headP_len (bank used cnt:Nat):(headP bank used cnt).length=116:=by simp [headP,bytes_len,zerosP]
theorem headP_bank {bank used cnt:Nat} (h:bank≤1):hBank (headP bank used cnt)=bank:=by
 have:bytesP bank 1=[((bank % 256:Nat):Int)]:=by simp [bytesP]
 unfold hBank headP
 rw [this]
 simp only [List.cons_append,List.getD_cons_zero]
 omega
theorem headP_used {bank used cnt:Nat} (h:used<256 ^ 4):hUsed (headP bank used cnt)=used:=by
 have h1:(bytesP bank 1).length=1:=bytes_len _ _
 have h4:(bytesP used 4).length=4:=bytes_len _ _
 unfold hUsed headP
 rw [List.append_assoc,List.append_assoc,List.drop_append,List.drop_of_length_le (by omega),h1,List.nil_append]
 simp only [Nat.sub_self,List.drop_zero]
 rw [List.take_append_of_le_length (by omega),List.take_of_length_le (by omega),numK_bytes h]
theorem headP_cnt {bank used cnt:Nat} (h:cnt<256 ^ 4):hCnt (headP bank used cnt)=cnt:=by
 have h1:(bytesP bank 1++bytesP used 4).length=5:=by rw [List.length_append,bytes_len,bytes_len]
 have h4:(bytesP cnt 4).length=4:=bytes_len _ _
 unfold hCnt headP
 rw [List.append_assoc,List.drop_append,List.drop_of_length_le (by omega),h1,List.nil_append]
 simp only [Nat.sub_self,List.drop_zero]
 rw [List.take_append_of_le_length (by omega),List.take_of_length_le (by omega),numK_bytes h]
theorem headP_tail (bank used cnt:Nat) : ∀ x∈(headP bank used cnt).drop 9,x=0:=by
 have h1:(bytesP bank 1++bytesP used 4++bytesP cnt 4).length=9:=by simp [bytes_len]
 unfold headP
 rw [List.drop_append,List.drop_of_length_le (by omega),h1,List.nil_append]
 simp only [Nat.sub_self,List.drop_zero]
 intro x hx
 exact (List.mem_replicate.1 hx).2
end
section
open Go.RowKit Go.Sort Go.Maps
set_option maxRecDepth 100000 in
set_option maxHeartbeats 1000000 in
theorem rnumber_any (t:List Int) (hb:Byts t) (hl:t.length≤4) (w:World) :
 Calls Tryd.prog 49 #[.string (strOfNums t)] w fun e w'=>e = .returned (.int .i64 (numK t:Nat))∧w'=w:=by
 obtain ⟨n,hn⟩ : ∃ n,n=t.length:=⟨_,rfl⟩
 have hsz:(strOfNums t).size=n:=by rw [strOfNums_size,hn]
 have Hn:=Bx.mk hn
 have Hb:=Bx.mk hb
 rw [←hn] at hl
 have e0:IntKind.i64.wrap ((n:Int) - 1)=(n:Int) - 1:=IntWalk.i64_in _ (by omega)
 clear hn hb
 go_enter Tryd.func49,Tryd.ntmps49
 go_wp2_with fail
 clear e0
 go_loopw [3,4] (fun v3 v4 wr => ∃ k:Nat,k≤n∧v4 = .int .i64 ((k:Int) - 1)∧v3 = .int .i64 (numK (t.drop k):Nat)∧wr=w) (fun _ i _=>(intOf i+1).toNat)
 case atStart=>exact ⟨n,Nat.le_refl _,rfl,by rw [Hn.out,List.drop_length];rfl,rfl⟩
 case round =>
  obtain ⟨k,hk,rfl,rfl,rfl⟩:=hrel
  cases k with
  | succ j =>
    rw [show ((j+1:Nat):Int) - 1=(j:Int) by omega]
    have t0:decide ((j:Int) ≥ 0)=true:=by simp
    obtain ⟨x,hx⟩ : ∃ x,t[j]? = some x:=⟨_,List.getElem?_eq_getElem (by rw [←Hn.out];omega)⟩
    have hxb:=Hb.out x (List.mem_of_getElem? hx)
    obtain ⟨hk2,hget⟩:=str_get Hb.out hx
    have hnk:=numK_lt (l:=t.drop (j+1)) (fun x hx=>Hb.out x (List.mem_of_mem_drop hx))
    have hle:256 ^ (t.drop (j+1)).length≤256 ^ 3:=Nat.pow_le_pow_right (by decide) (by rw [List.length_drop,←Hn.out];omega)
    have hn1:numK (t.drop (j+1))<16777216:=by omega
    have hN:=Bx.mk (numK_drop hx)
    have hx8:IntKind.i64.wrap x=x:=IntWalk.i64_in _ (by omega)
    have e1:IntKind.i64.wrap ((j:Int) - 1)=(j:Int) - 1:=IntWalk.i64_in _ (by omega)
    obtain ⟨n3,hn3⟩ : ∃ n3,n3=numK (t.drop (j+1)) * 256:=⟨_,rfl⟩
    obtain ⟨n2,hn2⟩ : ∃ n2,n2=numK (t.drop (j+1)) * 256+x.toNat:=⟨_,rfl⟩
    have e2:IntKind.i64.wrap (256 * ((numK (t.drop (j+1)):Nat):Int))=(n3:Int):=by rw [IntWalk.i64_in _ (by omega)];omega
    have e3:IntKind.i64.wrap ((n3:Int)+x)=(n2:Int):=by rw [IntWalk.i64_in _ (by omega)];omega
    rw [←hn2] at hN
    clear hn2 hn3 hx hnk hle
    generalize numK (t.drop (j+1))=n1 at *
    have b1:(0:Int)≤(j:Int):=by omega
    have b2:(j:Int)<(n:Int):=by omega
    go_wp2_with fail
    go_roundw
    case rel=>exact ⟨j,by omega,rfl,by rw [hN.out],by first | rfl | trivial⟩
    case measure=>simp [intOf]
  | zero =>
    have t0:decide (((0:Nat):Int) - 1 ≥ 0)=false:=by decide
    rw [show ((0:Nat):Int) - 1 = -1 by rfl]
    have t1:decide ((-1:Int) ≥ 0)=false:=by decide
    rw [List.drop_zero]
    go_wp2_with fail
    go_ret
    exact ⟨rfl,rfl⟩
end
section
open Go.RowKit Go.Sort Go.Maps
set_option maxRecDepth 100000 in
set_option maxHeartbeats 1000000 in
theorem rsame_yes (a a':Option Addr) (c c':Nat) (L:List (List Int)) (w:World) (hs:Slv w a (strs L)) (hs':Slv w a' (strs L)) (hL:L.length≤100000) :
 Calls Tryd.prog 19 #[.slice a L.length c,.slice a' L.length c'] w fun e w'=>e = .returned (.bool true)∧Below w.heap.size w w':=by
 have HS:=Bx.mk hs
 have HS':=Bx.mk hs'
 obtain ⟨n,hn⟩ : ∃ n,n=L.length:=⟨_,rfl⟩
 rw [←hn] at hL ⊢
 have Hn:=Bx.mk hn
 have q0:((n:Int) != (n:Int))=false:=by simp
 clear hs hs' hn
 go_enter Tryd.func19,Tryd.ntmps19
 go_upto_region 4 with fail
 go_loopw [5] (fun v5 wr => ∃ k:Nat,k≤n∧v5 = .int .i64 k∧Bx (Below w.heap.size w wr)) (fun i _=>n - (intOf i).toNat)
 case atStart=>exact ⟨0,Nat.zero_le _,rfl,⟨Below.refl _ _⟩⟩
 case round =>
  obtain ⟨k,hk,rfl,HB⟩:=hrel
  by_cases hlt:k<n
  · have t0:decide ((k:Int)<(n:Int))=true:=by simp;omega
    obtain ⟨r,hr⟩ : ∃ r,L[k]? = some r:=⟨_,List.getElem?_eq_getElem (by rw [←Hn.out];exact hlt)⟩
    obtain ⟨b,off,rfl,hc⟩:=HS.out k _ (strs_at hr)
    obtain ⟨b',off',rfl,hc'⟩:=HS'.out k _ (strs_at hr)
    have c0:=cell_later HB.out hc
    have c1:=cell_later HB.out hc'
    have c2 : ∀ dk osk,(grow (redrawn wr dk) osk).cell? ⟨b,off+k,none⟩=some (.string (strOfNums r)):=cell_regrown c0
    have c3 : ∀ dk osk,(grow (redrawn wr dk) osk).cell? ⟨b',off'+k,none⟩=some (.string (strOfNums r)):=cell_regrown c1
    have hE:((strOfNums r).toList == (strOfNums r).toList)=true:=by simp
    have hE2:((strOfNums r).toList != (strOfNums r).toList)=false:=by simp
    generalize strOfNums r=S at *
    have Hlt:=Bx.mk hlt
    have b1:(0:Int)≤(k:Int):=by omega
    have b2:(k:Int)<(n:Int):=by omega
    clear hr hc hc' hlt c0 c1
    go_upto_region 6 with fail
    refine wp_region_quiet_below (by kernel_rfl) (by kernel_rfl) ?_
    repeat (first
     | go_big_quiet_step (fail)
     | quiet_step (fail))
    refine wpQuiet_nil ?_
    rintro _ ⟨⟨dq,osq⟩,rfl⟩
    have hbq:=below_regrown wr dq osq
    have HB2:=Bx.mk (HB.out.trans (hbq.mono HB.out.size))
    clear hbq HB c2 c3
    generalize grow (redrawn wr dq) osq=w2 at *
    go_wp2_with fail
    go_roundw
    case rel=>exact ⟨k+1,by have:=Hlt.out;omega,by go_num,HB2⟩
    case measure=>have:=Hlt.out;simp [intOf];omega
  · obtain rfl:k=n:=by omega
    have t0:decide ((k:Int)<(k:Int))=false:=by simp
    go_wp2_with fail
    go_ret
    exact ⟨rfl,HB.out⟩
end
section
open Go.RowKit Go.Sort Go.Maps
def textB (c:Int) (n:Nat):List Int:=(List.range (min n 8100)).map fun i=>IntKind.u8.wrap (c+IntKind.u8.wrap ((i % 7:Nat):Int))
theorem textB_len (c:Int) (n:Nat):(textB c n).length=min n 8100:=by simp [textB]
theorem textB_byts (c:Int) (n:Nat):Byts (textB c n):=fun x hx=>by
 obtain ⟨i,_,rfl⟩:=List.mem_map.1 hx
 rw [IntKind.wrap_u8];omega
set_option maxRecDepth 100000 in
set_option maxHeartbeats 1000000 in
theorem rtext_any (c:Int) (_hc:0≤c∧c≤255) (n:Int) (hn : -9223372036854775808≤n∧n≤9223372036854775807) (w:World) :
 Calls Tryd.prog 10 #[.int .u8 c,.int .i64 n] w fun e w'=>e = .returned (.string (strOfNums (textB c n.toNat)))∧Below w.heap.size w w':=by
 obtain ⟨K,hK⟩ : ∃ K,K=min n.toNat 8100:=⟨_,rfl⟩
 have HK:=Bx.mk hK
 have hK8:K≤8100:=by omega
 have HT:Bx (∀ k,k<K→(textB c n.toNat).take (k+1)=(textB c n.toNat).take k++[IntKind.u8.wrap (c+IntKind.u8.wrap ((k % 7:Nat):Int))]):=⟨fun k hk=>by
  have hl:k<(textB c n.toNat).length:=by rw [textB_len,←hK];exact hk
  rw [List.take_succ_eq_append_getElem hl]
  congr 2
  unfold textB
  simp⟩
 have HA:Bx ((textB c n.toNat).take K=textB c n.toNat):=⟨List.take_of_length_le (by rw [textB_len,←hK];exact Nat.le_refl _)⟩
 have HLn:Bx (∀ k,((textB c n.toNat).take k).length≤8100):=⟨fun k=>by rw [List.length_take,textB_len];omega⟩
 clear hK
 go_enter Tryd.func10,Tryd.ntmps10
 go_upto_region 3 with fail
 go_loopw [5,6] (fun v5 v6 wr => ∃ (k:Nat) (q:Value),k≤K∧v6 = .int .i64 k∧q=v5∧Bx (Own wr w.heap.size 5 .u8 q ((textB c n.toNat).take k))∧Bx (Below w.heap.size w wr)) (fun _ i _=>K - (intOf i).toNat)
 case atStart=>exact ⟨0,_,Nat.zero_le _,rfl,rfl,⟨by simpa using Own.nil w w.heap.size 5 .u8⟩,⟨Below.refl _ _⟩⟩
 case round =>
  obtain ⟨k,q,hk,rfl,rfl,HO,HB⟩:=hrel
  have fin:Bx (k=K → ∃ ha cap,q = .slice ha (textB c n.toNat).length cap∧Sl wr .u8 ha (textB c n.toNat)):=⟨fun e=>by
   have h1:=HO.out
   rw [e,HA.out] at h1
   obtain ⟨ha,cap,h2,h3⟩:=h1.form
   exact ⟨ha,cap,h2,h3⟩⟩
  by_cases hlt:k<K
  · have t0:decide ((k:Int)<n)=true:=by have:=HK.out;simp;omega
    have t1:decide ((k:Int)<8100)=true:=by simp;omega
    have t1b:decide (k<8100)=true:=by simp;omega
    obtain ⟨m7,hm7⟩ : ∃ m7,m7=k % 7:=⟨_,rfl⟩
    have r1:((k:Int)).tmod 7=(m7:Int):=by rw [Int.tmod_eq_emod_of_nonneg (by omega)];omega
    have r2:(k:Int) % 7=(m7:Int):=by omega
    have r3:IntKind.i64.wrap (m7:Int)=(m7:Int):=IntWalk.i64_in _ (by omega)
    obtain ⟨x7,hx7⟩ : ∃ x7,x7=IntKind.u8.wrap (m7:Int):=⟨_,rfl⟩
    obtain ⟨z,hz⟩ : ∃ z,z=IntKind.u8.wrap (c+x7):=⟨_,rfl⟩
    have e1:=hx7.symm
    have e2:=hz.symm
    have HZ:Bx ((textB c n.toNat).take (k+1)=(textB c n.toNat).take k++[z]):=⟨by rw [HT.out k hlt,hz,hx7,hm7]⟩
    have hown:=HO.out.below ((Below.refl wr.heap.size wr).alloc (Nat.le_refl _) (.cells #[.int .u8 z] 5))
    have hle:w.heap.size≤(wr.alloc (.cells #[.int .u8 z] 5)).heap.size:=le_alloc HB.out.size _
    have hln:((textB c n.toNat).take k).length≤1000000000:=by have:=HLn.out k;omega
    have Hlt:=Bx.mk hlt
    clear hm7 hx7 hz hlt fin
    go_wp2_with (first
     | (at_builtin
        refine wpList_append_int rfl _ _ 75 rfl 5 .u8 (.int .u8 0) 1 (by omega) Tryd.underlying75 (by kernel_rfl) rfl w.heap.size _ ((textB c n.toNat).take k) rfl hown z ⟨wr.heap.size,0,none⟩ 1 rfl (cell_new _ _ _) hln hle ?_
        intro q' w2 g1 g2 _
        have HB2:Bx (Below w.heap.size w w2):=⟨(HB.out.alloc HB.out.size _).grown g2 hle fun g hg=>(HO.out.lt g hg).1⟩
        rw [←HZ.out] at g1
        have HO2:=Bx.mk g1
        clear g1 g2 hown hle hln))
    go_roundw
    case rel=>exact ⟨k+1,_,by have:=Hlt.out;omega,by go_num,rfl,HO2,HB2⟩
    case measure=>have:=Hlt.out;simp [intOf];omega
  · obtain rfl:k=K:=by omega
    obtain ⟨ha,cap,rfl,hsl⟩:=fin.out rfl
    have hcv:=conv_str (P:=Tryd.prog) 75 5 9 Tryd.underlying75 Tryd.underlying5 Tryd.underlying9 hsl (textB c n.toNat).length cap rfl
    by_cases h0:(k:Int)<n
    · have t0:decide ((k:Int)<n)=true:=by simpa using h0
      have hk81:k=8100:=by have:=HK.out;omega
      have t1:decide ((k:Int)<8100)=false:=by simp;omega
      have t1b:decide (k<8100)=false:=by simp;omega
      clear hsl hk81 h0
      go_wp2_with fail
      go_ret
      exact ⟨rfl,HB.out⟩
    · have t0:decide ((k:Int)<n)=false:=by simpa using h0
      clear hsl h0
      go_wp2_with fail
      go_ret
      exact ⟨rfl,HB.out⟩
end
section
open Go.RowKit Go.ChangeShapes Go.WideShapes
section
variable {H:Type} {enc:TypeId × Value→H} {w:World} {base:Nat} {spare:Nat→Bool} {held:Bool} {fuel:Nat} {x:DataW H × List MemPlace}
end
structure StB where
 kind:Int
 n:Int
 fill:Int
 sa:Option Addr
 sc:Nat
 sizes:List Int
def StB.cells (s:StB):List Value:=[.int .i64 s.kind,.int .i64 s.n,.int .u8 s.fill,.slice s.sa s.sizes.length s.sc]
def StB.agg (s:StB):Value:=.agg #[.int .i64 s.kind,.int .i64 s.n,.int .u8 s.fill,.slice s.sa s.sizes.length s.sc]
structure StB.Ok (w:World) (s:StB):Prop where
 kind : -9223372036854775808≤s.kind∧s.kind≤9223372036854775807
 n : -9223372036854775808≤s.n∧s.n≤9223372036854775807
 fill:0≤s.fill∧s.fill≤255
 sl:Sl w .i64 s.sa s.sizes
 i64 : ∀ x∈s.sizes,-9223372036854775808≤x∧x≤9223372036854775807
 len:s.sizes.length≤9223372036854775807
theorem StB.Ok.later {w w':World} {s:StB} (h:s.Ok w) (hb:Below w.heap.size w w'):s.Ok w':=⟨h.kind,h.n,h.fill,h.sl.below hb,h.i64,h.len⟩
def StsB (w:World) (a:Option Addr) (L:List StB):Prop := ∀ (i:Nat) (s:StB),L[i]? = some s → ∃ b off,a=some ⟨b,off,none⟩∧(∀ j u,s.cells[j]? = some u→w.cell? ⟨b,off+i * 4+j,none⟩=some u)∧s.Ok w
theorem StsB.later {w w':World} {a:Option Addr} {L:List StB} (h:StsB w a L) (hb:Below w.heap.size w w'):StsB w' a L:=fun i s hs=>by
 obtain ⟨b,off,e,hc,ho⟩:=h i s hs
 exact ⟨b,off,e,fun j u hu=>cell_later hb (hc j u hu),ho.later hb⟩
section
variable {H:Type} {enc:TypeId × Value→H} {w:World} {base:Nat} {held:Bool}
end
end
end Go.Proofs.YtajhkncolbgkbaaDoor
