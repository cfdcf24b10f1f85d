/- Rm2: joined by program, for one claim. -/
import Derived.Test.YtfcbajmjaifjlaaGreatM36
import Derived.Test.YtfcbajmjaifjlaaGreatM42
import Derived.Test.YtfcbajmjaifjlaaGreatM7
import Derived.Test.YtfcbajmjaifjlaaGreatM40
import Derived.Deep.CutRange
set_option linter.unusedVariables false
set_option linter.unusedSimpArgs false
section
namespace Go.Proofs.YtfcbajmjaifjlaaGreat
open Go.RowKit Go.Sort Go.Maps
open Oct
def mixL (zs xs:List Int) (k:Nat):List Int:=zs.take k++xs.drop k
theorem mixL_len {zs xs:List Int} {k:Nat} (h1:zs.length=64) (h2:xs.length=64) (hk:k≤64):(mixL zs xs k).length=64:=by unfold mixL;simp;omega
theorem mixL_get {zs xs:List Int} {k:Nat} (h1:zs.length=64) (hk:k<64):(mixL zs xs k)[k]? = xs[k]? := by
 unfold mixL
 rw [List.getElem?_append_right (by simp;omega),List.getElem?_drop]
 congr 1;simp;omega
theorem mixL_set {zs xs:List Int} {k:Nat} {x:Int} (h1:zs.length=64) (h2:xs.length=64) (hk:k<64) (hx:zs[k]? = some x):(mixL zs xs k).set k x=mixL zs xs (k+1):=by
 unfold mixL
 obtain ⟨hl,rfl⟩:=List.getElem?_eq_some_iff.1 hx
 rw [List.set_append_right _ _ (by simp;omega),List.length_take,Nat.min_eq_left (by omega),Nat.sub_self,List.take_succ_eq_append_getElem hl,List.drop_eq_getElem_cons (show k<xs.length by omega),List.set_cons_zero,List.append_assoc]
 rfl
theorem mixL_same {zs xs:List Int} {k:Nat} (h1:zs.length=64) (h2:xs.length=64) (hk:k<64) (hx:zs[k]? = some (xs.getD k 0)):mixL zs xs (k+1)=mixL zs xs k:=by
 rw [←mixL_set h1 h2 hk hx]
 have hg:=mixL_get (xs:=xs) h1 hk
 rw [List.getD_eq_getElem?_getD,List.getElem?_eq_getElem (show k<xs.length by omega)]
 rw [List.getElem?_eq_getElem (show k<xs.length by omega)] at hg
 apply List.ext_getElem?
 intro i
 rw [List.getElem?_set]
 by_cases e:k=i
 · subst e
   rw [if_pos rfl,if_pos (by rw [mixL_len h1 h2 (by omega)];omega),hg];rfl
 · rw [if_neg e]
structure MkI (w w6:World) (cb:Nat) (xv cv:Array Value) (v:Value) (zs:List Int) (wr:World):Prop where
 kx:Bk wr (w.heap.size+1) xv 164
 kc:Bk wr cb cv 25
 own:Own wr w6.heap.size 3 .i64 v zs
 bel:Below w.heap.size w wr
theorem MkI.later {w w6:World} {cb:Nat} {xv cv:Array Value} {v:Value} {zs:List Int} {wr w':World} (h:MkI w w6 cb xv cv v zs wr) (hb:Below wr.heap.size wr w'):MkI w w6 cb xv cv v zs w' :=
 ⟨h.kx.later hb,h.kc.later hb,h.own.below hb,h.bel.trans (hb.mono h.bel.size)⟩
set_option maxRecDepth 100000 in
set_option maxHeartbeats 4000000 in
theorem made_brick (κ a b c d e f cell q1 q2 q3 q4 q5 q6:Int) (ha:Option Addr) (hcp:Nat) (ys:List Int) (S S0 R:ByteArray) (ax ay az m:Int) (hSm:Small ⟨⟨ax,ay,az⟩,⟨ax+m,ay+m,az+m⟩⟩ 1048575) (hne:emptyB ⟨⟨ax,ay,az⟩,⟨ax+m,ay+m,az+m⟩⟩=false)
 (hA:emptyB (meetB ⟨⟨ax,ay,az⟩,⟨ax+m,ay+m,az+m⟩⟩ ⟨⟨a,b,c⟩,⟨d,e,f⟩⟩)=true→R=S0)
 (hP:emptyB (meetB ⟨⟨ax,ay,az⟩,⟨ax+m,ay+m,az+m⟩⟩ ⟨⟨a,b,c⟩,⟨d,e,f⟩⟩)=false→(⟨⟨ax,ay,az⟩,⟨ax+m,ay+m,az+m⟩⟩:Box)=⟨⟨a,b,c⟩,⟨d,e,f⟩⟩→κ=3→R=S)
 (hU:emptyB (meetB ⟨⟨ax,ay,az⟩,⟨ax+m,ay+m,az+m⟩⟩ ⟨⟨a,b,c⟩,⟨d,e,f⟩⟩)=false → ¬((⟨⟨ax,ay,az⟩,⟨ax+m,ay+m,az+m⟩⟩:Box)=⟨⟨a,b,c⟩,⟨d,e,f⟩⟩∧κ=3)→containsB ⟨⟨a,b,c⟩,⟨d,e,f⟩⟩ ⟨⟨ax,ay,az⟩,⟨ax+m,ay+m,az+m⟩⟩=true→κ=1→(0≤cell∧cell≤255)∧R=strOfNums (Tr.enc (.uni cell)))
 (hcub:Bx (∀ W,Calls Tryz.prog 35 #[.agg #[ax,ay,az],(2:Int)] W fun e w'=>e = .returned (.agg #[ax,ay,az,.int .i64 (ax+m),.int .i64 (ay+m),.int .i64 (az+m)])∧Below W.heap.size W w'))
 (xs zs:List Int) (hxl:xs.length=64) (hzl:zs.length=64) (hv:volB ⟨⟨ax,ay,az⟩,⟨ax+m,ay+m,az+m⟩⟩=64) (HX:GoodG ⟨⟨q1,q2,q3⟩,⟨q4,q5,q6⟩⟩ ys hcp)
 (hcel:Bx (∀ W,Calls Tryz.prog 168 #[.string S0] W fun e w' => ∃ v,e = .returned v∧Own w' W.heap.size 3 .i64 v xs∧Below W.heap.size W w'))
 (hbr:Bx (∀ a cap W,Sl W .i64 a zs→Calls Tryz.prog 151 #[.slice a 64 cap] W fun e w'=>e = .returned (.string (strOfNums (Tr.enc (Tr.mkBrick zs))))∧Below W.heap.size W w'))
 (hZ:emptyB (meetB ⟨⟨ax,ay,az⟩,⟨ax+m,ay+m,az+m⟩⟩ ⟨⟨a,b,c⟩,⟨d,e,f⟩⟩)=false → ¬((⟨⟨ax,ay,az⟩,⟨ax+m,ay+m,az+m⟩⟩:Box)=⟨⟨a,b,c⟩,⟨d,e,f⟩⟩∧κ=3) → ¬(containsB ⟨⟨a,b,c⟩,⟨d,e,f⟩⟩ ⟨⟨ax,ay,az⟩,⟨ax+m,ay+m,az+m⟩⟩=true∧κ=1)→R=strOfNums (Tr.enc (Tr.mkBrick zs)) ∧ ∀ k:Nat,k<64→zs[k]? = some (if inB (atB ⟨⟨ax,ay,az⟩,⟨ax+m,ay+m,az+m⟩⟩ (k:Int)) ⟨⟨a,b,c⟩,⟨d,e,f⟩⟩=true∧κ=1 then cell else if inB (atB ⟨⟨ax,ay,az⟩,⟨ax+m,ay+m,az+m⟩⟩ (k:Int)) ⟨⟨a,b,c⟩,⟨d,e,f⟩⟩=true∧κ=2 then cellG ⟨⟨q1,q2,q3⟩,⟨q4,q5,q6⟩⟩ ys (atB ⟨⟨ax,ay,az⟩,⟨ax+m,ay+m,az+m⟩⟩ (k:Int)) else xs.getD (k:Nat) 0)) (w:World) (hsl:Sl w .i64 ha ys) :
 Calls Tryz.prog 124 #[.string S0,.agg #[ax,ay,az],(2:Int),.agg #[.int .i64 κ,a,b,c,d,e,f,cell,q1,q2,q3,q4,q5,q6,.slice ha ys.length hcp,.string S]] w fun e' w'=>e' = .returned (.string R)∧Below w.heap.size w w':=by
 have hmee:=Bx.mk fun W=>ref_meet ax ay az (ax+m) (ay+m) (az+m) a b c d e f W
 generalize meetB ⟨⟨ax,ay,az⟩,⟨ax+m,ay+m,az+m⟩⟩ ⟨⟨a,b,c⟩,⟨d,e,f⟩⟩=M at *
 have hemp:=Bx.mk fun W=>ref_empty M.lo.x M.lo.y M.lo.z M.hi.x M.hi.y M.hi.z W
 rw [show (⟨⟨M.lo.x,M.lo.y,M.lo.z⟩,⟨M.hi.x,M.hi.y,M.hi.z⟩⟩:Box)=M from rfl] at hemp
 generalize emptyB M=em at *
 have hcon:=Bx.mk fun W=>ref_contains a b c d e f ax ay az (ax+m) (ay+m) (az+m) hSm W
 have hcv:containsB ⟨⟨a,b,c⟩,⟨d,e,f⟩⟩ ⟨⟨ax,ay,az⟩,⟨ax+m,ay+m,az+m⟩⟩=(volB (meetB ⟨⟨a,b,c⟩,⟨d,e,f⟩⟩ ⟨⟨ax,ay,az⟩,⟨ax+m,ay+m,az+m⟩⟩) == volB ⟨⟨ax,ay,az⟩,⟨ax+m,ay+m,az+m⟩⟩):=by rw [vol_meet hne];unfold containsB;rw [hne,Bool.false_or]
 rw [←hcv] at hcon
 clear hcv hne
 generalize containsB ⟨⟨a,b,c⟩,⟨d,e,f⟩⟩ ⟨⟨ax,ay,az⟩,⟨ax+m,ay+m,az+m⟩⟩=ins at *
 have heqb:=Bx.mk fun W:World=>eql_box ax ay az (ax+m) (ay+m) (az+m) a b c d e f W
 have hA:=Bx.mk hA
 have hP:=Bx.mk hP
 have hU:=Bx.mk hU
 have hZ:=Bx.mk hZ
 have HXL:=Bx.mk hxl
 have HZL:=Bx.mk hzl
 have HV:=Bx.mk hv
 have HGX:=Bx.mk HX
 have HSM:=Bx.mk hSm
 have HSL:=Bx.mk hsl
 clear hSm hxl hzl hv HX hsl
 go_enter Tryz.func124,Tryz.ntmps124
 go_upto_region 1 with fail
 generalize hW:World.alloc (World.alloc w _) _=W
 have hSz:W.heap.size=w.heap.size+1+1:=by rw [←hW];simp
 have hB:=bl2 hW
 have kp:Bk W w.heap.size #[ax,ay,az] 23:=bk1 hW
 have kx:Bk W (w.heap.size+1) #[.int .i64 κ,a,b,c,d,e,f,cell,q1,q2,q3,q4,q5,q6,.slice ha ys.length hcp,.string S] 164:=bk0 hW
 clear hW
 obtain ⟨cp0,cp1,cp2⟩:=kp.c3
 go_wp2_with fail
 refine (hcub.out _).mono ?_
 rintro _ w2 ⟨rfl,hb⟩
 have hB2:=hB.trans (hb.mono hB.size)
 have hs2:=hb.size
 replace kp:=kp.later hb
 replace kx:=kx.later hb
 clear cp0 cp1 cp2 hb hB
 go_upto_region 2 with fail
 generalize hW:World.alloc w2 _=W
 have hb:=bl1 hW
 have kc:Bk W w2.heap.size #[ax,ay,az,.int .i64 (ax+m),.int .i64 (ay+m),.int .i64 (az+m)] 25:=bk0 hW
 clear hW
 replace kp:=kp.later hb
 replace kx:=kx.later hb
 have hB3:=hB2.trans (hb.mono hB2.size)
 have hcb:w.heap.size+1+1≤w2.heap.size:=by omega
 clear hb hB2 hs2 hSz
 generalize w2.heap.size=cb at *
 obtain ⟨c0,c1,c2,c3,c4,c5⟩:=kc.c6
 have x1:=kx.cell 1 rfl
 have x2:=kx.cell 2 rfl
 have x3:=kx.cell 3 rfl
 have x4:=kx.cell 4 rfl
 have x5:=kx.cell 5 rfl
 have x6:=kx.cell 6 rfl
 go_wp2_with fail
 refine (hmee.out _).mono ?_
 rintro _ w4 ⟨rfl,hb⟩
 replace kp:=kp.later hb
 replace kx:=kx.later hb
 replace kc:=kc.later hb
 have hB4:=hB3.trans (hb.mono hB3.size)
 clear hb hB3 c0 c1 c2 c3 c4 c5 x1 x2 x3 x4 x5 x6
 go_wp2_with fail
 refine (hemp.out _).mono ?_
 rintro _ w5 ⟨rfl,hb⟩
 have KP:=Bx.mk (kp.later hb)
 have KX:=Bx.mk (kx.later hb)
 have KC:=Bx.mk (kc.later hb)
 have HB:=Bx.mk (hB4.trans (hb.mono hB4.size))
 clear hb hB4 kp kx kc hemp hmee hcub
 cases em with
 | true =>
   go_wp2_with fail
   go_ret
   exact ⟨by rw [hA.out (by first | rfl | trivial)];rfl,HB.out⟩
 | false =>
 go_upto_region 5 with fail
 by_cases hq:(⟨⟨ax,ay,az⟩,⟨ax+m,ay+m,az+m⟩⟩:Box)=⟨⟨a,b,c⟩,⟨d,e,f⟩⟩∧κ=3
 · have hR:Bx (R=S):=⟨hP.out (by first | rfl | trivial) hq.1 hq.2⟩
   have heq : ∀ W:World,(binOp .eql 25 (.agg #[ax,ay,az,.int .i64 (ax+m),.int .i64 (ay+m),.int .i64 (az+m)]) (.agg #[a,b,c,d,e,f])).run Tryz.prog W = .ok (.bool true) W:=fun W=>by rw [heqb.out,decide_eq_true hq.1]
   have t1:(κ == 3)=true:=by simp [hq.2]
   clear hq heqb
   obtain ⟨c0,c1,c2,c3,c4,c5⟩:=KC.out.c6
   obtain ⟨x0,x1,x2,x3,x4,x5,x6,x7,x8,x9,x10,x11⟩:=KX.out.c12
   have x12:=KX.out.cell 12 rfl
   have x13:=KX.out.cell 13 rfl
   have x14:=KX.out.cell 14 rfl
   have x15:=KX.out.cell 15 rfl
   go_wp2_with fail
   go_ret
   exact ⟨by rw [hR.out];rfl,HB.out⟩
 go_cut [37] from 29 to 37 (fun v wx=>v = .bool false∧wx=w5)
 case first =>
  obtain ⟨c0,c1,c2,c3,c4,c5⟩:=KC.out.c6
  obtain ⟨x0,x1,x2,x3,x4,x5,x6⟩:=KX.out.c7
  by_cases he:(⟨⟨ax,ay,az⟩,⟨ax+m,ay+m,az+m⟩⟩:Box)=⟨⟨a,b,c⟩,⟨d,e,f⟩⟩
  · have heq : ∀ W:World,(binOp .eql 25 (.agg #[ax,ay,az,.int .i64 (ax+m),.int .i64 (ay+m),.int .i64 (az+m)]) (.agg #[a,b,c,d,e,f])).run Tryz.prog W = .ok (.bool true) W:=fun W=>by rw [heqb.out,decide_eq_true he]
    have t1:(κ == 3)=false:=by simp;exact fun h=>hq ⟨he,h⟩
    clear hq heqb he
    go_wp2_with fail
    go_meet
    exact ⟨rfl,rfl⟩
  · have heq : ∀ W:World,(binOp .eql 25 (.agg #[ax,ay,az,.int .i64 (ax+m),.int .i64 (ay+m),.int .i64 (az+m)]) (.agg #[a,b,c,d,e,f])).run Tryz.prog W = .ok (.bool false) W:=fun W=>by rw [heqb.out,decide_eq_false he]
    clear hq heqb he
    go_wp2_with fail
    go_meet
    exact ⟨rfl,rfl⟩
 case rest =>
 obtain ⟨rfl,hw⟩:=hcut
 replace hw:=hw.symm
 subst hw
 have Hq:=Bx.mk hq
 clear hq heqb hP hA
 go_upto_region 7 with fail
 obtain ⟨c0,c1,c2,c3,c4,c5⟩:=KC.out.c6
 have x1:=KX.out.cell 1 rfl
 have x2:=KX.out.cell 2 rfl
 have x3:=KX.out.cell 3 rfl
 have x4:=KX.out.cell 4 rfl
 have x5:=KX.out.cell 5 rfl
 have x6:=KX.out.cell 6 rfl
 go_wp2_with fail
 refine (hcon.out _).mono ?_
 rintro _ w6 ⟨rfl,hb⟩
 replace KP:=Bx.mk (KP.out.later hb)
 replace KX:=Bx.mk (KX.out.later hb)
 replace KC:=Bx.mk (KC.out.later hb)
 replace HB:=Bx.mk (HB.out.trans (hb.mono HB.out.size))
 have hle6:=hb.size
 clear hb c0 c1 c2 c3 c4 c5 x1 x2 x3 x4 x5 x6 hcon
 go_upto_region 8 with fail
 by_cases hu:ins=true∧κ=1
 · obtain ⟨hcl,hR⟩:=hU.out (by first | rfl | trivial) Hq.out hu.1 hu.2
   have HR:=Bx.mk hR
   have huni:=Bx.mk fun W=>ref9_uniform cell hcl W
   obtain ⟨rfl,hk⟩:=hu
   have t1:(κ == 1)=true:=by simp [hk]
   have x0:=KX.out.cell 0 rfl
   have x7:=KX.out.cell 7 rfl
   clear hk hR hcl hU
   go_wp2_with fail
   refine (huni.out _).mono ?_
   rintro _ w7 ⟨rfl,hb⟩
   have HB7:=Bx.mk (HB.out.trans (hb.mono HB.out.size))
   clear hb
   go_wp2_with fail
   go_ret
   exact ⟨by rw [HR.out];rfl,HB7.out⟩
 go_cut [49] from 44 to 49 (fun v wx=>v = .bool false∧wx=w6)
 case first =>
  have x0:=KX.out.cell 0 rfl
  cases ins with
  | true =>
    have t1:(κ == 1)=false:=by simp;exact fun h=>hu ⟨rfl,h⟩
    clear hu
    go_wp2_with fail
    go_meet
    exact ⟨rfl,rfl⟩
  | false =>
    clear hu
    go_wp2_with fail
    go_meet
    exact ⟨rfl,rfl⟩
 case rest =>
 obtain ⟨rfl,hw⟩:=hcut
 replace hw:=hw.symm
 subst hw
 have Hu:=Bx.mk hu
 clear hu hU
 go_upto_region 10 with fail
 have t10:((2:Int) == 2)=true:=by decide
 obtain ⟨hR,hzk⟩:=hZ.out (by first | rfl | trivial) Hq.out Hu.out
 have HR:=Bx.mk hR
 have HZK:=Bx.mk hzk
 clear hR hzk hZ Hq Hu
 go_wp2_with fail
 refine (hcel.out _).mono ?_
 rintro _ w7 ⟨v,rfl,ho,hb⟩
 obtain ⟨g,cap,rfl,-,-,-,-,-⟩:=ho.at (by rw [HXL.out];decide)
 rw [HXL.out] at ho ⊢
 have hcb6:w.heap.size≤w6.heap.size:=HB.out.size
 have hcb7:w.heap.size+1+1≤w6.heap.size:=Nat.lt_of_lt_of_le KX.out.lt (Nat.le_refl _)
 have hcb8:cb<w6.heap.size:=KC.out.lt
 have HI:Bx (MkI w w6 cb #[.int .i64 κ,a,b,c,d,e,f,cell,q1,q2,q3,q4,q5,q6,.slice ha ys.length hcp,.string S] #[ax,ay,az,.int .i64 (ax+m),.int .i64 (ay+m),.int .i64 (az+m)] (.slice (some ⟨g,0,none⟩) 64 cap) (mixL zs xs 0) w7):=⟨⟨KX.out.later hb,KC.out.later hb,by unfold mixL;simpa using ho,HB.out.trans (hb.mono HB.out.size)⟩⟩
 clear ho hb KX KC KP HB hcel hle6 t10
 go_wp2_with fail
 go_loopw [13] (fun v13 wr => ∃ k:Nat,k≤64∧v13 = .int .i64 k∧Bx (MkI w w6 cb #[.int .i64 κ,a,b,c,d,e,f,cell,q1,q2,q3,q4,q5,q6,.slice ha ys.length hcp,.string S] #[ax,ay,az,.int .i64 (ax+m),.int .i64 (ay+m),.int .i64 (az+m)] (.slice (some ⟨g,0,none⟩) 64 cap) (mixL zs xs k) wr)) (fun i _=>64 - (intOf i).toNat)
 case atStart=>exact ⟨0,Nat.zero_le _,rfl,HI⟩
 case round =>
  clear HI
  obtain ⟨k,hk,rfl,HI⟩:=hrel
  by_cases hlt:k<64
  · have t0:decide ((k:Int)<64)=true:=by simp;omega
    have hzk:=HZK.out k hlt
    have hat:=Bx.mk fun W=>ref_at_yes ax ay az (ax+m) (ay+m) (az+m) (k:Int) HSM.out ⟨by omega,by rw [HV.out];omega⟩ W
    obtain ⟨⟨px,py,pz⟩,hp⟩ : ∃ p,p=atB ⟨⟨ax,ay,az⟩,⟨ax+m,ay+m,az+m⟩⟩ (k:Int):=⟨_,rfl⟩
    rw [←hp] at hat hzk
    clear hp
    have hin:=Bx.mk fun W=>ref_in px py pz a b c d e f W
    have hget:=Bx.mk fun W h=>ref_get q1 q2 q3 q4 q5 q6 px py pz ha hcp ys HGX.out W h
    obtain ⟨inn,hinn⟩ : ∃ inn,inB ⟨px,py,pz⟩ ⟨⟨a,b,c⟩,⟨d,e,f⟩⟩=inn:=⟨_,rfl⟩
    rw [hinn] at hin hzk
    clear hinn
    have HZ:=Bx.mk hzk
    clear hzk
    have b1:(0:Int)≤(k:Int):=by omega
    have b2:(k:Int)<64:=by omega
    obtain ⟨c0,c1,c2,c3,c4,c5⟩:=HI.out.kc.c6
    go_wp2_with fail
    refine (hat.out _).mono ?_
    rintro _ w8 ⟨rfl,hb⟩
    replace HI:=Bx.mk (HI.out.later hb)
    clear hb c0 c1 c2 c3 c4 c5 hat
    go_upto_region 16 with fail
    generalize hW:World.alloc w8 _=W9
    have hb:=bl1 hW
    have kq:Bk W9 w8.heap.size #[px,py,pz] 23:=bk0 hW rfl
    clear hW
    have HI7:=Bx.mk (HI.out.later hb)
    clear hb HI
    generalize w8.heap.size=pb at *
    obtain ⟨p0,p1,p2⟩:=kq.c3
    have x1:=HI7.out.kx.cell 1 rfl
    have x2:=HI7.out.kx.cell 2 rfl
    have x3:=HI7.out.kx.cell 3 rfl
    have x4:=HI7.out.kx.cell 4 rfl
    have x5:=HI7.out.kx.cell 5 rfl
    have x6:=HI7.out.kx.cell 6 rfl
    go_wp2_with fail
    refine (hin.out _).mono ?_
    rintro _ w10 ⟨rfl,hb⟩
    have HI8:=Bx.mk (HI7.out.later hb)
    have KQ:=Bx.mk (kq.later hb)
    clear hb kq HI7 p0 p1 p2 x1 x2 x3 x4 x5 x6 hin
    have x0:=HI8.out.kx.cell 0 rfl
    cases inn with
    | false =>
      have HJ:Bx (MkI w w6 cb #[.int .i64 κ,a,b,c,d,e,f,cell,q1,q2,q3,q4,q5,q6,.slice ha ys.length hcp,.string S] #[ax,ay,az,.int .i64 (ax+m),.int .i64 (ay+m),.int .i64 (az+m)] (.slice (some ⟨g,0,none⟩) 64 cap) (mixL zs xs (k+1)) w10):=⟨by
       have hh:=HI8.out
       rw [mixL_same HZL.out HXL.out hlt (by simpa using HZ.out)];exact hh⟩
      clear HI8 HZ x0
      go_wp2_with fail
      go_roundw
      case rel=>exact ⟨k+1,by omega,by go_num,HJ⟩
      case measure=>simp [intOf];omega
    | true =>
      by_cases k1:κ=1
      · have t1:(κ == 1)=true:=by simp [k1]
        have t2:(κ == 2)=false:=by simp [k1]
        have hz2:zs[k]? = some cell:=by have:=HZ.out;simpa [k1] using this
        have HZ2:=Bx.mk hz2
        have x7:=HI8.out.kx.cell 7 rfl
        have hor:=HI8.out.own.at (by rw [mixL_len HZL.out HXL.out (by omega)];decide)
        rw [mixL_len HZL.out HXL.out (by omega)] at hor
        obtain ⟨g',cap',hv',-,hgs,h3,h4,h5⟩:=hor
        injection hv' with hv1 hv2 hv3
        injection hv1 with hv1
        injection hv1 with hv1
        subst hv1 hv3
        obtain ⟨old,hold⟩ : ∃ x,(mixL zs xs k)[k]? = some x:=⟨_,List.getElem?_eq_getElem (by rw [mixL_len HZL.out HXL.out (by omega)];omega)⟩
        have hcell:=h3 k old hold
        have hfr:=h4 k
        have h6:=h5 k cell
        rw [mixL_set HZL.out HXL.out hlt HZ2.out] at h6
        have hgl:=(HI8.out.own.lt g rfl).1
        have HJ:Bx (MkI w w6 cb #[.int .i64 κ,a,b,c,d,e,f,cell,q1,q2,q3,q4,q5,q6,.slice ha ys.length hcp,.string S] #[ax,ay,az,.int .i64 (ax+m),.int .i64 (ay+m),.int .i64 (az+m)] (.slice (some ⟨g,0,none⟩) 64 cap) (mixL zs xs (k+1)) (w10.setCell ⟨g,k,none⟩ (.int .i64 cell))):=⟨⟨HI8.out.kx.other ⟨g,k,none⟩ _ (by show w.heap.size+1 ≠ g;omega),HI8.out.kc.other ⟨g,k,none⟩ _ (by show cb ≠ g;omega),h6,HI8.out.bel.setCell (by show w.heap.size≤g;omega) _⟩⟩
        clear h3 h4 h5 h6 hold hgl
        have y0:=HJ.out.kx.cell 0 rfl
        clear k1 hz2 HI8 HZ
        go_wp2_with fail
        go_roundw
        case rel=>exact ⟨k+1,by omega,by go_num,HJ⟩
        case measure=>simp [intOf];omega
      · by_cases k2:κ=2
        · have t1:(κ == 1)=false:=by simp [k2]
          have t2:(κ == 2)=true:=by simp [k2]
          have hz2:zs[k]? = some (cellG ⟨⟨q1,q2,q3⟩,⟨q4,q5,q6⟩⟩ ys ⟨px,py,pz⟩):=by have:=HZ.out;simpa [k2] using this
          have HZ2:=Bx.mk hz2
          clear k1 k2 hz2 HZ
          generalize cellG ⟨⟨q1,q2,q3⟩,⟨q4,q5,q6⟩⟩ ys ⟨px,py,pz⟩=gv at *
          obtain ⟨p0,p1,p2⟩:=KQ.out.c3
          have x8:=HI8.out.kx.cell 8 rfl
          have x9:=HI8.out.kx.cell 9 rfl
          have x10:=HI8.out.kx.cell 10 rfl
          have x11:=HI8.out.kx.cell 11 rfl
          have x12:=HI8.out.kx.cell 12 rfl
          have x13:=HI8.out.kx.cell 13 rfl
          have x14:=HI8.out.kx.cell 14 rfl
          go_wp2_with fail
          refine (hget.out _ (HSL.out.below HI8.out.bel)).mono ?_
          rintro _ w11 ⟨rfl,hb⟩
          replace HI8:=Bx.mk (HI8.out.later hb)
          clear hb x0 p0 p1 p2 x8 x9 x10 x11 x12 x13 x14
          have hor:=HI8.out.own.at (by rw [mixL_len HZL.out HXL.out (by omega)];decide)
          rw [mixL_len HZL.out HXL.out (by omega)] at hor
          obtain ⟨g',cap',hv',-,hgs,h3,h4,h5⟩:=hor
          injection hv' with hv1 hv2 hv3
          injection hv1 with hv1
          injection hv1 with hv1
          subst hv1 hv3
          obtain ⟨old,hold⟩ : ∃ x,(mixL zs xs k)[k]? = some x:=⟨_,List.getElem?_eq_getElem (by rw [mixL_len HZL.out HXL.out (by omega)];omega)⟩
          have hcell:=h3 k old hold
          have hfr:=h4 k
          have h6:=h5 k gv
          rw [mixL_set HZL.out HXL.out hlt HZ2.out] at h6
          have hgl:=(HI8.out.own.lt g rfl).1
          have HJ:Bx (MkI w w6 cb #[.int .i64 κ,a,b,c,d,e,f,cell,q1,q2,q3,q4,q5,q6,.slice ha ys.length hcp,.string S] #[ax,ay,az,.int .i64 (ax+m),.int .i64 (ay+m),.int .i64 (az+m)] (.slice (some ⟨g,0,none⟩) 64 cap) (mixL zs xs (k+1)) (w11.setCell ⟨g,k,none⟩ (.int .i64 gv))):=⟨⟨HI8.out.kx.other ⟨g,k,none⟩ _ (by show w.heap.size+1 ≠ g;omega),HI8.out.kc.other ⟨g,k,none⟩ _ (by show cb ≠ g;omega),h6,HI8.out.bel.setCell (by show w.heap.size≤g;omega) _⟩⟩
          clear h3 h4 h5 h6 hold hgl
          clear HI8
          go_wp2_with fail
          go_roundw
          case rel=>exact ⟨k+1,by omega,by go_num,HJ⟩
          case measure=>simp [intOf];omega
        · have t1:(κ == 1)=false:=by simp [k1]
          have t2:(κ == 2)=false:=by simp [k2]
          have HJ:Bx (MkI w w6 cb #[.int .i64 κ,a,b,c,d,e,f,cell,q1,q2,q3,q4,q5,q6,.slice ha ys.length hcp,.string S] #[ax,ay,az,.int .i64 (ax+m),.int .i64 (ay+m),.int .i64 (az+m)] (.slice (some ⟨g,0,none⟩) 64 cap) (mixL zs xs (k+1)) w10):=⟨by
           have hh:=HI8.out
           rw [mixL_same HZL.out HXL.out hlt (by have:=HZ.out;simpa [k1,k2] using this)];exact hh⟩
          clear HI8 HZ k1 k2
          go_wp2_with fail
          go_roundw
          case rel=>exact ⟨k+1,by omega,by go_num,HJ⟩
          case measure=>simp [intOf];omega
  · obtain rfl:k=64:=by omega
    have t0:decide (((64:Nat):Int)<64)=false:=by decide
    have hfull:mixL zs xs 64=zs:=by unfold mixL;rw [List.take_of_length_le (by rw [HZL.out];exact Nat.le_refl _),List.drop_eq_nil_of_le (by rw [HXL.out];exact Nat.le_refl _),List.append_nil]
    have ho:=HI.out.own
    rw [hfull] at ho
    obtain ⟨pa,pc,hpe,hsl⟩:=ho.form
    injection hpe with e1 e2 e3
    subst e1
    have Hs2:=Bx.mk hsl
    have HBe:=Bx.mk HI.out.bel
    clear ho hsl hfull HI e2 e3
    go_wp2_with fail
    refine (hbr.out _ _ _ Hs2.out).mono ?_
    rintro _ w12 ⟨rfl,hb⟩
    have HBf:=Bx.mk (HBe.out.trans (hb.mono HBe.out.size))
    clear hb
    go_wp2_with fail
    go_ret
    exact ⟨by rw [HR.out];rfl,HBf.out⟩
end Go.Proofs.YtfcbajmjaifjlaaGreat
end
