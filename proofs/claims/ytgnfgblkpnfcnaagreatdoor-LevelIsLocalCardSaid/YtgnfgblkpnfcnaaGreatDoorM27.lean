/- Mtc, Lbu, Lvp, Lvq, Lvb: joined by program, for one claim. -/
import Derived.Test.YtgnfgblkpnfcnaaGreatDoorM26
import Derived.Test.YtgnfgblkpnfcnaaGreatDoorM22
import Derived.Test.YtgnfgblkpnfcnaaGreatDoorM4
import Derived.Laws.BitsLemmas
import Derived.IntWalk
set_option linter.unusedVariables false
set_option linter.unusedSimpArgs false
namespace Go.Proofs.YtgnfgblkpnfcnaaGreatDoor
section
open Go.RowKit Go.Sort Go.Maps
open Oct
noncomputable def txt (n:Nat) (F:Pt→Int):ByteArray:=strOfNums (Tr.enc (trF n F))
noncomputable def idn (ts:List Tr) (n:Nat) (F:Pt→Int):Int:=(idT ts (trF n F):Int)
noncomputable def addn (n:Nat) (F:Pt→Int) (ts:List Tr):List Tr:=Tr.add (trF n F) ts
theorem enc_trF {n:Nat} {F:Pt→Int} (hn:n≤12) (hF : ∀ p,0≤F p∧F p≤255):(Tr.enc (trF n F)).length≤1000000000000000:=by
 have h:=Tr.enc_small n (trF n F) (wf_can hF n _ (by omega)) (small_can F n _)
 have h8:8 ^ n≤8 ^ 12:=Nat.pow_le_pow_right (by omega) hn
 omega
theorem m_from_fits (w:World) (sb:Nat) (a b c d e f:Int) (ha:Option Addr) (hcp:Nat) (xs:List Int) (n:Nat) (hn:n≤12) (hsl:Sl w .i64 ha xs) (HX:GoodG ⟨⟨a,b,c⟩,⟨d,e,f⟩⟩ xs hcp) (hV:validG ⟨⟨a,b,c⟩,⟨d,e,f⟩⟩ xs=true) (hC:emptyB ⟨⟨a,b,c⟩,⟨d,e,f⟩⟩=true∨containsB ⟨⟨0,0,0⟩,⟨2 ^ (n+2),2 ^ (n+2),2 ^ (n+2)⟩⟩ ⟨⟨a,b,c⟩,⟨d,e,f⟩⟩=true)
 (Far:Nat→Prop) (hfx:xs ≠ [] → ∀ b,ha.map (·.block)=some b→Far b) (most:Int) (hFar : ∀ k,Far k→k<w.heap.size) (hS:StoreIs w Far sb most []) (hfit:Tr.Fits most [] (addn n (cellG ⟨⟨a,b,c⟩,⟨d,e,f⟩⟩ xs) [])) :
 Calls Tryz.prog 38 #[.pointer (some ⟨sb,0,none⟩),.agg #[a,b,c,d,e,f,.slice ha xs.length hcp],.int .i64 ((n:Int)+2)] w fun E w'=>E=ret2 (idn (addn n (cellG ⟨⟨a,b,c⟩,⟨d,e,f⟩⟩ xs) []) n (cellG ⟨⟨a,b,c⟩,⟨d,e,f⟩⟩ xs)) 0∧StoreIs w' Far sb most (addn n (cellG ⟨⟨a,b,c⟩,⟨d,e,f⟩⟩ xs) [])∧Keeps Far w w' :=
 (from_yes w sb a b c d e f ha hcp xs n hn hsl HX hV hC Far hfx most [] good_nil (by simp) hFar hS).mono fun _ _ h=>h.fit hfit
theorem m_ref_yes (a b c d e f:Int) (ha:Option Addr) (hcp:Nat) (xs:List Int) (hl:xs.length≤300) (n:Nat) (hn:n≤12) (HX:GoodG ⟨⟨a,b,c⟩,⟨d,e,f⟩⟩ xs hcp) (hE:fromE ⟨⟨a,b,c⟩,⟨d,e,f⟩⟩ xs ((n:Int)+2)=0) (w:World) (hsl:Sl w .i64 ha xs) :
 Calls Tryz.prog 10 #[.agg #[a,b,c,d,e,f,.slice ha xs.length hcp],.int .i64 ((n:Int)+2)] w fun e' w'=>e' = .returned (.tuple #[.string (txt n (cellG ⟨⟨a,b,c⟩,⟨d,e,f⟩⟩ xs)),(0:Int)])∧Below w.heap.size w w' :=
 ref9_from_yes a b c d e f ha hcp xs hl n hn HX hE w hsl
theorem m_add (n:Nat) (F:Pt→Int) (hn:n≤12) (hF : ∀ p,0≤F p∧F p≤255) (ts:List Tr) (hG:Good ts) (hl:(addn n F ts).length≤100000000) (w:World) (B:Nat) (v:Value) (hB:B≤w.heap.size) (hown:Ownv w B 9 v (encs ts)) :
 Calls Tryz.prog 31 #[v,.string (txt n F)] w fun e w' => ∃ v',e = .returned v'∧Ownv w' B 9 v' (encs (addn n F ts))∧Added w w' v v' ts.length :=
 ref9_add (trF n F) (wf_can hF n _ (by omega)) (enc_trF hn hF) ts (good_wf hG) hl w B v hB hown
theorem m_set_fits (w:World) (Far:Nat→Prop) (sb:Nat) (most:Int) (ts:List Tr) (n:Nat) (f:Pt→Int) (hn:n≤12) (hG:Good ts) (hlen:ts.length≤1000000000) (ht:trF n f∈ts) (px py pz c:Int) (hok:inB ⟨px,py,pz⟩ (cubeB (2 ^ (n+2)))=true∧0≤c∧c≤255) (hfit:Tr.Fits most ts (addn n (Tr.upd f ⟨px,py,pz⟩ c) ts)) (hFar : ∀ k,Far k→k<w.heap.size) (hS:StoreIs w Far sb most ts) :
 Calls Tryz.prog 33 #[.pointer (some ⟨sb,0,none⟩),.int .i64 (idn ts n f),.int .i64 ((n:Int)+2),.agg #[px,py,pz],c] w fun e w'=>e=ret2 (idn (addn n (Tr.upd f ⟨px,py,pz⟩ c) ts) n (Tr.upd f ⟨px,py,pz⟩ c)) 0∧StoreIs w' Far sb most (addn n (Tr.upd f ⟨px,py,pz⟩ c) ts)∧Keeps Far w w' :=
 set_fits w Far sb most ts n f hn hG hlen ht px py pz c hok hfit hFar hS
theorem m_set_no (w:World) (Far:Nat→Prop) (sb:Nat) (most:Int) (ts:List Tr) (n:Nat) (hn:n≤12) (id px py pz c:Int) (h : ¬(inB ⟨px,py,pz⟩ (cubeB (2 ^ (n+2)))=true∧0≤c∧c≤255)) (hS:StoreIs w Far sb most ts) :
 Calls Tryz.prog 33 #[.pointer (some ⟨sb,0,none⟩),id,.int .i64 ((n:Int)+2),.agg #[px,py,pz],c] w fun e w'=>e=ret2 0 1∧StoreIs w' Far sb most ts∧Keeps Far w w' :=
 (set_no w sb n hn id px py pz c h).mono fun _ _ ⟨h1,h2⟩=>⟨h1,hS.later h2,Keeps.below h2⟩
theorem addn_good {n:Nat} {F:Pt→Int} {ts:List Tr} (hn:n≤12) (hF:FnC n F) (hG:Good ts):Good (addn n F ts):=good_fn hn hF hG
theorem addn_mem (n:Nat) (F:Pt→Int) (ts:List Tr):trF n F∈addn n F ts:=Tr.mem_add _ _
theorem addn_pre (n:Nat) (F:Pt→Int) (ts:List Tr):ts <+: addn n F ts:=Tr.add_prefix _ _
theorem addn_len {n:Nat} {F:Pt→Int} {ts:List Tr} (hn:n≤12) {p:Pt} (hI:inB p (cubeB (2 ^ (n+2)))=true) {c:Int} (hc:0≤c∧c≤255) (hG:Good ts) (ht:trF n F∈ts):(addn n (Tr.upd F p c) ts).length≤ts.length+13:=len_fn hn hI hc hG ht
theorem addn_few {b:Box} {xs:List Int} {hcp n:Nat} (HX:GoodG b xs hcp) (hn:n≤12):(addn n (cellG b xs) []).length≤3901:=by
 have:=can_few HX hn good_nil
 rwa [List.length_nil,Nat.zero_add] at this
end
section
open Go.RowKit Go.Sort Go.Maps
open Oct
set_option maxRecDepth 100000 in
set_option maxHeartbeats 1000000 in
theorem built12_big (a b c d e f dd room:Int) (ha:Option Addr) (hcp nl:Nat) (hl:300<nl) (w:World) :
 Calls Tryz.prog 9 #[.agg #[a,b,c,d,e,f,.slice ha nl hcp],dd,room] w fun e' w'=>e' = .returned (.tuple #[.pointer none,(0:Int),.bool false])∧Below w.heap.size w w':=by
 have t0:decide ((nl:Int) > 300)=true:=by simp;omega
 clear hl
 go_enter Tryz.func9,Tryz.ntmps9
 go_wp2_with fail
 exact bodyPost_ret (v:=.tuple #[.pointer none,(0:Int),.bool false]) (by simp [results,Tryz.results9,go_sem]) rfl ⟨rfl,(Below.refl _ _).alloc (Nat.le_refl _) _⟩
set_option maxRecDepth 100000 in
set_option maxHeartbeats 1000000 in
theorem built12_err (a b c d e f dd room:Int) (ha:Option Addr) (hcp:Nat) (xs:List Int) (hl:xs.length≤300) (hr:0≤room∧room≤100000) (hE:fromE ⟨⟨a,b,c⟩,⟨d,e,f⟩⟩ xs dd ≠ 0) (w:World) (hsl:Sl w .i64 ha xs) :
 Calls Tryz.prog 9 #[.agg #[a,b,c,d,e,f,.slice ha xs.length hcp],dd,room] w fun e' w'=>e' = .returned (.tuple #[.pointer none,(0:Int),.bool false])∧Below w.heap.size w w':=by
 have hrf:=Bx.mk fun W h=>ref9_from_no a b c d e f ha hcp xs hl dd hE W h
 have t0:decide ((xs.length:Int) > 300)=false:=by simp;omega
 have t1:decide (room<0)=false:=by simp;omega
 have t2:decide (room > 100000)=false:=by simp;omega
 have t3:(fromE ⟨⟨a,b,c⟩,⟨d,e,f⟩⟩ xs dd != 0)=true:=by simpa using hE
 have HSL:=Bx.mk hsl
 clear hE hsl hl hr
 generalize fromE ⟨⟨a,b,c⟩,⟨d,e,f⟩⟩ xs dd=er at *
 go_enter Tryz.func9,Tryz.ntmps9
 go_upto_region 1 with fail
 generalize hW:World.alloc w _=W
 have hB:=bl1 hW
 have kg:Bk W w.heap.size #[a,b,c,d,e,f,.slice ha xs.length hcp] 28:=bk0 hW
 clear hW
 obtain ⟨c0,c1,c2,c3,c4,c5,c6⟩:=kg.c7
 go_wp2_with fail
 refine (hrf.out _ (HSL.out.below hB)).mono ?_
 rintro _ w2 ⟨rfl,hb2⟩
 have HB:=Bx.mk (hB.trans (hb2.mono hB.size))
 clear hb2 hB kg c0 c1 c2 c3 c4 c5 c6
 go_wp2_with fail
 exact bodyPost_ret (v:=.tuple #[.pointer none,(0:Int),.bool false]) (by simp [results,Tryz.results9,go_sem]) rfl ⟨rfl,HB.out⟩
set_option maxRecDepth 100000 in
set_option maxHeartbeats 1000000 in
theorem built12_yes (room:Nat) (hroom:room≤100000) (a b c d e f:Int) (ha:Option Addr) (hcp:Nat) (xs:List Int) (hl:xs.length≤300) (n:Nat) (hn:n≤12) (HX:GoodG ⟨⟨a,b,c⟩,⟨d,e,f⟩⟩ xs hcp) (hE:fromE ⟨⟨a,b,c⟩,⟨d,e,f⟩⟩ xs ((n:Int)+2)=0) (hV:validG ⟨⟨a,b,c⟩,⟨d,e,f⟩⟩ xs=true) (hC:emptyB ⟨⟨a,b,c⟩,⟨d,e,f⟩⟩=true∨containsB ⟨⟨0,0,0⟩,⟨2 ^ (n+2),2 ^ (n+2),2 ^ (n+2)⟩⟩ ⟨⟨a,b,c⟩,⟨d,e,f⟩⟩=true) (w:World) (hsl:Sl w .i64 ha xs) :
 Calls Tryz.prog 9 #[.agg #[a,b,c,d,e,f,.slice ha xs.length hcp],.int .i64 ((n:Int)+2),(room:Int)] w fun e' w' => ∃ sb,e' = .returned (.tuple #[.pointer (some ⟨sb,0,none⟩),.int .i64 (idn (addn n (cellG ⟨⟨a,b,c⟩,⟨d,e,f⟩⟩ xs) []) n (cellG ⟨⟨a,b,c⟩,⟨d,e,f⟩⟩ xs)),.bool true])∧StoreIs w' (fun k=>k<w.heap.size) sb (((addn n (cellG ⟨⟨a,b,c⟩,⟨d,e,f⟩⟩ xs) []).length:Int)+(room:Int)) (addn n (cellG ⟨⟨a,b,c⟩,⟨d,e,f⟩⟩ xs) [])∧Below w.heap.size w w':=by
 have hfx:xs ≠ [] → ∀ b,ha.map (·.block)=some b→b<w.heap.size:=fun hx b hb=>by
  obtain ⟨x,r,rfl⟩:=List.exists_cons_of_ne_nil hx
  obtain ⟨b',off,h1,h2⟩:=hsl 0 x rfl
  rw [h1] at hb
  simp only [Option.map_some,Option.some.injEq] at hb
  rw [←hb];exact World.block_lt_of_cell? w _ h2
 have hfit:Tr.Fits (((addn n (cellG ⟨⟨a,b,c⟩,⟨d,e,f⟩⟩ xs) []).length:Int)+(room:Int)) [] (addn n (cellG ⟨⟨a,b,c⟩,⟨d,e,f⟩⟩ xs) []):=.inr (by omega)
 have hfew:=addn_few HX hn
 have hfr:=Bx.mk (fun W sb Far h1 h2 h3 h4=>m_from_fits W sb a b c d e f ha hcp xs n hn h1 HX hV hC Far h2 _ h3 h4 hfit)
 have hrf:=Bx.mk (fun W h1=>m_ref_yes a b c d e f ha hcp xs hl n hn HX hE W h1)
 have hadd:=Bx.mk fun W B v hB hown=>m_add n (cellG ⟨⟨a,b,c⟩,⟨d,e,f⟩⟩ xs) hn HX.range [] good_nil (by omega) W B v hB hown
 have hsl:=Bx.mk hsl
 have hfx:=Bx.mk hfx
 have t0:decide ((xs.length:Int) > 300)=false:=by simp;omega
 have t1:decide ((room:Int)<0)=false:=by simp
 have t2:decide ((room:Int) > 100000)=false:=by simp;omega
 have hel:Bx ((encs (addn n (cellG ⟨⟨a,b,c⟩,⟨d,e,f⟩⟩ xs) [])).length=(addn n (cellG ⟨⟨a,b,c⟩,⟨d,e,f⟩⟩ xs) []).length):=⟨encs_len _⟩
 clear HX hV hC hn hE hfit hl
 generalize idn (addn n (cellG ⟨⟨a,b,c⟩,⟨d,e,f⟩⟩ xs) []) n (cellG ⟨⟨a,b,c⟩,⟨d,e,f⟩⟩ xs)=iX at *
 generalize addn n (cellG ⟨⟨a,b,c⟩,⟨d,e,f⟩⟩ xs) []=ts at *
 generalize txt n (cellG ⟨⟨a,b,c⟩,⟨d,e,f⟩⟩ xs)=S at *
 have hw:IntKind.i64.wrap ((ts.length:Int)+(room:Int))=(ts.length:Int)+(room:Int):=IntWalk.i64_in _ (by omega)
 have Hw:=Bx.mk hw
 clear hw hroom
 go_enter Tryz.func9,Tryz.ntmps9
 go_upto_region 1 with fail
 generalize hW:World.alloc w _=W
 have hB:=bl1 hW
 have kg:Bk W w.heap.size #[a,b,c,d,e,f,.slice ha xs.length hcp] 28:=bk0 hW
 clear hW
 obtain ⟨c0,c1,c2,c3,c4,c5,c6⟩:=kg.c7
 go_wp2_with fail
 refine (hrf.out _ (hsl.out.below hB)).mono ?_
 rintro _ w1 ⟨rfl,hb1⟩
 have HB:=Bx.mk (hB.trans (hb1.mono hB.size))
 have KG:=Bx.mk (kg.later hb1)
 clear hb1 hB kg c0 c1 c2 c3 c4 c5 c6 t0 t1 t2
 go_wp2_with fail
 refine (hadd.out _ w1.heap.size (.slice none 0 0) (Nat.le_refl _) (Ownv.nil _ _ _)).mono ?_
 rintro _ w2 ⟨v2,rfl,own2,add2⟩
 obtain ⟨a2,c2,rfl,-⟩:=own2.form
 rw [hel.out]
 have hb2:Below w1.heap.size w1 w2:=by
  have hg:=add2.grown
  exact ⟨hg.os,hg.tape,hg.output,hg.size,fun k hk=>hg.block k hk (by intro e;cases e)⟩
 replace HB:=Bx.mk (HB.out.trans (hb2.mono HB.out.size))
 replace KG:=Bx.mk (KG.out.later hb2)
 have hw:=Hw.out
 clear hb2 own2 add2 hadd hel
 go_wp2_with fail
 refine (newStore_any _ _).mono ?_
 rintro _ w3 ⟨sb,rfl,hS3,hb3⟩
 have HS:=Bx.mk (hS3.less (Far:=fun k=>k<w.heap.size) (fun k hk=>Nat.lt_of_lt_of_le hk HB.out.size))
 replace HB:=Bx.mk (HB.out.trans (hb3.mono HB.out.size))
 replace KG:=Bx.mk (KG.out.later hb3)
 obtain ⟨c0,c1,c2,c3,c4,c5,c6⟩:=KG.out.c7
 clear hS3 hb3 hw
 go_wp2_with fail
 refine (hfr.out _ sb (fun k=>k<w.heap.size) (hsl.out.below HB.out) (fun hx b hb=>hfx.out hx b hb) (fun k hk=>Nat.lt_of_lt_of_le hk HB.out.size) HS.out).mono ?_
 rintro _ w4 ⟨rfl,hS4,hK4⟩
 have HB4:Bx (Below w.heap.size w w4):=⟨HB.out.trans ⟨hK4.os,hK4.tape,hK4.output,hK4.size,fun k hk=>hK4.block k hk (Nat.lt_of_lt_of_le hk HB.out.size)⟩⟩
 have HS4:=Bx.mk hS4
 clear hS4 hK4 c0 c1 c2 c3 c4 c5 c6
 go_wp2_with fail
 exact bodyPost_ret (v:=.tuple #[.pointer (some ⟨sb,0,none⟩),iX,.bool true]) (by simp [results,Tryz.results9,go_sem]) rfl ⟨sb,rfl,HS4.out,HB4.out⟩
end
section
open Go.RowKit
open Oct
structure IsPick (s:Int→Bool) (l:List Int) (r:Int):Prop where
 mem:r∈l
 sol:s r=decide (4≤l.countP s)
 best : ∀ d∈l,s d=decide (4≤l.countP s)→l.count d<l.count r∨(l.count d=l.count r∧r≤d)
theorem IsPick.unique {s:Int→Bool} {l:List Int} {r r':Int} (h:IsPick s l r) (h':IsPick s l r'):r=r':=by
 have h1:=h.best r' h'.mem h'.sol
 have h2:=h'.best r h.mem h.sol
 omega
theorem pick_some (s:Int→Bool) {l:List Int} (hl:l.length=8) : ∃ d∈l,s d=decide (4≤l.countP s):=by
 by_cases h:4≤l.countP s
 · have:0<l.countP s:=by omega
   obtain ⟨d,hd,hs⟩:=List.countP_pos_iff.1 this
   exact ⟨d,hd,by rw [hs];simpa using h⟩
 · have h1:l.countP s<l.length:=by omega
   have h2 : ¬ ∀ a∈l,s a=true:=fun h3=>by rw [List.countP_eq_length.2 h3] at h1;omega
   obtain ⟨d,h3⟩:=Classical.not_forall.1 h2
   obtain ⟨hd,hs⟩:=Classical.not_imp.1 h3
   exact ⟨d,hd,by rw [show s d=false by simpa using hs];simpa using h⟩
theorem pick_least (P:Int→Prop) (m:Int→Nat) : ∀ (l:List Int),(∃ d∈l,P d) → ∃ r∈l,P r ∧ ∀ d∈l,P d→m d<m r∨(m d=m r∧r≤d)
 | [],h=>by obtain ⟨d,hd,_⟩:=h;cases hd
 | x :: l, h => by
   by_cases ht : ∃ d∈l,P d
   · obtain ⟨r,hr,hP,hb⟩:=pick_least P m l ht
     by_cases hx:P x∧(m r<m x∨(m x=m r∧x<r))
     · refine ⟨x,List.mem_cons_self ..,hx.1,fun d hd hPd=>?_⟩
       rcases List.mem_cons.1 hd with rfl | hd
       · exact .inr ⟨rfl,Int.le_refl _⟩
       · have:=hb d hd hPd;have:=hx.2;omega
     · refine ⟨r,List.mem_cons_of_mem _ hr,hP,fun d hd hPd=>?_⟩
       rcases List.mem_cons.1 hd with rfl | hd
       · have : ¬(m r<m d∨(m d=m r∧d<r)):=fun h=>hx ⟨hPd,h⟩
         omega
       · exact hb d hd hPd
   · obtain ⟨d,hd,hPd⟩:=h
     rcases List.mem_cons.1 hd with rfl | hd
     · refine ⟨d,List.mem_cons_self ..,hPd,fun e he hPe=>?_⟩
       rcases List.mem_cons.1 he with rfl | he
       · exact .inr ⟨rfl,Int.le_refl _⟩
       · exact absurd ⟨e,he,hPe⟩ ht
     · exact absurd ⟨d,hd,hPd⟩ ht
theorem pick_exists (s:Int→Bool) {l:List Int} (hl:l.length=8) : ∃ r,IsPick s l r:=by
 obtain ⟨r,h1,h2,h3⟩:=pick_least (fun d=>s d=decide (4≤l.countP s)) (fun d=>l.count d) l (pick_some s hl)
 exact ⟨r,h1,h2,h3⟩
open Classical in
noncomputable def pickV (s:Int→Bool) (l:List Int):Int:=if h : ∃ r,IsPick s l r then h.choose else 0
theorem pickV_spec (s:Int→Bool) {l:List Int} (hl:l.length=8):IsPick s l (pickV s l):=by
 unfold pickV
 rw [dif_pos (pick_exists s hl)]
 exact (pick_exists s hl).choose_spec
theorem pickV_eq {s:Int→Bool} {l:List Int} (hl:l.length=8) {r:Int} (h:IsPick s l r):r=pickV s l:=h.unique (pickV_spec s hl)
theorem pickV_const (s:Int→Bool) {l:List Int} (hl:l.length=8) {c:Int} (h : ∀ x∈l,x=c):pickV s l=c:=h _ (pickV_spec s hl).mem
def eightF (f:Pt→Int) (p:Pt):List Int:=(List.range 8).map fun k=>f ⟨2 * p.x+(k % 2:Nat),2 * p.y+(k / 2 % 2:Nat),2 * p.z+(k / 4:Nat)⟩
theorem eight_len (f:Pt→Int) (p:Pt):(eightF f p).length=8:=by simp [eightF]
noncomputable def halfF (s:Int→Bool) (f:Pt→Int):Pt→Int:=fun p=>pickV s (eightF f p)
theorem half_spec (s:Int→Bool) (f:Pt→Int) (p:Pt):IsPick s (eightF f p) (halfF s f p):=pickV_spec s (eight_len f p)
theorem mem_eight {f:Pt→Int} {p:Pt} {x:Int} (h:x∈eightF f p) : ∃ q:Pt,x=f q∧q.x / 2=p.x∧q.y / 2=p.y∧q.z / 2=p.z:=by
 obtain ⟨k,hk,rfl⟩:=List.mem_map.1 h
 have:=List.mem_range.1 hk
 exact ⟨_,rfl,by simp only;omega,by simp only;omega,by simp only;omega⟩
theorem half_solid (s:Int→Bool) (f:Pt→Int) (p:Pt) : ∃ q:Pt,s (f q)=s (halfF s f p)∧q.x / 2=p.x∧q.y / 2=p.y∧q.z / 2=p.z:=by
 obtain ⟨q,e,h⟩:=mem_eight (half_spec s f p).mem
 exact ⟨q,by rw [e],h⟩
theorem half_congr {s:Int→Bool} {f g:Pt→Int} {p:Pt} (h : ∀ q:Pt,q.x / 2=p.x→q.y / 2=p.y→q.z / 2=p.z→f q=g q):halfF s f p=halfF s g p:=by
 unfold halfF
 congr 1
 unfold eightF
 refine List.map_congr_left fun k hk=>?_
 have:=List.mem_range.1 hk
 exact h _ (by simp only;omega) (by simp only;omega) (by simp only;omega)
theorem half_fn {s:Int→Bool} {n:Nat} {f:Pt→Int} (h:FnC (n+1) f):FnC n (halfF s f):=by
 refine ⟨fun p=>?_,fun p hp=>?_⟩
 · obtain ⟨q,e,_⟩:=mem_eight (half_spec s f p).mem
   rw [e];exact h.range q
 · refine pickV_const s (eight_len f p) fun x hx=>?_
   obtain ⟨q,rfl,h1,h2,h3⟩:=mem_eight hx
   refine h.out q ?_
   cases hq:inB q (cubeB (2 ^ (n+1+2))) with
   | false=>rfl
   | true =>
     exfalso
     have hl:=inB_iff.1 hq
     have:inB p (cubeB (2 ^ (n+2)))=true:=inB_iff.2 (by
      simp only [cubeB,Pt.zero] at hl ⊢
      rw [Tr.pow_succ2] at hl
      omega)
     rw [this] at hp;cases hp
def dblP (a:Pt):Pt:=⟨2 * a.x,2 * a.y,2 * a.z⟩
theorem dbl_al {n:Nat} {a:Pt} (h:Tr.Al n a):Tr.Al (n+1) (dblP a):=by
 obtain ⟨h1,h2,h3⟩:=h
 unfold Tr.Al dblP
 rw [Tr.pow_succ2]
 have key : ∀ x:Int,x % 2 ^ (n+2)=0→2 * x % (2 ^ (n+2) * 2)=0:=by
  intro x hx
  obtain ⟨y,hy⟩:=Int.dvd_of_emod_eq_zero hx
  rw [hy,show 2 * (2 ^ (n+2) * y)=2 ^ (n+2) * 2 * y by rw [Int.mul_comm (2 ^ (n+2)) 2,Int.mul_assoc]]
  exact Int.mul_emod_right _ _
 exact ⟨key _ h1,key _ h2,key _ h3⟩
theorem dbl_cor (a:Pt) (n:Nat) (i:Nat):Tr.cor (dblP a) (n+1) i=dblP (Tr.cor a n i):=by
 unfold Tr.cor dblP
 rw [Tr.pow_succ2]
 simp only [Pt.mk.injEq]
 have key : ∀ x y m:Int,2 * x+y * (m * 2)=2 * (x+y * m):=fun x y m=>by
  rw [Int.mul_add,Int.mul_comm m 2,←Int.mul_assoc,Int.mul_comm y 2,Int.mul_assoc]
 exact ⟨key _ _ _,key _ _ _,key _ _ _⟩
theorem in_dbl {n:Nat} {a p q:Pt} (hp:Tr.InC n a p) (h1:q.x / 2=p.x) (h2:q.y / 2=p.y) (h3:q.z / 2=p.z):Tr.InC (n+1) (dblP a) q:=by
 obtain ⟨i1,i2,i3⟩:=hp
 unfold Tr.InC dblP
 rw [Tr.pow_succ2]
 have key : ∀ x y z:Int,z / 2=y→y / 2 ^ (n+2)=x / 2 ^ (n+2)→z / (2 ^ (n+2) * 2)=2 * x / (2 ^ (n+2) * 2):=by
  intro x y z h h'
  rw [Int.mul_comm _ 2,←Int.ediv_ediv_of_nonneg (by decide),h,h',←Int.ediv_ediv_of_nonneg (by decide),Int.mul_ediv_cancel_left _ (by decide)]
 exact ⟨key _ _ _ h1 i1,key _ _ _ h2 i2,key _ _ _ h3 i3⟩
theorem can_const {c:Int} : ∀ (n:Nat) (a:Pt) (f:Pt→Int),Tr.Al n a→(∀ p,Tr.InC n a p→f p=c)→Tr.can f n a = .uni c
 | 0, a, f, ha, h => by
   unfold Tr.can Tr.mkBrick
   have key : ∀ x∈(List.range 64).map fun k=>f (Tr.cellAt a k),x=c:=by
    intro x hx
    obtain ⟨k,hk,rfl⟩:=List.mem_map.1 hx
    exact h _ (Tr.inC_cell ha (List.mem_range.1 hk) rfl).1
   have h0:((List.range 64).map fun k=>f (Tr.cellAt a k)).headD 0=c:=by
    rw [show List.range 64=0::(List.range 63).map Nat.succ from List.range_succ_eq_map]
    simp only [List.map_cons,List.headD_cons]
    exact key _ (List.mem_map.2 ⟨0,by simp,rfl⟩)
   rw [h0,if_pos key]
 | n + 1, a, f, ha, h => by
   have key : ∀ i:Fin 8,Tr.can f n (Tr.cor a n i.val) = .uni c:=fun i=>can_const n _ f (Tr.al_cor ha _) fun p hp=>h p (Tr.inC_other ha hp).2
   unfold Tr.can Tr.mkInner
   rw [if_pos ⟨⟨c,key 0⟩,fun i=>(key i).trans (key 0).symm⟩]
   exact key 0
theorem half_uni {s:Int→Bool} {f:Pt→Int} {n:Nat} {a:Pt} {c:Int} (ha:Tr.Al n a) (h:Tr.can f (n+1) (dblP a) = .uni c):Tr.can (halfF s f) n a = .uni c:=by
 refine can_const n a _ ha fun p hp=>pickV_const s (eight_len f p) fun x hx=>?_
 obtain ⟨q,rfl,h1,h2,h3⟩:=mem_eight hx
 have:=Tr.get_can f (n+1) (dblP a) q (dbl_al ha) (in_dbl hp h1 h2 h3)
 rw [h] at this
 exact this.symm
noncomputable def halfT (s:Int→Bool):Tr→Tr
 | .uni c=>.uni c
 | .brick l=>.brick l
 | .node d ch=>if d=3 then Tr.can (halfF s fun p=>Tr.getT (.node d ch) 1 p) 0 ⟨0,0,0⟩ else Tr.mkInner (d - 1) fun i=>halfT s (ch i)
theorem al0 (n:Nat):Tr.Al n ⟨0,0,0⟩:=by unfold Tr.Al;simp
theorem can_kid' (f:Pt→Int) (n:Nat) (a:Pt) (i:Fin 8):(Tr.can f (n+1) a).kid i=Tr.can f n (Tr.cor a n i.val):=Tr.mkInner_kid (n+3) (fun i:Fin 8=>Tr.can f n (Tr.cor a n i.val)) i
theorem half_can (s:Int→Bool) (f:Pt→Int) : ∀ (n:Nat) (a:Pt),Tr.Al n a→halfT s (Tr.can f (n+1) (dblP a))=Tr.can (halfF s f) n a
 | 0, a, ha => by
   cases ht:Tr.can f (0+1) (dblP a) with
   | uni c=>rw [half_uni ha ht];rfl
   | brick l =>
     exfalso
     unfold Tr.can Tr.mkInner at ht
     split at ht
     · rename_i h;obtain ⟨⟨c,hc⟩,_⟩:=h;rw [hc] at ht;cases ht
     · cases ht
   | node d ch =>
     have hd:d=3:=by
      unfold Tr.can Tr.mkInner at ht
      split at ht
      · rename_i h;obtain ⟨⟨c,hc⟩,_⟩:=h;rw [hc] at ht;cases ht
      · injection ht with h1;exact h1.symm
     subst hd
     unfold halfT
     rw [if_pos rfl,←ht]
     unfold Tr.can
     congr 1
     refine List.map_congr_left fun k hk=>?_
     have hk:=List.mem_range.1 hk
     unfold halfF
     congr 1
     unfold eightF
     refine List.map_congr_left fun j hj=>?_
     have hj:=List.mem_range.1 hj
     -- the cell at the origin's cube,and at this one
     obtain ⟨a1,a2,a3⟩:=ha
     have e4:(2:Int) ^ (0+2)=4:=by decide
     rw [e4] at a1 a2 a3
     have hin:Tr.InC (0+1) (dblP a) ⟨2 * (Tr.cellAt a k).x+(j % 2:Nat),2 * (Tr.cellAt a k).y+(j / 2 % 2:Nat),2 * (Tr.cellAt a k).z+(j / 4:Nat)⟩:=by
      unfold Tr.InC dblP Tr.cellAt
      rw [show (2:Int) ^ (0+1+2)=8 by decide]
      simp only
      omega
     rw [←Tr.get_can f (0+1) (dblP a) _ (dbl_al ⟨by rw [e4];exact a1,by rw [e4];exact a2,by rw [e4];exact a3⟩) hin,ht]
     have same : ∀ p q:Pt,p.x % 8=q.x % 8→p.y % 8=q.y % 8→p.z % 8=q.z % 8→Tr.getT (.node 3 ch) 1 p=Tr.getT (.node 3 ch) 1 q:=by
      intro p q h1 h2 h3
      have ho:Tr.oct 0 p=Tr.oct 0 q:=by
       apply Fin.ext
       show Tr.octN 0 p=Tr.octN 0 q
       unfold Tr.octN
       rw [show (2:Int) ^ (0+2)=4 by decide]
       omega
      have hi:Tr.idx p=Tr.idx q:=by unfold Tr.idx;omega
      unfold Tr.getT
      rw [ho]
      cases ch (Tr.oct 0 q) with
      | uni c=>rfl
      | brick l=>unfold Tr.getT;rw [hi]
      | node d ch=>rfl
     refine same _ _ ?_ ?_ ?_ <;> (unfold Tr.cellAt;simp only;omega)
 | n + 1, a, ha => by
   have ih : ∀ i:Fin 8,halfT s ((Tr.can f (n+1+1) (dblP a)).kid i)=Tr.can (halfF s f) n (Tr.cor a n i.val):=fun i=>by
    rw [can_kid',dbl_cor]
    exact half_can s f n _ (Tr.al_cor ha _)
   cases ht:Tr.can f (n+1+1) (dblP a) with
   | uni c=>rw [half_uni ha ht];rfl
   | brick l =>
     exfalso
     unfold Tr.can Tr.mkInner at ht
     split at ht
     · rename_i h;obtain ⟨⟨c,hc⟩,_⟩:=h;rw [hc] at ht;cases ht
     · cases ht
   | node d ch =>
     have hd:d=n+4:=by
      unfold Tr.can Tr.mkInner at ht
      split at ht
      · rename_i h;obtain ⟨⟨c,hc⟩,_⟩:=h;rw [hc] at ht;cases ht
      · injection ht with h1;omega
     subst hd
     unfold halfT
     rw [if_neg (by omega)]
     rw [ht] at ih
     show Tr.mkInner (n+3) _=_
     rw [show Tr.can (halfF s f) (n+1) a=Tr.mkInner (n+3) fun i=>Tr.can (halfF s f) n (Tr.cor a n i.val) from rfl]
     congr 1
     funext i
     exact ih i
end
section
open Go.RowKit
open Oct
def SubT (y:Tr):Tr→Prop
 | .uni c=>y = .uni c
 | .brick l=>y = .brick l
 | .node d ch=>y = .node d ch ∨ ∃ i,SubT y (ch i)
theorem sub_self (t:Tr):SubT t t:=by
 cases t with
 | uni c=>rfl
 | brick l=>rfl
 | node d ch=>exact .inl rfl
theorem sub_of_add {y:Tr} : ∀ (t:Tr) (us:List Tr),y∈Tr.add t us→y∈us∨SubT y t:=by
 intro t
 induction t with
 | uni c=>intro us h;rw [Tr.add_uni] at h;exact (Tr.of_mem_ins h)
 | brick l=>intro us h;rw [Tr.add_brick] at h;exact (Tr.of_mem_ins h)
 | node d ch ih =>
   intro us h
   rw [Tr.add_node] at h
   split at h
   · exact .inl h
   · rcases List.mem_append.1 h with h | h
     · have:=Tr.addK_ind (P:=fun a => ∀ x∈a,x=y→y∈us ∨ ∃ i,SubT y (ch i)) (fun i a ha x hx e=>by
        subst e
        rcases ih i a hx with h | h
        · exact ha x h rfl
        · exact .inr ⟨i,h⟩) 8 (Nat.le_refl _) us (fun x hx e=>.inl (e ▸ hx)) y h rfl
       rcases this with h | h
       · exact .inl h
       · exact .inr (.inr h)
     · exact .inr (.inl (List.mem_singleton.1 h))
theorem sub_in {us:List Tr} (hc:Tr.Closed us) {y:Tr} : ∀ (t:Tr),t∈us→SubT y t→y∈us:=by
 intro t
 induction t with
 | uni c=>intro ht h;rw [show y = .uni c from h];exact ht
 | brick l=>intro ht h;rw [show y = .brick l from h];exact ht
 | node d ch ih =>
   intro ht h
   rcases h with h | ⟨i,h⟩
   · rw [h];exact ht
   · exact ih i (hc.2 d ch ht i) h
theorem add_of_sub {us:List Tr} {y t:Tr} (hG:Good us) (hW:Tr.WF t) (h:SubT y t):y∈Tr.add t us:=sub_in (good_add t hG hW).closed t (Tr.mem_add _ _) h
theorem half_sub (s:Int→Bool) {y:Tr} : ∀ (t:Tr),SubT y (halfT s t) → ∃ z,SubT z t∧y=halfT s z:=by
 intro t
 induction t with
 | uni c=>intro h;exact ⟨.uni c,rfl,h⟩
 | brick l=>intro h;exact ⟨.brick l,rfl,h⟩
 | node d ch ih =>
   intro h
   have key:y=halfT s (.node d ch) → ∃ z,SubT z (.node d ch)∧y=halfT s z:=fun e=>⟨_,sub_self _,e⟩
   have hd:=h
   unfold halfT at hd
   split at hd
   · refine key ?_
     rename_i e
     unfold halfT
     rw [if_pos e]
     unfold Tr.can Tr.mkBrick at hd ⊢
     split
     · rename_i h1;rw [if_pos h1] at hd;exact hd
     · rename_i h1;rw [if_neg h1] at hd;exact hd
   · rename_i e
     have hy:(y=Tr.mkInner (d - 1) fun i=>halfT s (ch i)) ∨ ∃ i,SubT y (halfT s (ch i)):=by
      unfold Tr.mkInner at hd ⊢
      split
      · rename_i h1;rw [if_pos h1] at hd;exact .inr ⟨0,hd⟩
      · rename_i h1
        rw [if_neg h1] at hd
        rcases hd with hd | ⟨i,hd⟩
        · exact .inl hd
        · exact .inr ⟨i,hd⟩
     rcases hy with hy | ⟨i,hy⟩
     · refine key ?_
       unfold halfT
       rw [if_neg e];exact hy
     · obtain ⟨z,h1,h2⟩:=ih i hy
       exact ⟨z,.inr ⟨i,h1⟩,h2⟩
open Classical in
theorem nodup_le3 {α:Type} : ∀ (l m:List α),l.Nodup→(∀ x∈l,x∈m)→l.length≤m.length
 | [],_,_,_=>Nat.zero_le _
 | x :: l, m, hn, hs => by
   have hx:=hs x (List.mem_cons_self ..)
   have h1:=nodup_le3 l (m.erase x) (List.nodup_cons.1 hn).2 (fun y hy=>(List.mem_erase_of_ne (show y ≠ x from fun e=>(List.nodup_cons.1 hn).1 (by rw [←e];exact hy))).2 (hs y (List.mem_cons_of_mem _ hy)))
   rw [List.length_erase_of_mem hx] at h1
   have h2:=List.length_pos_of_mem hx
   rw [List.length_cons];omega
theorem half_len {s:Int→Bool} {t:Tr} {us:List Tr} (hG:Good us) (hW:Tr.WF t) (hW':Tr.WF (halfT s t)):(Tr.add (halfT s t) us).length≤us.length+(Tr.add t []).length:=by
 have h:=nodup_le3 (Tr.add (halfT s t) us) (us++(Tr.add t []).map (halfT s)) (good_add _ hG hW').closed.1 (fun x hx=>by
  rcases sub_of_add _ _ hx with h | h
  · exact List.mem_append_left _ h
  · obtain ⟨z,h1,h2⟩:=half_sub s t h
    exact List.mem_append_right _ (List.mem_map.2 ⟨z,add_of_sub good_nil hW h1,h2.symm⟩))
 simpa using h
noncomputable def lvlF (s:Int→Bool) (f:Pt→Int):Nat→Pt→Int
 | 0=>f
 | k+1=>halfF s (lvlF s f k)
theorem lvl_fn {s:Int→Bool} {f:Pt→Int} {N:Nat} (h:FnC N f) : ∀ k,k≤N→FnC (N - k) (lvlF s f k)
 | 0,_=>h
 | k + 1, hk => by
   have:=lvl_fn (s:=s) h k (by omega)
   rw [show N - k=N - (k+1)+1 by omega] at this
   exact half_fn this
theorem half_trF (s:Int→Bool) (f:Pt→Int) (n:Nat):halfT s (trF (n+1) f)=trF n (halfF s f):=by
 have:=half_can s f n ⟨0,0,0⟩ (al0 n)
 rwa [show dblP ⟨0,0,0⟩=⟨0,0,0⟩ from rfl] at this
theorem lvl_half (s:Int→Bool) (f:Pt→Int) {N k:Nat} (hk:k<N):halfT s (trF (N - k) (lvlF s f k))=trF (N - (k+1)) (lvlF s f (k+1)):=by
 rw [show N - k=N - (k+1)+1 by omega,half_trF];rfl
noncomputable def lvS (s:Int→Bool) (N:Nat) (f:Pt→Int) (ts:List Tr):Nat→List Tr
 | 0=>ts
 | k+1=>addn (N - (k+1)) (lvlF s f (k+1)) (lvS s N f ts k)
theorem lvS_good {s:Int→Bool} {N:Nat} {f:Pt→Int} (hN:N≤12) (hf:FnC N f) {ts:List Tr} (hG:Good ts) : ∀ k,k≤N→Good (lvS s N f ts k)
 | 0,_=>hG
 | k+1,hk=>addn_good (by omega) (lvl_fn hf _ hk) (lvS_good hN hf hG k (by omega))
theorem lvS_pre {s:Int→Bool} {N:Nat} {f:Pt→Int} {ts:List Tr} : ∀ {j k:Nat},j≤k→lvS s N f ts j <+: lvS s N f ts k
 | j, 0, h => by obtain rfl : j = 0 := by omega
                 exact List.prefix_refl _
 | j, k + 1, h => by
   by_cases e:j=k+1
   · subst e;exact List.prefix_refl _
   · exact (lvS_pre (j:=j) (k:=k) (by omega)).trans (addn_pre _ _ _)
theorem lvS_mem {s:Int→Bool} {N:Nat} {f:Pt→Int} {ts:List Tr} (hm:trF N f∈ts) : ∀ {j k:Nat},j≤k→trF (N - j) (lvlF s f j)∈lvS s N f ts k
 | 0,k,h=>(lvS_pre (Nat.zero_le k)).subset hm
 | j+1,k,h=>(lvS_pre h).subset (addn_mem _ _ _)
theorem lvl_nodes {s:Int→Bool} {N:Nat} {f:Pt→Int} (hN:N≤12) (hf:FnC N f) : ∀ k,k≤N→(addn (N - k) (lvlF s f k) []).length≤(addn N f []).length
 | 0,_=>Nat.le_refl _
 | k + 1, hk => by
   have h1:=lvl_nodes (s:=s) hN hf k (by omega)
   have hw:=wf_can (lvl_fn (s:=s) hf k (by omega)).range (N - k) ⟨0,0,0⟩ (by omega)
   have hw':=wf_can (lvl_fn (s:=s) hf (k+1) hk).range (N - (k+1)) ⟨0,0,0⟩ (by omega)
   have h2:=half_len (s:=s) good_nil hw (by rw [lvl_half s f (by omega)];exact hw')
   rw [lvl_half s f (by omega)] at h2
   simp only [List.length_nil,Nat.zero_add] at h2
   exact Nat.le_trans h2 h1
theorem lvS_len {s:Int→Bool} {N:Nat} {f:Pt→Int} (hN:N≤12) (hf:FnC N f) {ts:List Tr} (hG:Good ts) : ∀ k,k≤N→(lvS s N f ts k).length≤ts.length+k * (addn N f []).length
 | 0,_=>by simp [lvS]
 | k + 1, hk => by
   have h1:=lvS_len (s:=s) hN hf hG k (by omega)
   have hw:=wf_can (lvl_fn (s:=s) hf k (by omega)).range (N - k) ⟨0,0,0⟩ (by omega)
   have hw':=wf_can (lvl_fn (s:=s) hf (k+1) hk).range (N - (k+1)) ⟨0,0,0⟩ (by omega)
   have h2:=half_len (s:=s) (lvS_good (s:=s) hN hf hG k (by omega)) hw (by rw [lvl_half s f (by omega)];exact hw')
   rw [lvl_half s f (by omega)] at h2
   have h3:=lvl_nodes (s:=s) hN hf k (by omega)
   rw [Nat.add_mul,Nat.one_mul]
   have h4:(lvS s N f ts (k+1)).length≤(lvS s N f ts k).length+(addn (N - k) (lvlF s f k) []).length:=h2
   omega
theorem lvl_solid (s:Int→Bool) (f:Pt→Int) : ∀ (k:Nat) (p:Pt),∃ q:Pt,s (f q)=s (lvlF s f k p)∧q.x / 2 ^ k=p.x∧q.y / 2 ^ k=p.y∧q.z / 2 ^ k=p.z
 | 0,p=>⟨p,rfl,by simp⟩
 | k + 1, p => by
   obtain ⟨q,h1,h2,h3,h4⟩:=half_solid s (lvlF s f k) p
   obtain ⟨r,g1,g2,g3,g4⟩:=lvl_solid s f k q
   refine ⟨r,g1.trans h1,?_,?_,?_⟩ <;> rw [Int.pow_succ,←Int.ediv_ediv_of_nonneg (Int.le_of_lt (Int.pow_pos (by decide)))]
   · rw [g2,h2]
   · rw [g3,h3]
   · rw [g4,h4]
theorem lvl_congr {s:Int→Bool} {f g:Pt→Int} : ∀ (k:Nat) (p:Pt),(∀ q:Pt,q.x / 2 ^ k=p.x→q.y / 2 ^ k=p.y→q.z / 2 ^ k=p.z→f q=g q)→lvlF s f k p=lvlF s g k p
 | 0,p,h=>h p (by simp) (by simp) (by simp)
 | k + 1, p, h => half_congr fun q h1 h2 h3 => lvl_congr k q fun r g1 g2 g3 => by
   have e : ∀ x:Int,x / 2 ^ (k+1)=x / 2 ^ k / 2:=fun x=>by rw [Int.pow_succ,←Int.ediv_ediv_of_nonneg (Int.le_of_lt (Int.pow_pos (by decide)))]
   exact h r (by rw [e,g1,h1]) (by rw [e,g2,h2]) (by rw [e,g3,h3])
end
section
open Go.RowKit
open Oct
def W64 (x:Int):Prop := -9223372036854775808≤x∧x≤9223372036854775807
theorem wrap_w64 (x:Int):W64 (IntKind.i64.wrap x):=by
 unfold W64;rw [IntKind.wrap_i64];omega
theorem or_w64 (x y:Int):W64 (bits .or .i64 x y):=by unfold bits;exact wrap_w64 _
theorem ofInt_zero {x:Int} (h:W64 x):BitVec.ofInt IntKind.i64.bits x=0 ↔ x=0:=by
 refine ⟨fun e=>?_,fun e=>by rw [e];rfl⟩
 have h1:=congrArg BitVec.toInt e
 rw [show IntKind.i64.bits=64 from rfl] at h1
 rw [BitVec.toInt_ofInt] at h1
 simp only [Int.bmod] at h1
 unfold W64 at h
 have h2:(BitVec.toInt (0:BitVec 64))=0:=by decide
 rw [h2] at h1
 split at h1 <;> omega
theorem or_zero {x y:Int} (hx:W64 x) (hy:W64 y):bits .or .i64 x y=0 ↔ x=0∧y=0:=by
 have h0:bits .or .i64 x y=0 ↔ BitVec.ofInt IntKind.i64.bits x ||| BitVec.ofInt IntKind.i64.bits y=0:=by
  unfold bits
  simp only
  generalize BitVec.ofInt IntKind.i64.bits x ||| BitVec.ofInt IntKind.i64.bits y=v
  rw [IntKind.wrap_i64]
  have hv:=v.isLt
  rw [show (2:Nat) ^ IntKind.i64.bits=18446744073709551616 by decide] at hv
  constructor
  · intro h
    have:v.toNat=0:=by omega
    exact BitVec.eq_of_toNat_eq (by rw [this];simp)
  · intro h;rw [h];decide
 rw [h0]
 constructor
 · intro h
   have h1:=(BitVec.or_eq_zero_iff).1 h
   exact ⟨(ofInt_zero hx).1 h1.1,(ofInt_zero hy).1 h1.2⟩
 · rintro ⟨e1,e2⟩
   rw [(ofInt_zero hx).2 e1,(ofInt_zero hy).2 e2];rfl
theorem shr_w64 {x:Int} (h:W64 x) (n:Nat):W64 (x / 2 ^ n):=by
 have hp:(0:Int)<2 ^ n:=Int.pow_pos (by decide)
 unfold W64 at h ⊢
 constructor
 · exact (Int.le_ediv_iff_mul_le hp).2 (by
    have:(1:Int)≤2 ^ n:=by omega
    have h2:(9223372036854775808:Int) * 1≤9223372036854775808 * (2:Int) ^ n:=Int.mul_le_mul_of_nonneg_left this (by decide)
    rw [Int.neg_mul]
    omega)
 · have:x / 2 ^ n<9223372036854775808:=(Int.ediv_lt_iff_lt_mul hp).2 (by
    have:(1:Int)≤2 ^ n:=by omega
    have h2:9223372036854775808 * 1≤9223372036854775808 * (2:Int) ^ n:=Int.mul_le_mul_of_nonneg_left this (by decide)
    omega)
   omega
theorem shr_zero {x:Int} (n:Nat):x / 2 ^ n=0 ↔ 0≤x∧x<2 ^ n:=by
 have hp:(0:Int)<2 ^ n:=Int.pow_pos (by decide)
 constructor
 · intro h
   have h1:=Int.mul_ediv_add_emod x (2 ^ n)
   have h2:=Int.emod_nonneg x (show (2:Int) ^ n ≠ 0 by omega)
   have h3:=Int.emod_lt_of_pos x hp
   rw [h,Int.mul_zero] at h1
   omega
 · rintro ⟨h1,h2⟩;exact Int.ediv_eq_zero_of_lt h1 h2
theorem out_any {p:Pt} (hx:W64 p.x) (hy:W64 p.y) (hz:W64 p.z) (n:Nat):bits .or .i64 (bits .or .i64 (p.x / 2 ^ n) (p.y / 2 ^ n)) (p.z / 2 ^ n)=0 ↔ inB p (cubeB (2 ^ n))=true:=by
 rw [or_zero (or_w64 _ _) (shr_w64 hz n),or_zero (shr_w64 hx n) (shr_w64 hy n),shr_zero,shr_zero,shr_zero,inB_iff]
 simp only [cubeB,Pt.zero]
 omega
end
end Go.Proofs.YtgnfgblkpnfcnaaGreatDoor
