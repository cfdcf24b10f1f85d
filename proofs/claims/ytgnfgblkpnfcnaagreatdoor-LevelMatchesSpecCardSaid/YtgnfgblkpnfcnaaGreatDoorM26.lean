/- Mtc, Lbu, Lvp, Lvq, Lvb: joined by program, for one claim. -/
import Derived.Test.YtgnfgblkpnfcnaaGreatDoorM25
set_option maxHeartbeats 1000000
set_option maxRecDepth 100000
set_option linter.unusedVariables false
set_option linter.unusedSimpArgs false
namespace Go.Proofs.YtgnfgblkpnfcnaaGreatDoor
section
open Go.RowKit Go.Sort Go.Maps
open Oct
noncomputable def txt (n:Nat) (F:Pt→Int):ByteArray:=strOfNums (Tr.enc (trF n F))
noncomputable def idn (ts:List Tr) (n:Nat) (F:Pt→Int):Int:=(idT ts (trF n F):Int)
noncomputable def zA2 (n:Nat) (F:Pt→Int) (ts:List Tr):List Tr:=Tr.add (trF n F) ts
theorem zDy {n:Nat} {F:Pt→Int} (hn:n≤12) (hF : ∀ p,0≤F p∧F p≤255):(Tr.enc (trF n F)).length≤1000000000000000:=by
 have h:=Tr.enc_small n (trF n F) (zAD hF n _ (by omega)) (zML F n _)
 have h8:8 ^ n≤8 ^ 12:=Nat.pow_le_pow_right (by omega) hn
 omega
theorem zHb (w:World) (sb:Nat) (a b c d e f:Int) (ha:Option Addr) (hcp:Nat) (xs:List Int) (n:Nat) (hn:n≤12) (hsl:Sl w .i64 ha xs) (HX:GoodG ⟨⟨a,b,c⟩,⟨d,e,f⟩⟩ xs hcp) (hV:zAB ⟨⟨a,b,c⟩,⟨d,e,f⟩⟩ xs=true) (hC:zN ⟨⟨a,b,c⟩,⟨d,e,f⟩⟩=true∨zJ ⟨⟨0,0,0⟩,⟨2 ^ (n+2),2 ^ (n+2),2 ^ (n+2)⟩⟩ ⟨⟨a,b,c⟩,⟨d,e,f⟩⟩=true)
 (Far:Nat→Prop) (hfx:xs ≠ [] → ∀ b,ha.map (·.block)=some b→Far b) (most:Int) (hFar : ∀ k,Far k→k<w.heap.size) (hS:StoreIs w Far sb most []) (hfit:Tr.Fits most [] (zA2 n (zF ⟨⟨a,b,c⟩,⟨d,e,f⟩⟩ xs) [])) :
 Calls Tryz.prog 38 #[.pointer (some ⟨sb,0,none⟩),.agg #[a,b,c,d,e,f,.slice ha xs.length hcp],.int .i64 ((n:Int)+2)] w fun E w'=>E=zLK (idn (zA2 n (zF ⟨⟨a,b,c⟩,⟨d,e,f⟩⟩ xs) []) n (zF ⟨⟨a,b,c⟩,⟨d,e,f⟩⟩ xs)) 0∧StoreIs w' Far sb most (zA2 n (zF ⟨⟨a,b,c⟩,⟨d,e,f⟩⟩ xs) [])∧Keeps Far w w' :=
 (zET w sb a b c d e f ha hcp xs n hn hsl HX hV hC Far hfx most [] zEm (by simp) hFar hS).mono fun _ _ h=>h.fit hfit
theorem zHc (a b c d e f:Int) (ha:Option Addr) (hcp:Nat) (xs:List Int) (hl:xs.length≤300) (n:Nat) (hn:n≤12) (HX:GoodG ⟨⟨a,b,c⟩,⟨d,e,f⟩⟩ xs hcp) (hE:zEP ⟨⟨a,b,c⟩,⟨d,e,f⟩⟩ xs ((n:Int)+2)=0) (w:World) (hsl:Sl w .i64 ha xs) :
 Calls Tryz.prog 10 #[.agg #[a,b,c,d,e,f,.slice ha xs.length hcp],.int .i64 ((n:Int)+2)] w fun e' w'=>e' = .returned (.tuple #[.string (txt n (zF ⟨⟨a,b,c⟩,⟨d,e,f⟩⟩ xs)),(0:Int)])∧Below w.heap.size w w' :=
 zKU a b c d e f ha hcp xs hl n hn HX hE w hsl
theorem m_add (n:Nat) (F:Pt→Int) (hn:n≤12) (hF : ∀ p,0≤F p∧F p≤255) (ts:List Tr) (hG:Good ts) (hl:(zA2 n F ts).length≤100000000) (w:World) (B:Nat) (v:Value) (hB:B≤w.heap.size) (hown:Ownv w B 9 v (zDz ts)) :
 Calls Tryz.prog 31 #[v,.string (txt n F)] w fun e w' => ∃ v',e = .returned v'∧Ownv w' B 9 v' (zDz (zA2 n F ts))∧Added w w' v v' ts.length :=
 zKO (trF n F) (zAD hF n _ (by omega)) (zDy hn hF) ts (zEn hG) hl w B v hB hown
theorem zA4 {n:Nat} {F:Pt→Int} {ts:List Tr} (hn:n≤12) (hF:FnC n F) (hG:Good ts):Good (zA2 n F ts):=zEl hn hF hG
theorem zA5 (n:Nat) (F:Pt→Int) (ts:List Tr):trF n F∈zA2 n F ts:=Tr.mem_add _ _
theorem zA6 (n:Nat) (F:Pt→Int) (ts:List Tr):ts <+: zA2 n F ts:=Tr.add_prefix _ _
theorem zA3 {b:Box} {xs:List Int} {hcp n:Nat} (HX:GoodG b xs hcp) (hn:n≤12):(zA2 n (zF b xs) []).length≤3901:=by
 have:=zCA HX hn zEm;rwa [List.length_nil,Nat.zero_add] at this
theorem zBr (a b c d e f dd room:Int) (ha:Option Addr) (hcp nl:Nat) (hl:300<nl) (w:World) :
 Calls Tryz.prog 9 #[.agg #[a,b,c,d,e,f,.slice ha nl hcp],dd,room] w fun e' w'=>e' = .returned (.tuple #[.pointer none,(0:Int),.bool false])∧Below w.heap.size w w':=by
 have t0:decide ((nl:Int) > 300)=true:=by simp;omega
 clear hl;go_enter Tryz.func9,Tryz.ntmps9;go_wp2_with fail;exact bodyPost_ret (v:=.tuple #[.pointer none,(0:Int),.bool false]) (by simp [results,Tryz.results9,go_sem]) rfl ⟨rfl,(Below.refl _ _).alloc (Nat.le_refl _) _⟩
theorem zBs (a b c d e f dd room:Int) (ha:Option Addr) (hcp:Nat) (xs:List Int) (hl:xs.length≤300) (hr:0≤room∧room≤100000) (hE:zEP ⟨⟨a,b,c⟩,⟨d,e,f⟩⟩ xs dd ≠ 0) (w:World) (hsl:Sl w .i64 ha xs) :
 Calls Tryz.prog 9 #[.agg #[a,b,c,d,e,f,.slice ha xs.length hcp],dd,room] w fun e' w'=>e' = .returned (.tuple #[.pointer none,(0:Int),.bool false])∧Below w.heap.size w w':=by
 have hrf:=Bx.mk fun W h=>zKT a b c d e f ha hcp xs hl dd hE W h;have t0:decide ((xs.length:Int) > 300)=false:=by simp;omega
 have t1:decide (room<0)=false:=by simp;omega
 have t2:decide (room > 100000)=false:=by simp;omega
 have t3:(zEP ⟨⟨a,b,c⟩,⟨d,e,f⟩⟩ xs dd != 0)=true:=by simpa using hE
 have HSL:=Bx.mk hsl;clear hE hsl hl hr;generalize zEP ⟨⟨a,b,c⟩,⟨d,e,f⟩⟩ xs dd=er at *;go_enter Tryz.func9,Tryz.ntmps9;go_upto_region 1 with fail;generalize hW:World.alloc w _=W;have hB:=bl1 hW;have kg:Bk W w.heap.size #[a,b,c,d,e,f,.slice ha xs.length hcp] 28:=bk0 hW;clear hW;obtain ⟨c0,c1,c2,c3,c4,c5,c6⟩:=kg.c7;go_wp2_with fail;refine (hrf.out _ (HSL.out.below hB)).mono ?_;rintro _ w2 ⟨rfl,hb2⟩;have HB:=Bx.mk (hB.trans (hb2.mono hB.size));clear hb2 hB kg c0 c1 c2 c3 c4 c5 c6;go_wp2_with fail;exact bodyPost_ret (v:=.tuple #[.pointer none,(0:Int),.bool false]) (by simp [results,Tryz.results9,go_sem]) rfl ⟨rfl,HB.out⟩
theorem zBt (room:Nat) (hroom:room≤100000) (a b c d e f:Int) (ha:Option Addr) (hcp:Nat) (xs:List Int) (hl:xs.length≤300) (n:Nat) (hn:n≤12) (HX:GoodG ⟨⟨a,b,c⟩,⟨d,e,f⟩⟩ xs hcp) (hE:zEP ⟨⟨a,b,c⟩,⟨d,e,f⟩⟩ xs ((n:Int)+2)=0) (hV:zAB ⟨⟨a,b,c⟩,⟨d,e,f⟩⟩ xs=true) (hC:zN ⟨⟨a,b,c⟩,⟨d,e,f⟩⟩=true∨zJ ⟨⟨0,0,0⟩,⟨2 ^ (n+2),2 ^ (n+2),2 ^ (n+2)⟩⟩ ⟨⟨a,b,c⟩,⟨d,e,f⟩⟩=true) (w:World) (hsl:Sl w .i64 ha xs) :
 Calls Tryz.prog 9 #[.agg #[a,b,c,d,e,f,.slice ha xs.length hcp],.int .i64 ((n:Int)+2),(room:Int)] w fun e' w' => ∃ sb,e' = .returned (.tuple #[.pointer (some ⟨sb,0,none⟩),.int .i64 (idn (zA2 n (zF ⟨⟨a,b,c⟩,⟨d,e,f⟩⟩ xs) []) n (zF ⟨⟨a,b,c⟩,⟨d,e,f⟩⟩ xs)),.bool true])∧StoreIs w' (fun k=>k<w.heap.size) sb (((zA2 n (zF ⟨⟨a,b,c⟩,⟨d,e,f⟩⟩ xs) []).length:Int)+(room:Int)) (zA2 n (zF ⟨⟨a,b,c⟩,⟨d,e,f⟩⟩ xs) [])∧Below w.heap.size w w':=by
 have hfx:xs ≠ [] → ∀ b,ha.map (·.block)=some b→b<w.heap.size:=fun hx b hb=>by
  obtain ⟨x,r,rfl⟩:=List.exists_cons_of_ne_nil hx;obtain ⟨b',off,h1,h2⟩:=hsl 0 x rfl;rw [h1] at hb;simp only [Option.map_some,Option.some.injEq] at hb;rw [←hb];exact World.block_lt_of_cell? w _ h2
 have hfit:Tr.Fits (((zA2 n (zF ⟨⟨a,b,c⟩,⟨d,e,f⟩⟩ xs) []).length:Int)+(room:Int)) [] (zA2 n (zF ⟨⟨a,b,c⟩,⟨d,e,f⟩⟩ xs) []):=.inr (by omega)
 have hfew:=zA3 HX hn;have hfr:=Bx.mk (fun W sb Far h1 h2 h3 h4=>zHb W sb a b c d e f ha hcp xs n hn h1 HX hV hC Far h2 _ h3 h4 hfit);have hrf:=Bx.mk (fun W h1=>zHc a b c d e f ha hcp xs hl n hn HX hE W h1);have hadd:=Bx.mk fun W B v hB hown=>m_add n (zF ⟨⟨a,b,c⟩,⟨d,e,f⟩⟩ xs) hn HX.range [] zEm (by omega) W B v hB hown
 have hsl:=Bx.mk hsl;have hfx:=Bx.mk hfx;have t0:decide ((xs.length:Int) > 300)=false:=by simp;omega
 have t1:decide ((room:Int)<0)=false:=by simp
 have t2:decide ((room:Int) > 100000)=false:=by simp;omega
 have hel:Bx ((zDz (zA2 n (zF ⟨⟨a,b,c⟩,⟨d,e,f⟩⟩ xs) [])).length=(zA2 n (zF ⟨⟨a,b,c⟩,⟨d,e,f⟩⟩ xs) []).length):=⟨zD1 _⟩;clear HX hV hC hn hE hfit hl;generalize idn (zA2 n (zF ⟨⟨a,b,c⟩,⟨d,e,f⟩⟩ xs) []) n (zF ⟨⟨a,b,c⟩,⟨d,e,f⟩⟩ xs)=iX at *;generalize zA2 n (zF ⟨⟨a,b,c⟩,⟨d,e,f⟩⟩ xs) []=ts at *;generalize txt n (zF ⟨⟨a,b,c⟩,⟨d,e,f⟩⟩ xs)=S at *;have hw:IntKind.i64.wrap ((ts.length:Int)+(room:Int))=(ts.length:Int)+(room:Int):=IntWalk.i64_in _ (by omega)
 have Hw:=Bx.mk hw;clear hw hroom;go_enter Tryz.func9,Tryz.ntmps9;go_upto_region 1 with fail;generalize hW:World.alloc w _=W;have hB:=bl1 hW;have kg:Bk W w.heap.size #[a,b,c,d,e,f,.slice ha xs.length hcp] 28:=bk0 hW;clear hW;obtain ⟨c0,c1,c2,c3,c4,c5,c6⟩:=kg.c7;go_wp2_with fail;refine (hrf.out _ (hsl.out.below hB)).mono ?_;rintro _ w1 ⟨rfl,hb1⟩;have HB:=Bx.mk (hB.trans (hb1.mono hB.size));have KG:=Bx.mk (kg.later hb1);clear hb1 hB kg c0 c1 c2 c3 c4 c5 c6 t0 t1 t2;go_wp2_with fail;refine (hadd.out _ w1.heap.size (.slice none 0 0) (Nat.le_refl _) (Ownv.nil _ _ _)).mono ?_;rintro _ w2 ⟨v2,rfl,own2,add2⟩;obtain ⟨a2,c2,rfl,-⟩:=own2.form;rw [hel.out]
 have hb2:Below w1.heap.size w1 w2:=by
  have hg:=add2.grown;exact ⟨hg.os,hg.tape,hg.output,hg.size,fun k hk=>hg.block k hk (by intro e;cases e)⟩
 replace HB:=Bx.mk (HB.out.trans (hb2.mono HB.out.size));replace KG:=Bx.mk (KG.out.later hb2);have hw:=Hw.out;clear hb2 own2 add2 hadd hel;go_wp2_with fail;refine (zIF _ _).mono ?_;rintro _ w3 ⟨sb,rfl,hS3,hb3⟩;have HS:=Bx.mk (hS3.less (Far:=fun k=>k<w.heap.size) (fun k hk=>Nat.lt_of_lt_of_le hk HB.out.size));replace HB:=Bx.mk (HB.out.trans (hb3.mono HB.out.size));replace KG:=Bx.mk (KG.out.later hb3);obtain ⟨c0,c1,c2,c3,c4,c5,c6⟩:=KG.out.c7;clear hS3 hb3 hw;go_wp2_with fail;refine (hfr.out _ sb (fun k=>k<w.heap.size) (hsl.out.below HB.out) (fun hx b hb=>hfx.out hx b hb) (fun k hk=>Nat.lt_of_lt_of_le hk HB.out.size) HS.out).mono ?_;rintro _ w4 ⟨rfl,hS4,hK4⟩;have HB4:Bx (Below w.heap.size w w4):=⟨HB.out.trans ⟨hK4.os,hK4.tape,hK4.output,hK4.size,fun k hk=>hK4.block k hk (Nat.lt_of_lt_of_le hk HB.out.size)⟩⟩;have HS4:=Bx.mk hS4;clear hS4 hK4 c0 c1 c2 c3 c4 c5 c6;go_wp2_with fail;exact bodyPost_ret (v:=.tuple #[.pointer (some ⟨sb,0,none⟩),iX,.bool true]) (by simp [results,Tryz.results9,go_sem]) rfl ⟨sb,rfl,HS4.out,HB4.out⟩
end
section
open Go.RowKit
open Oct
structure IsPick (s:Int→Bool) (l:List Int) (r:Int):Prop where
 mem:r∈l
 sol:s r=decide (4≤l.countP s)
 best : ∀ d∈l,s d=decide (4≤l.countP s)→l.count d<l.count r∨(l.count d=l.count r∧r≤d)
theorem IsPick.unique {s:Int→Bool} {l:List Int} {r r':Int} (h:IsPick s l r) (h':IsPick s l r'):r=r':=by
 have h1:=h.best r' h'.mem h'.sol;have h2:=h'.best r h.mem h.sol;omega
theorem zJp (s:Int→Bool) {l:List Int} (hl:l.length=8) : ∃ d∈l,s d=decide (4≤l.countP s):=by
 by_cases h:4≤l.countP s
 · have:0<l.countP s:=by omega
   obtain ⟨d,hd,hs⟩:=List.countP_pos_iff.1 this;exact ⟨d,hd,by rw [hs];simpa using h⟩
 · have h1:l.countP s<l.length:=by omega
   have h2 : ¬ ∀ a∈l,s a=true:=fun h3=>by rw [List.countP_eq_length.2 h3] at h1;omega
   obtain ⟨d,h3⟩:=Classical.not_forall.1 h2;obtain ⟨hd,hs⟩:=Classical.not_imp.1 h3;exact ⟨d,hd,by rw [show s d=false by simpa using hs];simpa using h⟩
theorem zJo (P:Int→Prop) (m:Int→Nat) : ∀ (l:List Int),(∃ d∈l,P d) → ∃ r∈l,P r ∧ ∀ d∈l,P d→m d<m r∨(m d=m r∧r≤d)
 | [],h=>by obtain ⟨d,hd,_⟩:=h;cases hd
 | x :: l, h => by
   by_cases ht : ∃ d∈l,P d
   · obtain ⟨r,hr,hP,hb⟩:=zJo P m l ht;by_cases hx:P x∧(m r<m x∨(m x=m r∧x<r))
     · refine ⟨x,List.mem_cons_self ..,hx.1,fun d hd hPd=>?_⟩;rcases List.mem_cons.1 hd with rfl | hd
       · exact .inr ⟨rfl,Int.le_refl _⟩
       · have:=hb d hd hPd;have:=hx.2;omega
     · refine ⟨r,List.mem_cons_of_mem _ hr,hP,fun d hd hPd=>?_⟩;rcases List.mem_cons.1 hd with rfl | hd
       · have : ¬(m r<m d∨(m d=m r∧d<r)):=fun h=>hx ⟨hPd,h⟩;omega
       · exact hb d hd hPd
   · obtain ⟨d,hd,hPd⟩:=h;rcases List.mem_cons.1 hd with rfl | hd
     · refine ⟨d,List.mem_cons_self ..,hPd,fun e he hPe=>?_⟩;rcases List.mem_cons.1 he with rfl | he
       · exact .inr ⟨rfl,Int.le_refl _⟩
       · exact absurd ⟨e,he,hPe⟩ ht
     · exact absurd ⟨d,hd,hPd⟩ ht
theorem zJn (s:Int→Bool) {l:List Int} (hl:l.length=8) : ∃ r,IsPick s l r:=by
 obtain ⟨r,h1,h2,h3⟩:=zJo (fun d=>s d=decide (4≤l.countP s)) (fun d=>l.count d) l (zJp s hl);exact ⟨r,h1,h2,h3⟩
open Classical in
noncomputable def zJj (s:Int→Bool) (l:List Int):Int:=if h : ∃ r,IsPick s l r then h.choose else 0
theorem zJm (s:Int→Bool) {l:List Int} (hl:l.length=8):IsPick s l (zJj s l):=by
 unfold zJj;rw [dif_pos (zJn s hl)];exact (zJn s hl).choose_spec
theorem zJl {s:Int→Bool} {l:List Int} (hl:l.length=8) {r:Int} (h:IsPick s l r):r=zJj s l:=h.unique (zJm s hl)
theorem zJk (s:Int→Bool) {l:List Int} (hl:l.length=8) {c:Int} (h : ∀ x∈l,x=c):zJj s l=c:=h _ (zJm s hl).mem
def zDq (f:Pt→Int) (p:Pt):List Int:=(List.range 8).map fun k=>f ⟨2 * p.x+(k % 2:Nat),2 * p.y+(k / 2 % 2:Nat),2 * p.z+(k / 4:Nat)⟩
theorem zDr (f:Pt→Int) (p:Pt):(zDq f p).length=8:=by simp [zDq]
noncomputable def zT (s:Int→Bool) (f:Pt→Int):Pt→Int:=fun p=>zJj s (zDq f p)
theorem zEy (s:Int→Bool) (f:Pt→Int) (p:Pt):IsPick s (zDq f p) (zT s f p):=zJm s (zDr f p)
theorem zg {f:Pt→Int} {p:Pt} {x:Int} (h:x∈zDq f p) : ∃ q:Pt,x=f q∧q.x / 2=p.x∧q.y / 2=p.y∧q.z / 2=p.z:=by
 obtain ⟨k,hk,rfl⟩:=List.mem_map.1 h;have:=List.mem_range.1 hk;exact ⟨_,rfl,by simp only;omega,by simp only;omega,by simp only;omega⟩
theorem zEu {s:Int→Bool} {n:Nat} {f:Pt→Int} (h:FnC (n+1) f):FnC n (zT s f):=by
 refine ⟨fun p=>?_,fun p hp=>?_⟩
 · obtain ⟨q,e,_⟩:=zg (zEy s f p).mem;rw [e];exact h.range q
 · refine zJk s (zDr f p) fun x hx=>?_;obtain ⟨q,rfl,h1,h2,h3⟩:=zg hx;refine h.out q ?_;cases hq:inB q (zL (2 ^ (n+1+2))) with
   | false=>rfl
   | true =>
     exfalso;have hl:=zX.1 hq
     have:inB p (zL (2 ^ (n+2)))=true:=zX.2 (by
      simp only [zL,Pt.zero] at hl ⊢;rw [Tr.pow_succ2] at hl;omega)
     rw [this] at hp;cases hp
def zDF (a:Pt):Pt:=⟨2 * a.x,2 * a.y,2 * a.z⟩
theorem zDG {n:Nat} {a:Pt} (h:Tr.Al n a):Tr.Al (n+1) (zDF a):=by
 obtain ⟨h1,h2,h3⟩:=h;unfold Tr.Al zDF;rw [Tr.pow_succ2]
 have key : ∀ x:Int,x % 2 ^ (n+2)=0→2 * x % (2 ^ (n+2) * 2)=0:=by
  intro x hx;obtain ⟨y,hy⟩:=Int.dvd_of_emod_eq_zero hx;rw [hy,show 2 * (2 ^ (n+2) * y)=2 ^ (n+2) * 2 * y by rw [Int.mul_comm (2 ^ (n+2)) 2,Int.mul_assoc]]
  exact Int.mul_emod_right _ _
 exact ⟨key _ h1,key _ h2,key _ h3⟩
theorem zDH (a:Pt) (n:Nat) (i:Nat):Tr.cor (zDF a) (n+1) i=zDF (Tr.cor a n i):=by
 unfold Tr.cor zDF;rw [Tr.pow_succ2];simp only [Pt.mk.injEq]
 have key : ∀ x y m:Int,2 * x+y * (m * 2)=2 * (x+y * m):=fun x y m=>by
  rw [Int.mul_add,Int.mul_comm m 2,←Int.mul_assoc,Int.mul_comm y 2,Int.mul_assoc]
 exact ⟨key _ _ _,key _ _ _,key _ _ _⟩
theorem in_dbl {n:Nat} {a p q:Pt} (hp:Tr.InC n a p) (h1:q.x / 2=p.x) (h2:q.y / 2=p.y) (h3:q.z / 2=p.z):Tr.InC (n+1) (zDF a) q:=by
 obtain ⟨i1,i2,i3⟩:=hp;unfold Tr.InC zDF;rw [Tr.pow_succ2]
 have key : ∀ x y z:Int,z / 2=y→y / 2 ^ (n+2)=x / 2 ^ (n+2)→z / (2 ^ (n+2) * 2)=2 * x / (2 ^ (n+2) * 2):=by
  intro x y z h h';rw [Int.mul_comm _ 2,←Int.ediv_ediv_of_nonneg (by decide),h,h',←Int.ediv_ediv_of_nonneg (by decide),Int.mul_ediv_cancel_left _ (by decide)]
 exact ⟨key _ _ _ h1 i1,key _ _ _ h2 i2,key _ _ _ h3 i3⟩
theorem zB9 {c:Int} : ∀ (n:Nat) (a:Pt) (f:Pt→Int),Tr.Al n a→(∀ p,Tr.InC n a p→f p=c)→Tr.can f n a = .uni c
 | 0, a, f, ha, h => by
   unfold Tr.can Tr.mkBrick
   have key : ∀ x∈(List.range 64).map fun k=>f (Tr.cellAt a k),x=c:=by
    intro x hx;obtain ⟨k,hk,rfl⟩:=List.mem_map.1 hx;exact h _ (Tr.inC_cell ha (List.mem_range.1 hk) rfl).1
   have h0:((List.range 64).map fun k=>f (Tr.cellAt a k)).headD 0=c:=by
    rw [show List.range 64=0::(List.range 63).map Nat.succ from List.range_succ_eq_map];simp only [List.map_cons,List.headD_cons];exact key _ (List.mem_map.2 ⟨0,by simp,rfl⟩)
   rw [h0,if_pos key]
 | n + 1, a, f, ha, h => by
   have key : ∀ i:Fin 8,Tr.can f n (Tr.cor a n i.val) = .uni c:=fun i=>zB9 n _ f (Tr.al_cor ha _) fun p hp=>h p (Tr.inC_other ha hp).2;unfold Tr.can Tr.mkInner;rw [if_pos ⟨⟨c,key 0⟩,fun i=>(key i).trans (key 0).symm⟩];exact key 0
theorem zE1 {s:Int→Bool} {f:Pt→Int} {n:Nat} {a:Pt} {c:Int} (ha:Tr.Al n a) (h:Tr.can f (n+1) (zDF a) = .uni c):Tr.can (zT s f) n a = .uni c:=by
 refine zB9 n a _ ha fun p hp=>zJk s (zDr f p) fun x hx=>?_;obtain ⟨q,rfl,h1,h2,h3⟩:=zg hx;have:=Tr.get_can f (n+1) (zDF a) q (zDG ha) (in_dbl hp h1 h2 h3);rw [h] at this;exact this.symm
noncomputable def zEs (s:Int→Bool):Tr→Tr
 | .uni c=>.uni c
 | .brick l=>.brick l
 | .node d ch=>if d=3 then Tr.can (zT s fun p=>Tr.getT (.node d ch) 1 p) 0 ⟨0,0,0⟩ else Tr.mkInner (d - 1) fun i=>zEs s (ch i)
theorem al0 (n:Nat):Tr.Al n ⟨0,0,0⟩:=by unfold Tr.Al;simp
theorem zCB (f:Pt→Int) (n:Nat) (a:Pt) (i:Fin 8):(Tr.can f (n+1) a).kid i=Tr.can f n (Tr.cor a n i.val):=Tr.mkInner_kid (n+3) (fun i:Fin 8=>Tr.can f n (Tr.cor a n i.val)) i
theorem zEt (s:Int→Bool) (f:Pt→Int) : ∀ (n:Nat) (a:Pt),Tr.Al n a→zEs s (Tr.can f (n+1) (zDF a))=Tr.can (zT s f) n a
 | 0, a, ha => by
   cases ht:Tr.can f (0+1) (zDF a) with
   | uni c=>rw [zE1 ha ht];rfl
   | brick l =>
     exfalso;unfold Tr.can Tr.mkInner at ht;split at ht
     · rename_i h;obtain ⟨⟨c,hc⟩,_⟩:=h;rw [hc] at ht;cases ht
     · cases ht
   | node d ch =>
     have hd:d=3:=by
      unfold Tr.can Tr.mkInner at ht;split at ht
      · rename_i h;obtain ⟨⟨c,hc⟩,_⟩:=h;rw [hc] at ht;cases ht
      · injection ht with h1;exact h1.symm
     subst hd;unfold zEs;rw [if_pos rfl,←ht];unfold Tr.can
     congr 1
     refine List.map_congr_left fun k hk=>?_;have hk:=List.mem_range.1 hk;unfold zT
     congr 1
     unfold zDq;refine List.map_congr_left fun j hj=>?_;have hj:=List.mem_range.1 hj
     -- the cell at the origin's cube,and at this one
     obtain ⟨a1,a2,a3⟩:=ha;have e4:(2:Int) ^ (0+2)=4:=by decide
     rw [e4] at a1 a2 a3
     have hin:Tr.InC (0+1) (zDF a) ⟨2 * (Tr.cellAt a k).x+(j % 2:Nat),2 * (Tr.cellAt a k).y+(j / 2 % 2:Nat),2 * (Tr.cellAt a k).z+(j / 4:Nat)⟩:=by
      unfold Tr.InC zDF Tr.cellAt;rw [show (2:Int) ^ (0+1+2)=8 by decide]
      simp only;omega
     rw [←Tr.get_can f (0+1) (zDF a) _ (zDG ⟨by rw [e4];exact a1,by rw [e4];exact a2,by rw [e4];exact a3⟩) hin,ht]
     have same : ∀ p q:Pt,p.x % 8=q.x % 8→p.y % 8=q.y % 8→p.z % 8=q.z % 8→Tr.getT (.node 3 ch) 1 p=Tr.getT (.node 3 ch) 1 q:=by
      intro p q h1 h2 h3
      have ho:Tr.oct 0 p=Tr.oct 0 q:=by
       apply Fin.ext
       show Tr.octN 0 p=Tr.octN 0 q
       unfold Tr.octN;rw [show (2:Int) ^ (0+2)=4 by decide]
       omega
      have hi:Tr.idx p=Tr.idx q:=by unfold Tr.idx;omega
      unfold Tr.getT;rw [ho];cases ch (Tr.oct 0 q) with
      | uni c=>rfl
      | brick l=>unfold Tr.getT;rw [hi]
      | node d ch=>rfl
     refine same _ _ ?_ ?_ ?_ <;> (unfold Tr.cellAt;simp only;omega)
 | n + 1, a, ha => by
   have ih : ∀ i:Fin 8,zEs s ((Tr.can f (n+1+1) (zDF a)).kid i)=Tr.can (zT s f) n (Tr.cor a n i.val):=fun i=>by
    rw [zCB,zDH];exact zEt s f n _ (Tr.al_cor ha _)
   cases ht:Tr.can f (n+1+1) (zDF a) with
   | uni c=>rw [zE1 ha ht];rfl
   | brick l =>
     exfalso;unfold Tr.can Tr.mkInner at ht;split at ht
     · rename_i h;obtain ⟨⟨c,hc⟩,_⟩:=h;rw [hc] at ht;cases ht
     · cases ht
   | node d ch =>
     have hd:d=n+4:=by
      unfold Tr.can Tr.mkInner at ht;split at ht
      · rename_i h;obtain ⟨⟨c,hc⟩,_⟩:=h;rw [hc] at ht;cases ht
      · injection ht with h1;omega
     subst hd;unfold zEs;rw [if_neg (by omega)]
     rw [ht] at ih
     show Tr.mkInner (n+3) _=_
     rw [show Tr.can (zT s f) (n+1) a=Tr.mkInner (n+3) fun i=>Tr.can (zT s f) n (Tr.cor a n i.val) from rfl]
     congr 1
     funext i
     exact ih i
def zAc (y:Tr):Tr→Prop
 | .uni c=>y = .uni c
 | .brick l=>y = .brick l
 | .node d ch=>y = .node d ch ∨ ∃ i,zAc y (ch i)
theorem sub_self (t:Tr):zAc t t:=by
 cases t with
 | uni c=>rfl
 | brick l=>rfl
 | node d ch=>exact .inl rfl
theorem zM1 {y:Tr} : ∀ (t:Tr) (us:List Tr),y∈Tr.add t us→y∈us∨zAc y t:=by
 intro t
 induction t with
 | uni c=>intro us h;rw [Tr.add_uni] at h;exact (Tr.of_mem_ins h)
 | brick l=>intro us h;rw [Tr.add_brick] at h;exact (Tr.of_mem_ins h)
 | node d ch ih =>
   intro us h;rw [Tr.add_node] at h;split at h
   · exact .inl h
   · rcases List.mem_append.1 h with h | h
     · have:=Tr.addK_ind (P:=fun a => ∀ x∈a,x=y→y∈us ∨ ∃ i,zAc y (ch i)) (fun i a ha x hx e=>by
        subst e;rcases ih i a hx with h | h
        · exact ha x h rfl
        · exact .inr ⟨i,h⟩) 8 (Nat.le_refl _) us (fun x hx e=>.inl (e ▸ hx)) y h rfl
       rcases this with h | h
       · exact .inl h
       · exact .inr (.inr h)
     · exact .inr (.inl (List.mem_singleton.1 h))
theorem sub_in {us:List Tr} (hc:Tr.Closed us) {y:Tr} : ∀ (t:Tr),t∈us→zAc y t→y∈us:=by
 intro t
 induction t with
 | uni c=>intro ht h;rw [show y = .uni c from h];exact ht
 | brick l=>intro ht h;rw [show y = .brick l from h];exact ht
 | node d ch ih =>
   intro ht h;rcases h with h | ⟨i,h⟩
   · rw [h];exact ht
   · exact ih i (hc.2 d ch ht i) h
theorem zAu {us:List Tr} {y t:Tr} (hG:Good us) (hW:Tr.WF t) (h:zAc y t):y∈Tr.add t us:=sub_in (zEj t hG hW).closed t (Tr.mem_add _ _) h
theorem zEz (s:Int→Bool) {y:Tr} : ∀ (t:Tr),zAc y (zEs s t) → ∃ z,zAc z t∧y=zEs s z:=by
 intro t
 induction t with
 | uni c=>intro h;exact ⟨.uni c,rfl,h⟩
 | brick l=>intro h;exact ⟨.brick l,rfl,h⟩
 | node d ch ih =>
   intro h;have key:y=zEs s (.node d ch) → ∃ z,zAc z (.node d ch)∧y=zEs s z:=fun e=>⟨_,sub_self _,e⟩;have hd:=h;unfold zEs at hd;split at hd
   · refine key ?_;rename_i e;unfold zEs;rw [if_pos e];unfold Tr.can Tr.mkBrick at hd ⊢;split
     · rename_i h1;rw [if_pos h1] at hd;exact hd
     · rename_i h1;rw [if_neg h1] at hd;exact hd
   · rename_i e
     have hy:(y=Tr.mkInner (d - 1) fun i=>zEs s (ch i)) ∨ ∃ i,zAc y (zEs s (ch i)):=by
      unfold Tr.mkInner at hd ⊢;split
      · rename_i h1;rw [if_pos h1] at hd;exact .inr ⟨0,hd⟩
      · rename_i h1;rw [if_neg h1] at hd;rcases hd with hd | ⟨i,hd⟩
        · exact .inl hd
        · exact .inr ⟨i,hd⟩
     rcases hy with hy | ⟨i,hy⟩
     · refine key ?_;unfold zEs;rw [if_neg e];exact hy
     · obtain ⟨z,h1,h2⟩:=ih i hy;exact ⟨z,.inr ⟨i,h1⟩,h2⟩
open Classical in
theorem zIV {α:Type} : ∀ (l m:List α),l.Nodup→(∀ x∈l,x∈m)→l.length≤m.length
 | [],_,_,_=>Nat.zero_le _
 | x :: l, m, hn, hs => by
   have hx:=hs x (List.mem_cons_self ..);have h1:=zIV l (m.erase x) (List.nodup_cons.1 hn).2 (fun y hy=>(List.mem_erase_of_ne (show y ≠ x from fun e=>(List.nodup_cons.1 hn).1 (by rw [←e];exact hy))).2 (hs y (List.mem_cons_of_mem _ hy)))
   rw [List.length_erase_of_mem hx] at h1;have h2:=List.length_pos_of_mem hx;rw [List.length_cons];omega
theorem zEv {s:Int→Bool} {t:Tr} {us:List Tr} (hG:Good us) (hW:Tr.WF t) (hW':Tr.WF (zEs s t)):(Tr.add (zEs s t) us).length≤us.length+(Tr.add t []).length:=by
 have h:=zIV (Tr.add (zEs s t) us) (us++(Tr.add t []).map (zEs s)) (zEj _ hG hW').closed.1 (fun x hx=>by
  rcases zM1 _ _ hx with h | h
  · exact List.mem_append_left _ h
  · obtain ⟨z,h1,h2⟩:=zEz s t h;exact List.mem_append_right _ (List.mem_map.2 ⟨z,zAu zEm hW h1,h2.symm⟩))
 simpa using h
noncomputable def zHT (s:Int→Bool) (f:Pt→Int):Nat→Pt→Int
 | 0=>f
 | k+1=>zT s (zHT s f k)
theorem zHV {s:Int→Bool} {f:Pt→Int} {N:Nat} (h:FnC N f) : ∀ k,k≤N→FnC (N - k) (zHT s f k)
 | 0,_=>h
 | k + 1, hk => by
   have:=zHV (s:=s) h k (by omega)
   rw [show N - k=N - (k+1)+1 by omega] at this
   exact zEu this
theorem zE0 (s:Int→Bool) (f:Pt→Int) (n:Nat):zEs s (trF (n+1) f)=trF n (zT s f):=by
 have:=zEt s f n ⟨0,0,0⟩ (al0 n);rwa [show zDF ⟨0,0,0⟩=⟨0,0,0⟩ from rfl] at this
theorem zHW (s:Int→Bool) (f:Pt→Int) {N k:Nat} (hk:k<N):zEs s (trF (N - k) (zHT s f k))=trF (N - (k+1)) (zHT s f (k+1)):=by
 rw [show N - k=N - (k+1)+1 by omega,zE0];rfl
noncomputable def lvS (s:Int→Bool) (N:Nat) (f:Pt→Int) (ts:List Tr):Nat→List Tr
 | 0=>ts
 | k+1=>zA2 (N - (k+1)) (zHT s f (k+1)) (lvS s N f ts k)
theorem zGX {s:Int→Bool} {N:Nat} {f:Pt→Int} (hN:N≤12) (hf:FnC N f) {ts:List Tr} (hG:Good ts) : ∀ k,k≤N→Good (lvS s N f ts k)
 | 0,_=>hG
 | k+1,hk=>zA4 (by omega) (zHV hf _ hk) (zGX hN hf hG k (by omega))
theorem zGa {s:Int→Bool} {N:Nat} {f:Pt→Int} {ts:List Tr} : ∀ {j k:Nat},j≤k→lvS s N f ts j <+: lvS s N f ts k
 | j, 0, h => by obtain rfl : j = 0 := by omega
                 exact List.prefix_refl _
 | j, k + 1, h => by
   by_cases e:j=k+1
   · subst e;exact List.prefix_refl _
   · exact (zGa (j:=j) (k:=k) (by omega)).trans (zA6 _ _ _)
theorem zGZ {s:Int→Bool} {N:Nat} {f:Pt→Int} {ts:List Tr} (hm:trF N f∈ts) : ∀ {j k:Nat},j≤k→trF (N - j) (zHT s f j)∈lvS s N f ts k
 | 0,k,h=>(zGa (Nat.zero_le k)).subset hm
 | j+1,k,h=>(zGa h).subset (zA5 _ _ _)
theorem zHX {s:Int→Bool} {N:Nat} {f:Pt→Int} (hN:N≤12) (hf:FnC N f) : ∀ k,k≤N→(zA2 (N - k) (zHT s f k) []).length≤(zA2 N f []).length
 | 0,_=>Nat.le_refl _
 | k + 1, hk => by
   have h1:=zHX (s:=s) hN hf k (by omega)
   have hw:=zAD (zHV (s:=s) hf k (by omega)).range (N - k) ⟨0,0,0⟩ (by omega)
   have hw':=zAD (zHV (s:=s) hf (k+1) hk).range (N - (k+1)) ⟨0,0,0⟩ (by omega)
   have h2:=zEv (s:=s) zEm hw (by rw [zHW s f (by omega)];exact hw')
   rw [zHW s f (by omega)] at h2
   simp only [List.length_nil,Nat.zero_add] at h2;exact Nat.le_trans h2 h1
theorem zGY {s:Int→Bool} {N:Nat} {f:Pt→Int} (hN:N≤12) (hf:FnC N f) {ts:List Tr} (hG:Good ts) : ∀ k,k≤N→(lvS s N f ts k).length≤ts.length+k * (zA2 N f []).length
 | 0,_=>by simp [lvS]
 | k + 1, hk => by
   have h1:=zGY (s:=s) hN hf hG k (by omega)
   have hw:=zAD (zHV (s:=s) hf k (by omega)).range (N - k) ⟨0,0,0⟩ (by omega)
   have hw':=zAD (zHV (s:=s) hf (k+1) hk).range (N - (k+1)) ⟨0,0,0⟩ (by omega)
   have h2:=zEv (s:=s) (zGX (s:=s) hN hf hG k (by omega)) hw (by rw [zHW s f (by omega)];exact hw')
   rw [zHW s f (by omega)] at h2
   have h3:=zHX (s:=s) hN hf k (by omega)
   rw [Nat.add_mul,Nat.one_mul];have h4:(lvS s N f ts (k+1)).length≤(lvS s N f ts k).length+(zA2 (N - k) (zHT s f k) []).length:=h2;omega
def W64 (x:Int):Prop := -9223372036854775808≤x∧x≤9223372036854775807
theorem zOX (x:Int):W64 (IntKind.i64.wrap x):=by
 unfold W64;rw [IntKind.wrap_i64];omega
theorem or_w64 (x y:Int):W64 (bits .or .i64 x y):=by unfold bits;exact zOX _
theorem zIf {x:Int} (h:W64 x):BitVec.ofInt IntKind.i64.bits x=0 ↔ x=0:=by
 refine ⟨fun e=>?_,fun e=>by rw [e];rfl⟩
 have h1:=congrArg BitVec.toInt e;rw [show IntKind.i64.bits=64 from rfl] at h1;rw [BitVec.toInt_ofInt] at h1;simp only [Int.bmod] at h1;unfold W64 at h;have h2:(BitVec.toInt (0:BitVec 64))=0:=by decide
 rw [h2] at h1;split at h1 <;> omega
theorem zI3 {x y:Int} (hx:W64 x) (hy:W64 y):bits .or .i64 x y=0 ↔ x=0∧y=0:=by
 have h0:bits .or .i64 x y=0 ↔ BitVec.ofInt IntKind.i64.bits x ||| BitVec.ofInt IntKind.i64.bits y=0:=by
  unfold bits;simp only;generalize BitVec.ofInt IntKind.i64.bits x ||| BitVec.ofInt IntKind.i64.bits y=v;rw [IntKind.wrap_i64];have hv:=v.isLt;rw [show (2:Nat) ^ IntKind.i64.bits=18446744073709551616 by decide] at hv
  constructor
  · intro h;have:v.toNat=0:=by omega
    exact BitVec.eq_of_toNat_eq (by rw [this];simp)
  · intro h;rw [h];decide
 rw [h0];constructor
 · intro h;have h1:=(BitVec.or_eq_zero_iff).1 h;exact ⟨(zIf hx).1 h1.1,(zIf hy).1 h1.2⟩
 · rintro ⟨e1,e2⟩;rw [(zIf hx).2 e1,(zIf hy).2 e2];rfl
theorem zL5 {x:Int} (h:W64 x) (n:Nat):W64 (x / 2 ^ n):=by
 have hp:(0:Int)<2 ^ n:=Int.pow_pos (by decide)
 unfold W64 at h ⊢;constructor
 · exact (Int.le_ediv_iff_mul_le hp).2 (by
    have:(1:Int)≤2 ^ n:=by omega
    have h2:(9223372036854775808:Int) * 1≤9223372036854775808 * (2:Int) ^ n:=Int.mul_le_mul_of_nonneg_left this (by decide)
    rw [Int.neg_mul];omega)
 · have:x / 2 ^ n<9223372036854775808:=(Int.ediv_lt_iff_lt_mul hp).2 (by
    have:(1:Int)≤2 ^ n:=by omega
    have h2:9223372036854775808 * 1≤9223372036854775808 * (2:Int) ^ n:=Int.mul_le_mul_of_nonneg_left this (by decide)
    omega)
   omega
theorem zL6 {x:Int} (n:Nat):x / 2 ^ n=0 ↔ 0≤x∧x<2 ^ n:=by
 have hp:(0:Int)<2 ^ n:=Int.pow_pos (by decide)
 constructor
 · intro h;have h1:=Int.mul_ediv_add_emod x (2 ^ n);have h2:=Int.emod_nonneg x (show (2:Int) ^ n ≠ 0 by omega)
   have h3:=Int.emod_lt_of_pos x hp;rw [h,Int.mul_zero] at h1;omega
 · rintro ⟨h1,h2⟩;exact Int.ediv_eq_zero_of_lt h1 h2
theorem zI5 {p:Pt} (hx:W64 p.x) (hy:W64 p.y) (hz:W64 p.z) (n:Nat):bits .or .i64 (bits .or .i64 (p.x / 2 ^ n) (p.y / 2 ^ n)) (p.z / 2 ^ n)=0 ↔ inB p (zL (2 ^ n))=true:=by
 rw [zI3 (or_w64 _ _) (zL5 hz n),zI3 (zL5 hx n) (zL5 hy n),zL6,zL6,zL6,zX];simp only [zL,Pt.zero];omega
end
end Go.Proofs.YtgnfgblkpnfcnaaGreatDoor
