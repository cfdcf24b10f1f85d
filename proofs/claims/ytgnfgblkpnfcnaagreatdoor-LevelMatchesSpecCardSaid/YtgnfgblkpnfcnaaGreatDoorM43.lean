/- Lsp, Edt, Edc, Efl, Tbr, Tfe, Tfb, Gwr, Tw1, Row, Sho: joined by program, for one claim. -/
import Derived.Test.YtgnfgblkpnfcnaaGreatDoorM42
import Derived.Deep.Onto
import Derived.Deep.AppendSrc
import Derived.Deep.Upon
set_option maxRecDepth 100000
set_option linter.unusedVariables false
set_option linter.unusedSimpArgs false
namespace Go.Proofs.YtgnfgblkpnfcnaaGreatDoor
section
open Go.RowKit
open Oct
def cF:Pt→Int:=fun p=>if inB p (zL 16)=true then 1 else 0
theorem cF_fn:FnC 2 cF:=by
 refine ⟨fun p=>?_,fun p hp=>?_⟩
 · unfold cF;split <;> decide
 · unfold cF;rw [if_neg];intro h;have:zL (2 ^ (2+2))=zL 16:=by decide
   rw [this,h] at hp;cases hp
theorem zB4:trF 2 cF = .uni 1:=zB9 2 _ _ (al0 2) fun p hp=>by
 have:=zFR (n:=2) hp;unfold cF;rw [show zL 16=zL (2 ^ (2+2)) by decide,if_pos this]
theorem zHZ {s:Int→Bool} {N:Nat} {f:Pt→Int} {c:Int} (h:trF N f = .uni c) : ∀ k,k≤N→trF (N - k) (zHT s f k) = .uni c
 | 0,_=>h
 | k + 1, hk => by
   rw [←zHW s f (by omega),zHZ h k (by omega)];rfl
theorem zGb {s:Int→Bool} {N:Nat} {f:Pt→Int} {c:Int} (h:trF N f = .uni c) {ts:List Tr} (hm:Tr.uni c∈ts) : ∀ k,k≤N→lvS s N f ts k=ts
 | 0,_=>rfl
 | k + 1, hk => by
   show Tr.add (trF (N - (k+1)) (zHT s f (k+1))) (lvS s N f ts k)=ts
   rw [zHZ h (k+1) hk,zGb h hm k (by omega),Tr.add_same _ _ hm]
def b8:Box:=⟨⟨0,0,0⟩,⟨8,8,4⟩⟩
def x8:List Int:=List.replicate 256 1
def g8:Pt→Int:=zF b8 x8
theorem zEV (hcp:Nat) (h:256≤hcp):GoodG b8 x8 hcp :=
 ⟨by constructor <;> decide,by decide +kernel,by unfold x8;rw [List.length_replicate];decide,fun x hx=>by rw [List.eq_of_mem_replicate hx];decide,by unfold x8;rw [List.length_replicate];exact h⟩
theorem zEY:zAB b8 x8=true:=by decide +kernel
theorem g8_in:zJ ⟨⟨0,0,0⟩,⟨2 ^ (1+2),2 ^ (1+2),2 ^ (1+2)⟩⟩ b8=true:=by decide +kernel
theorem zEU:FnC 1 g8:=zEp (zEV 256 (Nat.le_refl _)) (.inr g8_in)
theorem g8_one {p:Pt} (h:inB p b8=true):g8 p=1:=by
 unfold g8 zF;rw [if_pos h];have hl:=zX.1 h;unfold zY;rw [if_pos h];unfold x8;rw [List.getD_eq_getElem?_getD,List.getElem?_replicate,if_pos]
 · rfl
 · have hs:zv b8=⟨8,8,4⟩:=by decide
   rw [hs];simp only [b8] at hl ⊢;omega
theorem zEZ {p:Pt} (h:inB p b8=false):g8 p=0:=by unfold g8 zF;rw [if_neg (by simp [h])]
theorem zEX (s:Int→Bool):zHT s g8 1 ⟨2,1,1⟩=1:=by
 show zJj s (zDq g8 ⟨2,1,1⟩)=1
 refine zJk s (zDr _ _) fun x hx=>?_;obtain ⟨q,rfl,h1,h2,h3⟩:=zg hx;exact g8_one (zX.2 (by simp only [b8];simp only at h1 h2 h3;omega))
theorem zEW (s:Int→Bool):zHT s g8 1 ⟨2,1,2⟩=0:=by
 show zJj s (zDq g8 ⟨2,1,2⟩)=0
 refine zJk s (zDr _ _) fun x hx=>?_;obtain ⟨q,rfl,h1,h2,h3⟩:=zg hx;refine zEZ ?_;cases h:inB q b8 with
 | false=>rfl
 | true =>
   have hl:=zX.1 h;simp only [b8] at hl;simp only at h3;omega
def p8 (a b c d e f g h:Int):Nat→Int
 | 0=>a | 1=>b | 2=>c | 3=>d | 4=>e | 5=>f | 6=>g | 7=>h | _=>0
theorem zGL (a b c d e f g h:Int):l8 (p8 a b c d e f g h)=[a,b,c,d,e,f,g,h]:=by simp [l8,List.range,List.range.loop,p8]
instance (s:Int→Bool) (l:List Int) (r:Int):Decidable (r∈l∧s r=decide (4≤l.countP s) ∧ ∀ d∈l,s d=decide (4≤l.countP s)→l.count d<l.count r∨(l.count d=l.count r∧r≤d)):=inferInstance
theorem pick1:zJj (zx zDN) (l8 (p8 1 1 2 2 0 0 0 0))=1:=by
 rw [zGL];refine (zJl (by rfl) ⟨?_,?_,?_⟩).symm
 all_goals decide +kernel
theorem pick2:zJj (zx zDN) (l8 (p8 1 1 2 2 2 5 5 5))=2:=by
 rw [zGL];refine (zJl (by rfl) ⟨?_,?_,?_⟩).symm
 all_goals decide +kernel
theorem pick3:zJj (zx zDN) (l8 (p8 1 1 1 5 5 0 0 5))=5:=by
 rw [zGL];refine (zJl (by rfl) ⟨?_,?_,?_⟩).symm
 all_goals decide +kernel
theorem zHU {s:Int→Bool} {N:Nat} {f:Pt→Int} (hN:N≤12) (hf:FnC N f) {ts:List Tr} (hG:Good ts):(lvS s N f ts N).length≤ts.length+N * (zA2 N f []).length:=zGY hN hf hG N (Nat.le_refl N)
end
section
open Go.RowKit Go.Sort Go.Maps
open Oct
abbrev Stays (Far:Nat→Prop) (P:World→Prop):Prop := ∀ a b,Keeps Far a b→P a→P b
theorem Bk.keeps {w w':World} {Far:Nat→Prop} {g:Nat} {cs:Array Value} {t:TypeId} (h:Bk w g cs t) (hk:Keeps Far w w') (hf:Far g):Bk w' g cs t:=by
 unfold Bk;rw [hk.block g hf h.lt];exact h
end
section
open Go.RowKit Go.Sort Go.Maps
open Oct
structure InT (N n:Nat) (a:Pt):Prop where
 le:n≤N
 al:Tr.Al n a
 x:0≤a.x∧a.x+2 ^ (n+2)≤2 ^ (N+2)
 y:0≤a.y∧a.y+2 ^ (n+2)≤2 ^ (N+2)
 z:0≤a.z∧a.z+2 ^ (n+2)≤2 ^ (N+2)
theorem InT.kid {N n:Nat} {a:Pt} (h:InT N (n+1) a) {i:Nat} (hi:i<8):InT N n (Tr.cor a n i):=by
 have hp:=Tr.pow_pos2 n;have hp2:=Tr.pow_succ2 n;obtain ⟨c1,c2,c3⟩:=zCd hi (m:=2 ^ (n+2)) (by omega)
 obtain ⟨h1,h2,h3,h4,h5⟩:=h;refine ⟨by omega,Tr.al_cor h2 i,?_,?_,?_⟩
 all_goals
  rw [zCv];simp only [];omega
theorem InT.bd {N n:Nat} {a:Pt} (hN:N≤12) (h:InT N n a):(0≤a.x∧a.x≤16384)∧(0≤a.y∧a.y≤16384)∧(0≤a.z∧a.z≤16384):=by
 have hp:=(zn (show N+2≤14 by omega)).2
 have hp2:=Tr.pow_pos2 n;obtain ⟨h1,h2,h3,h4,h5⟩:=h;omega
attribute [local go_sem ↓] Go.wp_at_zero Go.wp_at_succ
end
section
open Go.RowKit Go.Sort Go.Maps
open Oct
abbrev zDC (n:Nat) (a:Pt):Box:=⟨⟨a.x,a.y,a.z⟩,⟨a.x+2 ^ (n+2),a.y+2 ^ (n+2),a.z+2 ^ (n+2)⟩⟩
theorem InT.cube {N n:Nat} {a:Pt} (h:InT N n a) {p:Pt} (hp:Tr.InC n a p):inB p (zDC n a)=true:=zFJ rfl (show Tr.Al n ⟨a.x,a.y,a.z⟩ from h.al) hp
theorem InT.whole {N n:Nat} {a:Pt} (h:InT N n a) {p:Pt} (hp:Tr.InC n a p):inB p (wholeB N)=true:=by
 have h1:=zX.1 (h.cube hp);simp only [] at h1;obtain ⟨-,-,x,y,z⟩:=h;exact zX.2 ⟨by show (0:Int)≤_;omega,by show _<(2:Int) ^ (N+2);omega,by show (0:Int)≤_;omega,by show _<(2:Int) ^ (N+2);omega,by show (0:Int)≤_;omega,by show _<(2:Int) ^ (N+2);omega⟩
theorem InT.far {N n:Nat} {a:Pt} (hN:N≤12) (h:InT N n a):(-100000≤a.x∧a.x≤100000)∧(-100000≤a.y∧a.y≤100000)∧(-100000≤a.z∧a.z≤100000):=by
 have:=h.bd hN;omega
theorem copied {w:World} {g Bd n cap:Nat} {xs zs:List Int} {cur:List Value} (h1:w.heap[g]? = some (.cells cur.toArray 3 (0,0))) (h2:cur.length=cap) (h4:n≤cap) (h5:cap≤maxLen) (h6:Bd≤g) (hz:zs.length=n) :
 Own (w.setRow g (zs.map (Value.int .i64)++cur.drop zs.length).toArray) Bd 3 .i64 (.slice (some ⟨g,0,none⟩) n cap) zs∧Keeps (fun k=>k<Bd) w (w.setRow g (zs.map (Value.int .i64)++cur.drop zs.length).toArray):=by
 refine ⟨Own.mk' (cur:=zs.map (Value.int .i64)++cur.drop n) ?_ ?_ ?_ h4 h5 h6 hz.symm,⟨rfl,rfl,rfl,by simp [World.setRow],fun k hk _=>setRow_other w g k _ (by omega)⟩⟩
 · rw [setRow_heap w g _ _ 3 _ h1,hz]
 · simp;omega
 · rw [List.take_append_of_le_length (by simp;omega),List.take_of_length_le (by simp;omega)]
structure PasteP (gb gd:Nat) (a b c d e f:Int) (ha:Option Addr) (hcp:Nat) (ys:List Int) (w:World):Prop where
 kb:Bk w gb #[a,b,c,d,e,f,.slice ha ys.length hcp] 28
 kd:Bk w gd #[a,b,c,d,e,f] 25
 sl:Sl w .i64 ha ys
abbrev PasteF (gb gd:Nat) (ha:Option Addr) (ys:List Int):Nat→Prop:=fun x=>x=gb∨x=gd∨(ys ≠ []∧ha.map (·.block)=some x)
theorem PasteP.stays (gb gd:Nat) (a b c d e f:Int) (ha:Option Addr) (hcp:Nat) (ys:List Int):Stays (PasteF gb gd ha ys) (PasteP gb gd a b c d e f ha hcp ys):=fun x y hk h =>
 ⟨h.kb.keeps hk (.inl rfl),h.kd.keeps hk (.inr (.inl rfl)),h.sl.far hk (fun hn b hb=>.inr (.inr ⟨hn,hb⟩))⟩
theorem Done.less {Far Far':Nat→Prop} {sb:Nat} {most:Int} {ts ts':List Tr} {t:Tr} {w w1 w':World} {e:Ending} (h:Done Far' sb most ts ts' t w1 e w') (hk:Keeps Far w w1) (hf : ∀ k,Far k→Far' k):Done Far sb most ts ts' t w e w':=by
 refine ⟨hk.trans (h.keeps.less hf),Nat.le_trans hk.size h.size,?_⟩;rcases h.way with ⟨h1,h2,h3⟩ | ⟨h1,h2,h3⟩
 · exact .inl ⟨h1,h2,h3.less hf⟩
 · exact .inr ⟨h1,h2,h3.less hf⟩
end
section
open Go.RowKit Go.Sort
structure Chg where
 x:Int
 y:Int
 z:Int
 o:Int
 n:Int
abbrev Chg.at (c:Chg):Pt:=⟨c.x,c.y,c.z⟩
def Chg.cells (c:Chg):List Value:=[.int .i64 c.x,.int .i64 c.y,.int .i64 c.z,.int .i64 c.o,.int .i64 c.n]
def SlC (w:World) (a:Option Addr) (cs:List Chg):Prop := ∀ (i:Nat) (c:Chg),cs[i]? = some c → ∃ b off,a=some ⟨b,off,none⟩∧w.cell? ⟨b,off+i * 5,none⟩=some (.int .i64 c.x)∧w.cell? ⟨b,off+i * 5+1,none⟩=some (.int .i64 c.y)∧w.cell? ⟨b,off+i * 5+2,none⟩=some (.int .i64 c.z)∧w.cell? ⟨b,off+i * 5+3,none⟩=some (.int .i64 c.o)∧w.cell? ⟨b,off+i * 5+4,none⟩=some (.int .i64 c.n)
theorem SlC.of_block {w w':World} {a:Option Addr} {cs:List Chg} (h:SlC w a cs) (hb : ∀ b,a.map (·.block)=some b→b<w.heap.size→w'.heap[b]? = w.heap[b]?):SlC w' a cs:=by
 intro i c hc;obtain ⟨b,off,rfl,c0,c1,c2,c3,c4⟩:=h i c hc;have hh:=hb b rfl (World.block_lt_of_cell? w _ c0);exact ⟨b,off,rfl,(World.cell?_of_block hh).trans c0,(World.cell?_of_block hh).trans c1,(World.cell?_of_block hh).trans c2,(World.cell?_of_block hh).trans c3,(World.cell?_of_block hh).trans c4⟩
theorem SlC.below {w w':World} {a:Option Addr} {cs:List Chg} (h:SlC w a cs) (hb:Below w.heap.size w w'):SlC w' a cs:=h.of_block fun b _ hl=>hb.block b hl
theorem SlC.grown {w w':World} {a:Option Addr} {cs:List Chg} {g:Nat} (h:SlC w a cs) (hg:w.grownBy w' (some g)) (hne:a.map (·.block) ≠ some g):SlC w' a cs:=h.of_block fun b hb hl=>hg.block b hl (fun e=>hne (by rw [hb,e]))
end
section
open Go.RowKit Go.Sort Go.Maps
open Go.WideMaps (KeyLaw)
open Oct
theorem MapV.drewN {k:TypeId} {w:World} {b n:Nat} {f:Value→Option Value} (h:MapV k w b n f) (d:Nat):MapV k (w.drewN d) b n f:=h.of_block (by simp)
end
section
open Go.RowKit Go.Sort Go.Maps
open Oct
theorem zJA {w w':World} {B k n:Nat} {e:TypeId} {v:Value} {xs:List Value} (h:w.ownsRow B e k v n xs) (hb:Below w.heap.size w w'):w'.ownsRow B e k v n xs :=
 World.ownsRow.kept (row:=none) h ⟨hb.os,hb.tape,hb.output,hb.size,fun i hi _=>hb.block i hi⟩ (by cases v.ownBlock <;> simp)
theorem zJC {w:World} {B k n:Nat} {e:TypeId} {v:Value} {xs:List Value} (h:w.ownsRow B e k v n xs) : ∃ a c,v = .slice a n c∧n≤c∧(n=0 ∨ ∃ g,a=some ⟨g,0,none⟩∧B≤g∧g<w.heap.size) ∧ ∀ (j:Nat) u,xs[j]? = some u → ∃ g,a=some ⟨g,0,none⟩∧w.cell? ⟨g,j,none⟩=some u:=by
 rcases h.2 with ⟨rfl,rfl⟩ | ⟨g,cap,cur,rfl,hb,hg,hnc,hcm,hcs,ht⟩
 · refine ⟨none,0,rfl,Nat.le_refl _,.inl rfl,fun j u hj=>?_⟩;have:=h.1;rw [Nat.zero_mul] at this;rw [List.eq_nil_of_length_eq_zero this] at hj;simp at hj
 · refine ⟨_,cap,rfl,hnc,.inr ⟨g,rfl,hb,(Array.getElem?_eq_some_iff.1 hg).1⟩,fun j u hj=>⟨g,rfl,?_⟩⟩;have hi:j<n * k:=by have:=(List.getElem?_eq_some_iff.1 hj).1;rw [h.1] at this;exact this
   have hcell:w.cell? ⟨g,j,none⟩=cur[j]? := by simp [World.cell?,hg]
   rw [hcell];rw [←ht,List.getElem?_take,if_pos hi] at hj;simpa using hj
end
section
open Go.RowKit Go.Sort
def z16:List Int:=List.replicate 16 0
structure ShoI (w:World) (b o:Nat) (xs:List Int) (i:Nat) (wr:World):Prop where
 bel:Below w.heap.size w wr
 kr:Bl wr w.heap.size .u8 z16 43
 kb:Bl wr b .u8 xs 162
 ko:Bl wr o .u8 (xs.take i++List.replicate (16 - i) 0) 43
 ap:w.heap.size<b∧b<o
theorem ShoI.put {w wr:World} {b o:Nat} {xs:List Int} {i:Nat} {x:Int} (h:ShoI w b o xs i wr) (hi:i<16) (hx:xs[i]? = some x):ShoI w b o xs (i+1) (wr.setCell ⟨o,i,none⟩ (.int .u8 x)):=by
 have ha:=h.ap;have hl:i<xs.length:=(List.getElem?_eq_some_iff.1 hx).1;have hti:(xs.take i).length=i:=by rw [List.length_take];omega
 refine ⟨h.bel.setCell (by show w.heap.size≤o;omega) _,h.kr.other _ _ (by show w.heap.size ≠ o;omega),h.kb.other _ _ (by show b ≠ o;omega),?_,ha⟩
 have:=h.ko.put i x;rw [show 16 - i=(16 - (i+1))+1 by omega,List.replicate_succ,List.set_append_right _ _ (by omega),hti,Nat.sub_self,List.set_cons_zero] at this
 obtain ⟨h1,rfl⟩:=List.getElem?_eq_some_iff.1 hx;rw [List.take_succ_eq_append_getElem h1,List.append_assoc];exact this
theorem ShoI.at_ {w wr:World} {b o:Nat} {xs:List Int} {i:Nat} (h:ShoI w b o xs i wr) (hi:i<16) (hl:xs.length=32):wr.cell? ⟨o,i,none⟩=some (.int .u8 0) :=
 h.ko.cell (by
  have hti:(xs.take i).length=i:=by rw [List.length_take];omega
  rw [List.getElem?_append_right (by omega),hti,Nat.sub_self,show 16 - i=(16 - (i+1))+1 by omega,List.replicate_succ];rfl)
def zA (w:World) (xs:List Int) (e:Ending) (w':World):Prop:=e = .returned (zBP .u8 xs)∧Below w.heap.size w w'
theorem zL4 (kc m:List Int) (hk:kc.length=64) (hm:m.length≤500000000) (hb:Byt m) (a:Option Addr) (cap:Nat) (w:World) (hs:Sl w .u8 a m) (hK:zAX w 0 kc) :
 Calls Tryz.prog 107 #[.slice a m.length cap] w (zA w ((sha kc m).take 16)):=by
 have hs:=Bx.mk hs;have hK:=Bx.mk hK;have hsum:=Bx.mk fun (W:World) (h1:Sl W .u8 a m) (h2:zAX W 0 kc)=>zK9 kc m hk hm hb a cap W h1 h2;have hl32:(sha kc m).length=32:=zI6 _;unfold zAd at hsum;generalize sha kc m=xs at *;generalize m.length=n at *;go_enter Tryz.func107,Tryz.ntmps107;go_upto_region 1 with fail;generalize hW:World.alloc w _=w1
 have HJ:Bx (Below w.heap.size w w1∧Bl w1 w.heap.size .u8 z16 43):=by
  rw [←hW];exact ⟨⟨(Below.refl _ _).alloc (Nat.le_refl _) _,(zD _ _ _ rfl:Bk _ _ _ _)⟩⟩
 clear hW;have hsum1:=Bx.mk (hsum.out w1 (hs.out.below HJ.out.1) (fun i v hv=>cell_later HJ.out.1 (hK.out i v hv)));unfold zBP at hsum1;have hsz:Bx ((xs.map (Value.int .u8)).toArray.size=32):=⟨by rw [List.size_toArray,List.length_map,hl32]⟩
 have hone:=Bx.mk (zl .u8 xs);have H1:=Bx.mk (show ∀ cs:Array Value,cs.size=32→(Tryz.prog.info? 162).map (·.size)=some cs.size from fun cs h=>by rw [h];kernel_rfl)
 replace hl32:=Bx.mk hl32;go_wp2_with fail;refine hsum1.out.mono ?_;rintro _ w2 ⟨rfl,hb2⟩;have HJ2:Bx (Below w.heap.size w w2∧Bl w2 w.heap.size .u8 z16 43):=⟨HJ.out.1.trans (hb2.mono HJ.out.1.size),HJ.out.2.later hb2⟩;clear HJ hb2 hsum1 hsum;go_upto_region 2 with (refine zAJ rfl _ _ _ rfl w2.heap.size rfl _ _ rfl _ (heap_alloc_new _ _) (H1.out _ hsz.out) (by rw [hsz.out];rfl) hone.out ?_)
 simp only [Act.put];generalize hW:World.setRow (World.alloc w2 _) _ _=w3
 have HJ3:Bx (Below w.heap.size w w3∧Bl w3 w.heap.size .u8 z16 43∧Bl w3 w2.heap.size .u8 xs 162∧w2.heap.size<w3.heap.size∧w.heap.size<w2.heap.size):=by
  have hb3:Below w2.heap.size w2 w3:=by rw [←hW];exact below_setRow ((Below.refl _ _).alloc (Nat.le_refl _) _) (Nat.le_refl _) _
  have hk3:Bl w3 w2.heap.size .u8 xs 162:=by rw [←hW];exact setRow_heap _ _ _ _ _ (0,0) (heap_alloc_new _ _)
  exact ⟨HJ2.out.1.trans (hb3.mono HJ2.out.1.size),HJ2.out.2.later hb3,hk3,hk3.lt,HJ2.out.2.lt⟩
 clear hW HJ2;go_upto_region 3 with fail;generalize hW:World.alloc w3 _=w4
 have HI:Bx (ShoI w w2.heap.size w3.heap.size xs 0 w4):=by
  rw [←hW];exact ⟨⟨HJ3.out.1.alloc HJ3.out.1.size _,(zE HJ3.out.2.1:Bk _ _ _ _),(zE HJ3.out.2.2.1:Bk _ _ _ _),(zD _ _ _ rfl:Bk _ _ _ _),HJ3.out.2.2.2.2,HJ3.out.2.2.2.1⟩⟩
 clear hW HJ3;generalize w3.heap.size=o at *;generalize w2.heap.size=b at *;go_wp2_with fail
 go_loopw [5] (fun v5 wr => ∃ i:Nat,i≤16∧v5 = .int .i64 i∧Bx (ShoI w b o xs i wr)) (fun v5 _=>16 - (intOf v5).toNat)
 case atStart=>exact ⟨0,Nat.zero_le _,rfl,HI⟩
 case round =>
  clear HI;obtain ⟨i,hi,rfl,HI⟩:=hrel;by_cases hlt:i<16
  · have t0:decide ((i:Int)<16)=true:=by simp;omega
    obtain ⟨x,hx⟩ : ∃ x,xs[i]? = some x:=⟨_,List.getElem?_eq_getElem (by have:=hl32.out;omega)⟩
    have c1:=HI.out.kb.cell hx;have co:=HI.out.at_ hlt hl32.out;have fo:=HI.out.ko.frozen i;have HI2:=Bx.mk (HI.out.put hlt hx);have q0:(0:Int)≤(i:Int):=by omega
    have q1:(i:Int)<16:=by omega
    have q2:(i:Int)<32:=by omega
    clear hx HI;go_wp2_with fail
    go_roundw
    case rel=>exact ⟨i+1,by omega,by go_num,HI2⟩
    case measure=>simp [intOf];omega
  · have t0:decide ((i:Int)<16)=false:=by simp;omega
    obtain rfl:i=16:=by omega
    have hko:Bx (Bl wr o .u8 (xs.take 16) 43):=⟨by have:=HI.out.ko;rw [Nat.sub_self,List.replicate_zero,List.append_nil] at this;exact this⟩
    have hkr:=Bx.mk HI.out.kr;have hsz:Bx (((xs.take 16).map (Value.int .u8)).toArray.size=16):=⟨by rw [List.size_toArray,List.length_map,List.length_take,hl32.out];rfl⟩
    have hs2:Bx (((z16.map (Value.int .u8)).toArray).size=((xs.take 16).map (Value.int .u8)).toArray.size):=⟨by rw [hsz.out];rfl⟩
    have hone:=Bx.mk (zl .u8 (xs.take 16));have H2:=Bx.mk (show ∀ cs:Array Value,cs.size=16→(Tryz.prog.info? 43).map (·.size)=some cs.size from fun cs h=>by rw [h];kernel_rfl)
    generalize xs.take 16=os at *;go_upto_region 7 with fail
    go_wp2_with (first
     | refine zAI rfl _ _ rfl o rfl _ _ hko.out _ Tryz.underlying43 rfl (H2.out _ hsz.out) ?_
     | refine zAJ rfl _ _ _ rfl w.heap.size rfl _ _ rfl _ hkr.out (H2.out _ hsz.out) hs2.out hone.out ?_)
    refine bodyPost_ret (v:=zBP .u8 os) (results_cell_row rfl _ _ w.heap.size 43 _ (0,0) _ rfl (hkr.out.whole _) Tryz.underlying43 rfl (H2.out _ hsz.out)) rfl ⟨rfl,below_setRow HI.out.bel (Nat.le_refl _) _⟩
theorem zK8 (kc:List Int) (hk:kc.length=64) (tag:Int) (a:Option Addr) (cap:Nat) (ps:List (List Int)) (hp:Parts ps) (w:World) (hs:Slv w a (zy ps)) (hK:zAX w 0 kc) :
 Calls Tryz.prog 47 #[tag,.slice a ps.length cap] w (zA w (dig kc tag ps)):=by
 have hs:=Bx.mk hs;have hK:=Bx.mk hK;have hin:=Bx.mk fun (W:World) (h:Slv W a (zy ps))=>zFh tag a cap ps hp W h;have hml:Bx ((zDf tag ps).length≤500000000):=⟨by have:=zDg tag 20 hp.len hp.few;omega⟩
 have hbm:=Bx.mk (zBx tag hp.byt);clear hp;unfold dig;generalize zDf tag ps=m at *;generalize ps.length=pn at *;go_enter Tryz.func47,Tryz.ntmps47;go_upto_region 1 with fail;generalize hW:World.alloc w _=w1
 have HJ:Bx (Below w.heap.size w w1∧Bl w1 w.heap.size .u8 z16 43):=by
  rw [←hW];exact ⟨⟨(Below.refl _ _).alloc (Nat.le_refl _) _,(zD _ _ _ rfl:Bk _ _ _ _)⟩⟩
 clear hW;go_wp2_with fail;refine (hin.out w1 (hs.out.below HJ.out.1)).mono ?_;rintro _ w2 ⟨v2,rfl,hp2⟩;obtain ⟨a2,c2,rfl,hs2⟩:=hp2.own.form;have HJ2:Bx (Below w.heap.size w w2∧Bl w2 w.heap.size .u8 z16 43):=⟨HJ.out.1.trans (hp2.bel.mono HJ.out.1.size),HJ.out.2.later hp2.bel⟩;have hsh:=zL4 kc m hk hml.out hbm.out a2 c2 w2 hs2 (fun i v hv=>cell_later HJ2.out.1 (hK.out i v hv));have hl16:((sha kc m).take 16).length=16:=by rw [List.length_take,show (sha kc m).length=32 from zI6 _];rfl
 replace hsh:=Bx.mk hsh;clear hp2 HJ hs2;generalize (sha kc m).take 16=os at *;generalize m.length=mn at *;have hsz:Bx (((os).map (Value.int .u8)).toArray.size=16):=⟨by rw [List.size_toArray,List.length_map,hl16]⟩
 have hs2:Bx (((z16.map (Value.int .u8)).toArray).size=(os.map (Value.int .u8)).toArray.size):=⟨by rw [hsz.out];rfl⟩
 have hone:=Bx.mk (zl .u8 os);have H2:=Bx.mk (show ∀ cs:Array Value,cs.size=16→(Tryz.prog.info? 43).map (·.size)=some cs.size from fun cs h=>by rw [h];kernel_rfl)
 clear hl16;go_wp2_with fail;refine hsh.out.mono ?_;rintro _ w3 ⟨rfl,hb3⟩;have HJ3:Bx (Below w.heap.size w w3∧Bl w3 w.heap.size .u8 z16 43):=⟨HJ2.out.1.trans (hb3.mono HJ2.out.1.size),HJ2.out.2.later hb3⟩;have hkr:=Bx.mk HJ3.out.2;unfold zBP;go_wp2_with (refine zAJ rfl _ _ _ rfl w.heap.size rfl _ _ rfl _ hkr.out (H2.out _ hsz.out) hs2.out hone.out ?_);refine bodyPost_ret (v:=zBP .u8 os) (results_cell_row rfl _ _ w.heap.size 43 _ (0,0) _ rfl (hkr.out.whole _) Tryz.underlying43 rfl (H2.out _ hsz.out)) rfl ⟨rfl,below_setRow HJ3.out.1 (Nat.le_refl _) _⟩
end
end Go.Proofs.YtgnfgblkpnfcnaaGreatDoor
