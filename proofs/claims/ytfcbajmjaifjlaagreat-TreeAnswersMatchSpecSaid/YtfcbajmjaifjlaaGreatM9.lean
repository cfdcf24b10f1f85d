/- M25, M26, M27: joined by program. -/
import Derived.Test.YtfcbajmjaifjlaaGreatM8
import Derived.WideKeyEntry
set_option maxHeartbeats 4000000
set_option maxRecDepth 100000
set_option linter.all false
attribute [local simp] Go.Op.operands Go.Call.operands
namespace Go.Proofs.YtfcbajmjaifjlaaGreat
section
open Go.RowKit Go.Sort Go.Maps
open Oct
theorem zFM {N:Nat} (hN:N≤12) (gb gs gc gk gd sb:Nat) (a b c d e f cell:Int) (hc:0≤cell∧cell≤255) (UA:Int) (g:Pt→Int) :
 EditC [] (FillF gb gs gc gk gd) (FillP gb gs gc gk gd sb a b c d e f cell) sb UA N g (zE9 N ⟨⟨a,b,c⟩,⟨d,e,f⟩⟩ cell g) (fun _ _=>True) (fun _ _=>True) 113 114
  #[.pointer (some ⟨gb,0,none⟩),.pointer (some ⟨gs,0,none⟩),.pointer (some ⟨gc,0,none⟩),.pointer (some ⟨gk,0,none⟩)] #[.pointer (some ⟨gb,0,none⟩),.pointer (some ⟨gc,0,none⟩)] (.func (.func 114) #[] #[.pointer (some ⟨gb,0,none⟩),.pointer (some ⟨gc,0,none⟩)]) where
 vtop:=trivial
 vkid:=fun _ _ _ _ _ _ _=>trivial
 stays:=FillP.stays gb gs gc gk gd sb a b c d e f cell
 en:=enters_of Tryz.func113 rfl rfl
 eb:=fun _ _=>⟨rfl,enters_of Tryz.func114 rfl rfl⟩
 node:=fun W Far us n p _ _ hin _ hP hG ht Od IV hS=>zFQ hN gb gs gc gk gd sb a b c d e f cell hc UA g W Far us n p hin hP hG ht Od IV hS
 brick:=fun W B v p hin _ hP _ ho=>by
  obtain ⟨b1,b2,b3⟩:=hin.bd hN;obtain ⟨g1,cap,rfl,-,-,-,-,-⟩:=ho.at (by rw [zH];decide)
  have h:=zFJ p.x p.y p.z b1 b2 b3 gb gc g1 B cap a b c d e f cell (zG g p) (zH _ _) W hP.kb hP.kc ho;rw [show (⟨⟨p.x,p.y,p.z⟩,⟨p.x+4,p.y+4,p.z+4⟩⟩:Box)=zDn p from rfl,zFK hin] at h;exact h
structure PasteP (gb gd:Nat) (a b c d e f:Int) (ha:Option Addr) (hcp:Nat) (ys:List Int) (w:World):Prop where
 kb:Bk w gb #[a,b,c,d,e,f,.slice ha ys.length hcp] 28
 kd:Bk w gd #[a,b,c,d,e,f] 25
 sl:Sl w .i64 ha ys
abbrev zAb (gb gd:Nat) (ha:Option Addr) (ys:List Int):Nat→Prop:=fun x=>x=gb∨x=gd∨(ys ≠ []∧ha.map (·.block)=some x)
theorem PasteP.stays (gb gd:Nat) (a b c d e f:Int) (ha:Option Addr) (hcp:Nat) (ys:List Int):zAg (zAb gb gd ha ys) (PasteP gb gd a b c d e f ha hcp ys):=fun x y hk h =>
 ⟨h.kb.keeps hk (.inl rfl),h.kd.keeps hk (.inr (.inl rfl)),h.sl.far hk (fun hn b hb=>.inr (.inr ⟨hn,hb⟩))⟩
theorem zKG {N:Nat} (hN:N≤12) (gb gd sb:Nat) (a b c d e f:Int) (ha:Option Addr) (hcp:Nat) (ys:List Int) (J9:Small ⟨⟨a,b,c⟩,⟨d,e,f⟩⟩ 1048575) (TN:ys.length=(zAE ⟨⟨a,b,c⟩,⟨d,e,f⟩⟩).toNat) (hY:ys.length≤4194304) (LF:ys.length≤hcp) (UA:Int) (g:Pt→Int) :
 EditC [] (zAb gb gd ha ys) (PasteP gb gd a b c d e f ha hcp ys) sb UA N g (zr N ⟨⟨a,b,c⟩,⟨d,e,f⟩⟩ ys g) (fun _ _=>True) (fun _ _=>True) 156 121
  #[.pointer (some ⟨gd,0,none⟩)] #[.pointer (some ⟨gb,0,none⟩)] (.func (.func 121) #[] #[.pointer (some ⟨gb,0,none⟩)]) where
 vtop:=trivial
 vkid:=fun _ _ _ _ _ _ _=>trivial
 stays:=PasteP.stays gb gd a b c d e f ha hcp ys
 en:=enters_of Tryz.func156 rfl rfl
 eb:=fun _ _=>⟨rfl,enters_of Tryz.func121 rfl rfl⟩
 node:=fun W Far us n p _ _ hin _ hP _ ht _ _ hS=>zKJ hN gd sb a b c d e f ys UA g W Far us n p hin hP.kd ht hS
 brick:=fun W B v p hin _ hP _ ho=>by
  obtain ⟨b1,b2,b3⟩:=hin.bd hN;obtain ⟨g1,cap,rfl,-,-,-,-,-⟩:=ho.at (by rw [zH];decide)
  have h:=zKD p.x p.y p.z b1 b2 b3 gb g1 B cap a b c d e f ha hcp (zG g p) ys (zH _ _) J9 TN hY LF W hP.kb hP.sl ho;rw [show (⟨⟨p.x,p.y,p.z⟩,⟨p.x+4,p.y+4,p.z+4⟩⟩:Box)=zDn p from rfl,zKE hin] at h;exact h
theorem zGu (c:Int) (w:World) :
 Calls Tryz.prog 110 #[c] w fun e w'=>e = .returned (.bool (decide (0≤c∧c≤255)))∧w=w':=by
 go_enter Tryz.func110,Tryz.ntmps110;go_wp2
 all_goals
  go_ret;exact ⟨zx (by rw [Bool.eq_iff_iff];simp;omega),rfl⟩
theorem zBP (a b c d e f:Int) (w:World) :
 Calls Tryz.prog 111 #[.agg #[a,b,c,d,e,f]] w fun e' w'=>e' = .returned (.func (.func 156) #[] #[.pointer (some ⟨w.heap.size,0,none⟩)])∧Bk w' w.heap.size #[a,b,c,d,e,f] 25∧Below w.heap.size w w':=by
 go_enter Tryz.func111,Tryz.ntmps111;go_wp2_with fail;go_ret;exact ⟨rfl,Bk.new _ _ _,bf⟩
theorem zFV (sb:Nat) (i dd a b c d e f cell:Int) (hc : ¬(0≤cell∧cell≤255)) (w:World) :
 Calls Tryz.prog 49 #[.pointer (some ⟨sb,0,none⟩),i,dd,.agg #[a,b,c,d,e,f],cell] w fun e' w'=>e'=zLY 0 1∧Below w.heap.size w w':=by
 have LO:=Bx.mk fun W=>zGu cell W;rw [show decide (0≤cell∧cell≤255)=false by simpa using hc] at LO
 clear hc;go_enter Tryz.func49,Tryz.ntmps49;go_upto_region 1 with fail;generalize hW:((w.alloc _).alloc _).alloc _=W;have hB:=bl3 hW;have kc:Bk W (w.heap.size+1+1) #[cell] 3:=bk0 hW;clear hW;have c0:=kc.cell 0 rfl;go_wp2_with fail;refine (LO.o _).mono ?_;rintro _ _ ⟨rfl,rfl⟩;go_wp2_with fail
 go_ret2
 exact ⟨rfl,hB⟩
theorem Done.less {Far Far':Nat→Prop} {sb:Nat} {UA:Int} {ts ts':List Tr} {t:Tr} {w w1 w':World} {e:Ending} (h:Done Far' sb UA ts ts' t w1 e w') (hk:Keeps Far w w1) (hf : ∀ k,Far k→Far' k):Done Far sb UA ts ts' t w e w':=by
 refine ⟨hk.trans (h.keeps.less hf),nlt hk.size h.size,?_⟩;rcases h.way with ⟨h1,h2,h3⟩ | ⟨h1,h2,h3⟩
 · exact .inl ⟨h1,h2,h3.less hf⟩
 · exact .inr ⟨h1,h2,h3.less hf⟩
theorem zFU {N:Nat} (hN:N≤12) (sb:Nat) (a b c d e f cell:Int) (hc:0≤cell∧cell≤255) (UA:Int) (g:Pt→Int) (hg : ∀ p,0≤g p∧g p≤255) (N1 : ∀ p,0≤zE9 N ⟨⟨a,b,c⟩,⟨d,e,f⟩⟩ cell g p∧zE9 N ⟨⟨a,b,c⟩,⟨d,e,f⟩⟩ cell g p≤255) (w:World) (Far:Nat→Prop) (ts:List Tr) (hG:Good ts) (ht:Tr.can g N ⟨0,0,0⟩∈ts) (Od:(Tr.add (Tr.can (zE9 N ⟨⟨a,b,c⟩,⟨d,e,f⟩⟩ cell g) N ⟨0,0,0⟩) ts).length≤4000000) (IV : ∀ k,Far k→k<w.heap.size) (hS:StoreIs w Far sb UA ts) :
 Calls Tryz.prog 49 #[.pointer (some ⟨sb,0,none⟩),(idT ts (Tr.can g N ⟨0,0,0⟩):Int),((N:Int)+2:Int),.agg #[a,b,c,d,e,f],cell] w (Done Far sb UA ts (Tr.add (Tr.can (zE9 N ⟨⟨a,b,c⟩,⟨d,e,f⟩⟩ cell g) N ⟨0,0,0⟩) ts) (Tr.can (zE9 N ⟨⟨a,b,c⟩,⟨d,e,f⟩⟩ cell g) N ⟨0,0,0⟩) w):=by
 have LO:=Bx.mk fun W=>zGu cell W;rw [show decide (0≤cell∧cell≤255)=true by simpa using hc] at LO
 have Jh:=Bx.mk fun W=>zBP a b c d e f W;have LT:=Bx.mk fun gb gs gc gk gd W Far' h1 h2 h3 h4=>zCh hN (zFM hN gb gs gc gk gd sb a b c d e f cell hc UA g) hg N1 W Far' h1 h2 ts List.nil_prefix hG ht Od h3 h4;have HF:=Bx.mk IV;have HS:=Bx.mk hS;clear hc hg N1 hG ht Od IV hS;generalize Tr.can (zE9 N ⟨⟨a,b,c⟩,⟨d,e,f⟩⟩ cell g) N ⟨0,0,0⟩=T at *;go_enter Tryz.func49,Tryz.ntmps49;go_upto_region 1 with fail;generalize hW:((w.alloc _).alloc _).alloc _=W;have JE:W.heap.size=w.heap.size+1+1+1:=by rw [←hW];simp
 have hB:=bl3 hW;have ks:Bk W (w.heap.size) #[.pointer (some ⟨sb,0,none⟩)] 32:=bk2 hW;have kb:Bk W (w.heap.size+1) #[a,b,c,d,e,f] 25:=bk1 hW;have kc:Bk W (w.heap.size+1+1) #[cell] 3:=bk0 hW;clear hW;have c0:=kc.cell 0 rfl;obtain ⟨b0,b1,b2,b3,b4,b5⟩:=kb.c6;go_wp2_with fail;refine (LO.o _).mono ?_;rintro _ _ ⟨rfl,rfl⟩;go_wp2_with fail;refine (Jh.o _).mono ?_;rintro _ w2 ⟨rfl,kd,hb⟩;replace ks:=ks.la hb;replace kb:=kb.la hb;replace kc:=kc.la hb;have cs : ∀ o,(w2.alloc o).cell? ⟨w.heap.size,0,none⟩=some (.pointer (some ⟨sb,0,none⟩)):=fun o=>(ks.alloc o).cell 0 rfl;clear c0 b0 b1 b2 b3 b4 b5;go_wp2_with fail;generalize hW5:w2.alloc _=W5;have K3:Below w2.heap.size w2 W5:=by rw [←hW5];exact zB _ _
 have Ra:W5.heap.size=w2.heap.size+1:=by rw [←hW5];simp
 have kk:Bk W5 w2.heap.size #[.func (.func 156) #[] #[.pointer (some ⟨w.heap.size+1+1+1,0,none⟩)]] 152:=by rw [←hW5];exact Bk.new _ _ _
 have Ko:=hb.size;rw [JE] at kd Ko;have I5:=(tr hB hb).trans (K3.mono (by omega))
 refine (LT.o (w.heap.size+1) w.heap.size (w.heap.size+1+1) w2.heap.size (w.heap.size+1+1+1) W5 (fun x=>Far x∨(w.heap.size≤x∧x<W5.heap.size)) ?_ ⟨kb.la K3,ks.la K3,kc.la K3,kk,kd.la K3⟩ ?_ ?_).mono ?_
 · intro k hk;right;have hd:=kd.lt;rcases hk with rfl | rfl | rfl | rfl | rfl <;> omega
 · intro k hk;rcases hk with hk | hk
   · exact nll (HF.o k hk) I5.size
   · exact hk.2
 · exact (HS.o.widen (Far':=fun x=>Far x∨(w.heap.size≤x∧x<W5.heap.size)) (fun k hk=>hk.imp id (fun h=>h.1))).la I5
 · intro e' w' hd;have Hd:=Bx.mk (hd.less (Far:=Far) (Keeps.below I5) (fun k hk=>.inl hk));obtain ⟨-,-,(⟨hf,rfl,hs⟩ | ⟨hf,rfl,hs⟩)⟩:=hd
   all_goals
    clear hf hs;go_wp2_with fail
    go_ret2
    exact Hd.o
theorem zEv (a0 a1 a2 a3 b0 b1 b2 b3:Int) (w:World):(binOp .eql 39 (.agg #[a0,a1,a2,a3]) (.agg #[b0,b1,b2,b3])).run Tryz.prog w = .ok (.bool (decide (a0=b0∧a1=b1∧a2=b2∧a3=b3))) w:=by
 have h1 : Tryz.prog.stoodInHeld 39=false:=by kernel_rfl
 have h2 : Tryz.prog.stoodInHeld 23=false:=by kernel_rfl
 rw [run_eql_struct,run_equalIn_agg _ _ _ _ _ (by kernel_rfl) h1]
 go_simp;by_cases h3:a0=b0
 rotate_left
 · simp [h3]
 by_cases h4:a1=b1
 rotate_left
 · simp [h4]
 by_cases h5:a2=b2
 rotate_left
 · simp [h5]
 by_cases h6:a3=b3
 rotate_left
 · simp [h6]
 simp [h3,h4,h5,h6]
structure GraftP (gc gp gk gd:Nat) (cx cy cz cl part:Int) (b:Box) (w:World):Prop where
 kc:Bk w gc #[cx,cy,cz,cl] 39
 kp:Bk w gp #[part] 3
 kk:Bk w gk #[.func (.func 156) #[] #[.pointer (some ⟨gd,0,none⟩)]] 152
 kd:Bk w gd #[b.lo.x,b.lo.y,b.lo.z,b.hi.x,b.hi.y,b.hi.z] 25
abbrev zAQ (gc gp gk gd:Nat):Nat→Prop:=fun x=>x=gc∨x=gp∨x=gk∨x=gd
theorem GraftP.stays (gc gp gk gd:Nat) (cx cy cz cl part:Int) (b:Box):zAg (zAQ gc gp gk gd) (GraftP gc gp gk gd cx cy cz cl part b):=fun x y hk h =>
 ⟨h.kc.keeps hk (.inl rfl),h.kp.keeps hk (.inr (.inl rfl)),h.kk.keeps hk (.inr (.inr (.inl rfl))),h.kd.keeps hk (.inr (.inr (.inr rfl)))⟩
theorem GraftP.la {gc gp gk gd:Nat} {cx cy cz cl part:Int} {b:Box} {w w':World} (h:GraftP gc gp gk gd cx cy cz cl part b w) (hb:Below w.heap.size w w'):GraftP gc gp gk gd cx cy cz cl part b w':=⟨h.kc.la hb,h.kp.la hb,h.kk.la hb,h.kd.la hb⟩
theorem zFu (gc gp gk gd:Nat) (cx cy cz cl part i:Int) (b:Box) (w:World) (HP:GraftP gc gp gk gd cx cy cz cl part b w) :
 Calls Tryz.prog 120 #[zO cx cy cz cl,i,.pointer (some ⟨gc,0,none⟩),.pointer (some ⟨gp,0,none⟩),.pointer (some ⟨gk,0,none⟩)] w fun e' w'=>e'=zLZ part true 0∧Below w.heap.size w w':=by
 go_enter Tryz.func120,Tryz.ntmps120;go_upto_region 1 with fail;generalize hW:w.alloc _=W;have hB:=bl1 hW;have kq:Bk W w.heap.size #[cx,cy,cz,cl] 39:=bk0 hW;have BZ:=HP.la hB;clear hW;obtain ⟨c0,c1,c2,c3⟩:=kq.c4;obtain ⟨d0,d1,d2,d3⟩:=BZ.kc.c4;have e0:=BZ.kp.cell 0 rfl;go_wp2_with fail
 go_ret3
 exact ⟨rfl,hB⟩
theorem zFv (n:Nat) (hn:n≤14) (ax ay az m:Int) (hm:m=2 ^ n) (hx : -100000≤ax∧ax≤100000) (hy : -100000≤ay∧ay≤100000) (hz : -100000≤az∧az≤100000) (gc gp gk gd:Nat) (cx cy cz cl part i:Int) (b:Box) (w:World) (HP:GraftP gc gp gk gd cx cy cz cl part b w) (Ph : ¬(ax=cx∧ay=cy∧az=cz∧(n:Int)=cl)) :
 Calls Tryz.prog 120 #[zO ax ay az (n:Int),i,.pointer (some ⟨gc,0,none⟩),.pointer (some ⟨gp,0,none⟩),.pointer (some ⟨gk,0,none⟩)] w fun e' w'=>e'=zLZ i (zS (zn ⟨⟨ax,ay,az⟩,⟨ax+m,ay+m,az+m⟩⟩ b)) 0∧Below w.heap.size w w':=by
 have Jh:=Bx.mk (fun W (hb:Below w.heap.size w W)=>zBN n hn ax ay az m hm hx hy hz gd b.lo.x b.lo.y b.lo.z b.hi.x b.hi.y b.hi.z i W (HP.la hb).kd);rw [show (⟨⟨b.lo.x,b.lo.y,b.lo.z⟩,⟨b.hi.x,b.hi.y,b.hi.z⟩⟩:Box)=b from rfl] at Jh;generalize zS (zn ⟨⟨ax,ay,az⟩,⟨ax+m,ay+m,az+m⟩⟩ b)=z at *;have Mc : ∀ W,(binOp .eql 39 (.agg #[ax,ay,az,(n:Int)]) (.agg #[cx,cy,cz,cl])).run Tryz.prog W = .ok (.bool false) W:=fun W=>by rw [zEv,decide_eq_false Ph]
 clear hm hx hy hz Ph;go_enter Tryz.func120,Tryz.ntmps120;go_upto_region 1 with fail;generalize hW:w.alloc _=W;have hB:=bl1 hW;have kq:Bk W w.heap.size #[ax,ay,az,(n:Int)] 39:=bk0 hW;have BZ:=HP.la hB;clear hW;obtain ⟨c0,c1,c2,c3⟩:=kq.c4;obtain ⟨d0,d1,d2,d3⟩:=BZ.kc.c4;have ck:W.cell? ⟨gk,0,none⟩=some (.func (.func 156) #[] #[.pointer (some ⟨gd,0,none⟩)]):=BZ.kk.cell 0 rfl;go_wp2_with fail;refine (Jh.o _ hB).mono ?_;rintro e2 w2 ⟨rfl,hb⟩;have I2:=Bx.mk (tr hB hb);clear Mc c0 c1 c2 c3 d0 d1 d2 d3 ck hb Jh;go_wp2_with fail
 go_ret3
 exact ⟨rfl,I2.o⟩
end
section
open Go.RowKit Go.Maps Go.ChangeMaps Go.WideElems
open Go.WideMaps (KeyLaw)
abbrev zMB:Value→Option (DataW Value × List MemPlace):=fun v=>some (.held v,[])
def MapV (k:TypeId) (w:World) (b n:Nat) (f:Value→Option Value):Prop :=
 ∃ D : DataW Value, w.ownsMap Tryz.prog k zMB b n D ∧
   ∀ key kl,keyOf Tryz.prog k key=some kl→(f key=none→has D kl=false) ∧ ∀ v,f key=some v→has D kl=true ∧ ∀ zd,D.atKey kl zd = .held v
theorem MapV.kept {k:TypeId} {w w':World} {b n:Nat} {f:Value→Option Value} {row:Option Nat} (h:MapV k w b n f) (hg:w.grownBy w' row) (Ph:some b ≠ row):MapV k w' b n f:=by
 obtain ⟨D,h1,h2⟩:=h;exact ⟨D,h1.kept hg Ph,h2⟩
theorem MapV.of_block {k:TypeId} {w w':World} {b n:Nat} {f:Value→Option Value} (h:MapV k w b n f) (hb:w'.heap[b]? = w.heap[b]?):MapV k w' b n f:=by
 obtain ⟨D,⟨es,clock,h0,F,hs,hD⟩,h2⟩:=h;exact ⟨D,⟨es,clock,hb.trans h0,F,hs,hD⟩,h2⟩
theorem MapV.lt {k:TypeId} {w:World} {b n:Nat} {f:Value→Option Value} (h:MapV k w b n f):b<w.heap.size:=by
 obtain ⟨D,h1,_⟩:=h;exact h1.lt
theorem MapV.mono {k:TypeId} {w:World} {b n m:Nat} {f:Value→Option Value} (h:MapV k w b n f) (hn:n≤m):MapV k w b m f:=by
 obtain ⟨D,h1,h2⟩:=h;exact ⟨D,h1.mono hn,h2⟩
theorem MapV.made (k:TypeId) (w:World):MapV k (w.alloc (.map #[] 0)) w.heap.size 0 (fun _=>none) :=
 ⟨_,World.ownsMap_made w _ _ _,fun key kl hk=>⟨fun _=>rfl,fun i h=>by cases h⟩⟩
theorem MapV.congr {k:TypeId} {w:World} {b n:Nat} {f f':Value→Option Value} (h:MapV k w b n f) (he : ∀ key kl,keyOf Tryz.prog k key=some kl→f key=f' key):MapV k w b n f':=by
 obtain ⟨D,h1,h2⟩:=h;refine ⟨D,h1,fun key kl hk=>?_⟩;rw [←he key kl hk];exact h2 key kl hk
theorem MapV.look {k t e:TypeId} (K:Keyed Tryz.prog k) (ht : Tryz.prog.underlying t=some (.map k e)) {z:Value} {w:World} (hz:(zeroValue e).run Tryz.prog w = .ok z w) {b n:Nat} {f:Value→Option Value} (h:MapV k w b n f) {key:Value} {kl:Lit} (OG:keyOf Tryz.prog k key=some kl) :
 (Instr.lookup t (.map (some b)) key false).run Tryz.prog w = .ok ((f key).getD z) w∧(Instr.lookup t (.map (some b)) key true).run Tryz.prog w = .ok (.tuple #[(f key).getD z,.bool (f key).isSome]) w:=by
 obtain ⟨D,h1,h2⟩:=h;obtain ⟨v,ps,RP,hv⟩:=h1.look_ok K ht hz (R:=zMB) (z:=z) (zd:=.held z) (zp:=[]) rfl OG;obtain ⟨v',ps',RQ,SQ⟩:=h1.lookup K ht hz (R:=zMB) (z:=z) (zd:=.held z) (zp:=[]) rfl OG;have e1:DataW.held v=D.atKey kl (.held z):=congrArg Prod.fst (osi hv);have e2:DataW.held v'=D.atKey kl (.held z):=congrArg Prod.fst (osi SQ);obtain ⟨k1,k2⟩:=h2 key kl OG;cases hf:f key with
 | none =>
   rw [k1 hf] at RP;rw [atKey_of_not_has (k1 hf)] at e1 e2;injection e1 with e1;injection e2 with e2;subst e1;subst e2;exact ⟨RQ,RP⟩
 | some u =>
   obtain ⟨g1,g2⟩:=k2 u hf;rw [g1] at RP;rw [g2] at e1 e2;injection e1 with e1;injection e2 with e2;subst e1;subst e2;exact ⟨RQ,RP⟩
open Classical in
noncomputable def zKa (f:Value→Option Value) (key v:Value):Value→Option Value:=fun x=>if x=key then some v else f x
theorem zKc (f:Value→Option Value) (key v:Value):zKa f key v key=some v:=by unfold zKa;rw [if_pos rfl]
theorem zKb (f:Value→Option Value) {key x:Value} (v:Value) (h:x ≠ key):zKa f key v x=f x:=by unfold zKa;rw [if_neg h]
theorem MapV.after {k:TypeId} (K:Keyed Tryz.prog k) {w w':World} {b n m:Nat} {f:Value→Option Value} {D:DataW Value} (hD:w.ownsMap Tryz.prog k zMB b n D) {key v:Value} {kl:Lit} (OG:keyOf Tryz.prog k key=some kl)
 (h2 : ∀ key kl,keyOf Tryz.prog k key=some kl→(f key=none→has D kl=false) ∧ ∀ v,f key=some v→has D kl=true ∧ ∀ zd,D.atKey kl zd = .held v)
 (h3:w'.ownsMap Tryz.prog k zMB b m (D.put kl (.held v))):MapV k w' b m (zKa f key v):=by
 have hm:=hD.isMap;refine ⟨_,h3,fun key' kl' hk'=>?_⟩;by_cases e:key'=key
 · subst e;obtain rfl:kl'=kl:=osi (hk'.symm.trans OG);rw [zKc];refine ⟨(fun h=>by cases h),fun j hj=>?_⟩
   obtain rfl:=osi hj;exact ⟨has_put_same hm (K.key OG) _,fun zd=>atKey_put_same hm (K.key OG) _ _⟩
 · have Ph:kl' ≠ kl:=fun e'=>e (K.inj hk' (e' ▸ OG));rw [zKb f v e];obtain ⟨k1,k2⟩:=h2 key' kl' hk';exact ⟨fun h=>by rw [has_put_other Ph];exact k1 h,fun j hj=>⟨by rw [has_put_other Ph];exact (k2 j hj).1,fun zd=>by rw [atKey_put_other Ph];exact (k2 j hj).2 zd⟩⟩
theorem MapV.put {k t e:TypeId} (K:Keyed Tryz.prog k) (ht : Tryz.prog.underlying t=some (.map k e)) {w:World} {b n:Nat} {f:Value→Option Value} (h:MapV k w b n f) (hn:n<maxLen) {key:Value} {kl:Lit} (OG:keyOf Tryz.prog k key=some kl) (v:Value) :
 ∃ w',(Instr.mapUpdate t (.map (some b)) key v).run Tryz.prog w = .ok () w'∧MapV k w' b (n+1) (zKa f key v)∧w.grownBy w' (some b)∧w'.heap.size=w.heap.size:=by
 obtain ⟨D,h1,h2⟩:=h;obtain ⟨w',RP,h3,h4⟩:=h1.store K ht hn OG (R:=zMB) (val:=v) rfl;refine ⟨w',RP,MapV.after K h1 OG h2 h3,h4.grown,?_⟩;obtain ⟨es,clock,es',clock',hb,rfl⟩:=h4
 show (w.heap.setIfInBounds b _).size=_
 simp
theorem MapV.entry {k t e:TypeId} (L:KeyLaw Tryz.prog k) (ht : Tryz.prog.underlying t=some (.map k e)) {z:Value} (hz : ∀ u:World,(zeroValue e).run Tryz.prog u = .ok z u) {w:World} {b n:Nat} {f:Value→Option Value} (h:MapV k w b n f) (hn:n<maxLen) {key:Value} {kl:Lit} (OG:keyOf Tryz.prog k key=some kl) :
 ∃ (st : Nat) (w1 : World), (Instr.mapEntry t (.map (some b)) key).run Tryz.prog w = .ok (.tuple #[(f key).getD z, .int .i64 st]) w1 ∧ w.grownBy w1 (some b) ∧ w1.heap.size = w.heap.size ∧
   ∀ (w2:World) (v:Value),w2.heap[b]? = w1.heap[b]? → ∃ w3,(Instr.entryStore t (.map (some b)) (.int .i64 st) v).run Tryz.prog w2 = .ok () w3∧MapV k w3 b (n+1) (zKa f key v)∧w2.grownBy w3 (some b)∧w3.heap.size=w2.heap.size:=by
 have K:=Keyed.of_law L;have P2:=(MapV.look K ht (hz w) h OG).1;obtain ⟨D,h1,h2⟩:=h;obtain ⟨es,clock,hb,F,hs,rfl⟩:=h1;obtain ⟨v0,st,es1,clock1,RP,SR,S4⟩:=WideElems.entry_then_store L ht hz hb F OG
 have e0:v0=(f key).getD z:=by
  have hm:=(⟨es,clock,hb,F,hs,rfl⟩:w.ownsMap Tryz.prog k zMB b n (.map ((es.toList.map (WideElems.rg Tryz.prog k zMB)).foldr DataW.insert [])));rcases Maps.fit_look false K ht (hz w) hb F OG with ⟨g1,g2,-⟩ | ⟨e0,y,g0,g3,g1,-,-,-⟩
  · rw [g1] at P2;injection P2 with hl _;rcases SR with ⟨x,hx,TE,-⟩ | ⟨-,rfl⟩
    · exact absurd TE (g2 x hx)
    · exact hl
  · rw [g1] at P2;injection P2 with hl _;rcases SR with ⟨x,hx,TE,rfl⟩ | ⟨Px,-⟩
    · rcases K.find w OG es.toList F.keys with ⟨-,q2⟩ | ⟨j,e9,q1,q2,q3⟩
      · exact absurd TE (q2 x hx)
      · have hn:=((MapKept.stamped_iff es clock).1 F.stamped).2.2
        have Uy : ∀ a∈es.toList,∀ c∈es.toList,a.key=c.key→a=c:=by
         intro a ha c hc JV;rcases List.mem_iff_getElem.1 ha with ⟨i,hi,rfl⟩;rcases List.mem_iff_getElem.1 hc with ⟨i',hi',rfl⟩;by_cases hii:i=i'
         · subst hii;rfl
         · exfalso;rcases Nat.lt_or_gt_of_ne hii with hlt | hlt
           · exact List.pairwise_iff_getElem.1 hn i i' hi hi' hlt JV
           · exact List.pairwise_iff_getElem.1 hn i' i hi' hi hlt JV.symm
        rw [Uy x hx e0 g0 (TE.trans g3.symm)];exact hl
    · exact absurd g3 (Px e0 g0)
 subst e0;refine ⟨st,setBlock w b (.map es1 clock1),RP,⟨rfl,rfl,rfl,by simp [setBlock],fun i _ hi=>heap_setBlock_other hb _ (fun e=>hi (by rw [e]))⟩,by simp [setBlock],fun w2 v hw2=>?_⟩
 rw [heap_setBlock_same hb] at hw2;obtain ⟨es',clock',R8,R9⟩:=S4 w2 v hw2;refine ⟨_,R8,?_,⟨rfl,rfl,rfl,by simp [setBlock],fun i _ hi=>heap_setBlock_other hw2 _ (fun e=>hi (by rw [e]))⟩,by simp [setBlock]⟩
 have h1:w.ownsMap Tryz.prog k zMB b n (.map ((es.toList.map (WideElems.rg Tryz.prog k zMB)).foldr DataW.insert [])):=⟨es,clock,hb,F,hs,rfl⟩;obtain ⟨w',RQ,h3,-⟩:=h1.store K ht hn OG (R:=zMB) (val:=v) rfl;rw [R9] at RQ;injection RQ with _ Sp;obtain ⟨es3,clock3,Jv,F3,hs3,hD3⟩:=h3;rw [←Sp,heap_setBlock_same hb] at Jv;injection Jv with Jv;injection Jv with q1 q2;subst q1;subst q2;exact MapV.after K h1 OG h2 ⟨es',clock',heap_setBlock_same hw2 _,F3,hs3,hD3⟩
end
section
open Go.RowKit Go.Sort
structure Chg where
 x:Int
 y:Int
 z:Int
 o:Int
 n:Int
abbrev Chg.at (c:Chg):Pt:=⟨c.x,c.y,c.z⟩
def Chg.cells (c:Chg):List Value:=[.int .i64 c.x,.int .i64 c.y,.int .i64 c.z,.int .i64 c.o,.int .i64 c.n]
def SlC (w:World) (a:Option Addr) (cs:List Chg):Prop := ∀ (i:Nat) (c:Chg),cs[i]? = some c → ∃ b off,a=some ⟨b,off,none⟩∧w.cell? ⟨b,off+i * 5,none⟩=some (.int .i64 c.x)∧w.cell? ⟨b,off+i * 5+1,none⟩=some (.int .i64 c.y)∧w.cell? ⟨b,off+i * 5+2,none⟩=some (.int .i64 c.z)∧w.cell? ⟨b,off+i * 5+3,none⟩=some (.int .i64 c.o)∧w.cell? ⟨b,off+i * 5+4,none⟩=some (.int .i64 c.n)
theorem SlC.of_block {w w':World} {a:Option Addr} {cs:List Chg} (h:SlC w a cs) (hb : ∀ b,a.map (·.block)=some b→b<w.heap.size→w'.heap[b]? = w.heap[b]?):SlC w' a cs:=by
 intro i c hc;obtain ⟨b,off,rfl,c0,c1,c2,c3,c4⟩:=h i c hc;have hh:=hb b rfl (World.block_lt_of_cell? w _ c0);exact ⟨b,off,rfl,(World.cell?_of_block hh).trans c0,(World.cell?_of_block hh).trans c1,(World.cell?_of_block hh).trans c2,(World.cell?_of_block hh).trans c3,(World.cell?_of_block hh).trans c4⟩
theorem SlC.below {w w':World} {a:Option Addr} {cs:List Chg} (h:SlC w a cs) (hb:Below w.heap.size w w'):SlC w' a cs:=h.of_block fun b _ hl=>hb.block b hl
theorem SlC.grown {w w':World} {a:Option Addr} {cs:List Chg} {g:Nat} (h:SlC w a cs) (hg:w.grownBy w' (some g)) (Ph:a.map (·.block) ≠ some g):SlC w' a cs:=h.of_block fun b hb hl=>hg.block b hl (fun e=>Ph (by rw [hb,e]))
def wr1 (B:Box) (xs:List Int) (c:Chg):List Int:=if inB c.at B=true then xs.set (ze B c.at).toNat c.n else xs
def wrL (B:Box) (cs:List Chg) (xs:List Int):List Int:=cs.foldl (wr1 B) xs
theorem zOk (B:Box) (xs:List Int) (c:Chg):(wr1 B xs c).length=xs.length:=by
 unfold wr1;split
 · rw [List.length_set]
 · rfl
theorem zOl (B:Box) : ∀ (cs:List Chg) (xs:List Int),(wrL B cs xs).length=xs.length
 | [],_=>rfl
 | c::cs,xs=>(zOl B cs (wr1 B xs c)).trans (zOk B xs c)
theorem zOm {B:Box} {cs:List Chg} {xs:List Int} {j:Nat} {c:Chg} (h:cs[j]? = some c):wrL B (cs.take (j+1)) xs=wr1 B (wrL B (cs.take j) xs) c:=by
 obtain ⟨hl,rfl⟩:=List.getElem?_eq_some_iff.1 h;unfold wrL;rw [List.take_succ_eq_append_getElem hl,List.foldl_append];rfl
theorem zOv (pl pg g N cap Bd:Nat) (a b c d e f:Int) (gc:Value) (ha:Option Addr) (hcp:Nat) (cs:List Chg) (xs:List Int) (w:World) (J7:Small ⟨⟨a,b,c⟩,⟨d,e,f⟩⟩ 1048575)
 (TF:xs.length=(zAE ⟨⟨a,b,c⟩,⟨d,e,f⟩⟩).toNat) (hN:N≤4194304) (hC:cs.length≤4194304) (LF:cs.length≤hcp)
 (kl:Bk w pl #[.slice ha cs.length hcp] 37) (kg:Bk w pg #[a,b,c,d,e,f,gc] 28) (Lr:SlC w ha cs) (ho:Own w Bd 3 .i64 (.slice (some ⟨g,0,none⟩) N cap) xs) (NK:g ≠ pl) (NH:g ≠ pg) (NC:cs ≠ []→ha.map (·.block) ≠ some g) :
 Calls Tryz.prog 164 #[.slice (some ⟨g,0,none⟩) N cap,.pointer (some ⟨pl,0,none⟩),.pointer (some ⟨pg,0,none⟩)] w fun e' w'=>e' = .returned (.tuple #[])∧Own w' Bd 3 .i64 (.slice (some ⟨g,0,none⟩) N cap) (wrL ⟨⟨a,b,c⟩,⟨d,e,f⟩⟩ cs xs)∧w.grownBy w' (some g):=by
 have Ix:xs.length=N:=ho.raw.choose_spec.2.2.2.2.2.2.symm;have HSA:=Bx.mk J7;have Kg:=Bx.mk kg;have Ho:=Bx.mk ho;have Ch:=Bx.mk Lr;have Hxl:=Bx.mk TF;have c0:=kl.cell 0 rfl;clear kg ho Lr J7 TF;go_enter Tryz.func164,Tryz.ntmps164;go_wp2_with fail;have HI:Bx (Own w Bd 3 .i64 (.slice (some ⟨g,0,none⟩) N cap) (wrL ⟨⟨a,b,c⟩,⟨d,e,f⟩⟩ (cs.take 0) xs)∧w.grownBy w (some g)):=⟨⟨Ho.o,⟨rfl,rfl,rfl,nlr,fun _ _ _=>rfl⟩⟩⟩;clear c0
 go_loopw [9] (fun i wr => ∃ j:Nat,j≤cs.length∧i = .int .i64 j∧Bx (Own wr Bd 3 .i64 (.slice (some ⟨g,0,none⟩) N cap) (wrL ⟨⟨a,b,c⟩,⟨d,e,f⟩⟩ (cs.take j) xs)∧w.grownBy wr (some g))) (fun i _=>cs.length - (intOf i).toNat)
 case atStart=>exact ⟨0,Nat.zero_le _,rfl,HI⟩
 case round =>
  clear HI;obtain ⟨j,hj,rfl,hI⟩:=hrel;by_cases hlt:j<cs.length
  · obtain ⟨⟨px,py,pz,po,pn⟩,MR⟩ : ∃ ed,cs[j]? = some ed:=⟨_,lge hlt⟩;obtain ⟨bk,off,rfl,c0,c1,c2,c3,c4⟩:=(Ch.o.grown hI.o.2 (NC (List.ne_nil_of_length_pos (by omega)))) j _ MR
    have kg:=Kg.o.grown hI.o.2 (Ne.symm NH);have T4:=zOm (B:=⟨⟨a,b,c⟩,⟨d,e,f⟩⟩) (xs:=xs) MR;have T2:=zOl ⟨⟨a,b,c⟩,⟨d,e,f⟩⟩ (cs.take j) xs;obtain ⟨k,hk⟩ : ∃ k,ze ⟨⟨a,b,c⟩,⟨d,e,f⟩⟩ ⟨px,py,pz⟩=k:=⟨_,rfl⟩;have hin:=Bx.mk fun W=>(zGe a b c d e f px py pz HSA.o W).mono fun e' w' h=>(⟨h.1.trans (by rw [hk]),h.2⟩:e' = .returned k∧Below W.heap.size W w')
    unfold wr1 at T4;simp only [Chg.at] at T4;have t0:decide ((j:Int)<(cs.length:Int))=true:=by simp;omega
    have b1:(0:Int)≤(j:Int):=by omega
    have b2:(j:Int)<(cs.length:Int):=by omega
    have T4:=Bx.mk T4;have ND:bk ≠ g:=fun e=>NC (List.ne_nil_of_length_pos (by omega)) (by rw [←e];rfl)
    have HSz:=hI.o.2.size;have hgl2:=(hI.o.1.lt g rfl).2;dsimp only at c0 c1 c2 c3 c4;by_cases hi:inB ⟨px,py,pz⟩ ⟨⟨a,b,c⟩,⟨d,e,f⟩⟩=true
    · have KK:=zf hi;rw [hk] at KK;obtain ⟨m,rfl⟩ : ∃ m:Nat,k=(m:Int):=⟨k.toNat,(Int.toNat_of_nonneg KK.1).symm⟩;have hmN:m<N:=by have:=Hxl.o;omega
      have T5:Bx (wrL ⟨⟨a,b,c⟩,⟨d,e,f⟩⟩ (cs.take (j+1)) xs=(wrL ⟨⟨a,b,c⟩,⟨d,e,f⟩⟩ (cs.take j) xs).set m pn):=⟨by rw [T4.o,if_pos hi,hk];rfl⟩
      clear hi KK hk MR T4;go_upto_region 3 with fail;generalize hW:wr.alloc _=W;have hb:=bl1 hW;have kx:Bk W wr.heap.size #[px,py,pz,po,pn] 96:=bk0 hW rfl;clear hW c0 c1 c2 c3 c4;have Tk:=kg.la hb;obtain ⟨g0,g1,g2,g3,g4,g5⟩:=Tk.c6;obtain ⟨x0,x1,x2⟩:=kx.c3;clear kg Tk;go_wp2_with fail;refine (hin.o _).mono ?_;rintro _ w4 ⟨rfl,Jz⟩;clear g0 g1 g2 g3 g4 g5 x0 x1 x2;replace kx:=kx.la Jz;have K3:=tr hb Jz;clear hb Jz;have x4:=kx.cell 4 rfl;have Q8:=hI.o.1.below K3;have QM:=Q8.at (by rw [T2];omega)
      rw [T2,Ix] at QM;obtain ⟨g',Et,hv,-,NT,h3,h4,h5⟩:=QM;injection hv with SV SW SX;injection SV with SV;injection SV with SV;subst SV SX;obtain ⟨old,QI⟩ : ∃ x,(wrL ⟨⟨a,b,c⟩,⟨d,e,f⟩⟩ (cs.take j) xs)[m]? = some x:=⟨_,lge (by omega)⟩
      have LO:=h3 m old QI;have Mu:=h4 m;have h6:=h5 m pn;rw [←T5.o] at h6;have NQ:w.grownBy w4 (some g):=hI.o.2.trans ⟨K3.os,K3.tape,K3.output,K3.size,fun k hk _=>K3.block k hk⟩;have HJ:=Bx.mk (And.intro h6 (zW NQ m (.int .i64 pn)));have p1:(0:Int)≤(m:Int):=by omega
      have p2:(m:Int)<(N:Int):=by omega
      clear h3 h4 h5 h6 QI NQ Q8 hI kx T5 T2;go_wp2_with fail
      go_roundw
      case rel=>exact ⟨j+1,by omega,by go_num,HJ⟩
      case measure=>simp [intOf];omega
    · have O5:k = -1:=by rw [←hk];unfold ze;rw [if_neg hi]
      subst O5;have T5:Bx (wrL ⟨⟨a,b,c⟩,⟨d,e,f⟩⟩ (cs.take (j+1)) xs=wrL ⟨⟨a,b,c⟩,⟨d,e,f⟩⟩ (cs.take j) xs):=⟨by rw [T4.o,if_neg hi]⟩
      clear hi hk MR T4;go_upto_region 3 with fail;generalize hW:wr.alloc _=W;have hb:=bl1 hW;have kx:Bk W wr.heap.size #[px,py,pz,po,pn] 96:=bk0 hW rfl;clear hW c0 c1 c2 c3 c4;have Tk:=kg.la hb;obtain ⟨g0,g1,g2,g3,g4,g5⟩:=Tk.c6;obtain ⟨x0,x1,x2⟩:=kx.c3;clear kg Tk;go_wp2_with fail;refine (hin.o _).mono ?_;rintro _ w4 ⟨rfl,Jz⟩;clear g0 g1 g2 g3 g4 g5 x0 x1 x2;replace kx:=kx.la Jz;have K3:=tr hb Jz;clear hb Jz;have NQ:w.grownBy w4 (some g):=hI.o.2.trans ⟨K3.os,K3.tape,K3.output,K3.size,fun k hk _=>K3.block k hk⟩;have HJ:Bx (Own w4 Bd 3 .i64 (.slice (some ⟨g,0,none⟩) N cap) (wrL ⟨⟨a,b,c⟩,⟨d,e,f⟩⟩ (cs.take (j+1)) xs)∧w.grownBy w4 (some g)):=⟨by rw [T5.o];exact ⟨hI.o.1.below K3,NQ⟩⟩
      clear NQ hI kx T5 T2;go_wp2_with fail
      go_roundw
      case rel=>exact ⟨j+1,by omega,by go_num,HJ⟩
      case measure=>simp [intOf];omega
  · obtain rfl:j=cs.length:=by omega
    rw [List.take_of_length_le (Nat.le_refl _)] at hI;have t0:decide ((cs.length:Int)<(cs.length:Int))=false:=by simp
    go_wp2_with fail
    go_end0
    exact ⟨rfl,hI.o.1,hI.o.2⟩
theorem zF1 (a b c d e f:Int) (ga ha:Option Addr) (Gj hcp:Nat) (xs:List Int) (cs:List Chg) (w:World) (hC:cs.length≤4194304) (LF:cs.length≤hcp) (Lr:SlC w ha cs) (J7:Small ⟨⟨a,b,c⟩,⟨d,e,f⟩⟩ 1048575) (TF:xs.length=(zAE ⟨⟨a,b,c⟩,⟨d,e,f⟩⟩).toNat) (JP:1≤xs.length) (hN:xs.length≤4194304) (hg:Sl w .i64 ga xs) :
 Calls Tryz.prog 119 #[.agg #[a,b,c,d,e,f,.slice ga xs.length Gj],.slice ha cs.length hcp] w (zAc a b c d e f xs.length (wrL ⟨⟨a,b,c⟩,⟨d,e,f⟩⟩ cs xs) w):=by
 have LT:=Bx.mk fun pg pl W (h1:Bk W pg #[a,b,c,d,e,f,.slice ga xs.length Gj] 28) (h2:Bk W pl #[.slice ha cs.length hcp] 37) (h3:SlC W ha cs) (h4:Sl W .i64 ga xs) (h5 : ∀ b,cs ≠ []→ha.map (·.block)=some b→b<W.heap.size) =>
  zCi 164 #[.pointer (some ⟨pl,0,none⟩),.pointer (some ⟨pg,0,none⟩)] ⟨enters_of Tryz.func164 rfl rfl⟩ a b c d e f ga Gj xs (wrL ⟨⟨a,b,c⟩,⟨d,e,f⟩⟩ cs xs) W JP hN h4
   ⟨fun Bd g N cap V hb NT hNe ho=>zOv pl pg g N cap Bd a b c d e f (.slice ga xs.length Gj) ha hcp cs xs V J7 TF (by omega) hC LF (h2.la hb) (h1.la hb) (h3.below hb) ho (by have:=h2.lt;omega) (by have:=h1.lt;omega) (fun hn e=>by have:=h5 g hn e;omega)⟩
 have Oy:Bx (∀ b,cs ≠ []→ha.map (·.block)=some b→b<w.heap.size):=⟨fun b hn hb=>by
  obtain ⟨c,r,rfl⟩:=List.exists_cons_of_ne_nil hn;obtain ⟨b',off,rfl,c0,-⟩:=Lr 0 c rfl;obtain rfl:=osi hb;exact World.block_lt_of_cell? w _ c0⟩
 have Ch:=Bx.mk Lr;have Od:=Bx.mk (zOl ⟨⟨a,b,c⟩,⟨d,e,f⟩⟩ cs xs).symm;have Hg:=Bx.mk hg;clear J7 TF JP hN hg hC LF Lr;go_enter Tryz.func119,Tryz.ntmps119;go_wp2_with fail;generalize hW:((w.alloc _).alloc _).alloc _=W;have JE:=sz3 hW;have hB:=bl3 hW;have kg:Bk W (w.heap.size) #[a,b,c,d,e,f,.slice ga xs.length Gj] 28:=bk2 hW;have kl:Bk W (w.heap.size+1) #[.slice ha cs.length hcp] 37:=bk1 hW;have kr:Bk W (w.heap.size+1+1) #[(0:Int),(0:Int),(0:Int),(0:Int),(0:Int),(0:Int),.slice none 0 0] 28:=bk0 hW;clear hW;obtain ⟨F4,F5,F6,F7,F8,F9,FA⟩:=kg.c7;go_wp2_with fail;refine (LT.o _ _ _ kg kl (Ch.o.below hB) (Hg.o.below hB) (fun b hn hb=>nll (Oy.o b hn hb) hB.size)).mono ?_;rintro e' w1 ⟨u,rfl,ho,hb⟩;obtain ⟨Bd,I8⟩ : ∃ Bd,Bd=W.heap.size:=⟨_,rfl⟩;rw [←I8] at ho hb;have JA:w.heap.size+3≤Bd:=by omega
 replace hb:Below W.heap.size W w1:=I8 ▸ hb;clear LT Hg;clear F4 F5 F6 F7 F8 F9 FA;replace hB:=tr hB hb;replace kg:=kg.la hb;replace kr:=kr.la hb;replace JE:=nlt JE hb.size;clear hb;obtain ⟨pa,pe,rfl,-⟩:=ho.form;rw [←Od.o] at ho;rw [←Od.o];have Ho:=Bx.mk ho;clear ho;obtain ⟨Fj,Fk,Fl,Fm,Fn,Fo,Fp⟩:=kr.c7;obtain ⟨GU,GV,GW,GX,GY,GZ,Ga⟩:=kr.f7;go_wp2_with fail;replace kr:=kr.put7 (.int .i64 a) (.int .i64 b) (.int .i64 c) (.int .i64 d) (.int .i64 e) (.int .i64 f) (.slice pa xs.length pe);exact bodyPost_ret (v:=.agg #[a,b,c,d,e,f,.slice pa xs.length pe]) (results_cell_row rfl _ _ _ 28 #[a,b,c,d,e,f,.slice pa xs.length pe] (0,0) _ rfl kr Tryz.underlying28 rfl (by kernel_rfl)) rfl ⟨_,_,rfl,Od.o,(((((((Ho.o.setBelow (by simp;omega) _).setBelow (by simp;omega) _).setBelow (by simp;omega) _).setBelow (by simp;omega) _).setBelow (by simp;omega) _).setBelow (by simp;omega) _).setBelow (by simp;omega) _).base (by omega),zBn hB (by omega) _ _ _ _ _ _ _⟩
end
section
open Go.RowKit Go.Sort Go.Maps
open Go.WideMaps (KeyLaw)
open Oct
theorem zDx:KeyLaw Tryz.prog 39:=deep_law_laid zIv (m:=3) (by omega) (of_decide_eq_true (by kernel_rfl)) (by kernel_rfl) (by kernel_rfl)
theorem zDw:Keyed Tryz.prog 39:=Keyed.of_law zDx
theorem zDu : Tryz.prog.cellsOf 39=4:=by kernel_rfl
theorem zKS : Tryz.prog.cellsOf 23=3:=by kernel_rfl
theorem zDv : Tryz.prog.keyType 39=true:=by kernel_rfl
theorem zG7 (x y z l:Int) (h : ∀ q∈[x,y,z,l],(Lit.int .i64 q).wf=true) : ∃ kl,keyOf Tryz.prog 39 (zO x y z l)=some kl:=by
 simp only [List.mem_cons,List.not_mem_nil,or_false,forall_eq_or_imp,forall_eq] at h;obtain ⟨h1,h2,h3,h4⟩:=h;obtain ⟨m,hm⟩:=zNw;unfold keyOf zO;rw [Tryz.underlying39,hm];simp [zDv,Value.formed,Tryz.underlying39,zDu,Program.keyLits,Value.cells,Tryz.underlying23,Tryz.underlying3,zGs,zKS,h1,h2,h3,h4,List.range_succ,List.mapM_cons,List.mapM_nil];rw [if_pos (by decide)]
 exact ⟨_,rfl⟩
theorem zDy {x y z l x' y' z' l':Int} (h:zO x y z l=zO x' y' z' l'):x=x'∧y=y'∧z=z'∧l=l':=by
 unfold zO at h;injection h with h;simp at h;exact h
theorem zOG (q:Int) (h:0≤q∧q≤16384):(Lit.int .i64 q).wf=true:=by
 have e:IntKind.i64.min = -9223372036854775808:=rfl;have:=wj q (by omega)
 simp [Lit.wf,this,e];omega
theorem zeroB (w:World):(zeroValue 4).run Tryz.prog w = .ok (.bool false) w:=by kernel_rfl
theorem zeroC (w:World):(zeroValue 37).run Tryz.prog w = .ok (.slice none 0 0) w:=by kernel_rfl
theorem zGK (x:Int) (i:Nat) (h0:0≤x) (h1:x≤1000000000) (hi:i≤30):bits .andNot .i64 x (2 ^ i - 1)=x - x % 2 ^ i:=by
 obtain ⟨a,rfl⟩:=Int.eq_ofNat_of_zero_le h0;have Qn:0<2 ^ i:=Nat.two_pow_pos i;have h30:2 ^ i≤2 ^ 30:=Nat.pow_le_pow_right (by decide) hi
 have hc:((2:Int) ^ i - 1)=((2 ^ i - 1:Nat):Int):=by
  rw [Int.natCast_sub Qn];simp
 rw [hc]
 show IntKind.i64.wrap ((BitVec.ofInt 64 (a:Int) &&& ~~~BitVec.ofInt 64 ((2 ^ i - 1:Nat):Int)).toNat:Int)=_
 have e:(BitVec.ofInt 64 (a:Int) &&& ~~~BitVec.ofInt 64 ((2 ^ i - 1:Nat):Int))=BitVec.ofNat 64 (a / 2 ^ i * 2 ^ i):=by
  apply BitVec.eq_of_getLsbD_eq;intro j hj;simp only [BitVec.ofInt_natCast,BitVec.getLsbD_and,BitVec.getLsbD_not,BitVec.getLsbD_ofNat,Nat.testBit_two_pow_sub_one,Nat.testBit_mul_two_pow,Nat.testBit_div_two_pow,hj,decide_true,Bool.true_and];by_cases h:j<i
  · simp [h];omega
  · rw [show j - i+i=j by omega]
    simp [h];omega
 rw [e,BitVec.toNat_ofNat];have OY:a / 2 ^ i * 2 ^ i≤a:=Nat.div_mul_le_self a (2 ^ i);rw [Nat.mod_eq_of_lt (by omega),wj _ (by omega)]
 have h3:=Nat.div_add_mod a (2 ^ i);have h4:((2:Int) ^ i)=((2 ^ i:Nat):Int):=by simp
 rw [h4];rw [Nat.mul_comm] at h3;omega
theorem MapV.drewN {k:TypeId} {w:World} {b n:Nat} {f:Value→Option Value} (h:MapV k w b n f) (d:Nat):MapV k (w.drewN d) b n f:=h.of_block (by simp)
theorem zOr (ax ay az l i:Int) (vt tm m:Nat) (ft:Value→Option Value) (t:Bool) (Su : ∀ q∈[ax,ay,az,l],(Lit.int .i64 q).wf=true) (My:(ft (zO ax ay az l)).getD (.bool false) = .bool t) (w:World) (kt:Bk w vt #[.map (some tm)] 160) (hM:MapV 39 w tm m ft) :
 Calls Tryz.prog 117 #[zO ax ay az l,i,.pointer (some ⟨vt,0,none⟩)] w fun e' w'=>e'=zLZ i (!t) 0∧Below w.heap.size w w':=by
 obtain ⟨kl,ON⟩:=zG7 ax ay az l Su;have HM:=Bx.mk hM;have Kt:=Bx.mk kt;have Hk:=Bx.mk ON;have Hf:=Bx.mk My;clear hM kt ON My Su;go_enter Tryz.func117,Tryz.ntmps117;go_upto_region 1 with fail;generalize hW:w.alloc _=W;have hB:=bl1 hW;have kc:Bk W w.heap.size #[ax,ay,az,l] 39:=bk0 hW;clear hW;obtain ⟨c0,c1,c2,c3⟩:=kc.c4;have t0:=(Kt.o.la hB).cell 0 rfl;have HM2:=Bx.mk (HM.o.of_block (hB.block tm HM.o.lt))
 have hl : ∀ d,(Instr.lookup 160 (.map (some tm)) (.agg #[ax,ay,az,l]) false).run Tryz.prog (W.drewN d) = .ok (.bool t) (W.drewN d):=fun d=>by
  rw [(MapV.look zDw Tryz.underlying160 (zeroB _) (HM2.o.drewN d) Hk.o).1,Hf.o]
 go_quiet (fail)
 go_wp2_with fail
 go_ret3
 exact ⟨rfl,hB.trans ⟨rfl,rfl,rfl,nlr,fun _ _=>rfl⟩⟩
end
section
open Go.RowKit Go.Sort Go.Maps
open Oct
theorem zOt (ax ay az:Int) (hx:0≤ax∧ax≤16384) (hy:0≤ay∧ay≤16384) (hz:0≤az∧az≤16384) (vb bm m g Bd cap:Nat) (fb:Value→Option Value) (hc:Option Addr) (hcp:Nat) (xs:List Int) (cs:List Chg) (hl:xs.length=64) (hC:cs.length≤4194304) (LF:cs.length≤hcp) (Mk:(fb (zO ax ay az 2)).getD (.slice none 0 0) = .slice hc cs.length hcp) (w:World) (kb:Bk w vb #[.map (some bm)] 159) (hM:MapV 39 w bm m fb) (hs:SlC w hc cs) (ho:Own w Bd 3 .i64 (.slice (some ⟨g,0,none⟩) xs.length cap) xs) :
 Calls Tryz.prog 118 #[zO ax ay az 2,.slice (some ⟨g,0,none⟩) xs.length cap,.pointer (some ⟨vb,0,none⟩)] w fun e' w'=>e' = .returned (.tuple #[])∧Own w' Bd 3 .i64 (.slice (some ⟨g,0,none⟩) xs.length cap) (wrL ⟨⟨ax,ay,az⟩,⟨ax+4,ay+4,az+4⟩⟩ cs xs)∧Keeps (fun k=>k<Bd) w w':=by
 obtain ⟨kl,ON⟩:=zG7 ax ay az 2 (by
  intro q hq;simp only [List.mem_cons,List.not_mem_nil,or_false] at hq;have:0≤q∧q≤16384:=by rcases hq with rfl | rfl | rfl | rfl <;> omega
  exact zOG q this)
 have Hk:=Bx.mk ON;have Hf:=Bx.mk Mk;clear ON Mk;have Ki:=Bx.mk (fun W=>zBo 2 (by omega) ax ay az 4 (by decide) (by omega) (by omega) (by omega) W)
 rw [show ((2:Nat):Int)=2 from rfl] at Ki;have J7:Small ⟨⟨ax,ay,az⟩,⟨ax+4,ay+4,az+4⟩⟩ 1048575:=⟨by simp only [];omega,by simp only [];omega,by simp only [];omega,by simp only [];omega,by simp only [];omega,by simp only [];omega⟩
 have TF:xs.length=(zAE ⟨⟨ax,ay,az⟩,⟨ax+4,ay+4,az+4⟩⟩).toNat:=by rw [hl,(zDm ax ay az).2.2];rfl
 have hg:=Bx.mk (fun W h0 h=>zF1 ax ay az (ax+4) (ay+4) (az+4) (some ⟨g,0,none⟩) hc cap hcp xs cs W hC LF h0 J7 TF (by omega) (by omega) h)
 unfold zAc at hg;have TY:(wrL ⟨⟨ax,ay,az⟩,⟨ax+4,ay+4,az+4⟩⟩ cs xs).length=64:=by rw [zOl,hl]
 have Dr:=Bx.mk TY;generalize (wrL ⟨⟨ax,ay,az⟩,⟨ax+4,ay+4,az+4⟩⟩ cs xs)=zs at *;have HL:=Bx.mk hl;clear hl;clear J7 TF hx hy hz TY hC LF;go_enter Tryz.func118,Tryz.ntmps118;go_upto_region 1 with fail;generalize hW:w.alloc _=W;have hB:=bl1 hW;have kp:Bk W (w.heap.size) #[ax,ay,az,(2:Int)] 39:=bk0 hW;clear hW;have KP:=Bx.mk kp;have KB:=Bx.mk (kb.la hB);have HM:=Bx.mk (hM.of_block (hB.block bm hM.lt));have HS:=Bx.mk (hs.below hB);have HO:=Bx.mk (ho.below hB);have HB:=Bx.mk hB;have NK:=(ho.lt g rfl);have JO:=hB.size;clear kp kb hs ho hB hM
 refine zOh 9 (fun i v w'=>match i with
  | 0=>v=zO ax ay az 2
  | 1=>v = .agg #[ax,ay,az,(ax+4:Int),(ay+4:Int),(az+4:Int)]
  | 2=>v = .slice (some ⟨g,0,none⟩) xs.length cap
  | 3=>v = .agg #[ax,ay,az,(ax+4:Int),(ay+4:Int),(az+4:Int),.slice (some ⟨g,0,none⟩) xs.length cap]
  | 4=>v = .map (some bm)
  | 5=>v=zO ax ay az 2
  | 6=>v = .slice hc cs.length hcp
  | 7 => ∃ pa pc,v = .agg #[ax,ay,az,(ax+4:Int),(ay+4:Int),(az+4:Int),.slice pa xs.length pc]∧Own w' W.heap.size 3 .i64 (.slice pa xs.length pc) zs
  | _ => ∃ g2,v = .pointer (some ⟨g2,0,none⟩)∧W.heap.size≤g2∧Bk w' g2 #[(0:Int),(0:Int),(0:Int),(0:Int),(0:Int),(0:Int),.slice none 0 0] 28) (by kernel_rfl) (by kernel_rfl) 18 (by kernel_rfl) (by rfl) ?_ ?_ ?_
 · intro i hi v u1 u2 hb h
   match i,hi with
   | 0,_=>exact h
   | 1,_=>exact h
   | 2,_=>exact h
   | 3,_=>exact h
   | 4,_=>exact h
   | 5,_=>exact h
   | 6,_=>exact h
   | 7,_=>obtain ⟨pa,pc,h1,h2⟩:=h;exact ⟨pa,pc,h1,h2.below hb⟩
   | 8,_=>obtain ⟨g2,h1,h2,h3⟩:=h;exact ⟨g2,h1,h2,h3.la hb⟩
 · intro i o hi ho ρ w1 hb L3 L5 L6 hk
   match i,hi with
   | 0, _ =>
     obtain rfl:=osi ho;have h2:ρ (.tmp 3) = .pointer (some ⟨w.heap.size,0,none⟩):=hk 3 (by simp)
     have k1:=KP.o.la hb;obtain ⟨c0,c1,c2,c3⟩:=k1.c4;clear hk hb Ki hg;go_simp;exact br
   | 1, _ =>
     obtain rfl:=osi ho;have h2:ρ (.tmp 6)=zO ax ay az 2:=hk 6 (by simp)
     have h4:=Ki.o w1;have H4:=Bx.mk h4;clear hk hb h4 Ki hg;go_simp
     all_goals exact H4.o
   | 2, _ =>
     obtain rfl:=osi ho;have h2:ρ (.tmp 1) = .slice (some ⟨g,0,none⟩) xs.length cap:=hk 1 (by simp)
     clear hk hb Ki hg;go_simp;exact br
   | 3, _ =>
     obtain rfl:=osi ho;have h2:ρ (.tmp 7) = .agg #[ax,ay,az,(ax+4:Int),(ay+4:Int),(az+4:Int)]:=hk 7 (by simp)
     have h3:ρ (.tmp 8) = .slice (some ⟨g,0,none⟩) xs.length cap:=hk 8 (by simp)
     clear hk hb Ki hg;go_simp;exact br
   | 4, _ =>
     obtain rfl:=osi ho;have h2:ρ (.tmp 2) = .pointer (some ⟨vb,0,none⟩):=hk 2 (by simp)
     have k1:=KB.o.la hb;have c0:=k1.cell 0 rfl;clear hk hb Ki hg;go_simp;exact br
   | 5, _ =>
     obtain rfl:=osi ho;have h2:ρ (.tmp 3) = .pointer (some ⟨w.heap.size,0,none⟩):=hk 3 (by simp)
     have k1:=KP.o.la hb;obtain ⟨c0,c1,c2,c3⟩:=k1.c4;clear hk hb Ki hg;go_simp;exact br
   | 6, _ =>
     obtain rfl:=osi ho;have h2:ρ (.tmp 10) = .map (some bm):=hk 10 (by simp)
     have h3:ρ (.tmp 11)=zO ax ay az 2:=hk 11 (by simp)
     have hl:(Instr.lookup 159 (.map (some bm)) (zO ax ay az 2) false).run Tryz.prog w1 = .ok (.slice hc cs.length hcp) w1:=by
      rw [(MapV.look zDw Tryz.underlying159 (zeroC _) (HM.o.of_block (hb.block bm HM.o.lt)) Hk.o).1,Hf.o]
     clear hk hb Ki hg;go_simp;exact br
   | 7, _ =>
     obtain rfl:=osi ho;have h2:ρ (.tmp 9) = .agg #[ax,ay,az,(ax+4:Int),(ay+4:Int),(az+4:Int),.slice (some ⟨g,0,none⟩) xs.length cap]:=hk 9 (by simp)
     have h3:ρ (.tmp 12) = .slice hc cs.length hcp:=hk 12 (by simp)
     have h4:=(hg.o w1 (HS.o.below hb) (by obtain ⟨a1,c1,e1,h1⟩:=(HO.o.below hb).form;injection e1 with e1 _ _;subst e1;exact h1)).mono (R':=fun e' V0 => ∃ v,e' = .returned v∧Below w1.heap.size w1 V0 ∧ ∃ pa pc,v = .agg #[ax,ay,az,(ax+4:Int),(ay+4:Int),(az+4:Int),.slice pa xs.length pc]∧Own V0 W.heap.size 3 .i64 (.slice pa xs.length pc) zs) (fun e' V0 ⟨pa,pc,x,_,y,z⟩=>⟨_,x,z,pa,pc,rfl,y.base hb.size⟩)
     have H4:=Bx.mk h4;clear hk hb h4 Ki hg;go_simp
     all_goals exact H4.o
   | 8, _ =>
     obtain rfl:=osi ho;have Ko:=hb.size;have Pm:Bk (w1.alloc (.cells #[(0:Int),(0:Int),(0:Int),(0:Int),(0:Int),(0:Int),.slice none 0 0] 28)) w1.heap.size #[(0:Int),(0:Int),(0:Int),(0:Int),(0:Int),(0:Int),.slice none 0 0] 28:=Bk.new _ _ _;have Hn:=Bx.mk Pm;clear hk hb Ki hg Pm;go_simp;exact ⟨bf,Hn.o⟩
 · intro vs W1 Od hb hR
   match vs,Od with
   | [v0, v1, v2, v3, v4, v5, v6, v7, v8], _ =>
     have r0:v0=zO ax ay az 2:=hR 0 v0 rfl;have r1:v1 = .agg #[ax,ay,az,(ax+4:Int),(ay+4:Int),(az+4:Int)]:=hR 1 v1 rfl;have r2:v2 = .slice (some ⟨g,0,none⟩) xs.length cap:=hR 2 v2 rfl;have r3:v3 = .agg #[ax,ay,az,(ax+4:Int),(ay+4:Int),(az+4:Int),.slice (some ⟨g,0,none⟩) xs.length cap]:=hR 3 v3 rfl;have r4:v4 = .map (some bm):=hR 4 v4 rfl;have r5:v5=zO ax ay az 2:=hR 5 v5 rfl;have r6:v6 = .slice hc cs.length hcp:=hR 6 v6 rfl;obtain ⟨pa,pc,r7,QQ⟩ : ∃ pa pc,v7 = .agg #[ax,ay,az,(ax+4:Int),(ay+4:Int),(az+4:Int),.slice pa xs.length pc]∧Own W1 W.heap.size 3 .i64 (.slice pa xs.length pc) zs:=hR 7 v7 rfl;obtain ⟨g2,r8,N4,kg⟩ : ∃ g2,v8 = .pointer (some ⟨g2,0,none⟩)∧W.heap.size≤g2∧Bk W1 g2 #[(0:Int),(0:Int),(0:Int),(0:Int),(0:Int),(0:Int),.slice none 0 0] 28:=hR 8 v8 rfl;subst r0 r1 r2 r3 r4 r5 r6 r7 r8;clear hR Ki hg;obtain ⟨g3,c3,SX,-,-,-,-,-⟩:=QQ.at (by rw [Dr.o];decide)
     injection SX with e1 e2 e3;subst e1;clear e2 e3
     have Ph:g3 ≠ g2:=fun e=>by
      obtain ⟨cur3,q1,-⟩:=QQ.raw;rw [e] at q1;have q2:W1.heap[g2]? = _:=kg;rw [q1] at q2;injection q2 with q2;injection q2 with _ q2;exact absurd q2 (by decide)
     have DK:=Bx.mk QQ;have Hb:=Bx.mk hb;clear QQ hb;have F4:=kg.cell 0 rfl;have GM:=kg.frozen 0;have F5:=kg.cell 1 rfl;have GN:=kg.frozen 1;have F6:=kg.cell 2 rfl;have GO:=kg.frozen 2;have F7:=kg.cell 3 rfl;have GP:=kg.frozen 3;have F8:=kg.cell 4 rfl;have GQ:=kg.frozen 4;have F9:=kg.cell 5 rfl;have GR:=kg.frozen 5;have FA:=kg.cell 6 rfl;have GS:=kg.frozen 6;simp only [zKg,List.take_succ_cons,List.take_zero,List.drop_succ_cons,List.drop_zero,List.map_cons,List.map_nil,List.zip_cons_cons,List.zip_nil_right,List.foldl_cons,List.foldl_nil];go_upto_region 2 with fail;have Tm:=kg.put7 (.int .i64 ax) (.int .i64 ay) (.int .i64 az) (.int .i64 (ax+4)) (.int .i64 (ay+4)) (.int .i64 (az+4)) (.slice (some ⟨g3,0,none⟩) xs.length pc);have NQ:W1.grownBy _ (some g2):=zW (zW (zW (zW (zW (zW (zW (World.grownBy.refl W1 (some g2)) 0 (.int .i64 ax)) 1 (.int .i64 ay)) 2 (.int .i64 az)) 3 (.int .i64 (ax+4))) 4 (.int .i64 (ay+4))) 5 (.int .i64 (az+4))) 6 (.slice (some ⟨g3,0,none⟩) xs.length pc);clear F4 GM F5 GN F6 GO F7 GP F8 GQ F9 GR FA GS kg;generalize World.setCell _ ⟨g2,6,none⟩ _=W5 at *;have N5:Bd≤g2∧g ≠ g2:=by omega
     have QU:Own W5 W.heap.size 3 .i64 (.slice (some ⟨g3,0,none⟩) xs.length pc) zs:=World.ownsRow.kept DK.o NQ (.inr (fun e=>by injection e with e;exact Ph e))
     have Q8:Own W5 Bd 3 .i64 (.slice (some ⟨g,0,none⟩) xs.length cap) xs:=World.ownsRow.kept (HO.o.below Hb.o) NQ (.inr (fun e=>by injection e with e;exact N5.2 e))
     obtain ⟨a3,c3',SX,Rq⟩:=QU.form;injection SX with e1 e2 e3;subst e1;clear e2 e3;obtain ⟨cur,q1,q2,q3,q4,q5,q6,q7⟩:=Q8.raw;have HK:=Bx.mk ((((Keeps.below HB.o).trans (Keeps.below Hb.o)).trans (Keeps.grown NQ (fun k e hk=>by injection e with e;subst e;have:g2<Bd:=hk;omega))):Keeps (fun k=>k<Bd) w W5)
     have Lj:=Bx.mk (copied q1 q2 q4 q5 q6 (zs:=zs) (by rw [Dr.o,HL.o]) (xs:=xs))
     have Ey:W5.cell? ⟨g2,6,none⟩=some (.slice (some ⟨g3,0,none⟩) xs.length pc):=Tm.cell 6 rfl;have Q1:=Bx.mk q1;have Bv:=Bx.mk Rq;have PZ:(zs.map (Value.int .i64)).length=Nat.min xs.length xs.length:=by rw [List.length_map,Dr.o,HL.o];rfl
     have Mq:0+(zs.map (Value.int .i64)).length≤cur.toArray.size:=by rw [List.length_map,Dr.o,List.size_toArray,q2];have:=HL.o;omega
     have BL:=Bx.mk PZ;have Af:=Bx.mk Mq;clear QU Q8 Rq Tm NQ q1 q3 DK q2 q4 q5 q6 q7 PZ Mq N5 NK JO N4 Ph;go_wp2_with (refine wpList_copy_own rfl (.tmp 14) (.tmp 16) 26 26 rfl 3 Tryz.underlying26 (by kernel_rfl) g 0 xs.length cap ⟨g3,0,none⟩ xs.length pc rfl rfl cur.toArray 3 Q1.o (zs.map (Value.int .i64)) BL.o (zMl Bv.o) Af.o (zJM zs) ?_)
     go_end0
     exact ⟨rfl,Lj.o.1,HK.o.trans Lj.o.2⟩
def zHz (n:Nat) (p:Pt):Pt:=⟨p.x - p.x % 2 ^ (n+2),p.y - p.y % 2 ^ (n+2),p.z - p.z % 2 ^ (n+2)⟩
theorem zHy (x m:Int):x - x % m=m * (x / m):=by have:=Int.mul_ediv_add_emod x m;omega
theorem low_al (n:Nat) (p:Pt):Tr.Al n (zHz n p):=by
 refine ⟨?_,?_,?_⟩ <;> (simp only [zHz];rw [zHy];exact Int.mul_emod_right _ _)
theorem zH1 (n:Nat) (p:Pt):Tr.InC n (zHz n p) p:=by
 have hp:=Tr.pow_pos2 n;refine ⟨?_,?_,?_⟩ <;> (simp only [zHz];rw [zHy,Int.mul_ediv_cancel_left _ (by omega)])
theorem zH0 {n:Nat} {a p:Pt} (h:Tr.Al n a):a=zHz n p ↔ Tr.InC n a p:=by
 refine ⟨fun e=>e ▸ zH1 n p,fun hi=>?_⟩;obtain ⟨x,y,z⟩:=h;obtain ⟨i,j,k⟩:=hi;have e1:=Int.mul_ediv_add_emod a.x (2 ^ (n+2));have e2:=Int.mul_ediv_add_emod a.y (2 ^ (n+2));have e3:=Int.mul_ediv_add_emod a.z (2 ^ (n+2));unfold zHz;rw [zHy,zHy,zHy,i,j,k];cases a;simp only at *
 congr 1 <;> omega
instance (n:Nat) (a p:Pt):Decidable (Tr.InC n a p):=by unfold Tr.InC;infer_instance
def inb (l:List Chg) (a:Pt):List Chg:=l.filter fun c=>decide (Tr.InC 0 a c.at)
theorem zGc (l:List Chg) (c:Chg) (a:Pt):inb (l++[c]) a=inb l a++if Tr.InC 0 a c.at then [c] else []:=by
 unfold inb;rw [List.filter_append]
 congr 1
 by_cases h:Tr.InC 0 a c.at
 · simp [h]
 · simp [h]
abbrev zCA (l:List Chg):List Value:=l.flatMap Chg.cells
def TouchM (N tm m:Nat) (T:Nat→Pt→Prop) (W:World):Prop :=
 ∃ ft,MapV 39 W tm m ft ∧ ∀ n a,n≤N→Tr.Al n a→(T n a→ft (zO a.x a.y a.z ((n:Int)+2))=some (.bool true))∧(¬T n a→ft (zO a.x a.y a.z ((n:Int)+2))=none)
def BrickM (B bm m:Nat) (Av:Nat→Prop) (l:List Chg) (W:World):Prop :=
 ∃ fb, MapV 39 W bm m fb ∧
   (∀ a,Tr.Al 0 a→(inb l a=[]→fb (zO a.x a.y a.z 2)=none)∧(inb l a ≠ [] → ∃ v,fb (zO a.x a.y a.z 2)=some v∧W.ownsRow B 96 5 v (inb l a).length (zCA (inb l a)) ∧ ∀ g,v.ownBlock=some g → ¬Av g)) ∧
   ∀ a a' v v' g,Tr.Al 0 a→Tr.Al 0 a'→fb (zO a.x a.y a.z 2)=some v→fb (zO a'.x a'.y a'.z 2)=some v'→v.ownBlock=some g→v'.ownBlock=some g→a=a'
structure WK (w0:World) (Av:Nat→Prop) (N vt vb tm bm m:Nat) (T:Nat→Pt→Prop) (l:List Chg) (W:World):Prop where
 bel:Below w0.heap.size w0 W
 kt:Bk W vt #[.map (some tm)] 160
 kb:Bk W vb #[.map (some bm)] 159
 ge:w0.heap.size≤vt∧w0.heap.size≤vb∧w0.heap.size≤tm∧w0.heap.size≤bm
 av:Av vt∧Av vb∧Av tm∧Av bm
 lt : ∀ k,Av k→k<W.heap.size
 ne:vt ≠ tm∧vt ≠ bm∧vb ≠ tm∧vb ≠ bm∧tm ≠ bm
 tmap:TouchM N tm m T W
 bmap:BrickM w0.heap.size bm m Av l W
theorem WK.la {w0 W W':World} {Av:Nat→Prop} {N vt vb tm bm m:Nat} {T:Nat→Pt→Prop} {l:List Chg} (h:WK w0 Av N vt vb tm bm m T l W) (hb:Below W.heap.size W W'):WK w0 Av N vt vb tm bm m T l W':=by
 obtain ⟨h1,h2,h3,h4,Jn,hlt,h5,⟨ft,t1,t2⟩,⟨fb,b1,b2,b3⟩⟩:=h;have hg:=zV hb;refine ⟨tr h1 hb,h2.la hb,h3.la hb,h4,Jn,fun k hk=>nll (hlt k hk) hb.size,h5,⟨ft,t1.of_block (hb.block _ t1.lt),t2⟩,⟨fb,b1.of_block (hb.block _ b1.lt),fun a ha=>⟨(b2 a ha).1,fun hn=>?_⟩,b3⟩⟩;obtain ⟨v,q1,q2,q3⟩:=(b2 a ha).2 hn;exact ⟨v,q1,World.ownsRow.kept q2 hg (by cases v.ownBlock <;> simp),q3⟩
theorem WK.avoid {w0 W:World} {Av Av':Nat→Prop} {N vt vb tm bm m:Nat} {T:Nat→Pt→Prop} {l:List Chg} (h:WK w0 Av N vt vb tm bm m T l W) {W':World} (hb:Below W.heap.size W W') (h' : ∀ k,Av' k→Av k∨W.heap.size≤k) (P9 : ∀ k,Av' k→k<W'.heap.size) (Jo:Av' vt∧Av' vb∧Av' tm∧Av' bm):WK w0 Av' N vt vb tm bm m T l W':=by
 have hl:=h.la hb;obtain ⟨h1,h2,h3,h4,Jn,hlt,h5,tm,⟨fb,b1,b2,b3⟩⟩:=hl;obtain ⟨-,-,-,-,-,-,-,-,⟨fb0,c1,c2,c3⟩⟩:=h;refine ⟨h1,h2,h3,h4,Jo,P9,h5,tm,⟨fb0,c1.of_block (hb.block _ c1.lt),fun a ha=>⟨(c2 a ha).1,fun hn=>?_⟩,c3⟩⟩;obtain ⟨v,q1,q2,q3⟩:=(c2 a ha).2 hn;refine ⟨v,q1,World.ownsRow.kept q2 (zV hb) (by cases v.ownBlock <;> simp),fun g hg ha'=>?_⟩
 rcases h' g ha' with h | h
 · exact q3 g hg h
 · have:=(World.ownsRow.lt q2 g hg).2;omega
theorem zBc {w0 W W':World} {g:Nat} (h:Below w0.heap.size w0 W) (hg:W.grownBy W' (some g)) (hge:w0.heap.size≤g):Below w0.heap.size w0 W' :=
 h.trans ⟨hg.os,hg.tape,hg.output,hg.size,fun k hk=>hg.block k (nll hk h.size) (fun e=>by injection e with e;omega)⟩
theorem WK.touch {w0 W:World} {Av:Nat→Prop} {N vt vb tm bm m:Nat} {T:Nat→Pt→Prop} {l:List Chg} (h:WK w0 Av N vt vb tm bm m T l W) (hm:m<maxLen) (n:Nat) (p:Pt) (Su : ∀ q∈[(zHz n p).x,(zHz n p).y,(zHz n p).z,(n:Int)+2],(Lit.int .i64 q).wf=true) :
 ∃ W',(Instr.mapUpdate 160 (.map (some tm)) (zO (zHz n p).x (zHz n p).y (zHz n p).z ((n:Int)+2)) (.bool true)).run Tryz.prog W = .ok () W'∧WK w0 Av N vt vb tm bm (m+1) (fun n' a=>T n' a∨(n'=n∧Tr.InC n a p)) l W'∧W'.heap.size=W.heap.size∧W.grownBy W' (some tm):=by
 obtain ⟨h1,h2,h3,h4,Jn,hlt,h5,⟨ft,t1,t2⟩,⟨fb,b1,b2,b3⟩⟩:=h;obtain ⟨kl,ON⟩:=zG7 _ _ _ _ Su;obtain ⟨W',RP,hM,hg,hs⟩:=t1.put zDw Tryz.underlying160 hm ON (.bool true);refine ⟨W',RP,⟨zBc h1 hg h4.2.2.1,h2.grown hg h5.1,h3.grown hg h5.2.2.1,h4,Jn,fun k hk=>nll (hlt k hk) hg.size,h5,⟨_,hM,fun n' a hn ha=>?_⟩,⟨fb,(b1.kept hg (by intro e;injection e with e;exact h5.2.2.2.2 e.symm)).mono (by omega),fun a ha=>⟨(b2 a ha).1,fun hn=>?_⟩,b3⟩⟩,hs,hg⟩
 · by_cases e:n'=n∧Tr.InC n a p
   · obtain ⟨rfl,e⟩:=e;have ea:=(zH0 ha).2 e;rw [ea,zKc];exact ⟨fun _=>rfl,fun Ph=>absurd (.inr ⟨rfl,ea ▸ e⟩) Ph⟩
   · rw [zKb]
     · obtain ⟨q1,q2⟩:=t2 n' a hn ha;exact ⟨fun ht=>q1 (ht.resolve_right e),fun ht=>q2 (fun h=>ht (.inl h))⟩
     · intro ek;obtain ⟨x,y,z,hl⟩:=zDy ek;obtain rfl:n'=n:=by omega
       refine e ⟨rfl,(zH0 ha).1 ?_⟩;cases a;cases hq:zHz n' p;rw [hq] at x y z;simp only at x y z;rw [x,y,z]
 · obtain ⟨v,q1,q2,q3⟩:=(b2 a ha).2 hn
   exact ⟨v,q1,World.ownsRow.kept q2 hg (by
    cases hv:v.ownBlock with
    | none=>exact .inl rfl
    | some g=>exact .inr (fun e=>q3 g hv (by injection e with e;exact e ▸ Jn.2.2.1))),q3⟩
structure Mid (w0 W W2:World) (Av:Nat→Prop) (N vt vb tm bm m:Nat) (T:Nat→Pt→Prop) (l:List Chg) (c:Chg) (v0:Value) (st:Nat):Prop where
 own:W2.ownsRow w0.heap.size 96 5 v0 (inb l (zHz 0 c.at)).length (zCA (inb l (zHz 0 c.at)))
 nav : ∀ g,v0.ownBlock=some g → ¬Av g
 bel:Below w0.heap.size w0 W2
 size:W2.heap.size=W.heap.size
 grown:W.grownBy W2 (some bm)
 push : ∀ W3 v',W2.grownBy W3 v0.ownBlock→W3.ownsRow w0.heap.size 96 5 v' ((inb l (zHz 0 c.at)).length+1) (zCA (inb l (zHz 0 c.at))++c.cells)→(v'.ownBlock=v0.ownBlock∨v'.ownBlock=some W2.heap.size) →
  ∃ W4,(Instr.entryStore 159 (.map (some bm)) (.int .i64 st) v').run Tryz.prog W3 = .ok () W4∧WK w0 Av N vt vb tm bm (m+1) T (l++[c]) W4∧W4.heap.size=W3.heap.size∧(∀ g,g<W.heap.size→g ≠ bm→v0.ownBlock ≠ some g→W4.heap[g]? = W.heap[g]?)
theorem WK.entry {w0 W:World} {Av:Nat→Prop} {N vt vb tm bm m:Nat} {T:Nat→Pt→Prop} {l:List Chg} (h:WK w0 Av N vt vb tm bm m T l W) (hm:m<maxLen) (c:Chg) (Su : ∀ q∈[(zHz 0 c.at).x,(zHz 0 c.at).y,(zHz 0 c.at).z,2],(Lit.int .i64 q).wf=true) :
 ∃ v0 st W2,(Instr.mapEntry 159 (.map (some bm)) (zO (zHz 0 c.at).x (zHz 0 c.at).y (zHz 0 c.at).z 2)).run Tryz.prog W = .ok (.tuple #[v0,((st:Nat):Int)]) W2∧Mid w0 W W2 Av N vt vb tm bm m T l c v0 st:=by
 obtain ⟨h1,h2,h3,h4,Jn,hlt,h5,⟨ft,t1,t2⟩,⟨fb,b1,b2,b3⟩⟩:=h;obtain ⟨kl,ON⟩:=zG7 _ _ _ _ Su;obtain ⟨st,W2,RP,hg,hs,S4⟩:=b1.entry zDx Tryz.underlying159 zeroC hm ON;have JR:=low_al 0 c.at
 have Na:=zH1 0 c.at
 -- the row that stands there
 have RJ:W.ownsRow w0.heap.size 96 5 ((fb (zO (zHz 0 c.at).x (zHz 0 c.at).y (zHz 0 c.at).z 2)).getD (.slice none 0 0)) (inb l (zHz 0 c.at)).length (zCA (inb l (zHz 0 c.at)))∧(∀ g,((fb (zO (zHz 0 c.at).x (zHz 0 c.at).y (zHz 0 c.at).z 2)).getD (.slice none 0 0)).ownBlock=some g → ¬Av g) ∧
  ∀ g,((fb (zO (zHz 0 c.at).x (zHz 0 c.at).y (zHz 0 c.at).z 2)).getD (.slice none 0 0)).ownBlock=some g → ∀ a v,Tr.Al 0 a→fb (zO a.x a.y a.z 2)=some v→v.ownBlock=some g→a=zHz 0 c.at:=by
  obtain ⟨r1,r2⟩:=b2 _ JR;by_cases hn:inb l (zHz 0 c.at)=[]
  · rw [r1 hn,hn];exact ⟨World.ownsRow_nil _ _ _ _,(fun g hg=>by cases hg),(fun g hg=>by cases hg)⟩
  · obtain ⟨v,q1,q2,q3⟩:=r2 hn;rw [q1];exact ⟨q2,q3,fun g hg a v' ha hv N1=>b3 a _ v' v g ha JR hv q1 N1 hg⟩
 obtain ⟨R8,R9,RA⟩:=RJ;generalize (fb (zO (zHz 0 c.at).x (zHz 0 c.at).y (zHz 0 c.at).z 2)).getD (.slice none 0 0)=v0 at *;refine ⟨v0,st,W2,RP,⟨?_,R9,zBc h1 hg h4.2.2.2,hs,hg,fun W3 v' N6 RJ Jk=>?_⟩⟩
 · exact World.ownsRow.kept R8 hg (by
    cases hv:v0.ownBlock with
    | none=>exact .inl rfl
    | some g=>exact .inr (fun e=>R9 g hv (by injection e with e;exact e ▸ Jn.2.2.2)))
 · have KY:bm<W2.heap.size:=by rw [hs];exact b1.lt
   have KZ:some bm ≠ v0.ownBlock:=fun e=>R9 bm e.symm Jn.2.2.2;obtain ⟨W4,RR,hM4,N7,RZ⟩:=S4 W3 v' (N6.block bm KY KZ)
   have Pe : ∀ g,v'.ownBlock=some g → ¬Av g:=by
    intro g NV;rcases Jk with e | e
    · exact R9 g (e.symm.trans NV)
    · rw [e] at NV;obtain rfl:=osi NV;intro h;have:=hlt _ h;omega
   have QI : ∀ g,g<W.heap.size→g ≠ bm→v0.ownBlock ≠ some g→W4.heap[g]? = W.heap[g]? := fun g hlt Ph hv =>
    ((N7.block g (nll hlt (hs ▸ N6.size)) (fun e=>Ph (by injection e))).trans (N6.block g (by omega) (fun e=>hv e.symm))).trans (hg.block g hlt (fun e=>Ph (by injection e)))
   refine ⟨W4,RR,⟨?_,?_,?_,h4,Jn,fun k hk=>nll (hlt k hk) (nlt hg.size (nlt N6.size N7.size)),h5,?_,?_⟩,RZ,QI⟩
   · refine h1.trans ⟨N7.os.trans (N6.os.trans hg.os),N7.tape.trans (N6.tape.trans hg.tape),N7.output.trans (N6.output.trans hg.output),nlt hg.size (nlt N6.size N7.size),fun k hk=>QI k (nll hk h1.size) (by omega) (fun e=>by have:=(World.ownsRow.lt R8 k e).1;omega)⟩
   · exact (QI vt h2.lt h5.2.1 (fun e=>R9 vt e Jn.1)).trans h2
   · exact (QI vb h3.lt h5.2.2.2.1 (fun e=>R9 vb e Jn.2.1)).trans h3
   · exact ⟨ft,(t1.of_block (QI tm t1.lt h5.2.2.2.2 (fun e=>R9 tm e Jn.2.2.1))).mono (by omega),t2⟩
   · refine ⟨_,hM4,fun a ha=>?_,fun a a' v1 v2 g ha ha' e1 e2 g1 g2=>?_⟩
     · rw [zGc];by_cases e:a=zHz 0 c.at
       · subst e;rw [if_pos Na,zKc];refine ⟨fun h=>by simp at h,fun _=>⟨v',rfl,?_,Pe⟩⟩
         rw [List.length_append,List.length_singleton,show zCA (inb l (zHz 0 c.at)++[c])=zCA (inb l (zHz 0 c.at))++c.cells by unfold zCA;rw [List.flatMap_append];simp]
         exact World.ownsRow.kept RJ N7 (by
          cases hv:v'.ownBlock with
          | none=>exact .inl rfl
          | some g=>exact .inr (fun e=>Pe g hv (by injection e with e;exact e ▸ Jn.2.2.2)))
       · rw [if_neg (fun hi=>e ((zH0 ha).2 hi)),List.append_nil,zKb]
         · obtain ⟨r1,r2⟩:=b2 a ha;refine ⟨r1,fun hn=>?_⟩;obtain ⟨v,q1,q2,q3⟩:=r2 hn;refine ⟨v,q1,?_,q3⟩;refine zJl q2 fun g NV=>QI g (World.ownsRow.lt q2 g NV).2 (fun e0=>q3 g NV (e0 ▸ Jn.2.2.2)) (fun e0=>e (RA g e0 a v ha q1 NV))
         · intro ek;obtain ⟨x,y,z,-⟩:=zDy ek;apply e;cases a;cases hq:zHz 0 c.at
           rw [hq] at x y z;simp only at x y z;rw [x,y,z]
     · have key : ∀ a1 a2 u1 u2,Tr.Al 0 a1→Tr.Al 0 a2→zKa fb (zO (zHz 0 c.at).x (zHz 0 c.at).y (zHz 0 c.at).z 2) v' (zO a1.x a1.y a1.z 2)=some u1→zKa fb (zO (zHz 0 c.at).x (zHz 0 c.at).y (zHz 0 c.at).z 2) v' (zO a2.x a2.y a2.z 2)=some u2→u1.ownBlock=some g→u2.ownBlock=some g→a1=zHz 0 c.at→a2=zHz 0 c.at:=by
        intro a1 a2 u1 u2 JS JT e1 e2 g1 g2 h;subst h;refine Classical.byContradiction fun Ph=>?_;rw [zKc] at e1;obtain rfl:=osi e1
        rw [zKb fb v' (fun ek=>Ph (by
         obtain ⟨x,y,z,-⟩:=zDy ek;cases a2;cases hq:zHz 0 c.at
         rw [hq] at x y z;simp only at x y z;rw [x,y,z]))] at e2
        have hin:inb l a2 ≠ []:=fun h0=>by rw [(b2 a2 JT).1 h0] at e2;cases e2
        obtain ⟨v,q1,q2,q3⟩:=(b2 a2 JT).2 hin;rw [q1] at e2;obtain rfl:=osi e2;rcases Jk with e | e
        · exact Ph (RA g (e.symm.trans g1) a2 _ JT q1 g2)
        · rw [e] at g1;obtain rfl:=osi g1;have:=(World.ownsRow.lt q2 _ g2).2;omega
       by_cases Gr:a=zHz 0 c.at
       · exact Gr.trans (key a a' v1 v2 ha ha' e1 e2 g1 g2 Gr).symm
       · by_cases Gv:a'=zHz 0 c.at
         · exact (key a' a v2 v1 ha' ha e2 e1 g2 g1 Gv).trans Gv.symm
         · have ne : ∀ q,Tr.Al 0 q→q ≠ zHz 0 c.at→zO q.x q.y q.z 2 ≠ zO (zHz 0 c.at).x (zHz 0 c.at).y (zHz 0 c.at).z 2:=fun q _ Ph ek=>Ph (by
            obtain ⟨x,y,z,-⟩:=zDy ek;cases q;cases hq:zHz 0 c.at
            rw [hq] at x y z;simp only at x y z;rw [x,y,z])
           rw [zKb fb v' (ne a ha Gr)] at e1;rw [zKb fb v' (ne a' ha' Gv)] at e2;exact b3 a a' v1 v2 g ha ha' e1 e2 g1 g2
end
section
open Go.RowKit Go.Sort Go.Maps
open Oct
theorem WK.mono {w0 W:World} {Av:Nat→Prop} {N vt vb tm bm m m':Nat} {T T':Nat→Pt→Prop} {l:List Chg} (h:WK w0 Av N vt vb tm bm m T l W) (hm:m≤m') (hT : ∀ n a,n≤N→(T n a ↔ T' n a)):WK w0 Av N vt vb tm bm m' T' l W:=by
 obtain ⟨h1,h2,h3,h4,Jn,hlt,h5,⟨ft,t1,t2⟩,⟨fb,b1,b2⟩⟩:=h;exact ⟨h1,h2,h3,h4,Jn,hlt,h5,⟨ft,t1.mono hm,fun n a hn ha=>⟨fun h=>(t2 n a hn ha).1 ((hT n a hn).2 h),fun h=>(t2 n a hn ha).2 (fun h'=>h ((hT n a hn).1 h'))⟩⟩,⟨fb,b1.mono hm,b2⟩⟩
def zJH (N:Nat) (c:Chg):Prop:=inB c.at (zOI N)=true∧0≤c.n∧c.n≤255
def zNc (l:List Chg) (n:Nat) (a:Pt):Prop := ∃ c∈l,Tr.InC n a c.at
def zNY (l:List Chg) (c:Chg) (lv:Nat) (n:Nat) (a:Pt):Prop:=zNc l n a∨(n+2<lv∧Tr.InC n a c.at)
theorem zNa (l:List Chg) (c:Chg) (n:Nat) (a:Pt):zNc l n a ↔ zNY l c 2 n a:=⟨.inl,fun h=>h.resolve_right (fun h=>by omega)⟩
theorem zNb (l:List Chg) (c:Chg) (i n:Nat) (a:Pt):(zNY l c (i+2) n a∨(n=i∧Tr.InC i a c.at)) ↔ zNY l c (i+2+1) n a:=by
 unfold zNY;constructor
 · rintro ((h | ⟨h,h'⟩) | ⟨rfl,h⟩)
   · exact .inl h
   · exact .inr ⟨by omega,h'⟩
   · exact .inr ⟨by omega,h⟩
 · rintro (h | ⟨h,h'⟩)
   · exact .inl (.inl h)
   · by_cases e:n=i
     · exact .inr ⟨e,e ▸ h'⟩
     · exact .inl (.inr ⟨by omega,h'⟩)
theorem zNZ (l:List Chg) (c:Chg) (N n:Nat) (hn:n≤N) (a:Pt):zNY l c (N+3) n a ↔ zNc (l++[c]) n a:=by
 unfold zNY zNc;constructor
 · rintro (⟨c',h,h'⟩ | ⟨-,h⟩)
   · exact ⟨c',by simp [h],h'⟩
   · exact ⟨c,by simp,h⟩
 · rintro ⟨c',h,h'⟩;rcases List.mem_append.1 h with h | h
   · exact .inl ⟨c',h,h'⟩
   · rw [List.mem_singleton.1 h] at h';exact .inr ⟨by omega,h'⟩
theorem zNJ {cs:List Chg} {j:Nat} {c:Chg} (h:cs[j]? = some c):cs.take (j+1)=cs.take j++[c]:=by
 obtain ⟨hl,rfl⟩:=List.getElem?_eq_some_iff.1 h;exact List.take_succ_eq_append_getElem hl
abbrev zAP (n:Nat):Nat→Prop:=fun k=>k=n∨k=n+1∨k=n+1+1∨k=n+1+1+1
theorem WK.made (w:World) (N:Nat) {W:World} (hW:World.alloc (World.alloc (World.alloc (World.alloc w (.map #[] 0)) (.cells #[.map (some w.heap.size)] 159)) (.map #[] 0)) (.cells #[.map (some (w.heap.size+1+1))] 160)=W) :
 WK w (zAP w.heap.size) N (w.heap.size+1+1+1) (w.heap.size+1) (w.heap.size+1+1) w.heap.size 0 (zNc []) [] W:=by
 subst hW;have h0:=MapV.made 39 w;generalize hW1:World.alloc w (.map #[] 0)=W1 at *;have s1:W1.heap.size=w.heap.size+1:=by rw [←hW1];simp
 have b1:=bl1 hW1;generalize hW2:W1.alloc _=W2 at *;have s2:W2.heap.size=w.heap.size+1+1:=by rw [←hW2];simp;omega
 have b2:=bl1 hW2;have k2:Bk W2 (w.heap.size+1) #[.map (some w.heap.size)] 159:=by rw [←hW2,←s1];exact Bk.new _ _ _
 have h3:=MapV.made 39 W2;generalize hW3:World.alloc W2 (.map #[] 0)=W3 at *;have s3:W3.heap.size=w.heap.size+1+1+1:=by rw [←hW3];simp;omega
 have b3:=bl1 hW3;generalize hW4:W3.alloc _=W4;have b4:=bl1 hW4;have k4:Bk W4 (w.heap.size+1+1+1) #[.map (some (w.heap.size+1+1))] 160:=by rw [←hW4,←s3];exact Bk.new _ _ _
 rw [s2] at h3
 refine ⟨((tr b1 b2).trans (b3.mono (by omega))).trans (b4.mono (by omega)),k4,(k2.la b3).la b4,⟨by omega,by omega,by omega,by omega⟩,⟨.inr (.inr (.inr rfl)),.inr (.inl rfl),.inr (.inr (.inl rfl)),.inl rfl⟩,(fun k hk=>by have:=b4.size;rcases hk with rfl | rfl | rfl | rfl <;> (first | exact k4.lt | omega)),⟨by omega,by omega,by omega,by omega,by omega⟩,⟨_,h3.of_block (b4.block _ (by omega)),fun n a _ _=>⟨fun ⟨c,h,_⟩=>by simp at h,fun _=>rfl⟩⟩,
  ⟨_,((h0.of_block (b2.block _ (by omega))).of_block (b3.block _ (by omega))).of_block (b4.block _ (by omega)),fun a _=>⟨fun _=>rfl,fun h=>absurd rfl h⟩,fun a a' v v' g _ _ h=>by cases h⟩⟩
structure WSays (V:Prop) (G:Ending→World→Prop) (w:World) (e:Ending) (w':World):Prop where
 ok:V→G e w'
 bad : ¬V→e=zLY 0 1∧Below w.heap.size w w'
attribute [local go_sem ↓] Go.wp_at_zero Go.wp_at_succ
theorem zNv {N:Nat} (hN:N≤12) (sb:Nat) (id:Int) (ha:Option Addr) (hcp:Nat) (cs:List Chg) (hC:cs.length≤4194304) (LF:cs.length≤hcp) (w:World) (Lr:SlC w ha cs) (G:Ending→World→Prop)
 (LT:Bx (∀ Av vt vb tm bm m W,(∀ c∈cs,zJH N c)→WK w Av N vt vb tm bm m (zNc cs) cs W→Calls Tryz.prog 112 #[.pointer (some ⟨sb,0,none⟩),id,((N:Int)+2:Int),.agg #[.func (.func 117) #[] #[.pointer (some ⟨vt,0,none⟩)],.func (.func 118) #[] #[.pointer (some ⟨vb,0,none⟩)]]] W fun e w'=>G e w' ∧ ∃ i r,e=zLY i r)) :
 Calls Tryz.prog 52 #[.pointer (some ⟨sb,0,none⟩),id,((N:Int)+2:Int),.slice ha cs.length hcp] w (WSays (∀ c∈cs,zJH N c) G w):=by
 have Ch:=Bx.mk Lr;have Qk:=zt (show N+2≤14 by omega)
 obtain ⟨M,hM⟩ : ∃ M:Int,M=2 ^ (N+2):=⟨_,rfl⟩;rw [←hM] at Qk;have Dm:=Bx.mk fun W=>zOJ ((N:Int)+2) W;have CV:=Bx.mk fun W=>zBo (N+2) (by omega) 0 0 0 M hM (by omega) (by omega) (by omega) W
 rw [Int.zero_add,show (((N+2:Nat)):Int)=(N:Int)+2 by omega] at CV
 have HM:=Bx.mk hM;have HN:=Bx.mk hN;have Cv:=Bx.mk fun px py pz W=>zGX px py pz 0 0 0 M M M W;clear Lr hM Qk;have PW:=@run_makeMap Tryz.prog;go_enter Tryz.func52,Tryz.ntmps52;go_wp2_with fail;generalize hW:(((w.alloc _).alloc _).alloc _).alloc _=W;clear PW;have HI:=Bx.mk (WK.made w N hW);clear hW
 go_loopw [21] (fun v21 wr => ∃ j:Nat,j≤cs.length∧v21 = .int .i64 j∧Bx (WK w (zAP w.heap.size) N (w.heap.size+1+1+1) (w.heap.size+1) (w.heap.size+1+1) w.heap.size (30 * j) (zNc (cs.take j)) (cs.take j) wr ∧ ∀ c∈cs.take j,zJH N c)) (fun i _=>cs.length - (intOf i).toNat)
 case atStart=>exact ⟨0,Nat.zero_le _,rfl,⟨HI.o,by simp⟩⟩
 case round =>
  clear HI;obtain ⟨j,hj,rfl,hI⟩:=hrel;by_cases hlt:j<cs.length
  · obtain ⟨⟨px,py,pz,po,pn⟩,MR⟩ : ∃ ed,cs[j]? = some ed:=⟨_,lge hlt⟩;have Co:=Bx.mk MR;obtain ⟨bk,off,rfl,c0,c1,c2,c3,c4⟩:=(Ch.o.of_block (fun b hb hl=>hI.o.1.bel.block b hl):SlC wr ha cs) j _ MR;dsimp only at c0 c1 c2 c3 c4;have t0:decide ((j:Int)<(cs.length:Int))=true:=by simp;omega
    have b1:(0:Int)≤(j:Int):=by omega
    have b2:(j:Int)<(cs.length:Int):=by omega
    clear MR;go_wp2_with fail;generalize hW:wr.alloc _=W;have hb:=bl1 hW;have kx:Bk W wr.heap.size #[px,py,pz,po,pn] 96:=bk0 hW rfl;clear hW c0 c1 c2 c3 c4 b1 b2 t0
    have HK:=Bx.mk (hI.o.1.avoid (Av':=fun k=>zAP w.heap.size k∨k=wr.heap.size) hb (fun k hk=>hk.imp (fun h=>h) (fun h=>Nat.le_of_eq h.symm)) (fun k hk=>by
     rcases hk with hk | rfl
     · exact nll (hI.o.1.lt k hk) hb.size
     · exact kx.lt) ⟨.inl (.inr (.inr (.inr rfl))),.inl (.inr (.inl rfl)),.inl (.inr (.inr (.inl rfl))),.inl (.inl rfl)⟩)
    have HV:=Bx.mk hI.o.2;have TC:=hI.o.1.kt.lt;clear hI hb;generalize wr.heap.size=xb at *;by_cases h1:inB ⟨px,py,pz⟩ (zOI N)=true
    · have Hi:=Bx.mk fun W=>Cv.o px py pz W;rw [show inB ⟨px,py,pz⟩ ⟨⟨0,0,0⟩,⟨M,M,M⟩⟩=true by rw [HM.o];exact h1] at Hi
      have Hc:=Bx.mk fun W=>zGu pn W;have H1:=Bx.mk h1;clear h1;by_cases h2:0≤pn∧pn≤255
      · rw [show decide (0≤pn∧pn≤255)=true by simpa using h2] at Hc
        have CF:Bx (zJH N ⟨px,py,pz,po,pn⟩):=⟨⟨H1.o,h2⟩⟩;clear h2;obtain ⟨cx0,cx1,cx2⟩:=kx.r3;have G1 : ∀ dk osk,(grow (redrawn W dk) osk).cell? ⟨xb,4,none⟩=some (.int .i64 pn):=cq (kx.cell 4 rfl);have q0:=Bx.mk fun dk osk=>rq (Dm.o (grow (redrawn W dk) osk));have q1:=Bx.mk fun dk osk=>rq (CV.o (grow (redrawn W dk) osk));have q2:=Bx.mk fun dk osk=>rq (Hi.o (grow (redrawn W dk) osk));have q3:=Bx.mk fun dk osk=>rq ((Hc.o (grow (redrawn W dk) osk)).mono fun e w' h=>(⟨h.1,by rw [←h.2];exact br⟩:e=_∧Below (grow (redrawn W dk) osk).heap.size (grow (redrawn W dk) osk) w'))
        refine wg ?_
        repeat (first | go_big_quiet_step (with_reducible first | exact q0.o _ _ | exact q1.o _ _ | exact q2.o _ _ | exact q3.o _ _) | quiet_step (with_reducible first | exact q0.o _ _ | exact q1.o _ _ | exact q2.o _ _ | exact q3.o _ _))
        refine wq ?_;rintro _ ⟨⟨dq,osq⟩,rfl⟩;have hb:=bq W dq osq;clear cx0 cx1 cx2 G1 q0 q1 q2 q3;replace kx:=kx.la hb;replace HK:=Bx.mk (HK.o.la hb);clear hb;generalize grow (redrawn W dq) osq=W1 at *
        --INNER
        have HI:Bx (WK w (fun k=>zAP w.heap.size k∨k=xb) N (w.heap.size+1+1+1) (w.heap.size+1) (w.heap.size+1+1) w.heap.size (30 * j+2 * 2) (zNY (cs.take j) ⟨px,py,pz,po,pn⟩ 2) (if 2=2 then cs.take j else cs.take (j+1)) W1∧Bk W1 xb #[px,py,pz,po,pn] 96):=⟨⟨by rw [if_pos rfl];exact HK.o.mono (by omega) (fun n a _=>zNa _ _ n a),kx⟩⟩
        clear HK kx;go_wp2_with fail
        go_loopw [14] (fun v14 wr => ∃ lv:Nat,2≤lv∧lv≤N+3∧v14 = .int .i64 lv∧Bx (WK w (fun k=>zAP w.heap.size k∨k=xb) N (w.heap.size+1+1+1) (w.heap.size+1) (w.heap.size+1+1) w.heap.size (30 * j+2 * lv) (zNY (cs.take j) ⟨px,py,pz,po,pn⟩ lv) (if lv=2 then cs.take j else cs.take (j+1)) wr∧Bk wr xb #[px,py,pz,po,pn] 96)) (fun v _=>N+3 - (intOf v).toNat)
        case atStart=>exact ⟨2,by omega,by omega,rfl,HI⟩
        case round =>
         clear HI;obtain ⟨lv,h2,h3,rfl,hL⟩:=hrel;by_cases OY:lv≤N+2
         · have Nj:=zb.1 CF.o.1;have Qv:=zt (show N+2≤14 by have:=HN.o;omega)
           obtain ⟨i,hi⟩ : ∃ i,lv=i+2:=⟨lv - 2,by omega⟩
           obtain ⟨Ml,Iw⟩ : ∃ Ml:Int,Ml=2 ^ lv:=⟨_,rfl⟩;have hp:IntKind.i64.wrap ((2:Int) ^ lv)=Ml:=by rw [Iw];exact zu (by have:=HN.o;omega)
           have PV:4≤Ml∧Ml≤16384:=by
            have h1:=zt (show lv≤14 by have:=HN.o;omega)
            have h2:=zt (show i≤14 by have:=HN.o;omega)
            have h3:(2:Int) ^ (i+2)=2 ^ i * 4:=Int.pow_add 2 i 2;rw [Iw];refine ⟨?_,h1.2⟩;rw [hi,h3];omega
           have KK:(0≤px∧px≤16384)∧(0≤py∧py≤16384)∧(0≤pz∧pz≤16384):=by
            have e:(zOI N).hi=⟨2 ^ (N+2),2 ^ (N+2),2 ^ (N+2)⟩:=rfl;have e2:(zOI N).lo=⟨0,0,0⟩:=rfl;rw [e,e2] at Nj;simp only at Nj;omega
           obtain ⟨⟨lx,ly,lz⟩,hq⟩ : ∃ q,q=zHz i ⟨px,py,pz⟩:=⟨_,rfl⟩
           have low : ∀ x:Int,0≤x→x≤16384→0≤x - x % Ml∧x - x % Ml≤16384∧bits .andNot .i64 x (Ml - 1)=x - x % Ml:=by
            intro x h0 h1;have e1:=zHy x Ml;have e2:=Int.mul_nonneg (show 0≤Ml by omega) (Int.ediv_nonneg h0 (show 0≤Ml by omega))
            have e3:=Int.emod_nonneg x (show Ml ≠ 0 by omega)
            exact ⟨by omega,by omega,by rw [Iw];exact zGK x lv h0 (by omega) (by have:=HN.o;omega)⟩
           have ex:px - px % Ml=lx∧py - py % Ml=ly∧pz - pz % Ml=lz:=by
            unfold zHz at hq;rw [←hi,←Iw] at hq;injection hq with q1 q2 q3;exact ⟨q1.symm,q2.symm,q3.symm⟩
           obtain ⟨lx0,lx1,hx⟩:=low px KK.1.1 KK.1.2;obtain ⟨ly0,ly1,hy⟩:=low py KK.2.1.1 KK.2.1.2;obtain ⟨lz0,lz1,hz⟩:=low pz KK.2.2.1 KK.2.2.2;rw [ex.1] at lx0 lx1 hx;rw [ex.2.1] at ly0 ly1 hy;rw [ex.2.2] at lz0 lz1 hz;have Hq:=Bx.mk hq;have DA:=Bx.mk hi;have t1:decide ((lv:Int)≤(N:Int)+2)=true:=by simp;omega
           obtain ⟨c0,c1,c2⟩:=hL.o.2.c3;clear low ex hq hi Iw Nj Qv KK;go_upto_region 13 with fail;generalize hW:wr.alloc _=W;have hb:=bl1 hW;have kc:Bk W wr.heap.size #[lx,ly,lz,(lv:Int)] 39:=bk0 hW rfl;clear hW c0 c1 c2 t1 hp hx hy hz
           have LZ : ∀ q∈[lx,ly,lz,(lv:Int)],0≤q∧q≤16384:=by
            intro q hq;simp only [List.mem_cons,List.not_mem_nil,or_false] at hq;have:=HN.o;rcases hq with rfl | rfl | rfl | rfl <;> omega
           have Lw:wr.heap.size ≠ w.heap.size+1+1:=by have:=hL.o.1.kt.lt;omega
           have SH : ∃ W',(Instr.mapUpdate 160 (.map (some (w.heap.size+1+1))) (zO lx ly lz (lv:Int)) (.bool true)).run Tryz.prog W = .ok () W'∧WK w (fun k=>zAP w.heap.size k∨k=xb) N (w.heap.size+1+1+1) (w.heap.size+1) (w.heap.size+1+1) w.heap.size (30 * j+2 * lv+1) (zNY (cs.take j) ⟨px,py,pz,po,pn⟩ (lv+1)) (if lv=2 then cs.take j else cs.take (j+1)) W'∧W'.heap.size=W.heap.size∧W.grownBy W' (some (w.heap.size+1+1)):=by
            have h:=(hL.o.1.la hb).touch (by have:=HN.o;simp only [maxLen];omega) i ⟨px,py,pz⟩
            rw [←Hq.o,show ((i:Int)+2)=(lv:Int) by rw [DA.o];omega] at h
            obtain ⟨W',g1,g2,g3,g4⟩:=h (fun q hq=>zOG q (LZ q hq));refine ⟨W',g1,g2.mono nlr (fun n a _=>?_),g3,g4⟩;rw [DA.o];exact zNb _ ⟨px,py,pz,po,pn⟩ i n a
           obtain ⟨W2,RP,Sz,S9,NQ⟩:=SH;have kx:=(hL.o.2.la hb).grown NQ (by omega)
           have Tf:=kc.grown NQ Lw;have EX:=Bx.mk Tf;have t0:=(hL.o.1.la hb).kt.cell 0 rfl;obtain ⟨d0,d1,d2,d3⟩:=kc.c4;have CG:=Bx.mk Sz;have Kx:=Bx.mk kx;have hcbs:Bx (wr.heap.size<W.heap.size):=⟨kc.lt⟩;clear Sz kx kc Tf NQ S9 hL LZ;go_upto_region 14 with fail;clear t0 d0 d1 d2 d3 RP Lw hb;generalize wr.heap.size=cb at *;by_cases OT:lv=2
           · subst OT;rw [show (((2:Nat):Int))=2 from rfl] at *;have Na:i=0:=by have:=DA.o;omega
             have Hq0:Bx (⟨lx,ly,lz⟩=zHz 0 ⟨px,py,pz⟩):=⟨by rw [←Na];exact Hq.o⟩
             go_upto_region 15 with fail;rw [if_pos rfl] at CG;obtain ⟨O,hO⟩ : ∃ O:Obj,O = .cells #[px,py,pz,po,pn] 96:=⟨_,rfl⟩;have KE:Below W2.heap.size W2 (W2.alloc O):=bf;have Ma:=(CG.o.la KE).entry (by have:=HN.o;simp only [maxLen];omega) ⟨px,py,pz,po,pn⟩
             simp only [Chg.at] at Ma;rw [←Hq0.o] at Ma
             obtain ⟨v0,st,W5,RS,PS⟩:=Ma (fun q hq=>zOG q (by
              simp only [List.mem_cons,List.not_mem_nil,or_false] at hq;rcases hq with rfl | rfl | rfl | rfl <;> omega))
             have Tw:Bk W5 W2.heap.size #[px,py,pz,po,pn] 96:=(PS.grown.block W2.heap.size (by simp) (by
              intro e;injection e with e;have h1:=CG.o.bmap;obtain ⟨fb,hM,-⟩:=h1;have:=hM.lt;omega)).trans (by rw [hO];exact heap_alloc_new W2 _)
             have Pn:=World.news_of_block (cs:=#[px,py,pz,po,pn]) (t:=96) (fr:=(0,0)) Tw;obtain ⟨i0,Na,TQ,TR,TS⟩:=info_parts (show (Tryz.prog.info? 96).map (fun i=>(i.zero,i.size,i.bytes))=some (some (.agg #[(0:Int),(0:Int),(0:Int),(0:Int),(0:Int)]),5,40) by kernel_rfl)
             obtain ⟨nl,Pu⟩ : ∃ nl,nl=(inb (cs.take j) (zHz 0 (Chg.at ⟨px,py,pz,po,pn⟩))).length:=⟨_,rfl⟩
             have Pv:nl≤4194304:=by
              rw [Pu];unfold inb;have h1:=List.length_filter_le (fun c:Chg=>decide (Tr.InC 0 (zHz 0 (Chg.at ⟨px,py,pz,po,pn⟩)) c.at)) (cs.take j);have h2:=List.length_take_le j cs;omega
             have QQ:=PS.own;have KH:=PS.bel.size;rw [←Pu] at QQ;have DK:=Bx.mk QQ;have DF:=Bx.mk Pn;have Ai:=Bx.mk Na;have CK:=Bx.mk TQ;have CL:=Bx.mk TR;have CM:=Bx.mk TS;have e0:=CG.o.kb.cell 0 rfl;obtain ⟨d0,d1,d2,d3⟩:=EX.o.c4;obtain ⟨x0,x1,x2,x3,x4⟩:=Kx.o.c5;subst hO;have DH:=Bx.mk Pu;have DC:=Bx.mk PS;have DJ:=Bx.mk Pv;clear PS Pu QQ Pn Na TQ TR TS KE Tw Ma Pv;go_wp2_with (at_builtin;refine wpList_append_own_at _ rfl _ _ 37 rfl w.heap.size 96 i0 _ 5 40 Tryz.underlying37 Ai.o CK.o CL.o CM.o rfl (by omega) v0 nl _ rfl DK.o ⟨W2.heap.size,0,none⟩ 1 1 [.int .i64 px,.int .i64 py,.int .i64 pz,.int .i64 po,.int .i64 pn] rfl rfl DF.o (by simp [Value.oneCell']) (by have:=DJ.o;simp only [maxLen];omega) (by have:=DJ.o;omega) KH ?_;intro v6 W6 QV NR Ps Jl;obtain ⟨W7,RT,T1,SD,QJ⟩:=DC.o.push W6 v6 NR (by have h:=QV;rw [DH.o] at h;exact h) Jl;have Dl:=Bx.mk (And.intro T1 (And.intro SD QJ));clear T1 SD QJ QV NR Ps Jl)
             have U7:Bk W7 xb #[px,py,pz,po,pn] 96:=by
              have hl:=Kx.o.lt;refine (Dl.o.2.2 xb (Nat.lt_of_lt_of_le hl (by simp)) (by omega) (fun e=>DC.o.nav xb e (.inr rfl))).trans ((heap_alloc_old W2 _ hl).trans Kx.o)
             have HJ:Bx (WK w (fun k=>zAP w.heap.size k∨k=xb) N (w.heap.size+1+1+1) (w.heap.size+1) (w.heap.size+1+1) w.heap.size (30 * j+2 * (2+1)) (zNY (cs.take j) ⟨px,py,pz,po,pn⟩ (2+1)) (if 2+1=2 then cs.take j else cs.take (j+1)) W7∧Bk W7 xb #[px,py,pz,po,pn] 96):=⟨by
              rw [if_neg (by omega),zNJ Co.o]
              exact ⟨Dl.o.1.mono (by omega) (fun _ _ _=>Iff.rfl),U7⟩⟩
             clear Dl U7 DC RT Kx EX CG DK DF e0 d0 d1 d2 d3 x0 x1 x2 x3 x4;go_wp2_with fail
             go_roundw
             case rel=>exact ⟨2+1,by omega,by omega,by go_num,HJ⟩
             case measure=>simp [intOf]
           · have t2:((lv:Int) == 2)=false:=by simp;omega
             have HJ:Bx (WK w (fun k=>zAP w.heap.size k∨k=xb) N (w.heap.size+1+1+1) (w.heap.size+1) (w.heap.size+1+1) w.heap.size (30 * j+2 * (lv+1)) (zNY (cs.take j) ⟨px,py,pz,po,pn⟩ (lv+1)) (if lv+1=2 then cs.take j else cs.take (j+1)) W2∧Bk W2 xb #[px,py,pz,po,pn] 96):=⟨by
              have hh:=CG.o;rw [if_neg OT] at hh;rw [if_neg (by omega)]
              exact ⟨hh.mono (by omega) (fun _ _ _=>Iff.rfl),Kx.o⟩⟩
             clear CG Kx EX OT;go_wp2_with fail
             go_roundw
             case rel=>exact ⟨lv+1,by omega,by omega,by go_num,HJ⟩
             case measure=>simp [intOf];omega
         · obtain rfl:lv=N+3:=by omega
           have t1:decide (((N+3:Nat):Int)≤(N:Int)+2)=false:=by simp
           have HJ:Bx (WK w (zAP w.heap.size) N (w.heap.size+1+1+1) (w.heap.size+1) (w.heap.size+1+1) w.heap.size (30 * (j+1)) (zNc (cs.take (j+1))) (cs.take (j+1)) wr ∧ ∀ c∈cs.take (j+1),zJH N c):=⟨by
            have hh:=hL.o.1;rw [if_neg (by omega)] at hh
            refine ⟨(hh.avoid (Av':=zAP w.heap.size) br (fun k hk=>.inl (.inl hk)) (fun k hk=>hh.lt k (.inl hk)) ⟨.inr (.inr (.inr rfl)),.inr (.inl rfl),.inr (.inr (.inl rfl)),.inl rfl⟩).mono (by omega) (fun n a hn=>?_),fun c hc=>?_⟩
            · rw [zNJ Co.o];exact zNZ _ _ N n hn a
            · rw [zNJ Co.o] at hc;rcases List.mem_append.1 hc with hc | hc
              · exact HV.o c hc
              · rw [List.mem_singleton.1 hc];exact CF.o⟩
           clear hL;go_wp2_with fail
           go_roundw
           case rel=>exact ⟨j+1,by omega,by go_num,HJ⟩
           case measure=>simp [intOf];omega
      · rw [show decide (0≤pn∧pn≤255)=false by simpa using h2] at Hc
        have HB:Bx (¬ ∀ c∈cs,zJH N c):=⟨fun h=>h2 (h _ (List.mem_of_getElem? Co.o)).2⟩;clear h2;obtain ⟨cx0,cx1,cx2⟩:=kx.r3;have G1 : ∀ dk osk,(grow (redrawn W dk) osk).cell? ⟨xb,4,none⟩=some (.int .i64 pn):=cq (kx.cell 4 rfl);have q0:=Bx.mk fun dk osk=>rq (Dm.o (grow (redrawn W dk) osk));have q1:=Bx.mk fun dk osk=>rq (CV.o (grow (redrawn W dk) osk));have q2:=Bx.mk fun dk osk=>rq (Hi.o (grow (redrawn W dk) osk));have q3:=Bx.mk fun dk osk=>rq ((Hc.o (grow (redrawn W dk) osk)).mono fun e w' h=>(⟨h.1,by rw [←h.2];exact br⟩:e=_∧Below (grow (redrawn W dk) osk).heap.size (grow (redrawn W dk) osk) w'))
        refine wg ?_
        repeat (first | go_big_quiet_step (with_reducible first | exact q0.o _ _ | exact q1.o _ _ | exact q2.o _ _ | exact q3.o _ _) | quiet_step (with_reducible first | exact q0.o _ _ | exact q1.o _ _ | exact q2.o _ _ | exact q3.o _ _))
        refine wq ?_;rintro _ ⟨⟨dq,osq⟩,rfl⟩;have hb:=bq W dq osq;clear cx0 cx1 cx2 G1 q0 q1 q2 q3;replace kx:=kx.la hb;replace HK:=Bx.mk (HK.o.la hb);clear hb;generalize grow (redrawn W dq) osq=W1 at *;go_wp2_with fail
        go_ret2
        exact ⟨fun h=>absurd h HB.o,fun _=>⟨rfl,HK.o.bel⟩⟩
    · have Hi:=Bx.mk fun W=>Cv.o px py pz W;rw [show inB ⟨px,py,pz⟩ ⟨⟨0,0,0⟩,⟨M,M,M⟩⟩=false by rw [HM.o];exact Bool.eq_false_iff.2 h1] at Hi
      have Hc:=Bx.mk fun W=>zGu pn W;have HB:Bx (¬ ∀ c∈cs,zJH N c):=⟨fun h=>h1 (h _ (List.mem_of_getElem? Co.o)).1⟩;clear h1;obtain ⟨cx0,cx1,cx2⟩:=kx.r3;have G1 : ∀ dk osk,(grow (redrawn W dk) osk).cell? ⟨xb,4,none⟩=some (.int .i64 pn):=cq (kx.cell 4 rfl);have q0:=Bx.mk fun dk osk=>rq (Dm.o (grow (redrawn W dk) osk));have q1:=Bx.mk fun dk osk=>rq (CV.o (grow (redrawn W dk) osk));have q2:=Bx.mk fun dk osk=>rq (Hi.o (grow (redrawn W dk) osk));have q3:=Bx.mk fun dk osk=>rq ((Hc.o (grow (redrawn W dk) osk)).mono fun e w' h=>(⟨h.1,by rw [←h.2];exact br⟩:e=_∧Below (grow (redrawn W dk) osk).heap.size (grow (redrawn W dk) osk) w'))
      refine wg ?_
      repeat (first | go_big_quiet_step (with_reducible first | exact q0.o _ _ | exact q1.o _ _ | exact q2.o _ _ | exact q3.o _ _) | quiet_step (with_reducible first | exact q0.o _ _ | exact q1.o _ _ | exact q2.o _ _ | exact q3.o _ _))
      refine wq ?_;rintro _ ⟨⟨dq,osq⟩,rfl⟩;have hb:=bq W dq osq;clear cx0 cx1 cx2 G1 q0 q1 q2 q3;replace kx:=kx.la hb;replace HK:=Bx.mk (HK.o.la hb);clear hb;generalize grow (redrawn W dq) osq=W1 at *;go_wp2_with fail
      go_ret2
      exact ⟨fun h=>absurd h HB.o,fun _=>⟨rfl,HK.o.bel⟩⟩
  · obtain rfl:j=cs.length:=by omega
    rw [List.take_of_length_le (Nat.le_refl _)] at hI;have t0:decide ((cs.length:Int)<(cs.length:Int))=false:=by simp
    have HV:=Bx.mk hI.o.2;have hq:=Bx.mk (LT.o _ _ _ _ _ _ wr hI.o.2 hI.o.1);clear hI;go_wp2_with fail;refine hq.o.mono ?_;rintro e w' ⟨hG,i,r,rfl⟩;have Hg:=Bx.mk hG;clear hG;go_wp2_with fail
    go_ret2
    exact ⟨fun _=>Hg.o,fun h=>absurd HV.o h⟩
end
section
open Go.RowKit Go.Sort Go.Maps
open Oct
theorem zMJ (L:Nat) (hL:L≤14) (w:World) :
 Calls Tryz.prog 100 #[(L:Int)] w fun e w'=>e = .returned (.int .i64 ((2:Int) ^ L))∧w=w':=by
 go_enter Tryz.func100,Tryz.ntmps100;go_wp2_with fail
 go_loop [3,4] (fun v3 v4 => ∃ k:Nat,k≤L∧v4 = .int .i64 k∧v3 = .int .i64 ((2:Int) ^ k)) (fun _ i=>L - (intOf i).toNat)
 case atStart=>exact ⟨0,Nat.zero_le _,rfl,rfl⟩
 case round =>
  obtain ⟨k,hk,rfl,rfl⟩:=hrel;by_cases hlt:k<L
  · have t0:decide ((k:Int)<(L:Int))=true:=by simp;omega
    have hp:=(zt (show k≤14 by omega))
    have Qb:=(zt (show k+1≤14 by omega))
    have hs:(2:Int) * 2 ^ k=2 ^ (k+1):=by rw [Int.pow_succ];omega
    have hw:IntKind.i64.wrap ((2:Int) * 2 ^ k)=2 ^ (k+1):=by rw [hs];exact wj _ (by omega)
    generalize hq:(2:Int) ^ k=q at *;generalize hr:(2:Int) ^ (k+1)=r at *;go_wp2_with fail;go_round
    case rel=>exact ⟨k+1,by omega,by go_num,by rw [hr]⟩
    case measure=>simp [intOf];omega
  · obtain rfl:k=L:=by omega
    have t0:decide ((k:Int)<(k:Int))=false:=by simp
    go_wp2_with fail;go_ret;exact ⟨rfl,rfl⟩
theorem zDp (px py pz:Int) (L:Nat) (hL:L≤14) (hx:0≤px∧px≤100000) (hy:0≤py∧py≤100000) (hz:0≤pz∧pz≤100000) (w:World) :
 Calls Tryz.prog 35 #[.agg #[px,py,pz],(L:Int)] w fun e w'=>e = .returned (.agg #[px,py,pz,(px+2 ^ L:Int),(py+2 ^ L:Int),(pz+2 ^ L:Int)])∧Below w.heap.size w w':=by
 have Re:=fun W=>zMJ L hL W;have hp:=(zt hL);generalize hm:(2:Int) ^ L=m at *;have Re:=Bx.mk Re;have t1:=wj (px+m) (by omega)
 have t2:=wj (py+m) (by omega)
 have t3:=wj (pz+m) (by omega)
 clear hp hx hy hz hm;go_enter Tryz.func35,Tryz.ntmps35;go_wp2_with fail;generalize hW:(w.alloc _).alloc _=W;have JE:=sz2 hW;have hB:=bl2 hW;have kp:Bk W (w.heap.size) #[px,py,pz] 23:=bk1 hW;have kr:Bk W (w.heap.size+1) #[(0:Int),(0:Int),(0:Int),(0:Int),(0:Int),(0:Int)] 25:=bk0 hW;clear hW;refine (Re.o _).mono ?_;rintro _ _ ⟨rfl,rfl⟩;obtain ⟨cp0,cp1,cp2⟩:=kp.c3;obtain ⟨Fj,Fk,Fl,Fm,Fn,Fo⟩:=kr.c6;obtain ⟨GU,GV,GW,GX,GY,GZ⟩:=kr.f6;go_wp2_with fail;replace kr:=kr.put6 (.int .i64 px) (.int .i64 py) (.int .i64 pz) (.int .i64 (px+m)) (.int .i64 (py+m)) (.int .i64 (pz+m));clear Fj Fk Fl Fm Fn Fo;obtain ⟨z0,z1,z2,z3,z4,z5⟩:=kr.c6;exact bodyPost_ret (v:=.agg #[px,py,pz,(px+m:Int),(py+m:Int),(pz+m:Int)]) (results_cell_row rfl _ _ (w.heap.size+1) 25 #[px,py,pz,(px+m:Int),(py+m:Int),(pz+m:Int)] (0,0) _ rfl kr Tryz.underlying25 rfl (by kernel_rfl)) rfl ⟨rfl,zBm hB (by omega) _ _ _ _ _ _⟩
end
section
namespace Oct
namespace Tr
def pos (ch:Fin 8→Tr) (k:Nat):Nat:=2+((List.ofFn fun i=>enc (ch i)).take k).flatten.length
theorem pos_zero (ch:Fin 8→Tr):pos ch 0=2:=by simp [pos]
theorem pos_succ (ch:Fin 8→Tr) {k:Nat} (hk:k<8):pos ch (k+1)=pos ch k+(enc (ch ⟨k,hk⟩)).length:=by
 unfold pos;rw [List.take_succ_eq_append_getElem (by rw [List.length_ofFn];exact hk),List.flatten_append,List.length_append,List.getElem_ofFn,List.flatten_cons,List.flatten_nil,List.append_nil]
 omega
theorem pos_all (d:Nat) (ch:Fin 8→Tr):pos ch 8=(enc (.node d ch)).length:=by
 unfold pos;rw [List.take_of_length_le (by simp),enc]
 simp only [List.length_cons];omega
theorem enc_node (d:Nat) (ch:Fin 8→Tr):enc (.node d ch)=110::(d:Int)::(List.ofFn fun i=>enc (ch i)).flatten:=by rw [enc]
theorem drop_pos (d:Nat) (ch:Fin 8→Tr) (r:List Int) {k:Nat} (hk:k<8) :
 (enc (.node d ch)++r).drop (pos ch k)=enc (ch ⟨k,hk⟩)++(((List.ofFn fun i=>enc (ch i)).drop (k+1)).flatten++r):=by
 rw [enc_node];unfold pos;generalize hL:(List.ofFn fun i=>enc (ch i))=L;have hl:k<L.length:=by rw [←hL,List.length_ofFn];exact hk
 have hg:L[k]=enc (ch ⟨k,hk⟩):=by subst hL;rw [List.getElem_ofFn]
 rw [Nat.add_comm,List.cons_append,List.cons_append,List.drop_succ_cons,List.drop_succ_cons]
 conv=>lhs;rw [←List.take_append_drop k L,List.flatten_append,List.append_assoc]
 rw [List.drop_append_of_le_length (by rw [List.take_append_drop];exact Nat.le_refl _)]
 rw [List.take_append_drop];rw [List.drop_length,List.nil_append,List.drop_eq_getElem_cons hl,List.flatten_cons,hg,List.append_assoc]
theorem pos_le (d:Nat) (ch:Fin 8→Tr) {k:Nat} (hk:k≤8):pos ch k≤(enc (.node d ch)).length:=by
 rw [←pos_all d ch];unfold pos
 have : ∀ m,k≤m→((List.ofFn fun i=>enc (ch i)).take k).flatten.length≤((List.ofFn fun i=>enc (ch i)).take m).flatten.length:=by
  intro m hm;obtain ⟨j,rfl⟩ : ∃ j,m=k+j:=⟨m - k,by omega⟩
  rw [List.take_add,List.flatten_append,List.length_append];omega
 have:=this 8 hk;omega
theorem enc_byt : ∀ t:Tr,WF t → ∀ x∈enc t,0≤x∧x≤255:=by
 intro t
 induction t with
 | uni c=>intro h x hx;rw [enc] at hx;simp at hx;have h:0≤c∧c≤255:=h;rcases hx with rfl | rfl <;> omega
 | brick l => intro h x hx; rw [enc] at hx; have h : l.length = 64 ∧ ∀ x ∈ l, 0 ≤ x ∧ x ≤ 255 := h; rcases List.mem_cons.1 hx with rfl | hx
              · omega
              · exact h.2 x hx
 | node d ch ih =>
   intro h x hx;have h:d≤255 ∧ ∀ i,WF (ch i):=h;rw [enc_node] at hx;rcases List.mem_cons.1 hx with rfl | hx
   · omega
   · rcases List.mem_cons.1 hx with rfl | hx
     · omega
     · obtain ⟨l,hl,hx⟩:=List.mem_flatten.1 hx;obtain ⟨i,rfl⟩:=List.mem_ofFn.1 hl;exact ih i (h.2 i) x hx
def small:Nat→Tr→Prop
 | _,.uni _=>True
 | _,.brick _=>True
 | 0,.node _ _=>False
 | n+1,.node _ ch => ∀ i,small n (ch i)
theorem enc_small : ∀ (n:Nat) (t:Tr),WF t→small n t→(enc t).length≤73 * 8 ^ n - 8:=by
 intro n
 induction n with
 | zero =>
   intro t h hs;cases t with
   | uni c=>simp [enc]
   | brick l=>have h:l.length=64 ∧ ∀ x∈l,0≤x∧x≤255:=h;simp [enc,h.1]
   | node d ch=>exact absurd hs (by simp [small])
 | succ n ih =>
   intro t h hs;have hp:1≤8 ^ n:=Nat.pow_pos (by decide)
   cases t with
   | uni c=>rw [Nat.pow_succ];simp [enc];omega
   | brick l=>have h:l.length=64 ∧ ∀ x∈l,0≤x∧x≤255:=h;rw [Nat.pow_succ];simp [enc,h.1];omega
   | node d ch =>
     have h:d≤255 ∧ ∀ i,WF (ch i):=h;have hk : ∀ i,(enc (ch i)).length≤73 * 8 ^ n - 8:=fun i=>ih (ch i) (h.2 i) (hs i)
     have key : ∀ k,k≤8→pos ch k≤2+k * (73 * 8 ^ n - 8):=by
      intro k
      induction k with
      | zero=>intro _;rw [pos_zero];omega
      | succ k ihk =>
        intro O9;rw [pos_succ ch (by omega),Nat.succ_mul]
        have h1:=ihk (by omega)
        have h2:=hk ⟨k,by omega⟩
        omega
     have:=key 8 nlr;rw [pos_all d ch] at this;rw [Nat.pow_succ];omega
end Tr
end Oct
end
end Go.Proofs.YtfcbajmjaifjlaaGreat