/- Tfe, Tfb, Tgf, Mpv, Gwr: joined by program, for one claim. -/
import Derived.Test.YtfcbajmjaifjlaaGreatM23
import Derived.Shelf.Abstract
import Derived.Test.YtfcbajmjaifjlaaGreatM18
import Derived.Laws.StructEq
import Derived.Test.YtfcbajmjaifjlaaGreatM1
import Derived.WideKeyEntry
import Derived.Deep.Cut
set_option linter.unusedVariables false
set_option linter.unusedSimpArgs false
namespace Go.Proofs.YtfcbajmjaifjlaaGreat
section
open Go.RowKit Go.Sort Go.Maps
open Oct
theorem fill_edit {N:Nat} (hN:N≤12) (gb gs gc gk gd sb:Nat) (a b c d e f cell:Int) (hc:0≤cell∧cell≤255) (most:Int) (g:Pt→Int) :
 EditC [] (FillF gb gs gc gk gd) (FillP gb gs gc gk gd sb a b c d e f cell) sb most N g (fillF N ⟨⟨a,b,c⟩,⟨d,e,f⟩⟩ cell g) (fun _ _=>True) (fun _ _=>True) 113 114
  #[.pointer (some ⟨gb,0,none⟩),.pointer (some ⟨gs,0,none⟩),.pointer (some ⟨gc,0,none⟩),.pointer (some ⟨gk,0,none⟩)] #[.pointer (some ⟨gb,0,none⟩),.pointer (some ⟨gc,0,none⟩)] (.func (.func 114) #[] #[.pointer (some ⟨gb,0,none⟩),.pointer (some ⟨gc,0,none⟩)]) where
 vtop:=trivial
 vkid:=fun _ _ _ _ _ _ _=>trivial
 stays:=FillP.stays gb gs gc gk gd sb a b c d e f cell
 en:=enters_of Tryz.func113 rfl rfl
 eb:=fun _ _=>⟨rfl,enters_of Tryz.func114 rfl rfl⟩
 node:=fun W Far us n p _ _ hin _ hP hG ht hlen hFar hS=>fill_node hN gb gs gc gk gd sb a b c d e f cell hc most g W Far us n p hin hP hG ht hlen hFar hS
 brick:=fun W B v p hin _ hP _ ho=>by
  obtain ⟨b1,b2,b3⟩:=hin.bd hN
  obtain ⟨g1,cap,rfl,-,-,-,-,-⟩:=ho.at (by rw [cells64_len];decide)
  have h:=fill_brick p.x p.y p.z b1 b2 b3 gb gc g1 B cap a b c d e f cell (cells64 g p) (cells64_len _ _) W hP.kb hP.kc ho
  rw [show (⟨⟨p.x,p.y,p.z⟩,⟨p.x+4,p.y+4,p.z+4⟩⟩:Box)=cube4B p from rfl,fill_cells hin] at h
  exact h
structure PasteP (gb gd:Nat) (a b c d e f:Int) (ha:Option Addr) (hcp:Nat) (ys:List Int) (w:World):Prop where
 kb:Bk w gb #[a,b,c,d,e,f,.slice ha ys.length hcp] 28
 kd:Bk w gd #[a,b,c,d,e,f] 25
 sl:Sl w .i64 ha ys
abbrev PasteF (gb gd:Nat) (ha:Option Addr) (ys:List Int):Nat→Prop:=fun x=>x=gb∨x=gd∨(ys ≠ []∧ha.map (·.block)=some x)
theorem PasteP.stays (gb gd:Nat) (a b c d e f:Int) (ha:Option Addr) (hcp:Nat) (ys:List Int):Stays (PasteF gb gd ha ys) (PasteP gb gd a b c d e f ha hcp ys):=fun x y hk h =>
 ⟨h.kb.keeps hk (.inl rfl),h.kd.keeps hk (.inr (.inl rfl)),h.sl.far hk (fun hn b hb=>.inr (.inr ⟨hn,hb⟩))⟩
theorem paste_edit {N:Nat} (hN:N≤12) (gb gd sb:Nat) (a b c d e f:Int) (ha:Option Addr) (hcp:Nat) (ys:List Int) (hSB:Small ⟨⟨a,b,c⟩,⟨d,e,f⟩⟩ 1048575) (hyl:ys.length=(volB ⟨⟨a,b,c⟩,⟨d,e,f⟩⟩).toNat) (hY:ys.length≤4194304) (hcap:ys.length≤hcp) (most:Int) (g:Pt→Int) :
 EditC [] (PasteF gb gd ha ys) (PasteP gb gd a b c d e f ha hcp ys) sb most N g (pasteF N ⟨⟨a,b,c⟩,⟨d,e,f⟩⟩ ys g) (fun _ _=>True) (fun _ _=>True) 156 121
  #[.pointer (some ⟨gd,0,none⟩)] #[.pointer (some ⟨gb,0,none⟩)] (.func (.func 121) #[] #[.pointer (some ⟨gb,0,none⟩)]) where
 vtop:=trivial
 vkid:=fun _ _ _ _ _ _ _=>trivial
 stays:=PasteP.stays gb gd a b c d e f ha hcp ys
 en:=enters_of Tryz.func156 rfl rfl
 eb:=fun _ _=>⟨rfl,enters_of Tryz.func121 rfl rfl⟩
 node:=fun W Far us n p _ _ hin _ hP _ ht _ _ hS=>paste_node hN gd sb a b c d e f ys most g W Far us n p hin hP.kd ht hS
 brick:=fun W B v p hin _ hP _ ho=>by
  obtain ⟨b1,b2,b3⟩:=hin.bd hN
  obtain ⟨g1,cap,rfl,-,-,-,-,-⟩:=ho.at (by rw [cells64_len];decide)
  have h:=paste_brick p.x p.y p.z b1 b2 b3 gb g1 B cap a b c d e f ha hcp (cells64 g p) ys (cells64_len _ _) hSB hyl hY hcap W hP.kb hP.sl ho
  rw [show (⟨⟨p.x,p.y,p.z⟩,⟨p.x+4,p.y+4,p.z+4⟩⟩:Box)=cube4B p from rfl,paste_cells hin] at h
  exact h
end
section
open Go.RowKit Go.Sort Go.Maps
open Oct
theorem isCell10_any (c:Int) (w:World) :
 Calls Tryz.prog 110 #[c] w fun e w'=>e = .returned (.bool (decide (0≤c∧c≤255)))∧w=w':=by
 go_enter Tryz.func110,Tryz.ntmps110
 go_wp2
 all_goals
  go_ret
  exact ⟨ret_bool (by rw [Bool.eq_iff_iff];simp;omega),rfl⟩
theorem apart_any (a b c d e f:Int) (w:World) :
 Calls Tryz.prog 111 #[.agg #[a,b,c,d,e,f]] w fun e' w'=>e' = .returned (.func (.func 156) #[] #[.pointer (some ⟨w.heap.size,0,none⟩)])∧Bk w' w.heap.size #[a,b,c,d,e,f] 25∧Below w.heap.size w w':=by
 go_enter Tryz.func111,Tryz.ntmps111
 go_wp2_with fail
 go_ret
 exact ⟨rfl,Bk.new _ _ _,(Below.refl _ _).alloc (Nat.le_refl _) _⟩
theorem fillbox_bad (sb:Nat) (i dd a b c d e f cell:Int) (hc : ¬(0≤cell∧cell≤255)) (w:World) :
 Calls Tryz.prog 49 #[.pointer (some ⟨sb,0,none⟩),i,dd,.agg #[a,b,c,d,e,f],cell] w fun e' w'=>e'=ret2 0 1∧Below w.heap.size w w':=by
 have hcell:=Bx.mk fun W=>isCell10_any cell W
 rw [show decide (0≤cell∧cell≤255)=false by simpa using hc] at hcell
 clear hc
 go_enter Tryz.func49,Tryz.ntmps49
 go_upto_region 1 with fail
 generalize hW:World.alloc (World.alloc (World.alloc w _) _) _=W
 have hB:=bl3 hW
 have kc:Bk W (w.heap.size+1+1) #[cell] 3:=bk0 hW
 clear hW
 have c0:=kc.cell 0 rfl
 go_wp2_with fail
 refine (hcell.out _).mono ?_
 rintro _ _ ⟨rfl,rfl⟩
 go_wp2_with fail
 go_ret2
 exact ⟨rfl,hB⟩
theorem Done.less {Far Far':Nat→Prop} {sb:Nat} {most:Int} {ts ts':List Tr} {t:Tr} {w w1 w':World} {e:Ending} (h:Done Far' sb most ts ts' t w1 e w') (hk:Keeps Far w w1) (hf : ∀ k,Far k→Far' k):Done Far sb most ts ts' t w e w':=by
 refine ⟨hk.trans (h.keeps.less hf),Nat.le_trans hk.size h.size,?_⟩
 rcases h.way with ⟨h1,h2,h3⟩ | ⟨h1,h2,h3⟩
 · exact .inl ⟨h1,h2,h3.less hf⟩
 · exact .inr ⟨h1,h2,h3.less hf⟩
set_option maxRecDepth 100000 in
set_option maxHeartbeats 1000000 in
theorem fillbox_any {N:Nat} (hN:N≤12) (sb:Nat) (a b c d e f cell:Int) (hc:0≤cell∧cell≤255) (most:Int) (g:Pt→Int) (hg : ∀ p,0≤g p∧g p≤255) (hg' : ∀ p,0≤fillF N ⟨⟨a,b,c⟩,⟨d,e,f⟩⟩ cell g p∧fillF N ⟨⟨a,b,c⟩,⟨d,e,f⟩⟩ cell g p≤255) (w:World) (Far:Nat→Prop) (ts:List Tr) (hG:Good ts) (ht:Tr.can g N ⟨0,0,0⟩∈ts) (hlen:(Tr.add (Tr.can (fillF N ⟨⟨a,b,c⟩,⟨d,e,f⟩⟩ cell g) N ⟨0,0,0⟩) ts).length≤4000000) (hFar : ∀ k,Far k→k<w.heap.size) (hS:StoreIs w Far sb most ts) :
 Calls Tryz.prog 49 #[.pointer (some ⟨sb,0,none⟩),(idT ts (Tr.can g N ⟨0,0,0⟩):Int),.int .i64 ((N:Int)+2),.agg #[a,b,c,d,e,f],cell] w (Done Far sb most ts (Tr.add (Tr.can (fillF N ⟨⟨a,b,c⟩,⟨d,e,f⟩⟩ cell g) N ⟨0,0,0⟩) ts) (Tr.can (fillF N ⟨⟨a,b,c⟩,⟨d,e,f⟩⟩ cell g) N ⟨0,0,0⟩) w):=by
 have hcell:=Bx.mk fun W=>isCell10_any cell W
 rw [show decide (0≤cell∧cell≤255)=true by simpa using hc] at hcell
 have hap:=Bx.mk fun W=>apart_any a b c d e f W
 have hch:=Bx.mk fun gb gs gc gk gd W Far' h1 h2 h3 h4=>change_any hN (fill_edit hN gb gs gc gk gd sb a b c d e f cell hc most g) hg hg' W Far' h1 h2 ts List.nil_prefix hG ht hlen h3 h4
 have HF:=Bx.mk hFar
 have HS:=Bx.mk hS
 clear hc hg hg' hG ht hlen hFar hS
 generalize Tr.can (fillF N ⟨⟨a,b,c⟩,⟨d,e,f⟩⟩ cell g) N ⟨0,0,0⟩=T at *
 go_enter Tryz.func49,Tryz.ntmps49
 go_upto_region 1 with fail
 generalize hW:World.alloc (World.alloc (World.alloc w _) _) _=W
 have hSz:W.heap.size=w.heap.size+1+1+1:=by rw [←hW];simp
 have hB:=bl3 hW
 have ks:Bk W (w.heap.size) #[.pointer (some ⟨sb,0,none⟩)] 32:=bk2 hW
 have kb:Bk W (w.heap.size+1) #[a,b,c,d,e,f] 25:=bk1 hW
 have kc:Bk W (w.heap.size+1+1) #[cell] 3:=bk0 hW
 clear hW
 have c0:=kc.cell 0 rfl
 obtain ⟨b0,b1,b2,b3,b4,b5⟩:=kb.c6
 go_wp2_with fail
 refine (hcell.out _).mono ?_
 rintro _ _ ⟨rfl,rfl⟩
 go_wp2_with fail
 refine (hap.out _).mono ?_
 rintro _ w2 ⟨rfl,kd,hb⟩
 replace ks:=ks.later hb
 replace kb:=kb.later hb
 replace kc:=kc.later hb
 have cs : ∀ o,(w2.alloc o).cell? ⟨w.heap.size,0,none⟩=some (.pointer (some ⟨sb,0,none⟩)):=fun o=>(ks.alloc o).cell 0 rfl
 clear c0 b0 b1 b2 b3 b4 b5
 go_wp2_with fail
 generalize hW5:World.alloc w2 _=W5
 have hb5:Below w2.heap.size w2 W5:=by rw [←hW5];exact below_lit _ _
 have hs5:W5.heap.size=w2.heap.size+1:=by rw [←hW5];simp
 have kk:Bk W5 w2.heap.size #[.func (.func 156) #[] #[.pointer (some ⟨w.heap.size+1+1+1,0,none⟩)]] 152:=by rw [←hW5];exact Bk.new _ _ _
 have hbs:=hb.size
 rw [hSz] at kd hbs
 have hB5:=(hB.trans (hb.mono hB.size)).trans (hb5.mono (by omega))
 refine (hch.out (w.heap.size+1) w.heap.size (w.heap.size+1+1) w2.heap.size (w.heap.size+1+1+1) W5 (fun x=>Far x∨(w.heap.size≤x∧x<W5.heap.size)) ?_ ⟨kb.later hb5,ks.later hb5,kc.later hb5,kk,kd.later hb5⟩ ?_ ?_).mono ?_
 · intro k hk
   right
   have hd:=kd.lt
   rcases hk with rfl | rfl | rfl | rfl | rfl <;> omega
 · intro k hk
   rcases hk with hk | hk
   · exact Nat.lt_of_lt_of_le (HF.out k hk) hB5.size
   · exact hk.2
 · exact (HS.out.widen (Far':=fun x=>Far x∨(w.heap.size≤x∧x<W5.heap.size)) (fun k hk=>hk.imp id (fun h=>h.1))).later hB5
 · intro e' w' hd
   have Hd:=Bx.mk (hd.less (Far:=Far) (Keeps.below hB5) (fun k hk=>.inl hk))
   obtain ⟨-,-,(⟨hf,rfl,hs⟩ | ⟨hf,rfl,hs⟩)⟩:=hd
   all_goals
    clear hf hs
    go_wp2_with fail
    go_ret2
    exact Hd.out
end
section
open Go.RowKit Go.Sort Go.Maps
open Oct
theorem eql_cube (a0 a1 a2 a3 b0 b1 b2 b3:Int) (w:World):(binOp .eql 39 (.agg #[a0,a1,a2,a3]) (.agg #[b0,b1,b2,b3])).run Tryz.prog w = .ok (.bool (decide (a0=b0∧a1=b1∧a2=b2∧a3=b3))) w:=by
 have h1 : Tryz.prog.stoodInHeld 39=false:=by kernel_rfl
 have h2 : Tryz.prog.stoodInHeld 23=false:=by kernel_rfl
 rw [run_eql_struct,run_equalIn_agg _ _ _ _ _ (by kernel_rfl) h1]
 go_simp
 by_cases h3:a0=b0
 rotate_left
 · simp [h3]
 by_cases h4:a1=b1
 rotate_left
 · simp [h4]
 by_cases h5:a2=b2
 rotate_left
 · simp [h5]
 by_cases h6:a3=b3
 rotate_left
 · simp [h6]
 simp [h3,h4,h5,h6]
structure GraftP (gc gp gk gd:Nat) (cx cy cz cl part:Int) (b:Box) (w:World):Prop where
 kc:Bk w gc #[cx,cy,cz,cl] 39
 kp:Bk w gp #[part] 3
 kk:Bk w gk #[.func (.func 156) #[] #[.pointer (some ⟨gd,0,none⟩)]] 152
 kd:Bk w gd #[b.lo.x,b.lo.y,b.lo.z,b.hi.x,b.hi.y,b.hi.z] 25
abbrev GraftF (gc gp gk gd:Nat):Nat→Prop:=fun x=>x=gc∨x=gp∨x=gk∨x=gd
theorem GraftP.stays (gc gp gk gd:Nat) (cx cy cz cl part:Int) (b:Box):Stays (GraftF gc gp gk gd) (GraftP gc gp gk gd cx cy cz cl part b):=fun x y hk h =>
 ⟨h.kc.keeps hk (.inl rfl),h.kp.keeps hk (.inr (.inl rfl)),h.kk.keeps hk (.inr (.inr (.inl rfl))),h.kd.keeps hk (.inr (.inr (.inr rfl)))⟩
theorem GraftP.later {gc gp gk gd:Nat} {cx cy cz cl part:Int} {b:Box} {w w':World} (h:GraftP gc gp gk gd cx cy cz cl part b w) (hb:Below w.heap.size w w'):GraftP gc gp gk gd cx cy cz cl part b w':=⟨h.kc.later hb,h.kp.later hb,h.kk.later hb,h.kd.later hb⟩
theorem graft1_at (gc gp gk gd:Nat) (cx cy cz cl part i:Int) (b:Box) (w:World) (HP:GraftP gc gp gk gd cx cy cz cl part b w) :
 Calls Tryz.prog 120 #[cubeV cx cy cz cl,i,.pointer (some ⟨gc,0,none⟩),.pointer (some ⟨gp,0,none⟩),.pointer (some ⟨gk,0,none⟩)] w fun e' w'=>e'=ret3 part true 0∧Below w.heap.size w w':=by
 go_enter Tryz.func120,Tryz.ntmps120
 go_upto_region 1 with fail
 generalize hW:World.alloc w _=W
 have hB:=bl1 hW
 have kq:Bk W w.heap.size #[cx,cy,cz,cl] 39:=bk0 hW
 have HP2:=HP.later hB
 clear hW
 obtain ⟨c0,c1,c2,c3⟩:=kq.c4
 obtain ⟨d0,d1,d2,d3⟩:=HP2.kc.c4
 have e0:=HP2.kp.cell 0 rfl
 go_wp2_with fail
 go_ret3
 exact ⟨rfl,hB⟩
theorem graft1_off (n:Nat) (hn:n≤14) (ax ay az m:Int) (hm:m=2 ^ n) (hx : -100000≤ax∧ax≤100000) (hy : -100000≤ay∧ay≤100000) (hz : -100000≤az∧az≤100000) (gc gp gk gd:Nat) (cx cy cz cl part i:Int) (b:Box) (w:World) (HP:GraftP gc gp gk gd cx cy cz cl part b w) (hne : ¬(ax=cx∧ay=cy∧az=cz∧(n:Int)=cl)) :
 Calls Tryz.prog 120 #[cubeV ax ay az (n:Int),i,.pointer (some ⟨gc,0,none⟩),.pointer (some ⟨gp,0,none⟩),.pointer (some ⟨gk,0,none⟩)] w fun e' w'=>e'=ret3 i (emptyB (meetB ⟨⟨ax,ay,az⟩,⟨ax+m,ay+m,az+m⟩⟩ b)) 0∧Below w.heap.size w w':=by
 have hap:=Bx.mk (fun W (hb:Below w.heap.size w W)=>apart1_any n hn ax ay az m hm hx hy hz gd b.lo.x b.lo.y b.lo.z b.hi.x b.hi.y b.hi.z i W (HP.later hb).kd)
 rw [show (⟨⟨b.lo.x,b.lo.y,b.lo.z⟩,⟨b.hi.x,b.hi.y,b.hi.z⟩⟩:Box)=b from rfl] at hap
 generalize emptyB (meetB ⟨⟨ax,ay,az⟩,⟨ax+m,ay+m,az+m⟩⟩ b)=z at *
 have heq : ∀ W,(binOp .eql 39 (.agg #[ax,ay,az,(n:Int)]) (.agg #[cx,cy,cz,cl])).run Tryz.prog W = .ok (.bool false) W:=fun W=>by rw [eql_cube,decide_eq_false hne]
 clear hm hx hy hz hne
 go_enter Tryz.func120,Tryz.ntmps120
 go_upto_region 1 with fail
 generalize hW:World.alloc w _=W
 have hB:=bl1 hW
 have kq:Bk W w.heap.size #[ax,ay,az,(n:Int)] 39:=bk0 hW
 have HP2:=HP.later hB
 clear hW
 obtain ⟨c0,c1,c2,c3⟩:=kq.c4
 obtain ⟨d0,d1,d2,d3⟩:=HP2.kc.c4
 have ck:W.cell? ⟨gk,0,none⟩=some (.func (.func 156) #[] #[.pointer (some ⟨gd,0,none⟩)]):=HP2.kk.cell 0 rfl
 go_wp2_with fail
 refine (hap.out _ hB).mono ?_
 rintro e2 w2 ⟨rfl,hb⟩
 have hB2:=Bx.mk (hB.trans (hb.mono hB.size))
 clear heq c0 c1 c2 c3 d0 d1 d2 d3 ck hb hap
 go_wp2_with fail
 go_ret3
 exact ⟨rfl,hB2.out⟩
end
section
open Go.RowKit Go.Maps Go.ChangeMaps Go.WideElems
open Go.WideMaps (KeyLaw)
abbrev selfR:Value→Option (DataW Value × List MemPlace):=fun v=>some (.held v,[])
def MapV (k:TypeId) (w:World) (b n:Nat) (f:Value→Option Value):Prop :=
 ∃ D : DataW Value, w.ownsMap Tryz.prog k selfR b n D ∧
   ∀ key kl,keyOf Tryz.prog k key=some kl→(f key=none→has D kl=false) ∧ ∀ v,f key=some v→has D kl=true ∧ ∀ zd,D.atKey kl zd = .held v
theorem MapV.kept {k:TypeId} {w w':World} {b n:Nat} {f:Value→Option Value} {row:Option Nat} (h:MapV k w b n f) (hg:w.grownBy w' row) (hne:some b ≠ row):MapV k w' b n f:=by
 obtain ⟨D,h1,h2⟩:=h
 exact ⟨D,h1.kept hg hne,h2⟩
theorem MapV.of_block {k:TypeId} {w w':World} {b n:Nat} {f:Value→Option Value} (h:MapV k w b n f) (hb:w'.heap[b]? = w.heap[b]?):MapV k w' b n f:=by
 obtain ⟨D,⟨es,clock,h0,F,hs,hD⟩,h2⟩:=h
 exact ⟨D,⟨es,clock,hb.trans h0,F,hs,hD⟩,h2⟩
theorem MapV.lt {k:TypeId} {w:World} {b n:Nat} {f:Value→Option Value} (h:MapV k w b n f):b<w.heap.size:=by
 obtain ⟨D,h1,_⟩:=h
 exact h1.lt
theorem MapV.mono {k:TypeId} {w:World} {b n m:Nat} {f:Value→Option Value} (h:MapV k w b n f) (hn:n≤m):MapV k w b m f:=by
 obtain ⟨D,h1,h2⟩:=h
 exact ⟨D,h1.mono hn,h2⟩
theorem MapV.made (k:TypeId) (w:World):MapV k (w.alloc (.map #[] 0)) w.heap.size 0 (fun _=>none) :=
 ⟨_,World.ownsMap_made w _ _ _,fun key kl hk=>⟨fun _=>rfl,fun i h=>by cases h⟩⟩
theorem MapV.congr {k:TypeId} {w:World} {b n:Nat} {f f':Value→Option Value} (h:MapV k w b n f) (he : ∀ key kl,keyOf Tryz.prog k key=some kl→f key=f' key):MapV k w b n f':=by
 obtain ⟨D,h1,h2⟩:=h
 refine ⟨D,h1,fun key kl hk=>?_⟩
 rw [←he key kl hk];exact h2 key kl hk
theorem MapV.look {k t e:TypeId} (K:Keyed Tryz.prog k) (ht : Tryz.prog.underlying t=some (.map k e)) {z:Value} {w:World} (hz:(zeroValue e).run Tryz.prog w = .ok z w) {b n:Nat} {f:Value→Option Value} (h:MapV k w b n f) {key:Value} {kl:Lit} (hkey:keyOf Tryz.prog k key=some kl) :
 (Instr.lookup t (.map (some b)) key false).run Tryz.prog w = .ok ((f key).getD z) w∧(Instr.lookup t (.map (some b)) key true).run Tryz.prog w = .ok (.tuple #[(f key).getD z,.bool (f key).isSome]) w:=by
 obtain ⟨D,h1,h2⟩:=h
 obtain ⟨v,ps,hrun,hv⟩:=h1.look_ok K ht hz (R:=selfR) (z:=z) (zd:=.held z) (zp:=[]) rfl hkey
 obtain ⟨v',ps',hrun',hv'⟩:=h1.lookup K ht hz (R:=selfR) (z:=z) (zd:=.held z) (zp:=[]) rfl hkey
 have e1:DataW.held v=D.atKey kl (.held z):=congrArg Prod.fst (Option.some.inj hv)
 have e2:DataW.held v'=D.atKey kl (.held z):=congrArg Prod.fst (Option.some.inj hv')
 obtain ⟨k1,k2⟩:=h2 key kl hkey
 cases hf:f key with
 | none =>
   rw [k1 hf] at hrun
   rw [atKey_of_not_has (k1 hf)] at e1 e2
   injection e1 with e1;injection e2 with e2
   subst e1;subst e2
   exact ⟨hrun',hrun⟩
 | some u =>
   obtain ⟨g1,g2⟩:=k2 u hf
   rw [g1] at hrun
   rw [g2] at e1 e2
   injection e1 with e1;injection e2 with e2
   subst e1;subst e2
   exact ⟨hrun',hrun⟩
open Classical in
noncomputable def putV (f:Value→Option Value) (key v:Value):Value→Option Value:=fun x=>if x=key then some v else f x
theorem putV_same (f:Value→Option Value) (key v:Value):putV f key v key=some v:=by unfold putV;rw [if_pos rfl]
theorem putV_other (f:Value→Option Value) {key x:Value} (v:Value) (h:x ≠ key):putV f key v x=f x:=by unfold putV;rw [if_neg h]
theorem MapV.after {k:TypeId} (K:Keyed Tryz.prog k) {w w':World} {b n m:Nat} {f:Value→Option Value} {D:DataW Value} (hD:w.ownsMap Tryz.prog k selfR b n D) {key v:Value} {kl:Lit} (hkey:keyOf Tryz.prog k key=some kl)
 (h2 : ∀ key kl,keyOf Tryz.prog k key=some kl→(f key=none→has D kl=false) ∧ ∀ v,f key=some v→has D kl=true ∧ ∀ zd,D.atKey kl zd = .held v)
 (h3:w'.ownsMap Tryz.prog k selfR b m (D.put kl (.held v))):MapV k w' b m (putV f key v):=by
 have hm:=hD.isMap
 refine ⟨_,h3,fun key' kl' hk'=>?_⟩
 by_cases e:key'=key
 · subst e
   obtain rfl:kl'=kl:=Option.some.inj (hk'.symm.trans hkey)
   rw [putV_same]
   refine ⟨(fun h=>by cases h),fun j hj=>?_⟩
   obtain rfl:=Option.some.inj hj
   exact ⟨has_put_same hm (K.key hkey) _,fun zd=>atKey_put_same hm (K.key hkey) _ _⟩
 · have hne:kl' ≠ kl:=fun e'=>e (K.inj hk' (e' ▸ hkey))
   rw [putV_other f v e]
   obtain ⟨k1,k2⟩:=h2 key' kl' hk'
   exact ⟨fun h=>by rw [has_put_other hne];exact k1 h,fun j hj=>⟨by rw [has_put_other hne];exact (k2 j hj).1,fun zd=>by rw [atKey_put_other hne];exact (k2 j hj).2 zd⟩⟩
theorem MapV.put {k t e:TypeId} (K:Keyed Tryz.prog k) (ht : Tryz.prog.underlying t=some (.map k e)) {w:World} {b n:Nat} {f:Value→Option Value} (h:MapV k w b n f) (hn:n<maxLen) {key:Value} {kl:Lit} (hkey:keyOf Tryz.prog k key=some kl) (v:Value) :
 ∃ w',(Instr.mapUpdate t (.map (some b)) key v).run Tryz.prog w = .ok () w'∧MapV k w' b (n+1) (putV f key v)∧w.grownBy w' (some b)∧w'.heap.size=w.heap.size:=by
 obtain ⟨D,h1,h2⟩:=h
 obtain ⟨w',hrun,h3,h4⟩:=h1.store K ht hn hkey (R:=selfR) (val:=v) rfl
 refine ⟨w',hrun,MapV.after K h1 hkey h2 h3,h4.grown,?_⟩
 obtain ⟨es,clock,es',clock',hb,rfl⟩:=h4
 show (w.heap.setIfInBounds b _).size=_
 simp
set_option maxRecDepth 100000 in
theorem MapV.entry {k t e:TypeId} (L:KeyLaw Tryz.prog k) (ht : Tryz.prog.underlying t=some (.map k e)) {z:Value} (hz : ∀ u:World,(zeroValue e).run Tryz.prog u = .ok z u) {w:World} {b n:Nat} {f:Value→Option Value} (h:MapV k w b n f) (hn:n<maxLen) {key:Value} {kl:Lit} (hkey:keyOf Tryz.prog k key=some kl) :
 ∃ (st : Nat) (w1 : World), (Instr.mapEntry t (.map (some b)) key).run Tryz.prog w = .ok (.tuple #[(f key).getD z, .int .i64 st]) w1 ∧ w.grownBy w1 (some b) ∧ w1.heap.size = w.heap.size ∧
   ∀ (w2:World) (v:Value),w2.heap[b]? = w1.heap[b]? → ∃ w3,(Instr.entryStore t (.map (some b)) (.int .i64 st) v).run Tryz.prog w2 = .ok () w3∧MapV k w3 b (n+1) (putV f key v)∧w2.grownBy w3 (some b)∧w3.heap.size=w2.heap.size:=by
 have K:=Keyed.of_law L
 have hlook:=(MapV.look K ht (hz w) h hkey).1
 obtain ⟨D,h1,h2⟩:=h
 obtain ⟨es,clock,hb,F,hs,rfl⟩:=h1
 obtain ⟨v0,st,es1,clock1,hrun,hv0,hst⟩:=WideElems.entry_then_store L ht hz hb F hkey
 have e0:v0=(f key).getD z:=by
  have hm:=(⟨es,clock,hb,F,hs,rfl⟩:w.ownsMap Tryz.prog k selfR b n (.map ((es.toList.map (WideElems.rg Tryz.prog k selfR)).foldr DataW.insert [])))
  rcases Maps.fit_look false K ht (hz w) hb F hkey with ⟨g1,g2,-⟩ | ⟨e0,y,g0,g3,g1,-,-,-⟩
  · rw [g1] at hlook
    injection hlook with hl _
    rcases hv0 with ⟨x,hx,hxk,-⟩ | ⟨-,rfl⟩
    · exact absurd hxk (g2 x hx)
    · exact hl
  · rw [g1] at hlook
    injection hlook with hl _
    rcases hv0 with ⟨x,hx,hxk,rfl⟩ | ⟨hno,-⟩
    · rcases K.find w hkey es.toList F.keys with ⟨-,q2⟩ | ⟨j,e9,q1,q2,q3⟩
      · exact absurd hxk (q2 x hx)
      · have hn:=((MapKept.stamped_iff es clock).1 F.stamped).2.2
        have uniq : ∀ a∈es.toList,∀ c∈es.toList,a.key=c.key→a=c:=by
         intro a ha c hc hac
         rcases List.mem_iff_getElem.1 ha with ⟨i,hi,rfl⟩
         rcases List.mem_iff_getElem.1 hc with ⟨i',hi',rfl⟩
         by_cases hii:i=i'
         · subst hii;rfl
         · exfalso
           rcases Nat.lt_or_gt_of_ne hii with hlt | hlt
           · exact List.pairwise_iff_getElem.1 hn i i' hi hi' hlt hac
           · exact List.pairwise_iff_getElem.1 hn i' i hi' hi hlt hac.symm
        rw [uniq x hx e0 g0 (hxk.trans g3.symm)]
        exact hl
    · exact absurd g3 (hno e0 g0)
 subst e0
 refine ⟨st,setBlock w b (.map es1 clock1),hrun,⟨rfl,rfl,rfl,by simp [setBlock],fun i _ hi=>heap_setBlock_other hb _ (fun e=>hi (by rw [e]))⟩,by simp [setBlock],fun w2 v hw2=>?_⟩
 rw [heap_setBlock_same hb] at hw2
 obtain ⟨es',clock',hr1,hr2⟩:=hst w2 v hw2
 refine ⟨_,hr1,?_,⟨rfl,rfl,rfl,by simp [setBlock],fun i _ hi=>heap_setBlock_other hw2 _ (fun e=>hi (by rw [e]))⟩,by simp [setBlock]⟩
 have h1:w.ownsMap Tryz.prog k selfR b n (.map ((es.toList.map (WideElems.rg Tryz.prog k selfR)).foldr DataW.insert [])):=⟨es,clock,hb,F,hs,rfl⟩
 obtain ⟨w',hrun',h3,-⟩:=h1.store K ht hn hkey (R:=selfR) (val:=v) rfl
 rw [hr2] at hrun'
 injection hrun' with _ hw'
 obtain ⟨es3,clock3,hb3,F3,hs3,hD3⟩:=h3
 rw [←hw',heap_setBlock_same hb] at hb3
 injection hb3 with hb3
 injection hb3 with q1 q2
 subst q1;subst q2
 exact MapV.after K h1 hkey h2 ⟨es',clock',heap_setBlock_same hw2 _,F3,hs3,hD3⟩
end
section
open Go.RowKit Go.Sort
structure Chg where
 x:Int
 y:Int
 z:Int
 o:Int
 n:Int
abbrev Chg.at (c:Chg):Pt:=⟨c.x,c.y,c.z⟩
def Chg.cells (c:Chg):List Value:=[.int .i64 c.x,.int .i64 c.y,.int .i64 c.z,.int .i64 c.o,.int .i64 c.n]
def SlC (w:World) (a:Option Addr) (cs:List Chg):Prop := ∀ (i:Nat) (c:Chg),cs[i]? = some c → ∃ b off,a=some ⟨b,off,none⟩∧w.cell? ⟨b,off+i * 5,none⟩=some (.int .i64 c.x)∧w.cell? ⟨b,off+i * 5+1,none⟩=some (.int .i64 c.y)∧w.cell? ⟨b,off+i * 5+2,none⟩=some (.int .i64 c.z)∧w.cell? ⟨b,off+i * 5+3,none⟩=some (.int .i64 c.o)∧w.cell? ⟨b,off+i * 5+4,none⟩=some (.int .i64 c.n)
theorem SlC.of_block {w w':World} {a:Option Addr} {cs:List Chg} (h:SlC w a cs) (hb : ∀ b,a.map (·.block)=some b→b<w.heap.size→w'.heap[b]? = w.heap[b]?):SlC w' a cs:=by
 intro i c hc
 obtain ⟨b,off,rfl,c0,c1,c2,c3,c4⟩:=h i c hc
 have hh:=hb b rfl (World.block_lt_of_cell? w _ c0)
 exact ⟨b,off,rfl,(World.cell?_of_block hh).trans c0,(World.cell?_of_block hh).trans c1,(World.cell?_of_block hh).trans c2,(World.cell?_of_block hh).trans c3,(World.cell?_of_block hh).trans c4⟩
theorem SlC.below {w w':World} {a:Option Addr} {cs:List Chg} (h:SlC w a cs) (hb:Below w.heap.size w w'):SlC w' a cs:=h.of_block fun b _ hl=>hb.block b hl
theorem SlC.grown {w w':World} {a:Option Addr} {cs:List Chg} {g:Nat} (h:SlC w a cs) (hg:w.grownBy w' (some g)) (hne:a.map (·.block) ≠ some g):SlC w' a cs:=h.of_block fun b hb hl=>hg.block b hl (fun e=>hne (by rw [hb,e]))
def wr1 (B:Box) (xs:List Int) (c:Chg):List Int:=if inB c.at B=true then xs.set (indexB B c.at).toNat c.n else xs
def wrL (B:Box) (cs:List Chg) (xs:List Int):List Int:=cs.foldl (wr1 B) xs
theorem wr1_len (B:Box) (xs:List Int) (c:Chg):(wr1 B xs c).length=xs.length:=by
 unfold wr1;split
 · rw [List.length_set]
 · rfl
theorem wrL_len (B:Box) : ∀ (cs:List Chg) (xs:List Int),(wrL B cs xs).length=xs.length
 | [],_=>rfl
 | c::cs,xs=>(wrL_len B cs (wr1 B xs c)).trans (wr1_len B xs c)
theorem wrL_take {B:Box} {cs:List Chg} {xs:List Int} {j:Nat} {c:Chg} (h:cs[j]? = some c):wrL B (cs.take (j+1)) xs=wr1 B (wrL B (cs.take j) xs) c:=by
 obtain ⟨hl,rfl⟩:=List.getElem?_eq_some_iff.1 h
 unfold wrL
 rw [List.take_succ_eq_append_getElem hl,List.foldl_append];rfl
set_option maxRecDepth 100000 in
set_option maxHeartbeats 1000000 in
theorem write_clo (pl pg g N cap Bd:Nat) (a b c d e f:Int) (gc:Value) (ha:Option Addr) (hcp:Nat) (cs:List Chg) (xs:List Int) (w:World) (hSA:Small ⟨⟨a,b,c⟩,⟨d,e,f⟩⟩ 1048575)
 (hxl:xs.length=(volB ⟨⟨a,b,c⟩,⟨d,e,f⟩⟩).toNat) (hN:N≤4194304) (hC:cs.length≤4194304) (hcap:cs.length≤hcp)
 (kl:Bk w pl #[.slice ha cs.length hcp] 37) (kg:Bk w pg #[a,b,c,d,e,f,gc] 28) (hcs:SlC w ha cs) (ho:Own w Bd 3 .i64 (.slice (some ⟨g,0,none⟩) N cap) xs) (hgl:g ≠ pl) (hgg:g ≠ pg) (hga:cs ≠ []→ha.map (·.block) ≠ some g) :
 Calls Tryz.prog 164 #[.slice (some ⟨g,0,none⟩) N cap,.pointer (some ⟨pl,0,none⟩),.pointer (some ⟨pg,0,none⟩)] w fun e' w'=>e' = .returned (.tuple #[])∧Own w' Bd 3 .i64 (.slice (some ⟨g,0,none⟩) N cap) (wrL ⟨⟨a,b,c⟩,⟨d,e,f⟩⟩ cs xs)∧w.grownBy w' (some g):=by
 have hNl:xs.length=N:=ho.raw.choose_spec.2.2.2.2.2.2.symm
 have HSA:=Bx.mk hSA
 have Kg:=Bx.mk kg
 have Ho:=Bx.mk ho
 have Hcs:=Bx.mk hcs
 have Hxl:=Bx.mk hxl
 have c0:=kl.cell 0 rfl
 clear kg ho hcs hSA hxl
 go_enter Tryz.func164,Tryz.ntmps164
 go_wp2_with fail
 have HI:Bx (Own w Bd 3 .i64 (.slice (some ⟨g,0,none⟩) N cap) (wrL ⟨⟨a,b,c⟩,⟨d,e,f⟩⟩ (cs.take 0) xs)∧w.grownBy w (some g)):=⟨⟨Ho.out,⟨rfl,rfl,rfl,Nat.le_refl _,fun _ _ _=>rfl⟩⟩⟩
 clear c0
 go_loopw [9] (fun i wr => ∃ j:Nat,j≤cs.length∧i = .int .i64 j∧Bx (Own wr Bd 3 .i64 (.slice (some ⟨g,0,none⟩) N cap) (wrL ⟨⟨a,b,c⟩,⟨d,e,f⟩⟩ (cs.take j) xs)∧w.grownBy wr (some g))) (fun i _=>cs.length - (intOf i).toNat)
 case atStart=>exact ⟨0,Nat.zero_le _,rfl,HI⟩
 case round =>
  clear HI
  obtain ⟨j,hj,rfl,hI⟩:=hrel
  by_cases hlt:j<cs.length
  · obtain ⟨⟨px,py,pz,po,pn⟩,hed⟩ : ∃ ed,cs[j]? = some ed:=⟨_,List.getElem?_eq_getElem hlt⟩
    obtain ⟨bk,off,rfl,c0,c1,c2,c3,c4⟩:=(Hcs.out.grown hI.out.2 (hga (List.ne_nil_of_length_pos (by omega)))) j _ hed
    have kg:=Kg.out.grown hI.out.2 (Ne.symm hgg)
    have hwr:=wrL_take (B:=⟨⟨a,b,c⟩,⟨d,e,f⟩⟩) (xs:=xs) hed
    have hwl:=wrL_len ⟨⟨a,b,c⟩,⟨d,e,f⟩⟩ (cs.take j) xs
    obtain ⟨k,hk⟩ : ∃ k,indexB ⟨⟨a,b,c⟩,⟨d,e,f⟩⟩ ⟨px,py,pz⟩=k:=⟨_,rfl⟩
    have hin:=Bx.mk fun W=>(index_any a b c d e f px py pz HSA.out W).mono fun e' w' h=>(⟨h.1.trans (by rw [hk]),h.2⟩:e' = .returned (.int .i64 k)∧Below W.heap.size W w')
    unfold wr1 at hwr
    simp only [Chg.at] at hwr
    have t0:decide ((j:Int)<(cs.length:Int))=true:=by simp;omega
    have b1:(0:Int)≤(j:Int):=by omega
    have b2:(j:Int)<(cs.length:Int):=by omega
    have hwr:=Bx.mk hwr
    have hgb:bk ≠ g:=fun e=>hga (List.ne_nil_of_length_pos (by omega)) (by rw [←e];rfl)
    have HSz:=hI.out.2.size
    have hgl2:=(hI.out.1.lt g rfl).2
    dsimp only at c0 c1 c2 c3 c4
    by_cases hi:inB ⟨px,py,pz⟩ ⟨⟨a,b,c⟩,⟨d,e,f⟩⟩=true
    · have hbd:=indexB_bd hi
      rw [hk] at hbd
      obtain ⟨m,rfl⟩ : ∃ m:Nat,k=(m:Int):=⟨k.toNat,(Int.toNat_of_nonneg hbd.1).symm⟩
      have hmN:m<N:=by have:=Hxl.out;omega
      have hwr2:Bx (wrL ⟨⟨a,b,c⟩,⟨d,e,f⟩⟩ (cs.take (j+1)) xs=(wrL ⟨⟨a,b,c⟩,⟨d,e,f⟩⟩ (cs.take j) xs).set m pn):=⟨by rw [hwr.out,if_pos hi,hk];rfl⟩
      clear hi hbd hk hed hwr
      go_upto_region 3 with fail
      generalize hW:World.alloc wr _=W
      have hb:=bl1 hW
      have kx:Bk W wr.heap.size #[px,py,pz,po,pn] 96:=bk0 hW rfl
      clear hW c0 c1 c2 c3 c4
      have kg1:=kg.later hb
      obtain ⟨g0,g1,g2,g3,g4,g5⟩:=kg1.c6
      obtain ⟨x0,x1,x2⟩:=kx.c3
      clear kg kg1
      go_wp2_with fail
      refine (hin.out _).mono ?_
      rintro _ w4 ⟨rfl,hb4⟩
      clear g0 g1 g2 g3 g4 g5 x0 x1 x2
      replace kx:=kx.later hb4
      have hb5:=hb.trans (hb4.mono hb.size)
      clear hb hb4
      have x4:=kx.cell 4 rfl
      have ho5:=hI.out.1.below hb5
      have hor:=ho5.at (by rw [hwl];omega)
      rw [hwl,hNl] at hor
      obtain ⟨g',cap',hv,-,hgs,h3,h4,h5⟩:=hor
      injection hv with hv1 hv2 hv3
      injection hv1 with hv1
      injection hv1 with hv1
      subst hv1 hv3
      obtain ⟨old,hold⟩ : ∃ x,(wrL ⟨⟨a,b,c⟩,⟨d,e,f⟩⟩ (cs.take j) xs)[m]? = some x:=⟨_,List.getElem?_eq_getElem (by omega)⟩
      have hcell:=h3 m old hold
      have hfr:=h4 m
      have h6:=h5 m pn
      rw [←hwr2.out] at h6
      have hgr:w.grownBy w4 (some g):=hI.out.2.trans ⟨hb5.os,hb5.tape,hb5.output,hb5.size,fun k hk _=>hb5.block k hk⟩
      have HJ:=Bx.mk (And.intro h6 (grown_set hgr m (.int .i64 pn)))
      have p1:(0:Int)≤(m:Int):=by omega
      have p2:(m:Int)<(N:Int):=by omega
      clear h3 h4 h5 h6 hold hgr ho5 hI kx hwr2 hwl
      go_wp2_with fail
      go_roundw
      case rel=>exact ⟨j+1,by omega,by go_num,HJ⟩
      case measure=>simp [intOf];omega
    · have hk1:k = -1:=by rw [←hk];unfold indexB;rw [if_neg hi]
      subst hk1
      have hwr2:Bx (wrL ⟨⟨a,b,c⟩,⟨d,e,f⟩⟩ (cs.take (j+1)) xs=wrL ⟨⟨a,b,c⟩,⟨d,e,f⟩⟩ (cs.take j) xs):=⟨by rw [hwr.out,if_neg hi]⟩
      clear hi hk hed hwr
      go_upto_region 3 with fail
      generalize hW:World.alloc wr _=W
      have hb:=bl1 hW
      have kx:Bk W wr.heap.size #[px,py,pz,po,pn] 96:=bk0 hW rfl
      clear hW c0 c1 c2 c3 c4
      have kg1:=kg.later hb
      obtain ⟨g0,g1,g2,g3,g4,g5⟩:=kg1.c6
      obtain ⟨x0,x1,x2⟩:=kx.c3
      clear kg kg1
      go_wp2_with fail
      refine (hin.out _).mono ?_
      rintro _ w4 ⟨rfl,hb4⟩
      clear g0 g1 g2 g3 g4 g5 x0 x1 x2
      replace kx:=kx.later hb4
      have hb5:=hb.trans (hb4.mono hb.size)
      clear hb hb4
      have hgr:w.grownBy w4 (some g):=hI.out.2.trans ⟨hb5.os,hb5.tape,hb5.output,hb5.size,fun k hk _=>hb5.block k hk⟩
      have HJ:Bx (Own w4 Bd 3 .i64 (.slice (some ⟨g,0,none⟩) N cap) (wrL ⟨⟨a,b,c⟩,⟨d,e,f⟩⟩ (cs.take (j+1)) xs)∧w.grownBy w4 (some g)):=⟨by rw [hwr2.out];exact ⟨hI.out.1.below hb5,hgr⟩⟩
      clear hgr hI kx hwr2 hwl
      go_wp2_with fail
      go_roundw
      case rel=>exact ⟨j+1,by omega,by go_num,HJ⟩
      case measure=>simp [intOf];omega
  · obtain rfl:j=cs.length:=by omega
    rw [List.take_of_length_le (Nat.le_refl _)] at hI
    have t0:decide ((cs.length:Int)<(cs.length:Int))=false:=by simp
    go_wp2_with fail
    go_end0
    exact ⟨rfl,hI.out.1,hI.out.2⟩
set_option maxRecDepth 100000 in
set_option maxHeartbeats 1000000 in
theorem gridWrite_any (a b c d e f:Int) (ga ha:Option Addr) (gcap hcp:Nat) (xs:List Int) (cs:List Chg) (w:World) (hC:cs.length≤4194304) (hcap:cs.length≤hcp) (hcs:SlC w ha cs) (hSA:Small ⟨⟨a,b,c⟩,⟨d,e,f⟩⟩ 1048575) (hxl:xs.length=(volB ⟨⟨a,b,c⟩,⟨d,e,f⟩⟩).toNat) (hX1:1≤xs.length) (hN:xs.length≤4194304) (hg:Sl w .i64 ga xs) :
 Calls Tryz.prog 119 #[.agg #[a,b,c,d,e,f,.slice ga xs.length gcap],.slice ha cs.length hcp] w (RetG1 a b c d e f xs.length (wrL ⟨⟨a,b,c⟩,⟨d,e,f⟩⟩ cs xs) w):=by
 have hch:=Bx.mk fun pg pl W (h1:Bk W pg #[a,b,c,d,e,f,.slice ga xs.length gcap] 28) (h2:Bk W pl #[.slice ha cs.length hcp] 37) (h3:SlC W ha cs) (h4:Sl W .i64 ga xs) (h5 : ∀ b,cs ≠ []→ha.map (·.block)=some b→b<W.heap.size) =>
  changed_any 164 #[.pointer (some ⟨pl,0,none⟩),.pointer (some ⟨pg,0,none⟩)] ⟨enters_of Tryz.func164 rfl rfl⟩ a b c d e f ga gcap xs (wrL ⟨⟨a,b,c⟩,⟨d,e,f⟩⟩ cs xs) W hX1 hN h4
   ⟨fun Bd g N cap V hb hgs hNe ho=>write_clo pl pg g N cap Bd a b c d e f (.slice ga xs.length gcap) ha hcp cs xs V hSA hxl (by omega) hC hcap (h2.later hb) (h1.later hb) (h3.below hb) ho (by have:=h2.lt;omega) (by have:=h1.lt;omega) (fun hn e=>by have:=h5 g hn e;omega)⟩
 have hlo:Bx (∀ b,cs ≠ []→ha.map (·.block)=some b→b<w.heap.size):=⟨fun b hn hb=>by
  obtain ⟨c,r,rfl⟩:=List.exists_cons_of_ne_nil hn
  obtain ⟨b',off,rfl,c0,-⟩:=hcs 0 c rfl
  obtain rfl:=Option.some.inj hb
  exact World.block_lt_of_cell? w _ c0⟩
 have Hcs:=Bx.mk hcs
 have hlen:=Bx.mk (wrL_len ⟨⟨a,b,c⟩,⟨d,e,f⟩⟩ cs xs).symm
 have Hg:=Bx.mk hg
 clear hSA hxl hX1 hN hg hC hcap hcs
 go_enter Tryz.func119,Tryz.ntmps119
 go_wp2_with fail
 generalize hW:World.alloc (World.alloc (World.alloc w _) _) _=W
 have hSz:=sz3 hW
 have hB:=bl3 hW
 have kg:Bk W (w.heap.size) #[a,b,c,d,e,f,.slice ga xs.length gcap] 28:=bk2 hW
 have kl:Bk W (w.heap.size+1) #[.slice ha cs.length hcp] 37:=bk1 hW
 have kr:Bk W (w.heap.size+1+1) #[(0:Int),(0:Int),(0:Int),(0:Int),(0:Int),(0:Int),.slice none 0 0] 28:=bk0 hW
 clear hW
 obtain ⟨cg0,cg1,cg2,cg3,cg4,cg5,cg6⟩:=kg.c7
 go_wp2_with fail
 refine (hch.out _ _ _ kg kl (Hcs.out.below hB) (Hg.out.below hB) (fun b hn hb=>Nat.lt_of_lt_of_le (hlo.out b hn hb) hB.size)).mono ?_
 rintro e' w1 ⟨u,rfl,ho,hb⟩
 obtain ⟨Bd,hBd⟩ : ∃ Bd,Bd=W.heap.size:=⟨_,rfl⟩
 rw [←hBd] at ho hb
 have hSd:w.heap.size+3≤Bd:=by omega
 replace hb:Below W.heap.size W w1:=hBd ▸ hb
 clear hch Hg
 clear cg0 cg1 cg2 cg3 cg4 cg5 cg6
 replace hB:=hB.trans (hb.mono hB.size)
 replace kg:=kg.later hb
 replace kr:=kr.later hb
 replace hSz:=Nat.le_trans hSz hb.size
 clear hb
 obtain ⟨pa,pe,rfl,-⟩:=ho.form
 rw [←hlen.out] at ho
 rw [←hlen.out]
 have Ho:=Bx.mk ho
 clear ho
 obtain ⟨cr0,cr1,cr2,cr3,cr4,cr5,cr6⟩:=kr.c7
 obtain ⟨fr0,fr1,fr2,fr3,fr4,fr5,fr6⟩:=kr.f7
 go_wp2_with fail
 replace kr:=kr.put7 (.int .i64 a) (.int .i64 b) (.int .i64 c) (.int .i64 d) (.int .i64 e) (.int .i64 f) (.slice pa xs.length pe)
 exact bodyPost_ret (v:=.agg #[a,b,c,d,e,f,.slice pa xs.length pe]) (results_cell_row rfl _ _ _ 28 #[a,b,c,d,e,f,.slice pa xs.length pe] (0,0) _ rfl kr Tryz.underlying28 rfl (by kernel_rfl)) rfl ⟨_,_,rfl,hlen.out,(((((((Ho.out.setBelow (by simp;omega) _).setBelow (by simp;omega) _).setBelow (by simp;omega) _).setBelow (by simp;omega) _).setBelow (by simp;omega) _).setBelow (by simp;omega) _).setBelow (by simp;omega) _).base (by omega),blw7 hB (by omega) _ _ _ _ _ _ _⟩
end
end Go.Proofs.YtfcbajmjaifjlaaGreat
