/- Bld2, Bld3, Bld4: joined by program, for one claim. -/
import Derived.Test.YtgnfgblkpnfcnaaGreatDoorM14
set_option maxHeartbeats 2000000
set_option maxRecDepth 100000
set_option linter.unusedVariables false
set_option linter.unusedSimpArgs false
namespace Go.Proofs.YtgnfgblkpnfcnaaGreatDoor
section
open Go.RowKit Go.Sort Go.Maps
open Oct
theorem zC9 (ax ay az:Int):zN ⟨⟨ax,ay,az⟩,⟨ax+4,ay+4,az+4⟩⟩=false∧zv ⟨⟨ax,ay,az⟩,⟨ax+4,ay+4,az+4⟩⟩=⟨4,4,4⟩∧zAC ⟨⟨ax,ay,az⟩,⟨ax+4,ay+4,az+4⟩⟩=64:=by
 have h1:zN ⟨⟨ax,ay,az⟩,⟨ax+4,ay+4,az+4⟩⟩=false:=zO.2 (by simp only [];omega)
 have h2:zv ⟨⟨ax,ay,az⟩,⟨ax+4,ay+4,az+4⟩⟩=⟨4,4,4⟩:=by
  rw [zw h1];simp only [Pt.sub,Pt.mk.injEq];omega
 exact ⟨h1,h2,by unfold zAC;rw [h2];decide⟩
theorem zCa (ax ay az:Int) (f:Pt→Int):cellsOf ⟨⟨ax,ay,az⟩,⟨ax+4,ay+4,az+4⟩⟩ f=(List.range 64).map fun k=>f (Tr.cellAt ⟨ax,ay,az⟩ k):=by
 obtain ⟨h1,h2,h3⟩:=zC9 ax ay az;unfold cellsOf;rw [h3];apply List.map_congr_left;intro k hk;have hk':k<64:=by simpa using hk
 congr 1
 unfold atB Tr.cellAt;rw [h3,h2,if_pos (by omega)]
 simp only [Pt.mk.injEq];omega
structure GoodH (b:Box) (xs:List Int) (hcp:Nat):Prop where
 small:Small b 1048575
 len:xs.length=(zAC b).toNat
 le:xs.length≤5000
 cells : ∀ x∈xs,0≤x∧x≤255
 cap:xs.length≤hcp
theorem GoodH.range {b:Box} {xs:List Int} {hcp:Nat} (h:GoodH b xs hcp) (p:Pt):0≤zF b xs p∧zF b xs p≤255:=by
 unfold zF;split
 · rename_i hp;have hi:=zZ hp;have hl:=h.len;have hlt:(zY b p).toNat<xs.length:=by omega
   rw [Tr.getD_el hlt];exact h.cells _ (List.getElem_mem _)
 · omega
structure GoodG (b:Box) (xs:List Int) (hcp:Nat):Prop where
 small:Small b 1048575
 len:xs.length=(zAC b).toNat
 le:xs.length≤300
 cells : ∀ x∈xs,0≤x∧x≤255
 cap:xs.length≤hcp
theorem GoodG.toH {b:Box} {xs:List Int} {hcp:Nat} (h:GoodG b xs hcp):GoodH b xs hcp:=⟨h.small,h.len,Nat.le_trans h.le (by decide),h.cells,h.cap⟩
theorem GoodG.range {b:Box} {xs:List Int} {hcp:Nat} (h:GoodG b xs hcp) (p:Pt):0≤zF b xs p∧zF b xs p≤255:=h.toH.range p
instance (b:Box) (xs:List Int) (hcp:Nat):Coe (GoodG b xs hcp) (GoodH b xs hcp):=⟨GoodG.toH⟩
theorem zBn (w:World) (Far:Nat→Prop) (pg ps pb sb:Nat) (a b c d e f:Int) (ha:Option Addr) (hcp:Nat) (xs:List Int) (HC:Bx (BCtx w Far pg ps pb sb a b c d e f ha hcp xs)) (HX:GoodH ⟨⟨a,b,c⟩,⟨d,e,f⟩⟩ xs hcp) (ax ay az:Int) (hx:0≤ax∧ax≤16384) (hy:0≤ay∧ay≤16384) (hz:0≤az∧az≤16384) (he:zN (zf ⟨⟨ax,ay,az⟩,⟨ax+4,ay+4,az+4⟩⟩ ⟨⟨a,b,c⟩,⟨d,e,f⟩⟩)=false) (most:Int) (ts:List Tr) (hG:Good ts) (hlen:ts.length≤1000000000000) (hFar : ∀ k,Far k→k<w.heap.size) (hS:StoreIs w Far sb most ts) :
 Calls Tryz.prog 82 #[.agg #[ax,ay,az],(2:Int),.pointer (some ⟨pg,0,none⟩),.pointer (some ⟨ps,0,none⟩),.pointer (some ⟨pb,0,none⟩)] w (Grew Far sb most ts (Tr.add (Tr.can (zF ⟨⟨a,b,c⟩,⟨d,e,f⟩⟩ xs) 0 ⟨ax,ay,az⟩) ts) (Tr.can (zF ⟨⟨a,b,c⟩,⟨d,e,f⟩⟩ xs) 0 ⟨ax,ay,az⟩) w):=by
 have hcube:=Bx.mk (fun W=>zDD 2 (by omega) ax ay az 4 (by decide) (by omega) (by omega) (by omega) W)
 rw [show ((2:Nat):Int)=2 from rfl] at hcube;have hmeet:=Bx.mk (fun W=>zHr ax ay az (ax+4) (ay+4) (az+4) a b c d e f W);have hempty:=Bx.mk (fun W=>zP (zf ⟨⟨ax,ay,az⟩,⟨ax+4,ay+4,az+4⟩⟩ ⟨⟨a,b,c⟩,⟨d,e,f⟩⟩).lo.x (zf ⟨⟨ax,ay,az⟩,⟨ax+4,ay+4,az+4⟩⟩ ⟨⟨a,b,c⟩,⟨d,e,f⟩⟩).lo.y (zf ⟨⟨ax,ay,az⟩,⟨ax+4,ay+4,az+4⟩⟩ ⟨⟨a,b,c⟩,⟨d,e,f⟩⟩).lo.z (zf ⟨⟨ax,ay,az⟩,⟨ax+4,ay+4,az+4⟩⟩ ⟨⟨a,b,c⟩,⟨d,e,f⟩⟩).hi.x (zf ⟨⟨ax,ay,az⟩,⟨ax+4,ay+4,az+4⟩⟩ ⟨⟨a,b,c⟩,⟨d,e,f⟩⟩).hi.y (zf ⟨⟨ax,ay,az⟩,⟨ax+4,ay+4,az+4⟩⟩ ⟨⟨a,b,c⟩,⟨d,e,f⟩⟩).hi.z W);rw [show (⟨⟨(zf ⟨⟨ax,ay,az⟩,⟨ax+4,ay+4,az+4⟩⟩ ⟨⟨a,b,c⟩,⟨d,e,f⟩⟩).lo.x,(zf ⟨⟨ax,ay,az⟩,⟨ax+4,ay+4,az+4⟩⟩ ⟨⟨a,b,c⟩,⟨d,e,f⟩⟩).lo.y,(zf ⟨⟨ax,ay,az⟩,⟨ax+4,ay+4,az+4⟩⟩ ⟨⟨a,b,c⟩,⟨d,e,f⟩⟩).lo.z⟩,⟨(zf ⟨⟨ax,ay,az⟩,⟨ax+4,ay+4,az+4⟩⟩ ⟨⟨a,b,c⟩,⟨d,e,f⟩⟩).hi.x,(zf ⟨⟨ax,ay,az⟩,⟨ax+4,ay+4,az+4⟩⟩ ⟨⟨a,b,c⟩,⟨d,e,f⟩⟩).hi.y,(zf ⟨⟨ax,ay,az⟩,⟨ax+4,ay+4,az+4⟩⟩ ⟨⟨a,b,c⟩,⟨d,e,f⟩⟩).hi.z⟩⟩:Box)=zf ⟨⟨ax,ay,az⟩,⟨ax+4,ay+4,az+4⟩⟩ ⟨⟨a,b,c⟩,⟨d,e,f⟩⟩ from rfl,he] at hempty;generalize zf ⟨⟨ax,ay,az⟩,⟨ax+4,ay+4,az+4⟩⟩ ⟨⟨a,b,c⟩,⟨d,e,f⟩⟩=M at *;obtain ⟨q1,q2,q3⟩:=zC9 ax ay az
 have hE:zIE ⟨⟨ax,ay,az⟩,⟨ax+4,ay+4,az+4⟩⟩ 0=0:=by
  unfold zIE
  have hok:okB ⟨⟨ax,ay,az⟩,⟨ax+4,ay+4,az+4⟩⟩=true:=by
   unfold okB;rw [Bool.and_eq_true];exact ⟨zIm.2 (by simp only [];omega),zIm.2 (by simp only [];omega)⟩
  rw [if_neg (by rw [hok];simp [Pal.cell]),if_neg (by rw [q3];omega)]
 have hcan:Tr.can (zF ⟨⟨a,b,c⟩,⟨d,e,f⟩⟩ xs) 0 ⟨ax,ay,az⟩=Tr.mkBrick (cellsOf ⟨⟨ax,ay,az⟩,⟨ax+4,ay+4,az+4⟩⟩ (zF ⟨⟨a,b,c⟩,⟨d,e,f⟩⟩ xs)):=by
  rw [zCa];rfl
 rw [hcan];have hzl:(cellsOf ⟨⟨ax,ay,az⟩,⟨ax+4,ay+4,az+4⟩⟩ (zF ⟨⟨a,b,c⟩,⟨d,e,f⟩⟩ xs)).length=64:=by rw [zI,q3];rfl
 have hcells:(cellsOf ⟨⟨ax,ay,az⟩,⟨ax+4,ay+4,az+4⟩⟩ (zF ⟨⟨a,b,c⟩,⟨d,e,f⟩⟩ xs)).all Pal.cell=true:=by
  rw [List.all_eq_true];intro x hx;unfold cellsOf at hx;obtain ⟨k,_,rfl⟩:=List.mem_map.1 hx;have:=HX.range (atB ⟨⟨ax,ay,az⟩,⟨ax+4,ay+4,az+4⟩⟩ (k:Int));rw [Pal.cell_eq];simpa using this
 have hcrop:=Bx.mk (fun W h=>zC7 ax ay az (ax+4) (ay+4) (az+4) a b c d e f ha hcp 64 xs hE q1 q3 HX.small HX.len (by have:=HX.le;omega) HX.cap W h)
 unfold RetG at hcrop;rw [hzl] at hcrop;have hu:=Bx.mk (fun W (hb:Below w.heap.size w W) pa pc hsl=>zBk W Far sb most ts pa pc (cellsOf ⟨⟨ax,ay,az⟩,⟨ax+4,ay+4,az+4⟩⟩ (zF ⟨⟨a,b,c⟩,⟨d,e,f⟩⟩ xs)) hzl hcells hsl hG hlen (fun k hk=>Nat.lt_of_lt_of_le (hFar k hk) hb.size) (hS.later hb));clear he hx hy hz hG hlen hFar hS hE hcan hzl hcells q1 q2 q3 HX;generalize cellsOf ⟨⟨ax,ay,az⟩,⟨ax+4,ay+4,az+4⟩⟩ (zF ⟨⟨a,b,c⟩,⟨d,e,f⟩⟩ xs)=zs at *;go_enter Tryz.func82,Tryz.ntmps82;go_wp2_with fail;generalize hW:World.alloc w _=W;have hSz:=sz1 hW;have hB:=bl1 hW;have kp:Bk W (w.heap.size) #[ax,ay,az] 23:=bk0 hW;clear hW;refine (hcube.out _).mono ?_;rintro e1 w1 ⟨rfl,hb⟩;replace hB:=hB.trans (hb.mono hB.size);replace kp:=kp.later hb;replace hSz:=Nat.le_trans hSz hb.size;clear hb;have hcg:=HC.out.later hB;have hsz1:=hB.size;have kp1:=Bx.mk kp;have ag : ∀ o,Bk (w1.alloc o) pg #[a,b,c,d,e,f,.slice ha xs.length hcp] 28:=fun o=>hcg.kg.alloc o;have ag0 : ∀ o,(w1.alloc o).cell? ⟨pg,0,none⟩=some (.int .i64 a):=fun o=>(ag o).cell 0 rfl;have ag1 : ∀ o,(w1.alloc o).cell? ⟨pg,1,none⟩=some (.int .i64 b):=fun o=>(ag o).cell 1 rfl;have ag2 : ∀ o,(w1.alloc o).cell? ⟨pg,2,none⟩=some (.int .i64 c):=fun o=>(ag o).cell 2 rfl;have ag3 : ∀ o,(w1.alloc o).cell? ⟨pg,3,none⟩=some (.int .i64 d):=fun o=>(ag o).cell 3 rfl;have ag4 : ∀ o,(w1.alloc o).cell? ⟨pg,4,none⟩=some (.int .i64 e):=fun o=>(ag o).cell 4 rfl;have ag5 : ∀ o,(w1.alloc o).cell? ⟨pg,5,none⟩=some (.int .i64 f):=fun o=>(ag o).cell 5 rfl;clear ag hcg;go_wp2_with fail;generalize hW2:World.alloc w1 _=W2;have hb2:Below w1.heap.size w1 W2:=by rw [←hW2];exact zB _ _
 have kc:Bk W2 w1.heap.size #[ax,ay,az,.int .i64 (ax+4),.int .i64 (ay+4),.int .i64 (az+4)] 25:=bk0 hW2 rfl;clear hW2 ag0 ag1 ag2 ag3 ag4 ag5;replace kp1:=Bx.mk (kp1.out.later hb2);replace hB:=hB.trans (hb2.mono hB.size);have hgc:w.heap.size+1≤w1.heap.size:=hSz;clear kp hb2 hSz hsz1;generalize w1.heap.size=gc at *;refine (hmeet.out _).mono ?_;rintro e2 w2 ⟨rfl,hb⟩;replace kc:=kc.later hb;replace kp1:=Bx.mk (kp1.out.later hb);replace hB:=hB.trans (hb.mono hB.size);clear hb;go_wp2_with fail;refine (hempty.out _).mono ?_;rintro e3 w3 ⟨rfl,hb⟩;replace kc:=kc.later hb;replace kp1:=Bx.mk (kp1.out.later hb);replace hB:=hB.trans (hb.mono hB.size);clear hb hcube hmeet hempty;have hC3:=HC.out.later hB;have cr:=hC3.kr.cell 0 rfl;have hsl3:=Bx.mk hC3.sl;have cg0:w3.cell? ⟨pg,0,none⟩=some (.int .i64 a):=hC3.kg.cell 0 rfl;have cg1:w3.cell? ⟨pg,1,none⟩=some (.int .i64 b):=hC3.kg.cell 1 rfl;have cg2:w3.cell? ⟨pg,2,none⟩=some (.int .i64 c):=hC3.kg.cell 2 rfl;have cg3:w3.cell? ⟨pg,3,none⟩=some (.int .i64 d):=hC3.kg.cell 3 rfl;have cg4:w3.cell? ⟨pg,4,none⟩=some (.int .i64 e):=hC3.kg.cell 4 rfl;have cg5:w3.cell? ⟨pg,5,none⟩=some (.int .i64 f):=hC3.kg.cell 5 rfl;have cg6:w3.cell? ⟨pg,6,none⟩=some (.slice ha xs.length hcp):=hC3.kg.cell 6 rfl;obtain ⟨cc0,cc1,cc2,cc3,cc4,cc5⟩:=kc.c6;have hC3:=Bx.mk hC3;go_wp2_with fail;refine (hcrop.out _ hsl3.out).mono ?_;rintro e4 w4 ⟨pa,pc,rfl,hown,hb⟩;have hB4:=Bx.mk (hB.trans (hb.mono hB.size));have hC4:=HC.out.later hB4.out;have hsl4:=hown.sl;have hown:=Bx.mk hown;have hcr4:=Bx.mk hC4.kr;have hr0:w4.cell? ⟨ps,0,none⟩=some (.pointer (some ⟨sb,0,none⟩)):=hcr4.out.cell 0 rfl;have ar0 : ∀ o,(w4.alloc o).cell? ⟨ps,0,none⟩=some (.pointer (some ⟨sb,0,none⟩)):=fun o=>(hcr4.out.alloc o).cell 0 rfl;have hsl5:Bx (∀ o,Sl (w4.alloc o) .i64 pa zs):=⟨fun o=>hsl4.below (zB _ _)⟩;clear hb hC4 hsl4 cg0 cg1 cg2 cg3 cg4 cg5 cg6 cc0 cc1 cc2 cc3 cc4 cc5 cr hC3 kc hsl3 hcrop;go_wp2_with fail;refine (hu.out _ (hB4.out.trans ((zB _ _).mono hB4.out.size)) pa pc (hsl5.out _)).mono ?_;rintro e5 w5 hg;have Hg:=Bx.mk (hg.since (hB4.out.trans ((zB _ _).mono hB4.out.size)));obtain ⟨-,-,(⟨hf,rfl,hs⟩ | ⟨hf,rfl,us,hs⟩)⟩:=hg
 all_goals
  clear hf hs;go_wp2_with fail
  go_ret2
  exact Hg.out
end
section
open Go.RowKit Go.Sort Go.Maps
open Oct
attribute [local go_sem ↓] Go.wp_at_zero Go.wp_at_succ
structure Ended (Far:Nat→Prop) (sb:Nat) (most:Int) (ts ts':List Tr) (t:Tr) (i er:Int) (w':World):Prop where
 way:(er=0∧Tr.Fits most ts ts'∧i=(idT ts' t:Int)∧StoreIs w' Far sb most ts')∨(er=14∧i=0 ∧ ¬Tr.Fits most ts ts' ∧ ∃ us,Good us∧ts <+: us∧us <+: ts'∧StoreIs w' Far sb most us)
theorem Grew.ends {Far:Nat→Prop} {sb:Nat} {most:Int} {ts ts':List Tr} {t:Tr} {w w':World} {e:Ending} (h:Grew Far sb most ts ts' t w e w') : ∃ i er:Int,e=zLK i er∧Ended Far sb most ts ts' t i er w':=by
 rcases h.way with ⟨h1,h2,h3⟩ | ⟨h1,h2,h3⟩
 · exact ⟨_,_,h2,⟨.inl ⟨rfl,h1,rfl,h3⟩⟩⟩
 · exact ⟨_,_,h2,⟨.inr ⟨rfl,rfl,h1,h3⟩⟩⟩
theorem StoreIs.less {w:World} {Far Far':Nat→Prop} {sb:Nat} {most:Int} {ts:List Tr} (h:StoreIs w Far' sb most ts) (hf : ∀ k,Far k→Far' k):StoreIs w Far sb most ts:=h.widen (fun k hk=>.inl (hf k hk))
theorem Keeps.less {Far Far':Nat→Prop} {a b:World} (h:Keeps Far' a b) (hf : ∀ k,Far k→Far' k):Keeps Far a b:=h.narrow (fun k hk _=>hf k hk)
structure LI (Far:Nat→Prop) (pg ps pb sb:Nat) (a b c d e f:Int) (ha:Option Addr) (hcp:Nat) (xs:List Int) (most:Int) (ts:List Tr) (ch:Nat→Tr) (p0 gk:Nat) (ax ay az:Int) (w:World) (k:Nat) (wr:World):Prop where
 ctx:BCtx wr (fun x=>Far x∨(p0≤x∧x≤gk)) pg ps pb sb a b c d e f ha hcp xs
 store:StoreIs wr (fun x=>Far x∨(p0≤x∧x≤gk)) sb most (Tr.addK (fun i=>ch i.val) k ts)
 fits:Tr.Fits most ts (Tr.addK (fun i=>ch i.val) k ts)
 row:wr.rowIs gk 54 8 (fun j=>.int .i64 (if j<k then (idT (Tr.addK (fun i=>ch i.val) k ts) (ch j):Int) else 0))
 kp:Bk wr p0 #[ax,ay,az] 23
 keeps:Keeps Far w wr
 size:gk<wr.heap.size
theorem zLW {w w':World} {Far:Nat→Prop} {g:Nat} {t:TypeId} {n:Nat} {F:Nat→Value} (h:w.rowIs g t n F) (hk:Keeps Far w w') (hf:Far g):w'.rowIs g t n F:=h.of_block (hk.block g hf h.lt)
theorem StoreIs.apart {w w':World} {Far:Nat→Prop} {sb g:Nat} {most:Int} {ts:List Tr} (h:StoreIs w Far sb most ts) (hg:w.grownBy w' (some g)) (hf:Far g):StoreIs w' Far sb most ts:=by
 obtain ⟨mb,nv,h1,h2,h3,P⟩:=h.parts;exact StoreIs.of (h1.grownO hg (fun e=>by injection e with e;exact P.fs (e ▸ hf))) (World.ownsRow.kept h2 hg (.inr (fun e=>P.fn g e hf))) (h3.kept hg (fun e=>by injection e with e;exact P.fm (e ▸ hf))) P
theorem BCtx.apart {w w':World} {Far:Nat→Prop} {pg ps pb sb g:Nat} {a b c d e f:Int} {ha:Option Addr} {hcp:Nat} {xs:List Int} (h:BCtx w Far pg ps pb sb a b c d e f ha hcp xs) (hg:w.grownBy w' (some g)) (h1:g ≠ pg) (h2:g ≠ ps) (h3:g ≠ pb) (h4:xs ≠ [] → ∀ b,ha.map (·.block)=some b→b ≠ g):BCtx w' Far pg ps pb sb a b c d e f ha hcp xs:=by
 refine ⟨h.kg.grownO hg (by simpa using h1),h.kr.grownO hg (by simpa using h2),h.kb.grownO hg (by simpa using h3),h.fg,h.fr,h.fb,fun i x hx=>?_,h.fx⟩
 obtain ⟨b,off,rfl,hc⟩:=h.sl i x hx;refine ⟨b,off,rfl,hg.cell hc ?_⟩;simpa using h4 (by rintro rfl;simp at hx) b rfl
theorem zGQ {w wr w4 w5:World} {Far:Nat→Prop} {pg ps pb sb:Nat} {a b c d e f:Int} {ha:Option Addr} {hcp:Nat} {xs:List Int} {most:Int} {ts:List Tr} {ch:Nat→Tr} {gk k:Nat} {ax ay az:Int} (HC:BCtx w Far pg ps pb sb a b c d e f ha hcp xs) (HF : ∀ k,Far k→k<w.heap.size) (hk:k<8) (hgk:w.heap.size<gk)
 (hI:LI Far pg ps pb sb a b c d e f ha hcp xs most ts ch w.heap.size gk ax ay az w k wr) (hb:Below wr.heap.size wr w4) (hkp:Keeps (fun x=>Far x∨(w.heap.size≤x∧x≤gk)) w4 w5)
 (hf:Tr.Fits most (Tr.addK (fun i=>ch i.val) k ts) (Tr.addK (fun i=>ch i.val) (k+1) ts)) (hs:StoreIs w5 (fun x=>Far x∨(w.heap.size≤x∧x≤gk)) sb most (Tr.addK (fun i=>ch i.val) (k+1) ts)) :
 LI Far pg ps pb sb a b c d e f ha hcp xs most ts ch w.heap.size gk ax ay az w (k+1) (w5.setCell ⟨gk,k,none⟩ (.int .i64 (idT (Tr.addK (fun i=>ch i.val) (k+1) ts) (ch k):Int))):=by
 have hg:=zS w5 ⟨gk,k,none⟩ (.int .i64 (idT (Tr.addK (fun i=>ch i.val) (k+1) ts) (ch k):Int));have hp1:=Tr.addK_prefix (fun i:Fin 8=>ch i.val) k (by omega) ts
 have hp2:Tr.addK (fun i:Fin 8=>ch i.val) k ts <+: Tr.addK (fun i:Fin 8=>ch i.val) (k+1) ts:=zAo (by omega) (by omega)
 have hfar : ∀ x,Far x→gk ≠ x:=fun x hx e=>by have:=HF x hx;omega
 have hfg:(fun x=>Far x∨(w.heap.size≤x∧x≤gk)) gk:=.inr ⟨by omega,Nat.le_refl _⟩
 refine ⟨((hI.ctx.later hb).far hkp).apart hg (hfar _ HC.fg) (hfar _ HC.fr) (hfar _ HC.fb) (fun hx b hb=>Ne.symm (hfar _ (HC.fx hx b hb))),hs.apart hg hfg,Tr.fits_trans hp1 hp2 hI.fits hf,?_,?_,?_,?_⟩
 · refine ((zLW (hI.row.of_block (hb.block gk hI.size)) hkp hfg).set k _).congr (fun j hj=>?_);by_cases e:j=k
   · subst e;rw [if_pos rfl,if_pos (by omega)]
   · rw [if_neg e];by_cases h5:j<k
     · rw [if_pos h5,if_pos (by omega)]
       have hm:=Tr.addK_mem (fun i:Fin 8=>ch i.val) ts k (by omega) ⟨j,hj⟩ h5
       have:=zV hp2 hm;simp only at this;rw [this]
     · rw [if_neg h5,if_neg (by omega)]
 · exact ((hI.kp.later hb).far hkp (.inr ⟨Nat.le_refl _,by omega⟩)).grownO hg (by simp;omega)
 · exact ((hI.keeps.trans (Keeps.below hb)).trans (hkp.less (fun k hk=>.inl hk))).trans (Keeps.grown hg (fun g e hx=>by injection e with e;exact hfar _ hx e))
 · have h1:=hb.size;have h2:=hkp.size;have h3:=hI.size;rw [zMD];omega
theorem zBp (w:World) (Far:Nat→Prop) (pg ps pb sb:Nat) (a b c d e f:Int) (ha:Option Addr) (hcp:Nat) (xs:List Int) (HC:Bx (BCtx w Far pg ps pb sb a b c d e f ha hcp xs)) (n:Nat) (hn:n≤11) (ax ay az m h2:Int) (hm:m=2 ^ (n+3)) (hh:h2=2 ^ (n+2)) (hx:0≤ax∧ax≤16384) (hy:0≤ay∧ay≤16384) (hz:0≤az∧az≤16384) (he:zN (zf ⟨⟨ax,ay,az⟩,⟨ax+m,ay+m,az+m⟩⟩ ⟨⟨a,b,c⟩,⟨d,e,f⟩⟩)=false) (most:Int) (ts:List Tr) (ch:Nat→Tr) (hW : ∀ i,Tr.WF (ch i))
 (IH:Bx (∀ (W:World) (Far':Nat→Prop) (us:List Tr) (i:Nat),i<8→BCtx W Far' pg ps pb sb a b c d e f ha hcp xs→Good us→(Tr.add (ch i) us).length≤1000000000000→(∀ k,Far' k→k<W.heap.size)→StoreIs W Far' sb most us→Calls Tryz.prog 82 #[.agg #[.int .i64 (ax+chX i h2),.int .i64 (ay+chY i h2),.int .i64 (az+chZ i h2)],.int .i64 ((n:Int)+2),.pointer (some ⟨pg,0,none⟩),.pointer (some ⟨ps,0,none⟩),.pointer (some ⟨pb,0,none⟩)] W (Grew Far' sb most us (Tr.add (ch i) us) (ch i) W)))
 (hG:Good ts) (hlen:(Tr.add (Tr.mkInner (n+3) (fun i=>ch i.val)) ts).length≤1000000000000) (hFar : ∀ k,Far k→k<w.heap.size) (hS:StoreIs w Far sb most ts) :
 Calls Tryz.prog 82 #[.agg #[ax,ay,az],.int .i64 ((n:Int)+3),.pointer (some ⟨pg,0,none⟩),.pointer (some ⟨ps,0,none⟩),.pointer (some ⟨pb,0,none⟩)] w (Grew Far sb most ts (Tr.add (Tr.mkInner (n+3) (fun i=>ch i.val)) ts) (Tr.mkInner (n+3) (fun i=>ch i.val)) w):=by
 have hcube:=Bx.mk (fun W=>zDD (n+3) (by omega) ax ay az m hm (by omega) (by omega) (by omega) W)
 rw [show ((n+3:Nat):Int)=(n:Int)+3 by omega] at hcube
 have hmeet:=Bx.mk (fun W=>zHr ax ay az (ax+m) (ay+m) (az+m) a b c d e f W);have hempty:=Bx.mk (fun W=>zP (zf ⟨⟨ax,ay,az⟩,⟨ax+m,ay+m,az+m⟩⟩ ⟨⟨a,b,c⟩,⟨d,e,f⟩⟩).lo.x (zf ⟨⟨ax,ay,az⟩,⟨ax+m,ay+m,az+m⟩⟩ ⟨⟨a,b,c⟩,⟨d,e,f⟩⟩).lo.y (zf ⟨⟨ax,ay,az⟩,⟨ax+m,ay+m,az+m⟩⟩ ⟨⟨a,b,c⟩,⟨d,e,f⟩⟩).lo.z (zf ⟨⟨ax,ay,az⟩,⟨ax+m,ay+m,az+m⟩⟩ ⟨⟨a,b,c⟩,⟨d,e,f⟩⟩).hi.x (zf ⟨⟨ax,ay,az⟩,⟨ax+m,ay+m,az+m⟩⟩ ⟨⟨a,b,c⟩,⟨d,e,f⟩⟩).hi.y (zf ⟨⟨ax,ay,az⟩,⟨ax+m,ay+m,az+m⟩⟩ ⟨⟨a,b,c⟩,⟨d,e,f⟩⟩).hi.z W);rw [show (⟨⟨(zf ⟨⟨ax,ay,az⟩,⟨ax+m,ay+m,az+m⟩⟩ ⟨⟨a,b,c⟩,⟨d,e,f⟩⟩).lo.x,(zf ⟨⟨ax,ay,az⟩,⟨ax+m,ay+m,az+m⟩⟩ ⟨⟨a,b,c⟩,⟨d,e,f⟩⟩).lo.y,(zf ⟨⟨ax,ay,az⟩,⟨ax+m,ay+m,az+m⟩⟩ ⟨⟨a,b,c⟩,⟨d,e,f⟩⟩).lo.z⟩,⟨(zf ⟨⟨ax,ay,az⟩,⟨ax+m,ay+m,az+m⟩⟩ ⟨⟨a,b,c⟩,⟨d,e,f⟩⟩).hi.x,(zf ⟨⟨ax,ay,az⟩,⟨ax+m,ay+m,az+m⟩⟩ ⟨⟨a,b,c⟩,⟨d,e,f⟩⟩).hi.y,(zf ⟨⟨ax,ay,az⟩,⟨ax+m,ay+m,az+m⟩⟩ ⟨⟨a,b,c⟩,⟨d,e,f⟩⟩).hi.z⟩⟩:Box)=zf ⟨⟨ax,ay,az⟩,⟨ax+m,ay+m,az+m⟩⟩ ⟨⟨a,b,c⟩,⟨d,e,f⟩⟩ from rfl,he] at hempty;generalize zf ⟨⟨ax,ay,az⟩,⟨ax+m,ay+m,az+m⟩⟩ ⟨⟨a,b,c⟩,⟨d,e,f⟩⟩=M at *;have hcor:=Bx.mk (fun W i hi=>zC5 (n+2) (by omega) ax ay az i hi (by omega) (by omega) (by omega) W)
 rw [show ((n+2+1:Nat):Int)=(n:Int)+3 by omega,←hh] at hcor
 have hd:(((n:Int)+3) == 2)=false:=by simp;omega
 have HG:=Bx.mk hG;have HW:=Bx.mk hW;have HL:=Bx.mk hlen;have HF:=Bx.mk hFar;have HS:=Bx.mk hS;clear he hx hy hz hG hlen hFar hS hm hh hW;go_enter Tryz.func82,Tryz.ntmps82;go_wp2_with fail;generalize hW:World.alloc w _=W;have hSz:=sz1 hW;have hB:=bl1 hW;have kp:Bk W (w.heap.size) #[ax,ay,az] 23:=bk0 hW;clear hW;refine (hcube.out _).mono ?_;rintro e1 w1 ⟨rfl,hb⟩;replace hB:=hB.trans (hb.mono hB.size);replace kp:=kp.later hb;replace hSz:=Nat.le_trans hSz hb.size;clear hb;have hcg:=HC.out.later hB;have hsz1:=hB.size;have kp1:=Bx.mk kp;have ag : ∀ o,Bk (w1.alloc o) pg #[a,b,c,d,e,f,.slice ha xs.length hcp] 28:=fun o=>hcg.kg.alloc o;have ag0 : ∀ o,(w1.alloc o).cell? ⟨pg,0,none⟩=some (.int .i64 a):=fun o=>(ag o).cell 0 rfl;have ag1 : ∀ o,(w1.alloc o).cell? ⟨pg,1,none⟩=some (.int .i64 b):=fun o=>(ag o).cell 1 rfl;have ag2 : ∀ o,(w1.alloc o).cell? ⟨pg,2,none⟩=some (.int .i64 c):=fun o=>(ag o).cell 2 rfl;have ag3 : ∀ o,(w1.alloc o).cell? ⟨pg,3,none⟩=some (.int .i64 d):=fun o=>(ag o).cell 3 rfl;have ag4 : ∀ o,(w1.alloc o).cell? ⟨pg,4,none⟩=some (.int .i64 e):=fun o=>(ag o).cell 4 rfl;have ag5 : ∀ o,(w1.alloc o).cell? ⟨pg,5,none⟩=some (.int .i64 f):=fun o=>(ag o).cell 5 rfl;clear ag hcg;go_wp2_with fail;generalize hW2:World.alloc w1 _=W2;have hb2:Below w1.heap.size w1 W2:=by rw [←hW2];exact zB _ _
 have kc:Bk W2 w1.heap.size #[ax,ay,az,.int .i64 (ax+m),.int .i64 (ay+m),.int .i64 (az+m)] 25:=bk0 hW2 rfl;clear hW2 ag0 ag1 ag2 ag3 ag4 ag5;replace kp1:=Bx.mk (kp1.out.later hb2);replace hB:=hB.trans (hb2.mono hB.size);have hgc:w.heap.size+1≤w1.heap.size:=hSz;clear kp hb2 hSz hsz1;generalize w1.heap.size=gc at *;refine (hmeet.out _).mono ?_;rintro e2 w2 ⟨rfl,hb⟩;replace kc:=kc.later hb;replace kp1:=Bx.mk (kp1.out.later hb);replace hB:=hB.trans (hb.mono hB.size);clear hb;go_wp2_with fail;refine (hempty.out _).mono ?_;rintro e3 w3 ⟨rfl,hb⟩;replace kc:=kc.later hb;replace kp1:=Bx.mk (kp1.out.later hb);replace hB:=hB.trans (hb.mono hB.size);clear hb hcube hmeet hempty;have hC3:=HC.out.later hB;replace hC3:=Bx.mk hC3;clear kc;go_wp2_with fail;generalize hW4:World.alloc w3 _=W4;have hb4:Below w3.heap.size w3 W4:=by rw [←hW4];exact zB _ _
 have hrow0:Bx (W4.rowIs w3.heap.size 54 8 (fun j=>.int .i64 (if j<0 then (idT (Tr.addK (fun i=>ch i.val) 0 ts) (ch j):Int) else 0))):=⟨by
  rw [←hW4];refine World.rowIs_alloc w3 _ _ _ (fun i hi=>?_);have hi8:i<8:=hi;rcases i with _ | _ | _ | _ | _ | _ | _ | _ | i
  all_goals first | rfl | omega⟩
 have hs4:W4.heap.size=w3.heap.size+1:=by rw [←hW4];simp
 have hB4:Below w.heap.size w W4:=hB.trans (hb4.mono hB.size);have hgk:w.heap.size<w3.heap.size:=kp1.out.lt;clear hW4
 have HI:Bx (LI Far pg ps pb sb a b c d e f ha hcp xs most ts ch w.heap.size w3.heap.size ax ay az w 0 W4):=⟨by
  refine ⟨(hC3.out.later hb4).wider (fun k hk=>.inl hk),?_,.inl rfl,hrow0.out,kp1.out.later hb4,Keeps.below hB4,by omega⟩
  refine (HS.out.widen (Far':=fun x=>Far x∨(w.heap.size≤x∧x≤w3.heap.size)) (fun k hk=>hk.imp id (fun h=>h.1))).later hB4⟩
 have HB4:=Bx.mk hB4;clear hb4 hrow0 hB hB4 hC3 kp1 hgc;generalize w3.heap.size=gk at *
 go_loopw [42] (fun i wr => ∃ k:Nat,k≤8∧i = .int .i64 k∧Bx (LI Far pg ps pb sb a b c d e f ha hcp xs most ts ch w.heap.size gk ax ay az w k wr)) (fun i _=>8 - (intOf i).toNat)
 case atStart=>exact ⟨0,Nat.zero_le _,rfl,HI⟩
 case round =>
  clear HI HB4 hs4;obtain ⟨k,hk,rfl,hI⟩:=hrel;by_cases hlt:k<8
  · have hstep:Tr.addK (fun i:Fin 8=>ch i.val) (k+1) ts=Tr.add (ch k) (Tr.addK (fun i:Fin 8=>ch i.val) k ts):=Tr.addK_succ _ hlt _;have hGk:Good (Tr.addK (fun i=>ch i.val) k ts):=zEk HG.out (fun i=>HW.out _) k hk;have hle1:=(zAo (ch:=fun i:Fin 8=>ch i.val) (ts:=ts) (show k+1≤8 by omega) (Nat.le_refl _)).length_le
    have hle2:=(zFf (d:=n+3) (ch:=fun i:Fin 8=>ch i.val) HG.out).length_le;have hIH:=Bx.mk (fun W (hb:Below wr.heap.size wr W)=>IH.out W (fun x=>Far x∨(w.heap.size≤x∧x≤gk)) (Tr.addK (fun i=>ch i.val) k ts) k hlt (hI.out.ctx.later hb) hGk (by have:=HL.out;rw [←hstep];omega) (fun x hx=>by have h1:=hI.out.size;have h2:=hb.size;have h3:=hI.out.keeps.size;rcases hx with hx | hx;exact Nat.lt_of_lt_of_le (HF.out x hx) (Nat.le_trans h3 h2);omega) (hI.out.store.later hb))
    rw [←hstep] at hIH;replace hstep:=Bx.mk hstep;clear hGk hle1 hle2;have cb0:wr.cell? ⟨pb,0,none⟩=some (.func (.func 82) #[] #[.pointer (some ⟨pg,0,none⟩),.pointer (some ⟨ps,0,none⟩),.pointer (some ⟨pb,0,none⟩)]):=hI.out.ctx.kb.cell 0 rfl;have hsub:IntKind.i64.wrap ((n:Int)+3 - 1)=(n:Int)+2:=by rw [show (n:Int)+3 - 1=(n:Int)+2 by omega];exact IntWalk.i64_in _ (by omega)
    obtain ⟨cp0,cp1,cp2⟩:=hI.out.kp.c3;go_wp2_with fail
    go_region_held3 (fun w'=>w'.cell? ⟨pb,0,none⟩=some (.func (.func 82) #[] #[.pointer (some ⟨pg,0,none⟩),.pointer (some ⟨ps,0,none⟩),.pointer (some ⟨pb,0,none⟩)])∧w'.cell? ⟨w.heap.size,0,none⟩=some (.int .i64 ax)∧w'.cell? ⟨w.heap.size,1,none⟩=some (.int .i64 ay)∧w'.cell? ⟨w.heap.size,2,none⟩=some (.int .i64 az))
     (first | go_keep | (dsimp only;and_intros <;> assumption))
     (first
      | (go_at_call 82;refine (hIH.out _ hB4).mono ?_;rintro e5 w5 hg;obtain ⟨id,er,rfl,hres⟩:=hg.ends;have hkp:=hg.keeps;have hcx:=(hI.out.ctx.later hB4).far hkp;have kp5:=(hI.out.kp.later hB4).far hkp (.inr ⟨Nat.le_refl _,by omega⟩);have cb5:=hcx.kb.cell 0 rfl;have c50:=kp5.cell 0 rfl;have c51:=kp5.cell 1 rfl;have c52:=kp5.cell 2 rfl)
      | (go_at_call 85;refine (hcor.out _ k hlt).mono ?_;rintro e4 w4 ⟨rfl,hb4⟩;have hB4:=(Below.refl wr.heap.size wr).drew.trans hb4;have cb4:=(hI.out.ctx.later hB4).kb.cell 0 rfl;have c40:=(hI.out.kp.later hB4).cell 0 rfl;have c41:=(hI.out.kp.later hB4).cell 1 rfl;have c42:=(hI.out.kp.later hB4).cell 2 rfl))
    clear cb0 cp0 cp1 cp2 hsub;have HB4:=Bx.mk hB4;have HK:=Bx.mk hkp;clear cb5 c50 c51 c52 cb4 c40 c41 c42 hB4 hb4 hcx kp5 hkp hg hIH;obtain ⟨way⟩:=hres;rcases way with ⟨rfl,hf,rfl,hs⟩ | ⟨rfl,rfl,hnf,us,hu1,hu2,hu3,hs⟩
    · have hI2:=Bx.mk (zGQ HC.out HF.out hlt hgk hI.out HB4.out HK.out hf hs);have hrow5:=zLW (hI.out.row.of_block (HB4.out.block gk hI.out.size)) HK.out (.inr ⟨by omega,Nat.le_refl _⟩)
      have hcell:=hrow5.cell hlt;have hfr:=hrow5.frozen k;have b1:(0:Int)≤(k:Int):=by omega
      have b2:(k:Int)<8:=by omega
      clear hs hf hrow5 HK HB4 hI;go_wp2_with fail
      go_roundw
      case rel=>exact ⟨k+1,by omega,by go_num,hI2⟩
      case measure=>simp [intOf];omega
    · have Hg:Bx (Grew Far sb most ts (Tr.add (Tr.mkInner (n+3) (fun i=>ch i.val)) ts) (Tr.mkInner (n+3) (fun i=>ch i.val)) w (zLK 0 14) w5):=⟨by
       have hp1:=Tr.addK_prefix (fun i:Fin 8=>ch i.val) k (by omega) ts
       have hp2:Tr.addK (fun i:Fin 8=>ch i.val) k ts <+: Tr.addK (fun i:Fin 8=>ch i.val) (k+1) ts:=zAo (by omega) (by omega)
       have hp3:Tr.addK (fun i:Fin 8=>ch i.val) (k+1) ts <+: Tr.add (Tr.mkInner (n+3) (fun i=>ch i.val)) ts:=(zAo (by omega) (Nat.le_refl _)).trans (zFf HG.out)
       refine ⟨(hI.out.keeps.trans (Keeps.below HB4.out)).trans (HK.out.less (fun k hk=>.inl hk)),Nat.le_trans (Nat.le_trans hI.out.keeps.size HB4.out.size) HK.out.size,.inr ⟨?_,rfl,us,hu1,hp1.trans hu2,hu3.trans hp3,hs.less (fun k hk=>.inl hk)⟩⟩;exact Tr.not_fits_mono (hp1.trans hp2) hp3 (Tr.not_fits_later hp1 hp2 hnf)⟩
      clear hs hnf hu1 hu2 hu3 HK HB4 hI;go_wp2_with fail
      go_ret2
      exact Hg.out
  · obtain rfl:k=8:=by omega
    have hm8 : ∀ i:Fin 8,(fun i:Fin 8=>ch i.val) i∈Tr.addK (fun i=>ch i.val) 8 ts:=fun i=>Tr.addK_mem _ ts 8 (Nat.le_refl _) i i.isLt;have hG8:Good (Tr.addK (fun i=>ch i.val) 8 ts):=zEk HG.out (fun i=>HW.out _) 8 (Nat.le_refl _);have hp8:=zFf (d:=n+3) (ch:=fun i:Fin 8=>ch i.val) HG.out;have hl8:=hp8.length_le;have hin:=zFa wr (fun x=>Far x∨(w.heap.size≤x∧x≤gk)) sb most (Tr.addK (fun i=>ch i.val) 8 ts) (n+3) (by omega) (fun i=>ch i.val) hm8 hG8 (by have:=HL.out;omega) (fun x hx=>by have:=hI.out.size;rcases hx with hx | hx;exact Nat.lt_of_lt_of_le (HF.out x hx) hI.out.keeps.size;omega) hI.out.store
    rw [zFZ HG.out (fun i=>HW.out _),show ((n+3:Nat):Int)=(n:Int)+3 by omega] at hin
    have hin:=Bx.mk hin;clear hm8 hG8 hl8;have hr:=hI.out.row;have d0:wr.cell? ⟨gk,0,none⟩=some (.int .i64 (idT (Tr.addK (fun i=>ch i.val) 8 ts) (ch 0):Int)):=by have:=hr.cell (i:=0) (by omega);simpa using this
    have d1:wr.cell? ⟨gk,1,none⟩=some (.int .i64 (idT (Tr.addK (fun i=>ch i.val) 8 ts) (ch 1):Int)):=by have:=hr.cell (i:=1) (by omega);simpa using this
    have d2:wr.cell? ⟨gk,2,none⟩=some (.int .i64 (idT (Tr.addK (fun i=>ch i.val) 8 ts) (ch 2):Int)):=by have:=hr.cell (i:=2) (by omega);simpa using this
    have d3:wr.cell? ⟨gk,3,none⟩=some (.int .i64 (idT (Tr.addK (fun i=>ch i.val) 8 ts) (ch 3):Int)):=by have:=hr.cell (i:=3) (by omega);simpa using this
    have d4:wr.cell? ⟨gk,4,none⟩=some (.int .i64 (idT (Tr.addK (fun i=>ch i.val) 8 ts) (ch 4):Int)):=by have:=hr.cell (i:=4) (by omega);simpa using this
    have d5:wr.cell? ⟨gk,5,none⟩=some (.int .i64 (idT (Tr.addK (fun i=>ch i.val) 8 ts) (ch 5):Int)):=by have:=hr.cell (i:=5) (by omega);simpa using this
    have d6:wr.cell? ⟨gk,6,none⟩=some (.int .i64 (idT (Tr.addK (fun i=>ch i.val) 8 ts) (ch 6):Int)):=by have:=hr.cell (i:=6) (by omega);simpa using this
    have d7:wr.cell? ⟨gk,7,none⟩=some (.int .i64 (idT (Tr.addK (fun i=>ch i.val) 8 ts) (ch 7):Int)):=by have:=hr.cell (i:=7) (by omega);simpa using this
    have cr:=hI.out.ctx.kr.cell 0 rfl;have hp8:=Bx.mk hp8;clear hr;go_wp2_with fail;refine hin.out.mono ?_;rintro e5 w5 hg
    have Hg:Bx (Grew Far sb most ts (Tr.add (Tr.mkInner (n+3) (fun i=>ch i.val)) ts) (Tr.mkInner (n+3) (fun i=>ch i.val)) w e5 w5):=⟨by
     refine ⟨hI.out.keeps.trans (hg.keeps.less (fun k hk=>.inl hk)),Nat.le_trans hI.out.keeps.size hg.size,?_⟩;have hpre:=Tr.addK_prefix (fun i:Fin 8=>ch i.val) 8 (Nat.le_refl _) ts;rcases hg.way with ⟨h1,h2,h3⟩ | ⟨h1,h2,us,h3,h4,h5,h6⟩
     · exact .inl ⟨Tr.fits_trans hpre hp8.out hI.out.fits h1,h2,h3.less (fun k hk=>.inl hk)⟩
     · exact .inr ⟨Tr.not_fits_later hpre hp8.out h1,h2,us,h3,hpre.trans h4,h5,h6.less (fun k hk=>.inl hk)⟩⟩
    obtain ⟨-,-,(⟨hf,rfl,hs⟩ | ⟨hf,rfl,us,hs⟩)⟩:=hg
    all_goals
     clear hf hs d0 d1 d2 d3 d4 d5 d6 d7;go_wp2_with fail
     go_ret2
     exact Hg.out
end
section
open Go.RowKit Go.Sort Go.Maps
open Oct
theorem zFJ {n:Nat} {ax ay az m:Int} (hm:m=2 ^ (n+2)) (ha:Tr.Al n ⟨ax,ay,az⟩) {p:Pt} (h:Tr.InC n ⟨ax,ay,az⟩ p):inB p ⟨⟨ax,ay,az⟩,⟨ax+m,ay+m,az+m⟩⟩=true:=by
 obtain ⟨h1,h2,h3⟩:=h;obtain ⟨a1,a2,a3⟩:=ha;have hp:=Tr.pow_pos2 n;rw [←hm] at h1 h2 h3 a1 a2 a3 hp;simp only [] at h1 h2 h3 a1 a2 a3
 have key : ∀ p a:Int,p / m=a / m→a % m=0→a≤p∧p<a+m:=by
  intro p a h1 h2;have e1:=Int.mul_ediv_add_emod p m;have e2:=Int.mul_ediv_add_emod a m;have e3:=Int.emod_nonneg p (show m ≠ 0 by omega)
  have e4:=Int.emod_lt_of_pos p hp;rw [h1] at e1;omega
 exact zX.2 ⟨(key _ _ h1 a1).1,(key _ _ h1 a1).2,(key _ _ h2 a2).1,(key _ _ h2 a2).2,(key _ _ h3 a3).1,(key _ _ h3 a3).2⟩
theorem zIH {n:Nat} {ax ay az m:Int} (hm:m=2 ^ (n+2)) (ha:Tr.Al n ⟨ax,ay,az⟩) {b:Box} (he:zN (zf ⟨⟨ax,ay,az⟩,⟨ax+m,ay+m,az+m⟩⟩ b)=true) (xs:List Int) {p:Pt} (h:Tr.InC n ⟨ax,ay,az⟩ p):zF b xs p=0:=by
 unfold zF;rw [if_neg];intro hb;have:=zFQ (zFP (zFJ hm ha h) hb).1;rw [he] at this;cases this
theorem zCv (ax ay az:Int) (n i:Nat):Tr.cor ⟨ax,ay,az⟩ n i=⟨ax+chX i (2 ^ (n+2)),ay+chY i (2 ^ (n+2)),az+chZ i (2 ^ (n+2))⟩:=rfl
theorem zBm : ∀ (n:Nat),n≤12 → ∀ (w:World) (Far:Nat→Prop) (pg ps pb sb:Nat) (a b c d e f:Int) (ha:Option Addr) (hcp:Nat) (xs:List Int) (_HC:Bx (BCtx w Far pg ps pb sb a b c d e f ha hcp xs)) (_HX:GoodH ⟨⟨a,b,c⟩,⟨d,e,f⟩⟩ xs hcp) (ax ay az:Int) (_hal:Tr.Al n ⟨ax,ay,az⟩) (_hx:0≤ax∧ax+2 ^ (n+2)≤16384) (_hy:0≤ay∧ay+2 ^ (n+2)≤16384) (_hz:0≤az∧az+2 ^ (n+2)≤16384)
 (most:Int) (ts:List Tr) (_hG:Good ts) (_hlen:(Tr.add (Tr.can (zF ⟨⟨a,b,c⟩,⟨d,e,f⟩⟩ xs) n ⟨ax,ay,az⟩) ts).length≤1000000000000) (_hFar : ∀ k,Far k→k<w.heap.size) (_hS:StoreIs w Far sb most ts),
 Calls Tryz.prog 82 #[.agg #[ax,ay,az],.int .i64 ((n:Int)+2),.pointer (some ⟨pg,0,none⟩),.pointer (some ⟨ps,0,none⟩),.pointer (some ⟨pb,0,none⟩)] w (Grew Far sb most ts (Tr.add (Tr.can (zF ⟨⟨a,b,c⟩,⟨d,e,f⟩⟩ xs) n ⟨ax,ay,az⟩) ts) (Tr.can (zF ⟨⟨a,b,c⟩,⟨d,e,f⟩⟩ xs) n ⟨ax,ay,az⟩) w):=by
 intro n
 induction n with
 | zero =>
   intro hn w Far pg ps pb sb a b c d e f ha hcp xs HC HX ax ay az hal hx hy hz most ts hG hlen hFar hS;have e4:(2:Int) ^ (0+2)=4:=by decide
   rw [e4] at hx hy hz;have hl:=Nat.le_trans (Tr.add_prefix (Tr.can (zF ⟨⟨a,b,c⟩,⟨d,e,f⟩⟩ xs) 0 ⟨ax,ay,az⟩) ts).length_le hlen;cases he:zN (zf ⟨⟨ax,ay,az⟩,⟨ax+4,ay+4,az+4⟩⟩ ⟨⟨a,b,c⟩,⟨d,e,f⟩⟩) with
   | true =>
     have hz0:=zCG 0 ⟨ax,ay,az⟩ (zF ⟨⟨a,b,c⟩,⟨d,e,f⟩⟩ xs) hal (fun p hp=>zIH e4.symm hal he xs hp);rw [hz0];exact zBo w Far pg ps pb sb a b c d e f ha hcp xs HC 0 (by omega) ax ay az 4 e4.symm (by omega) (by omega) (by omega) he most ts hG hl hFar hS
   | false =>
     exact zBn w Far pg ps pb sb a b c d e f ha hcp xs HC HX ax ay az (by omega) (by omega) (by omega) he most ts hG hl hFar hS
 | succ n ih =>
   intro hn w Far pg ps pb sb a b c d e f ha hcp xs HC HX ax ay az hal hx hy hz most ts hG hlen hFar hS;have hl:=Nat.le_trans (Tr.add_prefix (Tr.can (zF ⟨⟨a,b,c⟩,⟨d,e,f⟩⟩ xs) (n+1) ⟨ax,ay,az⟩) ts).length_le hlen;have hp:=Tr.pow_pos2 (n+1);have hp2:=Tr.pow_succ2 n;have hp3:=Tr.pow_pos2 n;cases he:zN (zf ⟨⟨ax,ay,az⟩,⟨ax+2 ^ (n+1+2),ay+2 ^ (n+1+2),az+2 ^ (n+1+2)⟩⟩ ⟨⟨a,b,c⟩,⟨d,e,f⟩⟩) with
   | true =>
     have hz0:=zCG (n+1) ⟨ax,ay,az⟩ (zF ⟨⟨a,b,c⟩,⟨d,e,f⟩⟩ xs) hal (fun p hp=>zIH rfl hal he xs hp);rw [hz0];exact zBo w Far pg ps pb sb a b c d e f ha hcp xs HC (n+1) hn ax ay az _ rfl (by omega) (by omega) (by omega) he most ts hG hl hFar hS
   | false =>
     have hW : ∀ i,Tr.WF (Tr.can (zF ⟨⟨a,b,c⟩,⟨d,e,f⟩⟩ xs) n (Tr.cor ⟨ax,ay,az⟩ n i)):=fun i=>zAD HX.range n _ (by omega)
     have key:=zBp w Far pg ps pb sb a b c d e f ha hcp xs HC n (by omega) ax ay az _ (2 ^ (n+2)) rfl rfl (by omega) (by omega) (by omega) he most ts (fun i=>Tr.can (zF ⟨⟨a,b,c⟩,⟨d,e,f⟩⟩ xs) n (Tr.cor ⟨ax,ay,az⟩ n i)) hW
      ⟨fun W Far' us i hi hC hGu hlu hFu hSu=>by
       obtain ⟨c1,c2,c3⟩:=zCd hi (m:=2 ^ (n+2)) (by omega)
       exact ih (by omega) W Far' pg ps pb sb a b c d e f ha hcp xs ⟨hC⟩ HX (ax+chX i (2 ^ (n+2))) (ay+chY i (2 ^ (n+2))) (az+chZ i (2 ^ (n+2))) (Tr.al_cor hal i) (by omega) (by omega) (by omega) most us hGu hlu hFu hSu⟩ hG hlen hFar hS
     rw [show (((n+1:Nat):Int)+2)=(n:Int)+3 by omega]
     exact key
end
end Go.Proofs.YtgnfgblkpnfcnaaGreatDoor
