/- Rse, Rsf, Rcr: joined by program, for one claim. -/
import Derived.Test.YtfcbajmjaifjlaaGreatMr
import Derived.Test.YtfcbajmjaifjlaaGreatM29
import Derived.Test.YtfcbajmjaifjlaaGreatM19
import Derived.Test.YtfcbajmjaifjlaaGreatM39
set_option linter.unusedVariables false
set_option linter.unusedSimpArgs false
namespace Go.Proofs.YtfcbajmjaifjlaaGreat
section
open Go.RowKit Go.Sort Go.Maps
open Oct
theorem small_can (f:Pt→Int) : ∀ (n:Nat) (a:Pt),Tr.small n (Tr.can f n a):=by
 have inn : ∀ (n d:Nat) (ch:Fin 8→Tr),(∀ i,Tr.small n (ch i))→Tr.small (n+1) (Tr.mkInner d ch):=by
  intro n d ch h
  unfold Tr.mkInner
  split
  · rename_i hc
    obtain ⟨c,hc⟩:=hc.1
    rw [hc];simp [Tr.small]
  · exact h
 intro n
 induction n with
 | zero =>
   intro a
   unfold Tr.can Tr.mkBrick
   split <;> simp [Tr.small]
 | succ n ih =>
   intro a
   unfold Tr.can
   exact inn n _ _ (fun i=>ih _)
theorem can_size {f:Pt→Int} (hf : ∀ p,0≤f p∧f p≤255) {n:Nat} (hn:n≤12) (a:Pt):(Tr.enc (Tr.can f n a)).length≤100000000000000:=by
 have h:=Tr.enc_small n _ (wf_can hf n a (by omega)) (small_can f n a)
 have:8 ^ n≤8 ^ 12:=Nat.pow_le_pow_right (by decide) hn
 omega
theorem upd_range {f:Pt→Int} (hf : ∀ p,0≤f p∧f p≤255) {c:Int} (hc:0≤c∧c≤255) (p:Pt) : ∀ q,0≤Tr.upd f p c q∧Tr.upd f p c q≤255:=fun q=>by
 unfold Tr.upd;split
 · exact hc
 · exact hf q
def cellsF (f:Pt→Int) (a:Pt):List Int:=(List.range 64).map fun k=>f (Tr.cellAt a k)
theorem cellsF_len (f:Pt→Int) (a:Pt):(cellsF f a).length=64:=by simp [cellsF]
theorem cellsF_all {f:Pt→Int} (hf : ∀ p,0≤f p∧f p≤255) (a:Pt):(cellsF f a).all Pal.cell=true:=by
 rw [List.all_eq_true]
 intro x hx
 obtain ⟨k,_,rfl⟩:=List.mem_map.1 hx
 rw [Pal.cell_eq]
 simpa using hf _
theorem can_cells (f:Pt→Int) (a:Pt):Tr.can f 0 a=Tr.mkBrick (cellsF f a):=rfl
theorem set_zero {f:Pt→Int} (c:Int) {a p:Pt} (ha:Tr.Al 0 a) (h:Tr.InC 0 a p):Tr.mkBrick ((cellsF f a).set (Tr.idx p) c)=Tr.can (Tr.upd f p c) 0 a:=by
 have:=Tr.set_can f c 0 a p ha h
 rw [←this,can_cells]
 unfold Tr.setT
 rw [Tr.cells_mkBrick (cellsF_len f a)]
theorem idx_eq {ax ay az px py pz:Int} (ha:Tr.Al 0 ⟨ax,ay,az⟩) (h:Tr.InC 0 ⟨ax,ay,az⟩ ⟨px,py,pz⟩):16 * (pz - az)+4 * (py - ay)+px - ax=((Tr.idx ⟨px,py,pz⟩:Nat):Int):=by
 obtain ⟨a1,a2,a3⟩:=ha
 obtain ⟨h1,h2,h3⟩:=h
 simp only [] at a1 a2 a3 h1 h2 h3
 have e4:(2:Int) ^ (0+2)=4:=by decide
 rw [e4] at a1 a2 a3 h1 h2 h3
 unfold Tr.idx
 simp only []
 omega
theorem in_bounds {n:Nat} {ax ay az px py pz m:Int} (hm:m=2 ^ (n+2)) (ha:Tr.Al n ⟨ax,ay,az⟩) (h:Tr.InC n ⟨ax,ay,az⟩ ⟨px,py,pz⟩):(ax≤px∧px<ax+m)∧(ay≤py∧py<ay+m)∧(az≤pz∧pz<az+m):=by
 have:=inB_iff.1 ((inB_inC hm ha).2 h)
 exact ⟨⟨this.1,this.2.1⟩,⟨this.2.2.1,this.2.2.2.1⟩,⟨this.2.2.2.2.1,this.2.2.2.2.2⟩⟩
set_option maxRecDepth 100000 in
set_option maxHeartbeats 1000000 in
theorem set9_zero (f:Pt→Int) (hf : ∀ p,0≤f p∧f p≤255) (ax ay az px py pz c:Int) (hal:Tr.Al 0 ⟨ax,ay,az⟩) (hin:Tr.InC 0 ⟨ax,ay,az⟩ ⟨px,py,pz⟩) (hx:0≤ax∧ax+4≤16384) (hy:0≤ay∧ay+4≤16384) (hz:0≤az∧az+4≤16384) (hc:0≤c∧c≤255) (w:World) :
 Calls Tryz.prog 169 #[.string (strOfNums (Tr.enc (Tr.can f 0 ⟨ax,ay,az⟩))),.agg #[ax,ay,az],.int .i64 (2),.agg #[px,py,pz],c] w fun e w'=>e = .returned (.string (strOfNums (Tr.enc (Tr.can (Tr.upd f ⟨px,py,pz⟩ c) 0 ⟨ax,ay,az⟩))))∧Below w.heap.size w w':=by
 have hb:=in_bounds (m:=4) (by decide) hal hin
 have hcel:=Bx.mk fun W=>cells9_mk (cellsF f ⟨ax,ay,az⟩) (cellsF_len _ _) (cellsF_all hf _) W
 rw [←can_cells] at hcel
 have hix:=fun W=>index9_any ax ay az px py pz (by omega) (by omega) (by omega) W
 rw [idx_eq hal hin] at hix
 have Hix:=Bx.mk hix
 have hk:=Tr.idx_lt ⟨px,py,pz⟩
 have hl:=cellsF_len f ⟨ax,ay,az⟩
 have hset:=Bx.mk (set_zero (f:=f) c hal hin)
 have hall:=Bx.mk (show ((cellsF f ⟨ax,ay,az⟩).set (Tr.idx ⟨px,py,pz⟩) c).all Pal.cell=true from by
  rw [List.all_eq_true]
  intro x hx
  rcases List.mem_or_eq_of_mem_set hx with h | h
  · exact List.all_eq_true.1 (cellsF_all hf _) x h
  · rw [h,Pal.cell_eq];simpa using hc)
 have hbr:=Bx.mk fun (pa:Option Addr) (pc:Nat) W (h:Sl W .i64 pa ((cellsF f ⟨ax,ay,az⟩).set (Tr.idx ⟨px,py,pz⟩) c))=>ref9_brick pa pc _ W (by rw [List.length_set];exact hl) hall.out h
 rw [hset.out] at hbr
 generalize strOfNums (Tr.enc (Tr.can f 0 ⟨ax,ay,az⟩))=S at *
 generalize strOfNums (Tr.enc (Tr.can (Tr.upd f ⟨px,py,pz⟩ c) 0 ⟨ax,ay,az⟩))=S2 at *
 generalize cellsF f ⟨ax,ay,az⟩=xs at *
 generalize Tr.idx ⟨px,py,pz⟩=k at *
 have Hl:=Bx.mk hl
 clear hal hin hx hy hz hc hb hset hall hix hl
 go_enter Tryz.func169,Tryz.ntmps169
 go_wp2_with fail
 generalize hW:World.alloc (World.alloc w _) _=W
 have hB:=bl2 hW
 have ka:Bk W (w.heap.size) #[ax,ay,az] 23:=bk1 hW
 have kp:Bk W (w.heap.size+1) #[px,py,pz] 23:=bk0 hW
 have HI:=Bx.mk (show Bk W (w.heap.size) #[ax,ay,az] 23∧Bk W (w.heap.size+1) #[px,py,pz] 23∧Below w.heap.size w W from ⟨ka,kp,hB⟩)
 have HI0:Bx (w.heap.size+1<W.heap.size):=⟨kp.lt⟩
 clear hW ka kp hB
 refine (hcel.out _).mono ?_
 rintro _ w1 ⟨v,rfl,hown,hb1⟩
 replace HI:=Bx.mk (show Bk w1 (w.heap.size) #[ax,ay,az] 23∧Bk w1 (w.heap.size+1) #[px,py,pz] 23∧Below w.heap.size w w1 from ⟨HI.out.1.later hb1,HI.out.2.1.later hb1,HI.out.2.2.trans (hb1.mono HI.out.2.2.size)⟩)
 have Hown:=Bx.mk (Own.base hown (B':=w.heap.size) (Nat.le_trans (by omega) (Nat.le_of_lt HI0.out)))
 obtain ⟨g,cap,rfl,-,-,-,-,-⟩:=hown.at (by rw [Hl.out];decide)
 rw [Hl.out]
 clear hown hb1 hcel HI0
 obtain ⟨ca0,ca1,ca2⟩:=HI.out.1.c3
 obtain ⟨cp0,cp1,cp2⟩:=HI.out.2.1.c3
 go_wp2_with fail
 refine (Hix.out _).mono ?_
 rintro _ w2 ⟨rfl,hb2⟩
 replace Hown:=Bx.mk (Hown.out.below hb2)
 replace HI:=Bx.mk (show Bk w2 (w.heap.size) #[ax,ay,az] 23∧Bk w2 (w.heap.size+1) #[px,py,pz] 23∧Below w.heap.size w w2 from ⟨HI.out.1.later hb2,HI.out.2.1.later hb2,HI.out.2.2.trans (hb2.mono HI.out.2.2.size)⟩)
 obtain ⟨g',cap',he,hge,hlt,hcell,hfrz,hst⟩:=Hown.out.at (by rw [Hl.out];decide)
 rw [Hl.out] at he hst
 injection he with he1 he2 he3
 injection he1 with he1
 injection he1 with he1
 subst he1 he3
 obtain ⟨x,hx⟩:=at_lt Hl (show k<64 from hk)
 have hck:=hcell _ _ hx
 have hfk:=hfrz k
 have b1:(0:Int)≤(k:Int):=by omega
 have b2:(k:Int)<64:=by omega
 have H2:=Bx.mk (hst k c)
 have Hge:=Bx.mk hge
 clear hb2 hcell hfrz hst hx Hix ca0 ca1 ca2 cp0 cp1 cp2 hge
 go_wp2_with fail
 generalize hW3:World.setCell w2 _ _=w3
 have Hown3:Bx (Own w3 w.heap.size 3 .i64 (.slice (some ⟨g,0,none⟩) 64 cap) (xs.set k c)):=by rw [←hW3];exact H2
 have HB3:Bx (Below w.heap.size w w3):=by rw [←hW3];exact ⟨HI.out.2.2.setCell Hge.out _⟩
 clear hW3 H2 HI hck hfk Hown
 refine (hbr.out _ cap _ Hown3.out.sl).mono ?_
 rintro _ w4 ⟨rfl,hb4⟩
 have HB4:=Bx.mk (HB3.out.trans (hb4.mono HB3.out.size))
 clear hb4 hbr Hown3
 go_wp2_with fail
 go_ret
 exact ⟨rfl,HB4.out⟩
set_option maxRecDepth 100000 in
set_option maxHeartbeats 4000000 in
theorem set9_succ (n:Nat) (hn:n≤11) (f:Pt→Int) (hf : ∀ p,0≤f p∧f p≤255) (ax ay az px py pz c:Int) (hal:Tr.Al (n+1) ⟨ax,ay,az⟩) (hin:Tr.InC (n+1) ⟨ax,ay,az⟩ ⟨px,py,pz⟩) (hx:0≤ax∧ax≤16384) (hy:0≤ay∧ay≤16384) (hz:0≤az∧az≤16384) (hc:0≤c∧c≤255)
 (hih:Bx (∀ (k:Nat),k<8→k=Tr.octN n ⟨px,py,pz⟩ → ∀ W,Calls Tryz.prog 169 #[.string (strOfNums (Tr.enc (Tr.can f n (Tr.cor ⟨ax,ay,az⟩ n k)))),.agg #[.int .i64 (ax+chX k (2 ^ (n+2))),.int .i64 (ay+chY k (2 ^ (n+2))),.int .i64 (az+chZ k (2 ^ (n+2)))],.int .i64 ((n:Int)+2),.agg #[px,py,pz],c] W fun e w'=>e = .returned (.string (strOfNums (Tr.enc (Tr.can (Tr.upd f ⟨px,py,pz⟩ c) n (Tr.cor ⟨ax,ay,az⟩ n k)))))∧Below W.heap.size W w')) (w:World) :
 Calls Tryz.prog 169 #[.string (strOfNums (Tr.enc (Tr.can f (n+1) ⟨ax,ay,az⟩))),.agg #[ax,ay,az],.int .i64 ((n:Int)+3),.agg #[px,py,pz],c] w fun e w'=>e = .returned (.string (strOfNums (Tr.enc (Tr.can (Tr.upd f ⟨px,py,pz⟩ c) (n+1) ⟨ax,ay,az⟩))))∧Below w.heap.size w w':=by
 have hf2:=upd_range hf hc ⟨px,py,pz⟩
 obtain ⟨K,hK⟩ : ∃ K:Fin 8→Tr,K=fun i=>Tr.can (Tr.upd f ⟨px,py,pz⟩ c) n (Tr.cor ⟨ax,ay,az⟩ n i.val):=⟨_,rfl⟩
 obtain ⟨T0,hT0⟩ : ∃ T0:Nat→ByteArray,T0=fun k=>strOfNums (Tr.enc (Tr.can f n (Tr.cor ⟨ax,ay,az⟩ n k))):=⟨_,rfl⟩
 obtain ⟨TK,hTK⟩ : ∃ TK:Nat→ByteArray,TK=fun k=>strOfNums (Tr.enc (Tr.can (Tr.upd f ⟨px,py,pz⟩ c) n (Tr.cor ⟨ax,ay,az⟩ n k))):=⟨_,rfl⟩
 have hres:Tr.can (Tr.upd f ⟨px,py,pz⟩ c) (n+1) ⟨ax,ay,az⟩=Tr.mkInner (n+3) K:=by rw [hK];rfl
 have hKw : ∀ i,Tr.WF (K i):=fun i=>by rw [hK];exact wf_can hf2 n _ (by omega)
 have hKs:(Tr.enc (.node (n+3) K)).length≤1000000000000000:=by
  have hk:=fun i=>(show (Tr.enc (K i)).length≤100000000000000 by rw [hK];exact can_size hf2 (by omega) _)
  rw [←Tr.pos_all (n+3) K]
  have key : ∀ k,k≤8→Tr.pos K k≤2+k * 100000000000000:=by
   intro k
   induction k with
   | zero=>intro _;rw [Tr.pos_zero];omega
   | succ k ih=>intro hk8;rw [Tr.pos_succ K (by omega)];have h1:=ih (by omega);have h2:=hk ⟨k,by omega⟩;omega
  have:=key 8 (Nat.le_refl _)
  omega
 have hinr:=Bx.mk fun (a:Option Addr) (cap:Nat) W (h:Slv W a (strs (kidsE K)))=>ref9_inner (n+3) (by omega) K hKw hKs a cap W h
 rw [←hres,show ((n+3:Nat):Int)=(n:Int)+3 by omega] at hinr
 have hT:=Bx.mk fun (k:Nat) (hk:k<8) (he : ¬k=Tr.octN n ⟨px,py,pz⟩)=>(show T0 k=TK k from by
  rw [hT0,hTK]
  have:Tr.can f n (Tr.cor ⟨ax,ay,az⟩ n k)=Tr.can (Tr.upd f ⟨px,py,pz⟩ c) n (Tr.cor ⟨ax,ay,az⟩ n k):=Tr.can_congr n _ (Tr.al_cor hal k) fun q hq=>by
   unfold Tr.upd
   rw [if_neg]
   intro e
   rw [e] at hq
   exact he (congrArg Fin.val (Tr.inC_other (i:=⟨k,hk⟩) hal hq).1)
  simp only [this])
 have hKat:=Bx.mk fun k (hk:k<8)=>(show strs ((kidsE K).take (k+1))=strs ((kidsE K).take k)++[.string (TK k)] by
  rw [kidsE_take K hk,strs_snoc,hTK,hK])
 have hoc:=Bx.mk fun W=>octant9_any n hn ax ay az px py pz hal hin hx hy hz W
 have hcor:=Bx.mk fun W (k:Nat) (hk:k<8)=>corner9_any (n+2) (by omega) ax ay az k hk (by omega) (by omega) (by omega) W
 rw [show ((n+2:Nat):Int)+1=(n:Int)+3 by omega] at hcor
 have hw0:=wf_can hf (n+1) ⟨ax,ay,az⟩ (by omega)
 have hs0:=can_size hf (show n+1≤12 by omega) ⟨ax,ay,az⟩
 have hsub:IntKind.i64.wrap ((n:Int)+3 - 1)=(n:Int)+2:=by rw [show (n:Int)+3 - 1=(n:Int)+2 by omega];exact IntWalk.i64_in _ (by omega)
 have h2:((n:Int)+3 == 2)=false:=by simp;omega
 have hcan:Tr.can f (n+1) ⟨ax,ay,az⟩=Tr.mkInner (n+3) (fun i=>Tr.can f n (Tr.cor ⟨ax,ay,az⟩ n i.val)):=rfl
 have ho8:=Tr.octN_lt n ⟨px,py,pz⟩
 have hih2:=hih
 clear hih
 have hih:=Bx.mk fun (k:Nat) (hk:k<8) (he:k=Tr.octN n ⟨px,py,pz⟩) W=>(show Calls Tryz.prog 169 #[.string (T0 k),.agg #[.int .i64 (ax+chX k (2 ^ (n+2))),.int .i64 (ay+chY k (2 ^ (n+2))),.int .i64 (az+chZ k (2 ^ (n+2)))],.int .i64 ((n:Int)+2),.agg #[px,py,pz],c] W fun e w'=>e = .returned (.string (TK k))∧Below W.heap.size W w' from by rw [hT0,hTK];exact hih2.out k hk he W)
 clear hih2
 generalize Tr.octN n ⟨px,py,pz⟩=o at *
 generalize strOfNums (Tr.enc (Tr.can (Tr.upd f ⟨px,py,pz⟩ c) (n+1) ⟨ax,ay,az⟩))=S2 at *
 by_cases hnode : ∃ d ch,Tr.can f (n+1) ⟨ax,ay,az⟩ = .node d ch
 · obtain ⟨d,ch,hd⟩:=hnode
   have hchi : ∀ i:Fin 8,ch i=Tr.can f n (Tr.cor ⟨ax,ay,az⟩ n i.val):=fun i=>by
    have h1:=Tr.mkInner_kid (n+3) (fun i:Fin 8=>Tr.can f n (Tr.cor ⟨ax,ay,az⟩ n i.val)) i
    rw [←hcan,hd] at h1
    exact h1
   rw [hd] at hw0 hs0
   have hch:=Bx.mk fun W=>ref9_children d ch hw0 (by omega) W
   have hkat:=Bx.mk fun k (hk:k<8)=>(show (strs (kidsE ch))[k]? = some (.string (T0 k)) by rw [strs_at (kidsE_at ch hk),hchi,hT0])
   have hi0:=fun W:World=>idx_str (P:=Tryz.prog) 9 Tryz.underlying9 (Tr.enc_byt _ hw0) (k:=0) (x:=110) (by simp [Tr.enc]) W
   rw [show ((0:Nat):Int)=0 from rfl] at hi0
   rw [hd]
   generalize strOfNums (Tr.enc (.node d ch))=S at *
   clear hx hy hz hal hin hf hf2 hK hT0 hTK hres hKw hKs hcan hchi hd hw0 hs0 hc
   go_enter Tryz.func169,Tryz.ntmps169
   go_wp2_with fail
   generalize hW:World.alloc (World.alloc w _) _=W
   have hB:=bl2 hW
   have ka:Bk W (w.heap.size) #[ax,ay,az] 23:=bk1 hW
   have kp:Bk W (w.heap.size+1) #[px,py,pz] 23:=bk0 hW
   have HI:=Bx.mk (show Bk W (w.heap.size) #[ax,ay,az] 23∧Bk W (w.heap.size+1) #[px,py,pz] 23∧Below w.heap.size w W from ⟨ka,kp,hB⟩)
   have HI0:Bx (w.heap.size+1<W.heap.size):=⟨kp.lt⟩
   clear hW ka kp hB
   go_loopw [12,13] (fun v12 v13 wr => ∃ k:Nat,k≤8∧v13 = .int .i64 k∧Bx (Ownv wr (w.heap.size+1+1) 9 v12 (strs ((kidsE K).take k)))∧Bx (Bk wr (w.heap.size) #[ax,ay,az] 23∧Bk wr (w.heap.size+1) #[px,py,pz] 23∧Below w.heap.size w wr)) (fun _ i _=>8 - (intOf i).toNat)
   case atStart=>exact ⟨0,Nat.zero_le _,rfl,⟨Ownv.nil _ _ _⟩,HI⟩
   case round =>
    clear HI
    obtain ⟨k,hk,rfl,hown,HI⟩:=hrel
    by_cases hlt:k<8
    · have t0:decide ((k:Int)<8)=true:=by simp;omega
      have b1:(0:Int)≤(k:Int):=by omega
      have b2:(k:Int)<8:=by omega
      have hnext:=Bx.mk (hKat.out k hlt)
      have Htl:=Bx.mk (show (strs ((kidsE K).take k)).length≤1000000000 by rw [strs_length,List.length_take];omega)
      go_wp2_with fail
      refine (hch.out _).mono ?_
      rintro _ w1 ⟨g,pc,rfl,hkids,-,hb1⟩
      obtain ⟨b,off,he,hck⟩:=hkids k _ (hkat.out k hlt)
      simp only [Option.some.injEq,Addr.mk.injEq,and_true] at he
      obtain ⟨rfl,rfl⟩:=he
      rw [Nat.zero_add] at hck
      have HI1:=Bx.mk (show Bk w1 (w.heap.size) #[ax,ay,az] 23∧Bk w1 (w.heap.size+1) #[px,py,pz] 23∧Below w.heap.size w w1 from ⟨HI.out.1.later hb1,HI.out.2.1.later hb1,HI.out.2.2.trans (hb1.mono HI.out.2.2.size)⟩)
      have Hown1:=Bx.mk (hown.out.below hb1)
      have hle:=hb1.size
      clear hb1 hkids HI hown
      obtain ⟨ca0,ca1,ca2⟩:=HI1.out.1.c3
      obtain ⟨cp0,cp1,cp2⟩:=HI1.out.2.1.c3
      go_wp2_with fail
      refine (hoc.out _).mono ?_
      rintro _ w2 ⟨rfl,hb2⟩
      have HI2:=Bx.mk (show Bk w2 (w.heap.size) #[ax,ay,az] 23∧Bk w2 (w.heap.size+1) #[px,py,pz] 23∧Below w.heap.size w w2 from ⟨HI1.out.1.later hb2,HI1.out.2.1.later hb2,HI1.out.2.2.trans (hb2.mono HI1.out.2.2.size)⟩)
      have Hown2:=Bx.mk (Hown1.out.below hb2)
      clear hb2 ca0 ca1 ca2 cp0 cp1 cp2 HI1 Hown1 hck
      by_cases he:k=o
      · have h1:((k:Int) == (o:Int))=true:=by rw [he];simp
        have HX:=Bx.mk (show Tr.can f n (Tr.cor ⟨ax,ay,az⟩ n k)=Tr.can f n (Tr.cor ⟨ax,ay,az⟩ n k)∧k=o from ⟨rfl,he⟩)
        have hstep:=fun W=>hih.out k hlt he W
        have hstep:=Bx.mk hstep
        clear he
        obtain ⟨ca0,ca1,ca2⟩:=HI2.out.1.r3
        obtain ⟨cp0,cp1,cp2⟩:=HI2.out.2.1.r3
        have q0:=Bx.mk fun dk osk=>Calls.regrown_of (hcor.out (grow (redrawn w2 dk) osk) k hlt)
        have q1:=Bx.mk fun dk osk=>Calls.regrown_of (hstep.out (grow (redrawn w2 dk) osk))
        go_wp2_with fail
        refine wp_region_quiet_below (by kernel_rfl) (by kernel_rfl) ?_
        repeat (first | go_big_quiet_step ((first | with_reducible exact q0.out _ _ | with_reducible exact q1.out _ _)) | quiet_step (first | with_reducible exact q0.out _ _ | with_reducible exact q1.out _ _))
        refine wpQuiet_nil ?_
        rintro _ ⟨⟨dq,osq⟩,rfl⟩
        have hb0:=below_regrown w2 dq osq
        have HI3:=Bx.mk (show Bk (grow (redrawn w2 dq) osq) (w.heap.size) #[ax,ay,az] 23∧Bk (grow (redrawn w2 dq) osq) (w.heap.size+1) #[px,py,pz] 23∧Below w.heap.size w (grow (redrawn w2 dq) osq) from ⟨HI2.out.1.later hb0,HI2.out.2.1.later hb0,HI2.out.2.2.trans (hb0.mono HI2.out.2.2.size)⟩)
        have Hown3:=Bx.mk (Hown2.out.below hb0)
        clear q0 q1 ca0 ca1 ca2 cp0 cp1 cp2 hb0 HI2 Hown2 hstep
        generalize grow (redrawn w2 dq) osq=w3 at *
        have hle3:w.heap.size+1+1≤w3.heap.size:=HI3.out.2.1.lt
        go_wp2_with (first
         | (at_builtin
            refine wpList_append_val rfl _ _ 35 rfl 9 (.string ByteArray.empty) 16 (by omega) Tryz.underlying35 (by kernel_rfl) rfl (w.heap.size+1+1) _ (strs ((kidsE K).take k)) rfl (Hown3.out.alloc _) (.string (TK k)) rfl ⟨w3.heap.size,0,none⟩ 1 rfl (cell_new _ _ _) Htl.out (le_alloc hle3 _) ?_
            intro v9 w9 hown9 hg9 _))
        have H9:=Bx.mk hown9
        rw [←hnext.out] at H9
        have hb9:=(HI3.out.2.2.alloc HI3.out.2.2.size (.cells #[.string (TK k)] 9)).grown hg9 (le_alloc HI3.out.2.2.size _) (fun g hg=>by have:=(Hown3.out.lt g hg).1;omega)
        have HI9:=Bx.mk (show Bk w9 (w.heap.size) #[ax,ay,az] 23∧Bk w9 (w.heap.size+1) #[px,py,pz] 23∧Below w.heap.size w w9 from ⟨Bk.grownO (blk_old HI3.out.1) hg9 (fun e=>by have:=(Hown3.out.lt _ e).1;omega),Bk.grownO (blk_old HI3.out.2.1) hg9 (fun e=>by have:=(Hown3.out.lt _ e).1;omega),hb9⟩)
        clear hown9 hg9 hb9
        go_wp2_with fail
        go_roundw
        case rel=>exact ⟨k+1,by omega,by go_num,H9,HI9⟩
        case measure=>simp [intOf];omega
      · have h1:((k:Int) == (o:Int))=false:=by simp;omega
        have hTT:=hT.out k hlt he
        have HTT:=Bx.mk hTT
        clear hTT
        have HI3:=HI2
        have Hown3:=Hown2
        have hle3:w.heap.size+1+1≤w2.heap.size:=HI3.out.2.1.lt
        clear he HI2 Hown2
        go_wp2_with (first
         | (at_builtin
            refine wpList_append_val rfl _ _ 35 rfl 9 (.string ByteArray.empty) 16 (by omega) Tryz.underlying35 (by kernel_rfl) rfl (w.heap.size+1+1) _ (strs ((kidsE K).take k)) rfl (Hown3.out.alloc _) (.string (T0 k)) rfl ⟨w2.heap.size,0,none⟩ 1 rfl (cell_new _ _ _) Htl.out (le_alloc hle3 _) ?_
            intro v9 w9 hown9 hg9 _))
        rw [HTT.out] at hown9 hg9
        have H9:=Bx.mk hown9
        rw [←hnext.out] at H9
        have hb9:=(HI3.out.2.2.alloc HI3.out.2.2.size (.cells #[.string (TK k)] 9)).grown hg9 (le_alloc HI3.out.2.2.size _) (fun g hg=>by have:=(Hown3.out.lt g hg).1;omega)
        have HI9:=Bx.mk (show Bk w9 (w.heap.size) #[ax,ay,az] 23∧Bk w9 (w.heap.size+1) #[px,py,pz] 23∧Below w.heap.size w w9 from ⟨Bk.grownO (blk_old HI3.out.1) hg9 (fun e=>by have:=(Hown3.out.lt _ e).1;omega),Bk.grownO (blk_old HI3.out.2.1) hg9 (fun e=>by have:=(Hown3.out.lt _ e).1;omega),hb9⟩)
        clear hown9 hg9 hb9
        go_wp2_with fail
        go_roundw
        case rel=>exact ⟨k+1,by omega,by go_num,H9,HI9⟩
        case measure=>simp [intOf];omega
    · obtain rfl:k=8:=by omega
      have t0:decide (((8:Nat):Int)<8)=false:=by decide
      have hown2:=hown.out
      rw [List.take_of_length_le (by rw [kidsE_len];exact Nat.le_refl _)] at hown2
      obtain ⟨pa,pc,rfl,hsl⟩:=hown2.form
      have hl8:(strs (kidsE K)).length=8:=by rw [strs_length,kidsE_len]
      rw [hl8]
      have Hsl:=Bx.mk hsl
      clear hsl hown2 hown hl8
      go_wp2_with fail
      refine (hinr.out pa pc _ Hsl.out).mono ?_
      rintro _ w9 ⟨rfl,hb9⟩
      have HB9:=Bx.mk (HI.out.2.2.trans (hb9.mono HI.out.2.2.size))
      clear hb9
      go_wp2_with fail
      go_ret
      exact ⟨rfl,HB9.out⟩
 · obtain ⟨u,hu⟩ : ∃ u,Tr.can f (n+1) ⟨ax,ay,az⟩ = .uni u:=by
    rw [hcan]
    unfold Tr.mkInner
    split
    · rename_i hcc
      exact hcc.1
    · rename_i hcc
      exact absurd ⟨n+3,fun i:Fin 8=>Tr.can f n (Tr.cor ⟨ax,ay,az⟩ n i.val),by rw [hcan];unfold Tr.mkInner;rw [if_neg hcc]⟩ hnode
   have hTu:=Bx.mk fun k (hk:k<8)=>(show T0 k=strOfNums (Tr.enc (.uni u)) by
    have h1:=Tr.mkInner_kid (n+3) (fun i:Fin 8=>Tr.can f n (Tr.cor ⟨ax,ay,az⟩ n i.val)) ⟨k,hk⟩
    rw [←hcan,hu] at h1
    rw [hT0]
    show strOfNums (Tr.enc (Tr.can f n (Tr.cor ⟨ax,ay,az⟩ n k)))=_
    rw [←h1];rfl)
   rw [hu] at hw0
   have hi0:=fun W:World=>idx_str (P:=Tryz.prog) 9 Tryz.underlying9 (Tr.enc_byt _ hw0) (k:=0) (x:=117) (by simp [Tr.enc]) W
   rw [show ((0:Nat):Int)=0 from rfl] at hi0
   rw [hu]
   generalize strOfNums (Tr.enc (.uni u))=S at *
   clear hx hy hz hal hin hf hf2 hK hT0 hTK hres hKw hKs hcan hu hw0 hs0 hc hnode
   go_enter Tryz.func169,Tryz.ntmps169
   go_wp2_with fail
   generalize hW:World.alloc (World.alloc w _) _=W
   have hB:=bl2 hW
   have ka:Bk W (w.heap.size) #[ax,ay,az] 23:=bk1 hW
   have kp:Bk W (w.heap.size+1) #[px,py,pz] 23:=bk0 hW
   have HI:=Bx.mk (show Bk W (w.heap.size) #[ax,ay,az] 23∧Bk W (w.heap.size+1) #[px,py,pz] 23∧Below w.heap.size w W from ⟨ka,kp,hB⟩)
   have HI0:Bx (w.heap.size+1<W.heap.size):=⟨kp.lt⟩
   clear hW ka kp hB
   go_loopw [12,13] (fun v12 v13 wr => ∃ k:Nat,k≤8∧v13 = .int .i64 k∧Bx (Ownv wr (w.heap.size+1+1) 9 v12 (strs ((kidsE K).take k)))∧Bx (Bk wr (w.heap.size) #[ax,ay,az] 23∧Bk wr (w.heap.size+1) #[px,py,pz] 23∧Below w.heap.size w wr)) (fun _ i _=>8 - (intOf i).toNat)
   case atStart=>exact ⟨0,Nat.zero_le _,rfl,⟨Ownv.nil _ _ _⟩,HI⟩
   case round =>
    clear HI
    obtain ⟨k,hk,rfl,hown,HI⟩:=hrel
    by_cases hlt:k<8
    · have t0:decide ((k:Int)<8)=true:=by simp;omega
      have b1:(0:Int)≤(k:Int):=by omega
      have b2:(k:Int)<8:=by omega
      have hnext:=Bx.mk (hKat.out k hlt)
      have Htl:=Bx.mk (show (strs ((kidsE K).take k)).length≤1000000000 by rw [strs_length,List.length_take];omega)
      have hSk:=Bx.mk (hTu.out k hlt)
      have HI1:=HI
      have Hown1:=hown
      obtain ⟨w1,hw1⟩ : ∃ w1,w1=wr:=⟨_,rfl⟩
      rw [←hw1] at HI1 Hown1 ⊢
      clear hw1 HI hown
      obtain ⟨ca0,ca1,ca2⟩:=HI1.out.1.c3
      obtain ⟨cp0,cp1,cp2⟩:=HI1.out.2.1.c3
      go_wp2_with fail
      refine (hoc.out _).mono ?_
      rintro _ w2 ⟨rfl,hb2⟩
      have HI2:=Bx.mk (show Bk w2 (w.heap.size) #[ax,ay,az] 23∧Bk w2 (w.heap.size+1) #[px,py,pz] 23∧Below w.heap.size w w2 from ⟨HI1.out.1.later hb2,HI1.out.2.1.later hb2,HI1.out.2.2.trans (hb2.mono HI1.out.2.2.size)⟩)
      have Hown2:=Bx.mk (Hown1.out.below hb2)
      clear hb2 ca0 ca1 ca2 cp0 cp1 cp2 HI1 Hown1 
      by_cases he:k=o
      · have h1:((k:Int) == (o:Int))=true:=by rw [he];simp
        have HX:=Bx.mk (show Tr.can f n (Tr.cor ⟨ax,ay,az⟩ n k)=Tr.can f n (Tr.cor ⟨ax,ay,az⟩ n k)∧k=o from ⟨rfl,he⟩)
        have hstep:=fun W=>hih.out k hlt he W
        rw [hSk.out] at hstep
        have hstep:=Bx.mk hstep
        clear he
        obtain ⟨ca0,ca1,ca2⟩:=HI2.out.1.r3
        obtain ⟨cp0,cp1,cp2⟩:=HI2.out.2.1.r3
        have q0:=Bx.mk fun dk osk=>Calls.regrown_of (hcor.out (grow (redrawn w2 dk) osk) k hlt)
        have q1:=Bx.mk fun dk osk=>Calls.regrown_of (hstep.out (grow (redrawn w2 dk) osk))
        go_wp2_with fail
        refine wp_region_quiet_below (by kernel_rfl) (by kernel_rfl) ?_
        repeat (first | go_big_quiet_step ((first | with_reducible exact q0.out _ _ | with_reducible exact q1.out _ _)) | quiet_step (first | with_reducible exact q0.out _ _ | with_reducible exact q1.out _ _))
        refine wpQuiet_nil ?_
        rintro _ ⟨⟨dq,osq⟩,rfl⟩
        have hb0:=below_regrown w2 dq osq
        have HI3:=Bx.mk (show Bk (grow (redrawn w2 dq) osq) (w.heap.size) #[ax,ay,az] 23∧Bk (grow (redrawn w2 dq) osq) (w.heap.size+1) #[px,py,pz] 23∧Below w.heap.size w (grow (redrawn w2 dq) osq) from ⟨HI2.out.1.later hb0,HI2.out.2.1.later hb0,HI2.out.2.2.trans (hb0.mono HI2.out.2.2.size)⟩)
        have Hown3:=Bx.mk (Hown2.out.below hb0)
        clear q0 q1 ca0 ca1 ca2 cp0 cp1 cp2 hb0 HI2 Hown2 hstep
        generalize grow (redrawn w2 dq) osq=w3 at *
        have hle3:w.heap.size+1+1≤w3.heap.size:=HI3.out.2.1.lt
        go_wp2_with (first
         | (at_builtin
            refine wpList_append_val rfl _ _ 35 rfl 9 (.string ByteArray.empty) 16 (by omega) Tryz.underlying35 (by kernel_rfl) rfl (w.heap.size+1+1) _ (strs ((kidsE K).take k)) rfl (Hown3.out.alloc _) (.string (TK k)) rfl ⟨w3.heap.size,0,none⟩ 1 rfl (cell_new _ _ _) Htl.out (le_alloc hle3 _) ?_
            intro v9 w9 hown9 hg9 _))
        have H9:=Bx.mk hown9
        rw [←hnext.out] at H9
        have hb9:=(HI3.out.2.2.alloc HI3.out.2.2.size (.cells #[.string (TK k)] 9)).grown hg9 (le_alloc HI3.out.2.2.size _) (fun g hg=>by have:=(Hown3.out.lt g hg).1;omega)
        have HI9:=Bx.mk (show Bk w9 (w.heap.size) #[ax,ay,az] 23∧Bk w9 (w.heap.size+1) #[px,py,pz] 23∧Below w.heap.size w w9 from ⟨Bk.grownO (blk_old HI3.out.1) hg9 (fun e=>by have:=(Hown3.out.lt _ e).1;omega),Bk.grownO (blk_old HI3.out.2.1) hg9 (fun e=>by have:=(Hown3.out.lt _ e).1;omega),hb9⟩)
        clear hown9 hg9 hb9
        go_wp2_with fail
        go_roundw
        case rel=>exact ⟨k+1,by omega,by go_num,H9,HI9⟩
        case measure=>simp [intOf];omega
      · have h1:((k:Int) == (o:Int))=false:=by simp;omega
        have hTT:=hT.out k hlt he
        rw [hSk.out] at hTT
        have HTT:=Bx.mk hTT
        clear hTT
        have HI3:=HI2
        have Hown3:=Hown2
        have hle3:w.heap.size+1+1≤w2.heap.size:=HI3.out.2.1.lt
        clear he HI2 Hown2
        go_wp2_with (first
         | (at_builtin
            refine wpList_append_val rfl _ _ 35 rfl 9 (.string ByteArray.empty) 16 (by omega) Tryz.underlying35 (by kernel_rfl) rfl (w.heap.size+1+1) _ (strs ((kidsE K).take k)) rfl (Hown3.out.alloc _) (.string (S)) rfl ⟨w2.heap.size,0,none⟩ 1 rfl (cell_new _ _ _) Htl.out (le_alloc hle3 _) ?_
            intro v9 w9 hown9 hg9 _))
        rw [HTT.out] at hown9 hg9
        have H9:=Bx.mk hown9
        rw [←hnext.out] at H9
        have hb9:=(HI3.out.2.2.alloc HI3.out.2.2.size (.cells #[.string (TK k)] 9)).grown hg9 (le_alloc HI3.out.2.2.size _) (fun g hg=>by have:=(Hown3.out.lt g hg).1;omega)
        have HI9:=Bx.mk (show Bk w9 (w.heap.size) #[ax,ay,az] 23∧Bk w9 (w.heap.size+1) #[px,py,pz] 23∧Below w.heap.size w w9 from ⟨Bk.grownO (blk_old HI3.out.1) hg9 (fun e=>by have:=(Hown3.out.lt _ e).1;omega),Bk.grownO (blk_old HI3.out.2.1) hg9 (fun e=>by have:=(Hown3.out.lt _ e).1;omega),hb9⟩)
        clear hown9 hg9 hb9
        go_wp2_with fail
        go_roundw
        case rel=>exact ⟨k+1,by omega,by go_num,H9,HI9⟩
        case measure=>simp [intOf];omega
    · obtain rfl:k=8:=by omega
      have t0:decide (((8:Nat):Int)<8)=false:=by decide
      have hown2:=hown.out
      rw [List.take_of_length_le (by rw [kidsE_len];exact Nat.le_refl _)] at hown2
      obtain ⟨pa,pc,rfl,hsl⟩:=hown2.form
      have hl8:(strs (kidsE K)).length=8:=by rw [strs_length,kidsE_len]
      rw [hl8]
      have Hsl:=Bx.mk hsl
      clear hsl hown2 hown hl8
      go_wp2_with fail
      refine (hinr.out pa pc _ Hsl.out).mono ?_
      rintro _ w9 ⟨rfl,hb9⟩
      have HB9:=Bx.mk (HI.out.2.2.trans (hb9.mono HI.out.2.2.size))
      clear hb9
      go_wp2_with fail
      go_ret
      exact ⟨rfl,HB9.out⟩
end
section
open Go.RowKit Go.Sort Go.Maps
open Oct
theorem set9_any (f:Pt→Int) (hf : ∀ p,0≤f p∧f p≤255) (px py pz c:Int) (hc:0≤c∧c≤255) : ∀ (n:Nat),n≤12 → ∀ (ax ay az:Int),Tr.Al n ⟨ax,ay,az⟩→Tr.InC n ⟨ax,ay,az⟩ ⟨px,py,pz⟩→(0≤ax∧ax+2 ^ (n+2)≤16384)→(0≤ay∧ay+2 ^ (n+2)≤16384)→(0≤az∧az+2 ^ (n+2)≤16384) → ∀ (w:World),
 Calls Tryz.prog 169 #[.string (strOfNums (Tr.enc (Tr.can f n ⟨ax,ay,az⟩))),.agg #[ax,ay,az],.int .i64 ((n:Int)+2),.agg #[px,py,pz],c] w fun e w'=>e = .returned (.string (strOfNums (Tr.enc (Tr.can (Tr.upd f ⟨px,py,pz⟩ c) n ⟨ax,ay,az⟩))))∧Below w.heap.size w w':=by
 intro n
 induction n with
 | zero =>
   intro _ ax ay az hal hin hx hy hz w
   exact set9_zero f hf ax ay az px py pz c hal hin hx hy hz hc w
 | succ n ih =>
   intro hn ax ay az hal hin hx hy hz w
   have hp:=pow_le (show n+2≤14 by omega)
   have hps:=Tr.pow_succ2 n
   have h3:(((n+1:Nat):Int)+2)=(n:Int)+3:=by omega
   rw [h3]
   refine set9_succ n (by omega) f hf ax ay az px py pz c hal hin (by omega) (by omega) (by omega) hc ⟨fun k hk he W=>?_⟩ w
   have hb:=ch_bd hk (show (0:Int)≤2 ^ (n+2) by omega)
   have hco:=cor_at ax ay az n k
   have h1:=Tr.al_cor hal k
   have h2:Tr.InC n (Tr.cor ⟨ax,ay,az⟩ n k) ⟨px,py,pz⟩:=by rw [he];exact Tr.inC_step hal hin
   rw [hco] at h1 h2 ⊢
   exact ih (by omega) _ _ _ h1 h2 (by omega) (by omega) (by omega) W
theorem cube9_zero (L:Nat) (hL:L≤14) (w:World) :
 Calls Tryz.prog 35 #[.agg #[(0:Int),(0:Int),(0:Int)],(L:Int)] w fun e w'=>e = .returned (.agg #[(0:Int),(0:Int),(0:Int),.int .i64 (2 ^ L),.int .i64 (2 ^ L),.int .i64 (2 ^ L)])∧Below w.heap.size w w':=by
 have h:=cube9_any 0 0 0 L hL (by omega) (by omega) (by omega) w
 simpa only [Int.zero_add] using h
set_option maxRecDepth 100000 in
set_option maxHeartbeats 1000000 in
theorem Set9_yes (n:Nat) (hn:n≤12) (f:Pt→Int) (hf : ∀ p,0≤f p∧f p≤255) (px py pz c:Int) (hok:inB ⟨px,py,pz⟩ (cubeB (2 ^ (n+2)))=true∧0≤c∧c≤255) (w:World) :
 Calls Tryz.prog 125 #[.string (strOfNums (Tr.enc (trF n f))),.int .i64 ((n:Int)+2),.agg #[px,py,pz],c] w fun e w'=>e = .returned (.tuple #[.string (strOfNums (Tr.enc (trF n (Tr.upd f ⟨px,py,pz⟩ c)))),(0:Int)])∧Below w.heap.size w w':=by
 have hp:=pow_le (show n+2≤14 by omega)
 have hcub:=fun W=>cube9_zero (n+2) (by omega) W
 have hrin:=fun W=>ref_in px py pz 0 0 0 (2 ^ (n+2)) (2 ^ (n+2)) (2 ^ (n+2)) W
 rw [show ((n+2:Nat):Int)=(n:Int)+2 by omega] at hcub
 have hset:=Bx.mk fun W=>set9_any f hf px py pz c hok.2 n hn 0 0 0 (al_zero n) (inC_of_in hok.1) (by omega) (by omega) (by omega) W
 rw [show inB ⟨px,py,pz⟩ ⟨⟨0,0,0⟩,⟨2 ^ (n+2),2 ^ (n+2),2 ^ (n+2)⟩⟩=true from hok.1] at hrin
 have hcub:=Bx.mk hcub
 have hrin:=Bx.mk hrin
 have t1:decide (c<0)=false:=by simp;omega
 have t2:decide (255<c)=false:=by simp;omega
 clear hok hp
 unfold trF
 generalize strOfNums (Tr.enc (Tr.can f n ⟨0,0,0⟩))=S at *
 generalize strOfNums (Tr.enc (Tr.can (Tr.upd f ⟨px,py,pz⟩ c) n ⟨0,0,0⟩))=S2 at *
 generalize (2:Int) ^ (n+2)=m at *
 go_enter Tryz.func125,Tryz.ntmps125
 go_wp2_with fail
 generalize hW:World.alloc w _=W
 have hB:=bl1 hW
 have kp:Bk W (w.heap.size) #[px,py,pz] 23:=bk0 hW
 clear hW
 obtain ⟨cp0,cp1,cp2⟩:=kp.r3
 have q0:=Bx.mk fun dk osk=>Calls.regrown_of (hcub.out (grow (redrawn W dk) osk))
 have q1:=Bx.mk fun dk osk=>Calls.regrown_of (hrin.out (grow (redrawn W dk) osk))
 refine wp_region_quiet_below (by kernel_rfl) (by kernel_rfl) ?_
 repeat (first | go_big_quiet_step ((first | with_reducible exact q0.out _ _ | with_reducible exact q1.out _ _)) | quiet_step (first | with_reducible exact q0.out _ _ | with_reducible exact q1.out _ _))
 refine wpQuiet_nil ?_
 rintro _ ⟨⟨dq,osq⟩,rfl⟩
 have hb0:=below_regrown W dq osq
 replace hB:=hB.trans (hb0.mono hB.size)
 replace kp:=kp.later hb0
 clear q0 q1 cp0 cp1 cp2 hb0 hcub hrin
 generalize grow (redrawn W dq) osq=w1 at *
 obtain ⟨cp0,cp1,cp2⟩:=kp.c3
 go_wp2_with fail
 refine (hset.out _).mono ?_
 rintro _ w2 ⟨rfl,hb2⟩
 replace hB:=hB.trans (hb2.mono hB.size)
 clear hb2 cp0 cp1 cp2
 go_wp2_with fail
 go_ret2
 exact ⟨rfl,hB⟩
end
section
open Go.RowKit Go.Sort Go.Maps
open Oct
set_option maxRecDepth 100000 in
set_option maxHeartbeats 2000000 in
theorem ref_crop (a b c d e f a2 b2 c2 d2 e2 f2:Int) (n:Nat) (hb:Option Addr) (hcp2:Nat) (ys:List Int) (hok:okB ⟨⟨a,b,c⟩,⟨d,e,f⟩⟩=true) (he:emptyB ⟨⟨a,b,c⟩,⟨d,e,f⟩⟩=false) (hV:volB ⟨⟨a,b,c⟩,⟨d,e,f⟩⟩=n) (hle:n≤5000) (HX:GoodG ⟨⟨a2,b2,c2⟩,⟨d2,e2,f2⟩⟩ ys hcp2) (w:World) (hsm:Sl w .i64 hb ys) :
 Calls Tryz.prog 28 #[.agg #[a2,b2,c2,d2,e2,f2,.slice hb ys.length hcp2],.agg #[a,b,c,d,e,f]] w fun e' w' => ∃ g cap,e' = .returned (.tuple #[.agg #[a,b,c,d,e,f,.slice (some ⟨g,0,none⟩) n cap],(0:Int)])∧Sl w' .i64 (some ⟨g,0,none⟩) (cellsOf ⟨⟨a,b,c⟩,⟨d,e,f⟩⟩ (cellG ⟨⟨a2,b2,c2⟩,⟨d2,e2,f2⟩⟩ ys))∧Below w.heap.size w w':=by
 have hnew:=Bx.mk fun W=>ref_new a b c d e f hok he n hV hle W
 have hpos:0<n:=by have:=atB_pos he;omega
 have hpas:=Bx.mk fun (pb po cap:Nat) W (h:Sl W .i64 (some ⟨pb,po,none⟩) (List.replicate n 0)) (h':Sl W .i64 hb ys)=>ref_paste a b c d e f a2 b2 c2 d2 e2 f2 pb po n cap hb hcp2 ys (okB_small hok) hV hpos hle HX W h h'
 have Hsm:=Bx.mk hsm
 clear hok he hV HX hsm
 generalize cellsOf ⟨⟨a,b,c⟩,⟨d,e,f⟩⟩ (cellG ⟨⟨a2,b2,c2⟩,⟨d2,e2,f2⟩⟩ ys)=zs at *
 go_enter Tryz.func28,Tryz.ntmps28
 go_wp2_with fail
 generalize hW:World.alloc (World.alloc (World.alloc w _) _) _=W
 have hSz:=sz3 hW
 have hB:=bl3 hW
 have kg:Bk W (w.heap.size) #[a2,b2,c2,d2,e2,f2,.slice hb ys.length hcp2] 28:=bk2 hW
 have kc:Bk W (w.heap.size+1) #[a,b,c,d,e,f] 25:=bk1 hW
 have kr:Bk W (w.heap.size+1+1) #[(0:Int),(0:Int),(0:Int),(0:Int),(0:Int),(0:Int),.slice none 0 0] 28:=bk0 hW
 clear hW
 obtain ⟨cc0,cc1,cc2,cc3,cc4,cc5⟩:=kc.c6
 go_wp2_with fail
 refine (hnew.out _).mono ?_
 rintro _ w1 ⟨g1,cap,rfl,hown,hb1⟩
 have Hz:=Bx.mk hown.sl
 replace hB:=hB.trans (hb1.mono hB.size)
 replace kg:=kg.later hb1
 replace kc:=kc.later hb1
 replace kr:=kr.later hb1
 replace hSz:=Nat.le_trans hSz hb1.size
 clear hb1
 clear cc0 cc1 cc2 cc3 cc4 cc5
 clear hown
 have cg0 : ∀ o,(w1.alloc o).cell? ⟨w.heap.size,0,none⟩=some (.int .i64 a2):=fun o=>Bk.cell (blk_old kg) 0 rfl
 have cg1 : ∀ o,(w1.alloc o).cell? ⟨w.heap.size,1,none⟩=some (.int .i64 b2):=fun o=>Bk.cell (blk_old kg) 1 rfl
 have cg2 : ∀ o,(w1.alloc o).cell? ⟨w.heap.size,2,none⟩=some (.int .i64 c2):=fun o=>Bk.cell (blk_old kg) 2 rfl
 have cg3 : ∀ o,(w1.alloc o).cell? ⟨w.heap.size,3,none⟩=some (.int .i64 d2):=fun o=>Bk.cell (blk_old kg) 3 rfl
 have cg4 : ∀ o,(w1.alloc o).cell? ⟨w.heap.size,4,none⟩=some (.int .i64 e2):=fun o=>Bk.cell (blk_old kg) 4 rfl
 have cg5 : ∀ o,(w1.alloc o).cell? ⟨w.heap.size,5,none⟩=some (.int .i64 f2):=fun o=>Bk.cell (blk_old kg) 5 rfl
 have cg6 : ∀ o,(w1.alloc o).cell? ⟨w.heap.size,6,none⟩=some (.slice hb ys.length hcp2):=fun o=>Bk.cell (blk_old kg) 6 rfl
 go_wp2_with fail
 generalize hW3:World.alloc w1 _=V3
 have hb3:=bl1 hW3
 have Hz3:=Bx.mk (Hz.out.below hb3)
 replace hB:=hB.trans (hb3.mono hB.size)
 replace kg:=kg.later hb3
 replace kc:=kc.later hb3
 replace kr:=kr.later hb3
 replace hSz:=Nat.le_trans hSz hb3.size
 clear hb3
 clear hW3 cg0 cg1 cg2 cg3 cg4 cg5 cg6 Hz
 refine (hpas.out _ _ _ _ Hz3.out (Hsm.out.below hB)).mono ?_
 rintro _ w4 ⟨g2,cap2,rfl,hown,hb4⟩
 have hg2:=hown.lt g2 rfl
 have Hz4:=Bx.mk hown.sl
 have hSz4:=hSz
 replace hB:=hB.trans (hb4.mono hB.size)
 replace kg:=kg.later hb4
 replace kc:=kc.later hb4
 replace kr:=kr.later hb4
 replace hSz:=Nat.le_trans hSz hb4.size
 clear hb4
 obtain ⟨cr0,cr1,cr2,cr3,cr4,cr5,cr6⟩:=kr.c7
 obtain ⟨fr0,fr1,fr2,fr3,fr4,fr5,fr6⟩:=kr.f7
 clear hown Hz3
 go_wp2_with fail
 have kr2:=kr.put7 (.int .i64 a) (.int .i64 b) (.int .i64 c) (.int .i64 d) (.int .i64 e) (.int .i64 f) (.slice (some ⟨g2,0,none⟩) n cap2)
 have hB2:=Bx.mk (blw7 hB (show w.heap.size≤w.heap.size+1+1 by omega) (.int .i64 a) (.int .i64 b) (.int .i64 c) (.int .i64 d) (.int .i64 e) (.int .i64 f) (.slice (some ⟨g2,0,none⟩) n cap2))
 have hS2:=Bx.mk (sl_put7 Hz4.out (show g2 ≠ w.heap.size+1+1 by omega) (.int .i64 a) (.int .i64 b) (.int .i64 c) (.int .i64 d) (.int .i64 e) (.int .i64 f) (.slice (some ⟨g2,0,none⟩) n cap2))
 obtain ⟨z0,z1,z2,z3,z4,z5,z6⟩:=kr2.c7
 exact bodyPost_ret (v:=.tuple #[.agg #[a,b,c,d,e,f,.slice (some ⟨g2,0,none⟩) n cap2],(0:Int)]) (by simp [results,Tryz.results28,go_sem,z0,z1,z2,z3,z4,z5,z6]) rfl ⟨g2,cap2,rfl,hS2.out,hB2.out⟩
end
end Go.Proofs.YtfcbajmjaifjlaaGreat
