/- Lrj, Lrw, Ini, Lmm, Lhd: joined by program, for one claim. -/
import Derived.Test.YtgnfgblkpnfcnaaGreatDoorM31
set_option maxHeartbeats 2000000
set_option maxRecDepth 100000
set_option linter.unusedVariables false
set_option linter.unusedSimpArgs false
namespace Go.Proofs.YtgnfgblkpnfcnaaGreatDoor
section
open Go.RowKit Go.Sort Go.Maps
open Oct
theorem zGs (M:Int) (w:World):Calls Tryz.prog 100 #[M] w fun e w'=>e = .returned (.agg #[(0:Int),(0:Int),(0:Int),M,M,M])∧Below w.heap.size w w':=by
 go_enter Tryz.func100,Tryz.ntmps100;go_wp2_with fail;exact bodyPost_ret (v:=.agg #[(0:Int),(0:Int),(0:Int),M,M,M]) (by simp [results,Tryz.results100,go_sem]) rfl ⟨rfl,(Below.refl _ _).alloc (Nat.le_refl _) _⟩
theorem zGk (W:World) (i:Nat) (hi:i<64):Calls Tryz.prog 99 #[.agg #[(0:Int),(0:Int),(0:Int),(4:Int),(4:Int),(4:Int)],(i:Int)] W fun e w'=>e = .returned (.tuple #[.agg #[.int .i64 ((i:Int) % 4),.int .i64 ((i:Int) / 4 % 4),.int .i64 ((i:Int) / 16)],.bool true])∧Below W.heap.size W w':=by
 have hv:zAC ⟨⟨0,0,0⟩,⟨4,4,4⟩⟩=64:=by decide
 have hs:zv ⟨⟨0,0,0⟩,⟨4,4,4⟩⟩=⟨4,4,4⟩:=by decide
 have h:=zKa 0 0 0 4 4 4 (i:Int) (by constructor <;> decide) (by rw [hv];omega) W
 have ha:atB ⟨⟨0,0,0⟩,⟨4,4,4⟩⟩ (i:Int)=⟨(i:Int) % 4,(i:Int) / 4 % 4,(i:Int) / 16⟩:=by
  unfold atB;rw [hv,hs,if_pos (by omega)]
  simp only [Pt.mk.injEq];omega
 rw [ha] at h;exact h
theorem zGH (f:Pt→Int) (i:Nat):l8 (fun k=>f ⟨2 * ((i:Int) % 4)+(k:Int) % 2,2 * ((i:Int) / 4 % 4)+(k:Int) / 2 % 2,2 * ((i:Int) / 16)+(k:Int) / 4⟩)=zDq f (Tr.cellAt ⟨0,0,0⟩ i):=by
 unfold l8 zDq;refine List.map_congr_left fun k _=>congrArg f ?_;simp only [Tr.cellAt,Pt.mk.injEq];omega
theorem zHH (ta:Option Addr) (tc:Nat) (L:List Mat) (hl:L.length≤1000000000) (f:Pt→Int) (hf : ∀ p,0≤f p∧f p≤255) (w:World) (hT:SlM w ta L) (ch:Fin 8→Tr) (he:trF 1 f = .node 3 ch) :
 Calls Tryz.prog 42 #[.slice ta L.length tc,.string (strOfNums (Tr.enc (trF 1 f))),(3:Int)] w fun e w'=>e = .returned (.string (strOfNums (Tr.enc (trF 0 (zT (zx L) f)))))∧Below w.heap.size w w':=by
 have hw:=zAD hf 1 ⟨0,0,0⟩ (by omega)
 refine zHG ta L.length tc _ _ 110 (fun i k=>f ⟨2 * ((i:Int) % 4)+(k:Int) % 2,2 * ((i:Int) / 4 % 4)+(k:Int) / 2 % 2,2 * ((i:Int) / 16)+(k:Int) / 4⟩) (fun i=>zT (zx L) f (Tr.cellAt ⟨0,0,0⟩ i)) w (fun W=>?_) rfl ⟨fun W=>zGs 4 W⟩ ⟨fun W i hi=>zGk W i hi⟩ ⟨fun W hb i hi=>?_⟩ ⟨fun W hb i hi=>?_⟩ ⟨fun W a cap hb hs=>?_⟩
 · have h:=zW (P:=Tryz.prog) 9 Tryz.underlying9 (Tr.enc_byt _ hw) (k:=0) (x:=110) (by rw [show Tr.can f 1 ⟨0,0,0⟩ = .node 3 ch from he];simp [Tr.enc]) W
   exact h
 · refine zGu _ f _ _ _ _ W (by omega) (fun k hk=>rfl) ⟨fun W' _ x y z hx hy hz=>?_⟩
   have h:=zAT 1 (by omega) f hf x y z (zX.2 (by simp only [zL,Pt.zero];omega)) W'
   exact h
 · have h:=zHM ta tc L (fun k=>f ⟨2 * ((i:Int) % 4)+(k:Int) % 2,2 * ((i:Int) / 4 % 4)+(k:Int) / 2 % 2,2 * ((i:Int) / 16)+(k:Int) / 4⟩) (fun k _=>hf _) hl W (hT.below hb);rw [zGH] at h;rw [zDm];exact h
 · refine zKP a cap _ W (by simp) ?_ hs
   rw [List.all_eq_true];intro x hx;obtain ⟨k,_,rfl⟩:=List.mem_map.1 hx;obtain ⟨q,e,_⟩:=zg (zEy (zx L) f (Tr.cellAt ⟨0,0,0⟩ k)).mem;have:=hf q;simp only [Pal.cell];rw [e];simp;omega
theorem zDu (f:Pt→Int) (hf : ∀ p,0≤f p∧f p≤255) (n:Nat) (hn:n≤13) (a:Pt):(Tr.enc (Tr.can f n a)).length≤1000000000000000:=by
 have h:=Tr.enc_small n _ (zAD hf n a (by omega)) (zML f n a)
 have h8:8 ^ n≤8 ^ 13:=Nat.pow_le_pow_right (by decide) hn
 have:(8:Nat) ^ 13=549755813888:=by decide
 omega
theorem zH4 (Z:Nat→ByteArray) (K:Nat→ByteArray) (ch:Fin 8→Tr) (h : ∀ k (hk:k<8),K k=strOfNums (Tr.enc (ch ⟨k,hk⟩))):zHy K Z 0=zy (za ch):=by
 apply List.ext_getElem?;intro j;by_cases hj:j<8
 · rw [zHz K Z hj,zMy (zF7 ch hj),if_neg (by omega),h j hj]
 · rw [List.getElem?_eq_none (by rw [zH0];omega),List.getElem?_eq_none (by rw [zz,zb];omega)]
theorem zH5 (Z:Nat→ByteArray) (K:Nat→ByteArray) (ch:Fin 8→Tr) (h : ∀ k (hk:k<8),K k=strOfNums (Tr.enc (ch ⟨k,hk⟩))):zHy Z K 8=zy (za ch):=by
 apply List.ext_getElem?;intro j;by_cases hj:j<8
 · rw [zHz Z K hj,zMy (zF7 ch hj),if_pos hj,h j hj]
 · rw [List.getElem?_eq_none (by rw [zH0];omega),List.getElem?_eq_none (by rw [zz,zb];omega)]
theorem zIT (f:Pt→Int) (hf : ∀ p,0≤f p∧f p≤255) (n:Nat) (hn:n≤12) (d:Nat) (K:Fin 8→Tr) (hK : ∀ i,∃ a,K i=Tr.can f n a):(Tr.enc (.node d K)).length≤1000000000000000:=by
 have hk:=fun i=>(show (Tr.enc (K i)).length≤100000000000000 by obtain ⟨a,h⟩:=hK i;rw [h];exact zCF hf hn _)
 rw [←Tr.pos_all d K]
 have key : ∀ k,k≤8→Tr.pos K k≤2+k * 100000000000000:=by
  intro k
  induction k with
  | zero=>intro _;rw [Tr.pos_zero];omega
  | succ k ih=>intro hk8;rw [Tr.pos_succ K (by omega)];have h1:=ih (by omega);have h2:=hk ⟨k,by omega⟩;omega
 have:=key 8 (Nat.le_refl _);omega
theorem zEx (s:Int→Bool) (f:Pt→Int) (d:Pt):zT s (shf (zDF d) f)=shf d (zT s f):=by
 funext p
 unfold zT shf zDq
 congr 1
 refine List.map_congr_left fun k _=>congrArg f ?_;simp only [zDF,Pt.mk.injEq];omega
theorem zDI (n i:Nat):Tr.cor ⟨0,0,0⟩ (n+1) i=zDF (Tr.cor ⟨0,0,0⟩ n i):=zDH ⟨0,0,0⟩ n i
theorem zCD (d:Pt) (f:Pt→Int) (n:Nat):trF n (shf d f)=Tr.can f n d:=by
 rw [trF,zCE];simp
theorem zHF (ta:Option Addr) (tc:Nat) (L:List Mat) (hl:L.length≤1000000000) : ∀ (n:Nat),n≤11 → ∀ (f:Pt→Int),(∀ p,0≤f p∧f p≤255) → ∀ (w:World),SlM w ta L →
 Calls Tryz.prog 42 #[.slice ta L.length tc,.string (strOfNums (Tr.enc (trF (n+1) f))),.int .i64 ((n:Int)+3)] w fun e w'=>e = .returned (.string (strOfNums (Tr.enc (trF n (zT (zx L) f)))))∧Below w.heap.size w w':=by
 intro n
 induction n with
 | zero =>
   intro hn f hf w hT;rcases zB6 f 1 ⟨0,0,0⟩ with ⟨c,hc⟩ | ⟨h,_⟩ | ⟨m,ch,hm,he,hch⟩
   · have hw:=zAD hf 1 ⟨0,0,0⟩ (by omega)
     have hu:trF 0 (zT (zx L) f) = .uni c:=zE1 (al0 0) hc;rw [hc] at hw;rw [hu,show trF 1 f = .uni c from hc];exact zHJ ta L.length tc _ _ w fun W=>zW (P:=Tryz.prog) 9 Tryz.underlying9 (Tr.enc_byt _ hw) (k:=0) (x:=117) (by simp [Tr.enc]) W
   · omega
   · obtain rfl:m=0:=by omega
     exact zHH ta tc L hl f hf w hT ch he
 | succ n ih =>
   intro hn f hf w hT;rcases zB6 f (n+2) ⟨0,0,0⟩ with ⟨c,hc⟩ | ⟨h,_⟩ | ⟨m,ch,hm,he,hch⟩
   · have hw:=zAD hf (n+2) ⟨0,0,0⟩ (by omega)
     have hu:trF (n+1) (zT (zx L) f) = .uni c:=zE1 (al0 (n+1)) hc;rw [hc] at hw;rw [hu,show trF (n+1+1) f = .uni c from hc];exact zHJ ta L.length tc _ _ w fun W=>zW (P:=Tryz.prog) 9 Tryz.underlying9 (Tr.enc_byt _ hw) (k:=0) (x:=117) (by simp [Tr.enc]) W
   · omega
   · obtain rfl:m=n+1:=by omega
     have hw:=zAD hf (n+2) ⟨0,0,0⟩ (by omega)
     have hb:=zDu f hf (n+2) (by omega) ⟨0,0,0⟩
     have hfh : ∀ p,0≤zT (zx L) f p∧zT (zx L) f p≤255:=fun p=>by
      obtain ⟨q,e,_⟩:=zg (zEy (zx L) f p).mem;rw [e];exact hf q
     rw [show trF (n+1+1) f = .node (n+1+3) ch from he];rw [he] at hw hb;have hdd:(((n+1:Nat):Int)+3) - 1=(n:Int)+3:=by omega
     refine zHI ta L.length tc _ _ 110 _ (fun k=>strOfNums (Tr.enc (Tr.can f (n+1) (Tr.cor ⟨0,0,0⟩ (n+1) k)))) (fun k=>strOfNums (Tr.enc (Tr.can (zT (zx L) f) n (Tr.cor ⟨0,0,0⟩ n k)))) w (fun W=>zW (P:=Tryz.prog) 9 Tryz.underlying9 (Tr.enc_byt _ hw) (k:=0) (x:=110) (by simp [Tr.enc]) W) rfl (by omega) ⟨fun W=>?_⟩ ⟨fun W hbW k hk=>?_⟩ ⟨fun W g pc hbW hs=>?_⟩
     · have h:=zKS (n+1+3) ch hw hb W;rw [←zH4 (fun k=>strOfNums (Tr.enc (Tr.can (zT (zx L) f) n (Tr.cor ⟨0,0,0⟩ n k)))) (fun k=>strOfNums (Tr.enc (Tr.can f (n+1) (Tr.cor ⟨0,0,0⟩ (n+1) k)))) ch (fun k hk=>by rw [hch])] at h
       exact h
     · have h:=ih (by omega) (shf (Tr.cor ⟨0,0,0⟩ (n+1) k) f) (fun p=>hf _) W (hT.below hbW)
       rw [zCD] at h;rw [zDI n k,zEx,zCD,←zDI n k] at h;rw [hdd];exact h
     · have h:=zKW (n+3) (by omega) (fun i:Fin 8=>Tr.can (zT (zx L) f) n (Tr.cor ⟨0,0,0⟩ n i.val)) (fun i=>zAD hfh n _ (by omega)) ?_ (some ⟨g,0,none⟩) pc W (by
        rw [←zH5 (fun k=>strOfNums (Tr.enc (Tr.can f (n+1) (Tr.cor ⟨0,0,0⟩ (n+1) k)))) (fun k=>strOfNums (Tr.enc (Tr.can (zT (zx L) f) n (Tr.cor ⟨0,0,0⟩ n k)))) _ (fun k hk=>rfl)];exact hs)
       · rw [hdd,show (n:Int)+3=((n+3:Nat):Int) by omega]
         exact h
       · exact zIT _ hfh n (by omega) _ _ fun i=>⟨_,rfl⟩
theorem zFF (x:Nat→Int) (k:Nat) (hk:k<8) (W:World):(Instr.index 54 (.agg #[.int .i64 (x 0),.int .i64 (x 1),.int .i64 (x 2),.int .i64 (x 3),.int .i64 (x 4),.int .i64 (x 5),.int .i64 (x 6),.int .i64 (x 7)]) (.int .i64 (k:Int))).run Tryz.prog W = .ok (.int .i64 (x k)) W:=by
 have hu:=Tryz.underlying54;have h0:k=0∨k=1∨k=2∨k=3∨k=4∨k=5∨k=6∨k=7:=by omega
 have h1 : Tryz.prog.cellsOf 3=1:=by kernel_rfl
 rcases h0 with rfl | rfl | rfl | rfl | rfl | rfl | rfl | rfl
 all_goals
  simp [Instr.index,run_underlying hu,asIntOf,go_sem]
def zDO:Tr→Int
 | .uni _=>0
 | .brick _=>2
 | .node d _=>d
def zIk (t:Tr) (d:Int):Prop:=(∃ c,t = .uni c)∨zDO t=d - 1
theorem zAV (w:World) (Far:Nat→Prop) (sb:Nat) (most:Int) (ts:List Tr) (d:Int) (hd:3≤d∧d≤14) (x:Nat→Int) (HK:Bx (∀ k,k<8 → ∃ t,t∈ts∧x k=idT ts t∧zIk t d)) (_hlen:ts.length≤1000000000000) (hS:StoreIs w Far sb most ts) (R:Ending→World→Prop) (hR : ∀ e w',R e w' → ∃ i er,e=zLK i er)
 (hin:Bx (∀ W,Below w.heap.size w W→Calls Tryz.prog 70 #[.pointer (some ⟨sb,0,none⟩),d,.agg #[.int .i64 (x 0),.int .i64 (x 1),.int .i64 (x 2),.int .i64 (x 3),.int .i64 (x 4),.int .i64 (x 5),.int .i64 (x 6),.int .i64 (x 7)]] W R)) :
 Calls Tryz.prog 106 #[.pointer (some ⟨sb,0,none⟩),d,.agg #[.int .i64 (x 0),.int .i64 (x 1),.int .i64 (x 2),.int .i64 (x 3),.int .i64 (x 4),.int .i64 (x 5),.int .i64 (x 6),.int .i64 (x 7)]] w R:=by
 have t1:decide (d≤2)=false:=by simp;omega
 have t2:decide (14<d)=false:=by simp;omega
 have hsub:IntKind.i64.wrap (d - 1)=d - 1:=IntWalk.i64_in _ (by omega)
 go_enter Tryz.func106,Tryz.ntmps106;go_wp2_with fail;generalize hW:World.alloc w _=W;have hSz:=sz1 hW;have hB:=bl1 hW;have ka:Bk W (w.heap.size) #[.int .i64 (x 0),.int .i64 (x 1),.int .i64 (x 2),.int .i64 (x 3),.int .i64 (x 4),.int .i64 (x 5),.int .i64 (x 6),.int .i64 (x 7)] 54:=bk0 hW;clear hW;have HS:Bx (StoreIs W Far sb most ts):=⟨hS.later hB⟩;obtain ⟨ca0,ca1,ca2,ca3,ca4,ca5,ca6,ca7⟩:=ka.c8;go_wp2_with fail;clear ca0 ca1 ca2 ca3 ca4 ca5 ca6 ca7
 go_loopw [17] (fun v wr => ∃ k:Nat,k≤8∧v = .int .i64 k∧wr=W) (fun i _=>8 - (intOf i).toNat)
 case atStart=>exact ⟨0,Nat.zero_le _,rfl,rfl⟩
 case round =>
  obtain ⟨k,hk,rfl,rfl⟩:=hrel;by_cases hlt:k<8
  · have t3:decide ((k:Int)<8)=true:=by simp;omega
    have hidx:=fun V=>zFF x k (by omega) V
    obtain ⟨t,hm,hx,hok⟩:=HK.out k hlt;cases t with
    | uni c =>
      clear hok;obtain ⟨g,cap,mb,ks,hi,hc⟩:=Bx.node HS.out hm (k:=1) (c:=c) rfl;have cs1:=ks.cell 1 rfl;have d0:=hc.out 0 _ (by omega) rfl
      have d3:=hc.out 3 _ (by omega) rfl
      rw [Nat.add_zero] at d0;have b1:(0:Int)≤(idT ts (.uni c):Int):=by omega
      have b2:(idT ts (.uni c):Int)<(ts.length:Int):=by omega
      have b3:decide ((idT ts (.uni c):Int)<0)=false:=by simp
      have b4:decide ((ts.length:Int)≤(idT ts (.uni c):Int))=false:=by simp;omega
      rw [hx] at hidx;clear ks hc hm hx;go_wp2_with fail
      go_roundw
      case rel=>exact ⟨k+1,by omega,by go_num,trivial⟩
      case measure=>simp [intOf];omega
    | brick l =>
      have e1:(2:Int)=d - 1:=hok.elim (fun ⟨c,h⟩=>by cases h) (fun h=>h)
      have e2:((2:Int) != d - 1)=false:=by simp;omega
      clear hok;obtain ⟨g,cap,mb,ks,hi,hc⟩:=Bx.node HS.out hm (k:=2) (s:=strOfNums l) rfl;have cs1:=ks.cell 1 rfl;have d0:=hc.out 0 _ (by omega) rfl
      have d3:=hc.out 3 _ (by omega) rfl
      rw [Nat.add_zero] at d0;have b1:(0:Int)≤(idT ts (.brick l):Int):=by omega
      have b2:(idT ts (.brick l):Int)<(ts.length:Int):=by omega
      have b3:decide ((idT ts (.brick l):Int)<0)=false:=by simp
      have b4:decide ((ts.length:Int)≤(idT ts (.brick l):Int))=false:=by simp;omega
      rw [hx] at hidx;clear ks hc hm hx;go_wp2_with fail
      go_roundw
      case rel=>exact ⟨k+1,by omega,by go_num,trivial⟩
      case measure=>simp [intOf];omega
    | node dk ch =>
      have e1:(dk:Int)=d - 1:=hok.elim (fun ⟨c,h⟩=>by cases h) (fun h=>h)
      have e2:((dk:Int) != d - 1)=false:=by simp;omega
      clear hok;obtain ⟨g,cap,mb,ks,hi,hc⟩:=Bx.node HS.out hm (k:=3) (s:=ByteArray.empty) rfl;have cs1:=ks.cell 1 rfl;have d0:=hc.out 0 _ (by omega) rfl
      have d3:=hc.out 3 _ (by omega) rfl
      rw [Nat.add_zero] at d0;have b1:(0:Int)≤(idT ts (.node dk ch):Int):=by omega
      have b2:(idT ts (.node dk ch):Int)<(ts.length:Int):=by omega
      have b3:decide ((idT ts (.node dk ch):Int)<0)=false:=by simp
      have b4:decide ((ts.length:Int)≤(idT ts (.node dk ch):Int))=false:=by simp;omega
      rw [hx] at hidx;clear ks hc hm hx;go_wp2_with fail
      go_roundw
      case rel=>exact ⟨k+1,by omega,by go_num,trivial⟩
      case measure=>simp [intOf];omega
  · obtain rfl:k=8:=by omega
    have t3:decide (((8:Nat):Int)<8)=false:=by decide
    obtain ⟨ca0,ca1,ca2,ca3,ca4,ca5,ca6,ca7⟩:=ka.c8;go_wp2_with fail;refine (hin.out _ hB).mono ?_;intro e7 w7 hr;have Hr:=Bx.mk hr;obtain ⟨i7,er7,rfl⟩:=hR _ _ hr;clear hr;go_wp2_with fail;exact Hr.out
end
section
open Go.RowKit Go.Sort Go.Maps
open Go.WideMaps (KeyLaw)
open Oct
theorem zJP:KeyLaw Tryz.prog 140:=deep_law_laid zIN (m:=3) (by omega) (of_decide_eq_true (by kernel_rfl)) (by kernel_rfl) (by kernel_rfl)
theorem zJO:Keyed Tryz.prog 140:=Keyed.of_law zJP
theorem zJM : Tryz.prog.cellsOf 140=2:=by kernel_rfl
theorem zJN : Tryz.prog.keyType 140=true:=by kernel_rfl
theorem zF0 (x y:Int) (h : ∀ q∈[x,y],(Lit.int .i64 q).wf=true) : ∃ kl,keyOf Tryz.prog 140 (.agg #[x,y])=some kl:=by
 simp only [List.mem_cons,List.not_mem_nil,or_false,forall_eq_or_imp,forall_eq] at h;obtain ⟨h1,h2⟩:=h;obtain ⟨m,hm⟩:=zNl;unfold keyOf;rw [Tryz.underlying140,hm];simp [zJN,Value.formed,Tryz.underlying140,zJM,Program.keyLits,Value.cells,Tryz.underlying3,zFj,h1,h2,List.range_succ,List.mapM_cons,List.mapM_nil]
theorem zeroIL (w:World):(zeroValue 3).run Tryz.prog w = .ok (.int .i64 0) w:=by kernel_rfl
noncomputable abbrev zFw (ts:List Tr) (T:Tr):Value:=.agg #[(idT ts T:Int),.int .i64 (zDO T)]
theorem zFx {ts:List Tr} {T U:Tr} (hT:T∈ts) (hU:U∈ts) (h:zFw ts T=zFw ts U):T=U:=by
 injection h with h;injection h with h;have h1:=(List.cons.inj h).1;injection h1 with _ h1;exact zU hT hU (by omega)
theorem zFy {ts:List Tr} (hlen:ts.length≤4000000) {T:Tr} (hT:T∈ts) (hd:0≤zDO T∧zDO T≤16) : ∃ kl,keyOf Tryz.prog 140 (zFw ts T)=some kl:=by
 have:=zFD hT;refine zF0 _ _ fun q hq=>?_;simp only [List.mem_cons,List.not_mem_nil,or_false] at hq;rcases hq with rfl | rfl <;> exact WalkArith.wf_i64 ⟨by omega,by omega⟩
structure Memo (w:World) (mb:Nat) (s:Int→Bool) (ts K:List Tr):Prop where
 nd:K.Nodup
 mem : ∀ T∈K,T∈ts∧zEs s T∈ts
 map : ∃ F,MapV 140 w mb K.length F∧(∀ T∈K,F (zFw ts T)=some (.int .i64 (idT ts (zEs s T):Int))) ∧ ∀ key v,F key=some v → ∃ T∈K,key=zFw ts T
theorem Memo.lt {w:World} {mb:Nat} {s:Int→Bool} {ts K:List Tr} (h:Memo w mb s ts K):mb<w.heap.size:=by
 obtain ⟨F,h1,_⟩:=h.map;exact h1.lt
theorem Memo.later {w w':World} {mb:Nat} {s:Int→Bool} {ts K:List Tr} (h:Memo w mb s ts K) (hb:w'.heap[mb]? = w.heap[mb]?):Memo w' mb s ts K:=by
 obtain ⟨F,h1,h2⟩:=h.map;exact ⟨h.nd,h.mem,F,h1.of_block hb,h2⟩
theorem Memo.grow {w:World} {mb:Nat} {s:Int→Bool} {ts us K:List Tr} (h:Memo w mb s ts K) (hp:ts <+: us):Memo w mb s us K:=by
 obtain ⟨F,h1,h2,h3⟩:=h.map;have key : ∀ T∈K,zFw us T=zFw ts T:=fun T hT=>by unfold zFw;rw [zV hp (h.mem T hT).1]
 refine ⟨h.nd,fun T hT=>⟨hp.subset (h.mem T hT).1,hp.subset (h.mem T hT).2⟩,F,h1,fun T hT=>?_,fun k v hk=>?_⟩
 · rw [key T hT,h2 T hT,zV hp (h.mem T hT).2]
 · obtain ⟨T,hT,e⟩:=h3 k v hk;exact ⟨T,hT,e.trans (key T hT).symm⟩
theorem Memo.new {w:World} {mb:Nat} (s:Int→Bool) (ts:List Tr) (h:MapV 140 w mb 0 fun _=>none):Memo w mb s ts [] :=
 ⟨by simp,fun T h=>by simp at h,_,h,fun T h=>by simp at h,fun key v h=>by cases h⟩
theorem Memo.look {w:World} {mb:Nat} {s:Int→Bool} {ts K:List Tr} (h:Memo w mb s ts K) (hlen:ts.length≤4000000) {T:Tr} (hT:T∈ts) (hd:0≤zDO T∧zDO T≤16) :
 (T∈K∧(Instr.lookup 136 (.map (some mb)) (zFw ts T) true).run Tryz.prog w = .ok (.tuple #[(idT ts (zEs s T):Int),.bool true]) w) ∨
 (T ∉ K∧(Instr.lookup 136 (.map (some mb)) (zFw ts T) true).run Tryz.prog w = .ok (.tuple #[(0:Int),.bool false]) w):=by
 obtain ⟨F,h1,h2,h3⟩:=h.map;obtain ⟨kl,hk⟩:=zFy hlen hT hd;have hr:=(MapV.look zJO Tryz.underlying136 (zeroIL w) h1 hk).2;by_cases hm:T∈K
 · refine .inl ⟨hm,?_⟩;rw [hr,h2 T hm];rfl
 · refine .inr ⟨hm,?_⟩;cases hf:F (zFw ts T) with
   | none=>rw [hr,hf];rfl
   | some v =>
     obtain ⟨U,hU,e⟩:=h3 _ v hf;exact absurd (zFx hT (h.mem U hU).1 e ▸ hU) hm
theorem Memo.len {w:World} {mb:Nat} {s:Int→Bool} {ts K:List Tr} (h:Memo w mb s ts K):K.length≤ts.length:=zIV K ts h.nd fun x hx=>(h.mem x hx).1
theorem Memo.put {w:World} {mb:Nat} {s:Int→Bool} {ts K:List Tr} (h:Memo w mb s ts K) (hlen:ts.length≤4000000) {T:Tr} (hT:T∈ts) (hd:0≤zDO T∧zDO T≤16) (hK:T ∉ K) (hh:zEs s T∈ts) :
 ∃ w',(Instr.mapUpdate 136 (.map (some mb)) (zFw ts T) (.int .i64 (idT ts (zEs s T):Int))).run Tryz.prog w = .ok () w'∧Memo w' mb s ts (K++[T])∧w.grownBy w' (some mb)∧w'.heap.size=w.heap.size:=by
 have hl:=h.len;obtain ⟨F,h1,h2,h3⟩:=h.map;obtain ⟨kl,hk⟩:=zFy hlen hT hd;obtain ⟨w',hr,m1,m2,m3⟩:=MapV.put zJO Tryz.underlying136 h1 (by unfold maxLen;omega) hk (.int .i64 (idT ts (zEs s T):Int))
 refine ⟨w',hr,⟨?_,?_,_,by simpa using m1,?_,?_⟩,m2,m3⟩
 · rw [List.nodup_append];exact ⟨h.nd,by simp,fun a ha b hb e=>by rw [List.mem_singleton.1 hb] at e;exact hK (e ▸ ha)⟩
 · intro U hU;rcases List.mem_append.1 hU with hU | hU
   · exact h.mem U hU
   · rw [List.mem_singleton.1 hU];exact ⟨hT,hh⟩
 · intro U hU;by_cases e:U=T
   · subst e;exact zJz _ _ _
   · have hUK:U∈K:=by
      rcases List.mem_append.1 hU with hU | hU
      · exact hU
      · exact absurd (List.mem_singleton.1 hU) e
     rw [zJy F _ (fun e'=>e (zFx (h.mem U hUK).1 hT e'))];exact h2 U hUK
 · intro key v hv;by_cases e:key=zFw ts T
   · exact ⟨T,by simp,e⟩
   · rw [zJy F _ e] at hv;obtain ⟨U,hU,e'⟩:=h3 key v hv;exact ⟨U,by simp [hU],e'⟩
end
section
open Go.RowKit Go.Sort Go.Maps
open Oct
theorem zG {w w':World} {Far:Nat→Prop} {b o:Nat} {v:Value} (hk:Keeps Far w w') (hf:Far b) (h:w.cell? ⟨b,o,none⟩=some v):w'.cell? ⟨b,o,none⟩=some v:=by
 rw [World.cell?_of_block (hk.block b hf (World.block_lt_of_cell? w _ h))];exact h
def FarM (Far:Nat→Prop) (mb:Nat):Nat→Prop:=fun x=>Far x∨x=mb
theorem FarM.mono {Far Far':Nat→Prop} {mb:Nat} (h : ∀ k,Far k→Far' k) : ∀ k,FarM Far mb k→FarM Far' mb k:=fun k hk=>hk.imp (h k) id
theorem SlM.far {w w':World} {Far:Nat→Prop} {a:Option Addr} {L:List Mat} (h:SlM w a L) (hk:Keeps Far w w') (hf:L ≠ [] → ∀ b,a.map (·.block)=some b→Far b):SlM w' a L:=by
 intro i m hm;obtain ⟨b,off,rfl,hc⟩:=h i m hm;refine ⟨b,off,rfl,fun j u hu=>zG hk (hf (by rintro rfl;simp at hm) b rfl) (hc j u hu)⟩
structure HCtx (w:World) (Far:Nat→Prop) (cb sb mb:Nat) (ta:Option Addr) (tc:Nat) (L:List Mat):Prop where
 kc:Bk w cb #[.pointer (some ⟨sb,0,none⟩),.slice ta L.length tc,.map (some mb)] 138
 tb:SlM w ta L
 fc:Far cb
 fm : ¬Far mb
 ft:L ≠ [] → ∀ b,ta.map (·.block)=some b→Far b
theorem HCtx.far {w w':World} {Far:Nat→Prop} {cb sb mb:Nat} {ta:Option Addr} {tc:Nat} {L:List Mat} (h:HCtx w Far cb sb mb ta tc L) (hk:Keeps Far w w'):HCtx w' Far cb sb mb ta tc L :=
 ⟨h.kc.far hk h.fc,h.tb.far hk h.ft,h.fc,h.fm,h.ft⟩
theorem HCtx.later {w w':World} {Far:Nat→Prop} {cb sb mb:Nat} {ta:Option Addr} {tc:Nat} {L:List Mat} (h:HCtx w Far cb sb mb ta tc L) (hb:Below w.heap.size w w'):HCtx w' Far cb sb mb ta tc L:=h.far (Keeps.below hb)
theorem HCtx.wider {w:World} {Far Far':Nat→Prop} {cb sb mb:Nat} {ta:Option Addr} {tc:Nat} {L:List Mat} (h:HCtx w Far cb sb mb ta tc L) (hf : ∀ k,Far k→Far' k) (hm : ¬Far' mb):HCtx w Far' cb sb mb ta tc L :=
 ⟨h.kc,h.tb,hf _ h.fc,hm,fun hL b hb=>hf _ (h.ft hL b hb)⟩
structure HD (Far:Nat→Prop) (mb sb:Nat) (most:Int) (s:Int→Bool) (ts ts':List Tr) (B:Nat) (H:Tr) (K:List Tr) (w:World) (e:Ending) (w':World):Prop where
 keeps:Keeps Far w w'
 way:(Tr.Fits most ts ts'∧e=zLK (idT ts' H:Int) 0∧StoreIs w' (FarM Far mb) sb most ts' ∧ ∃ K',Memo w' mb s ts' K' ∧ ∀ x∈K',x∈K∨Tr.sz x<B) ∨
  (¬Tr.Fits most ts ts'∧e=zLK 0 14 ∧ ∃ us,Good us∧ts <+: us∧us <+: ts'∧StoreIs w' (FarM Far mb) sb most us)
theorem HD.since {Far Far':Nat→Prop} {mb sb:Nat} {most:Int} {s:Int→Bool} {ts ts':List Tr} {B:Nat} {H:Tr} {K:List Tr} {w W w':World} {e:Ending} (h:HD Far' mb sb most s ts ts' B H K W e w') (hb:Below w.heap.size w W) (hf : ∀ k,Far k→Far' k):HD Far mb sb most s ts ts' B H K w e w':=by
 refine ⟨(Keeps.below hb).trans (h.keeps.less hf),?_⟩;rcases h.way with ⟨h1,h2,h3,h4⟩ | ⟨h1,h2,us,g1,g2,g3,g4⟩
 · exact .inl ⟨h1,h2,h3.less (FarM.mono hf),h4⟩
 · exact .inr ⟨h1,h2,us,g1,g2,g3,g4.less (FarM.mono hf)⟩
theorem HD.ends {Far:Nat→Prop} {mb sb:Nat} {most:Int} {s:Int→Bool} {ts ts':List Tr} {B:Nat} {H:Tr} {K:List Tr} {w w':World} {e:Ending} (h:HD Far mb sb most s ts ts' B H K w e w') : ∃ i er,e=zLK i er:=by
 rcases h.way with ⟨_,h,_⟩ | ⟨_,h,_⟩ <;> exact ⟨_,_,h⟩
theorem HD.same {Far:Nat→Prop} {mb sb:Nat} {most:Int} {s:Int→Bool} {ts:List Tr} {B:Nat} {H:Tr} {K:List Tr} {w w':World} (hb:Below w.heap.size w w') (hS:StoreIs w (FarM Far mb) sb most ts) (hK:Memo w mb s ts K) (hH:H∈ts):HD Far mb sb most s ts (Tr.add H ts) B H K w (zLK (idT ts H:Int) 0) w':=by
 rw [Tr.add_same _ _ hH];exact ⟨Keeps.below hb,.inl ⟨.inl rfl,rfl,hS.later hb,K,hK.later (hb.block _ hK.lt),fun x hx=>.inl hx⟩⟩
theorem HD.made {Far:Nat→Prop} {mb sb:Nat} {most:Int} {s:Int→Bool} {ts ts':List Tr} {B:Nat} {H:Tr} {K:List Tr} {w w':World} {e:Ending} (h:Grew (FarM Far mb) sb most ts ts' H w e w') (hp:ts <+: ts') (hK:Memo w mb s ts K):HD Far mb sb most s ts ts' B H K w e w':=by
 refine ⟨h.keeps.less fun k hk=>.inl hk,?_⟩;rcases h.way with ⟨h1,h2,h3⟩ | ⟨h1,h2,h3⟩
 · exact .inl ⟨h1,h2,h3,K,(hK.later (h.keeps.block _ (.inr rfl) hK.lt)).grow hp,fun x hx=>.inl hx⟩
 · exact .inr ⟨h1,h2,h3⟩
end
end Go.Proofs.YtgnfgblkpnfcnaaGreatDoor
