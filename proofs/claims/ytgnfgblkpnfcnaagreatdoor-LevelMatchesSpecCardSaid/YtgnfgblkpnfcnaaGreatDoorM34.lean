/- Lhc, Lhe, RlP: joined by program, for one claim. -/
import Derived.Test.YtgnfgblkpnfcnaaGreatDoorM33
set_option maxHeartbeats 1000000
set_option linter.unusedVariables false
set_option linter.unusedSimpArgs false
namespace Go.Proofs.YtgnfgblkpnfcnaaGreatDoor
section
open Go.RowKit Go.Sort Go.Maps
open Oct
theorem zIl (f:Pt→Int) (n:Nat) (a:Pt):zIk (Tr.can f n a) ((n:Int)+3):=by
 cases n with
 | zero =>
   show zIk (Tr.mkBrick _) _
   unfold Tr.mkBrick;split
   · exact .inl ⟨_,rfl⟩
   · right;show (2:Int)=_;omega
 | succ n =>
   show zIk (Tr.mkInner (n+3) _) _
   unfold Tr.mkInner;split
   · rename_i h;obtain ⟨⟨c,hc⟩,-⟩:=h;exact .inl ⟨c,hc⟩
   · right;show ((n+3:Nat):Int)=_;omega
theorem zFe (w:World) (Far:Nat→Prop) (sb:Nat) (most:Int) (ts:List Tr) (n:Nat) (hn:n≤11) (ch:Nat→Tr) (hch : ∀ i:Fin 8,ch i.val∈ts) (hok : ∀ i:Nat,zIk (ch i) ((n:Int)+3)) (hG:Good ts) (hlen:ts.length≤4000000) (hFar : ∀ k,Far k→k<w.heap.size) (hS:StoreIs w Far sb most ts) :
 Calls Tryz.prog 106 #[.pointer (some ⟨sb,0,none⟩),.int .i64 ((n:Int)+3),.agg #[(idT ts (ch 0):Int),(idT ts (ch 1):Int),(idT ts (ch 2):Int),(idT ts (ch 3):Int),(idT ts (ch 4):Int),(idT ts (ch 5):Int),(idT ts (ch 6):Int),(idT ts (ch 7):Int)]] w (Grew Far sb most ts (Tr.add (Tr.mkInner (n+3) (fun i=>ch i.val)) ts) (Tr.mkInner (n+3) (fun i=>ch i.val)) w):=by
 refine zAV w Far sb most ts ((n:Int)+3) (by omega) (fun k=>(idT ts (ch k):Int)) ⟨fun k hk=>⟨ch k,hch ⟨k,hk⟩,rfl,hok k⟩⟩ (by omega) hS _ (fun e w' h=>by obtain ⟨i,er,h,-⟩:=h.ends;exact ⟨i,er,h⟩) ⟨fun W hb=>?_⟩
 have h:=zFa W Far sb most ts (n+3) (by omega) (fun i:Fin 8=>ch i.val) hch hG (by omega) (fun k hk=>Nat.lt_of_lt_of_le (hFar k hk) hb.size) (hS.later hb)
 rw [show ((n+3:Nat):Int)=(n:Int)+3 by omega] at h
 exact h.mono fun e w' hg=>⟨(Keeps.below hb).trans hg.keeps,Nat.le_trans hb.size hg.size,hg.way⟩
theorem row8 {w:World} {g:Nat} {t:TypeId} {y:Nat→Int} (h:w.rowIs g t 8 fun j=>.int .i64 (y j)):Bk w g #[.int .i64 (y 0),.int .i64 (y 1),.int .i64 (y 2),.int .i64 (y 3),.int .i64 (y 4),.int .i64 (y 5),.int .i64 (y 6),.int .i64 (y 7)] t:=by
 obtain ⟨cs,hb,hs,hc⟩:=h
 have e:cs=#[.int .i64 (y 0),.int .i64 (y 1),.int .i64 (y 2),.int .i64 (y 3),.int .i64 (y 4),.int .i64 (y 5),.int .i64 (y 6),.int .i64 (y 7)]:=by
  apply Array.ext_getElem?;intro j;rcases j with _ | _ | _ | _ | _ | _ | _ | _ | j
  all_goals first
   | (rw [hc _ (by omega)];rfl)
   | (rw [Array.getElem?_eq_none (by omega),Array.getElem?_eq_none (by simp)])
 rw [←e];exact hb
theorem zLV {w:World} {g:Nat} {t:TypeId} {y:Nat→Int} (h:Bk w g #[.int .i64 (y 0),.int .i64 (y 1),.int .i64 (y 2),.int .i64 (y 3),.int .i64 (y 4),.int .i64 (y 5),.int .i64 (y 6),.int .i64 (y 7)] t):w.rowIs g t 8 fun j=>.int .i64 (y j) :=
 ⟨_,h,rfl,fun i hi=>by rcases i with _ | _ | _ | _ | _ | _ | _ | _ | i;all_goals first | rfl | omega⟩
structure HJI (w:World) (Far:Nat→Prop) (cb sb mb:Nat) (ta:Option Addr) (tc:Nat) (L:List Mat) (most:Int) (ts K:List Tr) (B:Nat) (chT chH:Nat→Tr) (gk k:Nat) (wr:World):Prop where
 store:StoreIs wr (FarM (fun x=>Far x∨(w.heap.size≤x∧x≤gk)) mb) sb most (Tr.addK (fun i=>chH i.val) k ts)
 fits:Tr.Fits most ts (Tr.addK (fun i=>chH i.val) k ts)
 memo : ∃ K',Memo wr mb (zx L) (Tr.addK (fun i=>chH i.val) k ts) K' ∧ ∀ x∈K',x∈K∨Tr.sz x<B
 row:wr.rowIs gk 54 8 (fun j=>.int .i64 (if j<k then (idT (Tr.addK (fun i=>chH i.val) k ts) (chH j):Int) else (idT ts (chT j):Int)))
 keeps:Keeps Far w wr
 size:gk<wr.heap.size
 ge:w.heap.size≤gk
theorem zE9 {w wr w5:World} {Far:Nat→Prop} {cb sb mb:Nat} {ta:Option Addr} {tc:Nat} {L:List Mat} {most:Int} {ts K:List Tr} {B:Nat} {chT chH:Nat→Tr} {gk k:Nat} (HF : ∀ k,Far k→k<w.heap.size) (hmb:mb<w.heap.size) (hk:k<8) {Kk:List Tr}
 (hI:HJI w Far cb sb mb ta tc L most ts K B chT chH gk k wr) (hKk : ∀ x∈Kk,x∈K∨Tr.sz x<B) (hT:Tr.sz (chT k)<B)
 (hD:HD (fun x=>Far x∨(w.heap.size≤x∧x≤gk)) mb sb most (zx L) (Tr.addK (fun i=>chH i.val) k ts) (Tr.addK (fun i=>chH i.val) (k+1) ts) (Tr.sz (chT k)+1) (chH k) Kk wr (zLK (idT (Tr.addK (fun i=>chH i.val) (k+1) ts) (chH k):Int) 0) w5)
 (hf:Tr.Fits most (Tr.addK (fun i=>chH i.val) k ts) (Tr.addK (fun i=>chH i.val) (k+1) ts)) :
 HJI w Far cb sb mb ta tc L most ts K B chT chH gk (k+1) (w5.setCell ⟨gk,k,none⟩ (.int .i64 (idT (Tr.addK (fun i=>chH i.val) (k+1) ts) (chH k):Int))):=by
 have hg:=zS w5 ⟨gk,k,none⟩ (.int .i64 (idT (Tr.addK (fun i=>chH i.val) (k+1) ts) (chH k):Int));have hp1:=Tr.addK_prefix (fun i:Fin 8=>chH i.val) k (by omega) ts
 have hp2:Tr.addK (fun i:Fin 8=>chH i.val) k ts <+: Tr.addK (fun i:Fin 8=>chH i.val) (k+1) ts:=zAo (by omega) (by omega)
 have hge:=hI.ge;have hfar : ∀ x,Far x→gk ≠ x:=fun x hx e=>by have:=HF x hx;omega
 have hfg:(fun x=>Far x∨(w.heap.size≤x∧x≤gk)) gk:=.inr ⟨hI.ge,Nat.le_refl _⟩
 obtain ⟨-,hs,K',hK,hKs⟩:_∧_∧_:=by
  rcases hD.way with ⟨-,h1,h2,h3⟩ | ⟨h,-⟩
  · exact ⟨h1,h2,h3⟩
  · exact absurd hf h
 refine ⟨hs.apart hg (.inl hfg),Tr.fits_trans hp1 hp2 hI.fits hf,⟨K',hK.later (hg.block mb hK.lt (by simp;omega)),fun x hx=>?_⟩,?_,?_,?_,hI.ge⟩
 · rcases hKs x hx with h | h
   · exact hKk x h
   · exact .inr (by omega)
 · refine ((zLW hI.row hD.keeps hfg).set k _).congr (fun j hj=>?_);by_cases e:j=k
   · subst e;rw [if_pos rfl,if_pos (by omega)]
   · rw [if_neg e];by_cases h5:j<k
     · rw [if_pos h5,if_pos (by omega)]
       have hm:=Tr.addK_mem (fun i:Fin 8=>chH i.val) ts k (by omega) ⟨j,hj⟩ h5
       have:=zV hp2 hm;simp only at this;rw [this]
     · rw [if_neg h5,if_neg (by omega)]
 · exact (hI.keeps.trans (hD.keeps.less (fun k hk=>.inl hk))).trans (Keeps.grown hg (fun g e hx=>by injection e with e;exact hfar _ hx e))
 · have h2:=hD.keeps.size;have h3:=hI.size;rw [zMD];omega
theorem HD.weak {Far:Nat→Prop} {mb sb:Nat} {most:Int} {s:Int→Bool} {ts ts':List Tr} {B B':Nat} {H:Tr} {K:List Tr} {w w':World} {e:Ending} (h:HD Far mb sb most s ts ts' B H K w e w') (hB:B≤B'):HD Far mb sb most s ts ts' B' H K w e w':=by
 refine ⟨h.keeps,?_⟩;rcases h.way with ⟨h1,h2,h3,K',h4,h5⟩ | h1
 · exact .inl ⟨h1,h2,h3,K',h4,fun x hx=>(h5 x hx).imp id fun h=>Nat.lt_of_lt_of_le h hB⟩
 · exact .inr h1
theorem HD.yes {Far:Nat→Prop} {mb sb:Nat} {most:Int} {s:Int→Bool} {ts ts':List Tr} {B:Nat} {H:Tr} {K:List Tr} {w w':World} {h:Int} (hd:HD Far mb sb most s ts ts' B H K w (zLK h 0) w') :
 Tr.Fits most ts ts'∧h=(idT ts' H:Int)∧StoreIs w' (FarM Far mb) sb most ts' ∧ ∃ K',Memo w' mb s ts' K' ∧ ∀ x∈K',x∈K∨Tr.sz x<B:=by
 rcases hd.way with ⟨h1,h2,h3,h4⟩ | ⟨h1,h2,h3⟩
 · refine ⟨h1,?_,h3,h4⟩;simpa [zLK] using h2
 · simp [zLK] at h2
theorem zG3 (cb sb mb:Nat) (ta:Option Addr) (tc:Nat) (L:List Mat) (most:Int) (us K:List Tr) (dn:Nat) (ch:Fin 8→Tr) (H:Tr) (w:World) (Far:Nat→Prop) (hd:dn≤16) (hC:HCtx w Far cb sb mb ta tc L) (hS:StoreIs w (FarM Far mb) sb most us) (hK:Memo w mb (zx L) us K)
 (hFar : ∀ k,Far k→k<w.heap.size) (hT:Tr.node dn ch∈us) (hH:zEs (zx L) (.node dn ch)=H) (hlen:(Tr.add H us).length≤4000000)
 (HM:Bx (∀ W,Below w.heap.size w W→w.heap.size+3≤W.heap.size→Bk W w.heap.size #[.pointer (some ⟨cb,0,none⟩)] 79→Bk W (w.heap.size+1) #[(idT us (.node dn ch):Int)] 3→Bk W (w.heap.size+1+1) #[(dn:Int)] 3 →
  Calls Tryz.prog 104 #[.pointer (some ⟨w.heap.size+1+1,0,none⟩),.pointer (some ⟨w.heap.size,0,none⟩),.pointer (some ⟨w.heap.size+1,0,none⟩)] W (HD (fun x=>Far x∨(w.heap.size≤x∧x<w.heap.size+3)) mb sb most (zx L) us (Tr.add H us) (Tr.sz (.node dn ch)) H K W))) :
 Calls Tryz.prog 46 #[.pointer (some ⟨cb,0,none⟩),(idT us (.node dn ch):Int),(dn:Int)] w (HD Far mb sb most (zx L) us (Tr.add H us) (Tr.sz (.node dn ch)+1) H K w):=by
 have hp:=Tr.add_prefix H us;have hl0:us.length≤4000000:=Nat.le_trans hp.length_le hlen;have hmb:=hK.lt;have hdp:0≤zDO (.node dn ch)∧zDO (.node dn ch)≤16:=by simp only [zDO];omega
 have hkind : ∀ W,Below w.heap.size w W→Calls Tryz.prog 103 #[.pointer (some ⟨sb,0,none⟩),(idT us (.node dn ch):Int)] W fun e w'=>e = .returned (.int .i64 3)∧W=w':=fun W hb=>zGA (FarM Far mb) sb most us _ hT (by omega) W (hS.later hb)
 by_cases hin:Tr.node dn ch∈K
 · refine (zGv cb sb mb ta L.length tc _ _ 3 w hC.kc (idT us H:Int) (by decide) ⟨hkind⟩ ⟨fun W hb=>?_⟩).mono ?_
   · rcases (hK.later (hb.block mb hmb)).look hl0 hT hdp with ⟨-,hr⟩ | ⟨hn,-⟩
     · rw [hH] at hr;exact hr
     · exact absurd hin hn
   · rintro e w' ⟨rfl,hb⟩;exact HD.same hb hS hK (by have:=(hK.mem _ hin).2;rwa [hH] at this)
 · refine (zGw cb sb mb ta L.length tc _ _ 3 w hC.kc (by decide)
    (fun e w'=>HD (fun x=>Far x∨(w.heap.size≤x∧x<w.heap.size+3)) mb sb most (zx L) us (Tr.add H us) (Tr.sz (.node dn ch)) H K w e w'∧Bk w' w.heap.size #[.pointer (some ⟨cb,0,none⟩)] 79∧Bk w' (w.heap.size+1) #[(idT us (.node dn ch):Int)] 3∧Bk w' (w.heap.size+1+1) #[(dn:Int)] 3)
    (fun h w'=>HD (fun x=>Far x∨(w.heap.size≤x∧x<w.heap.size+3)) mb sb most (zx L) us (Tr.add H us) (Tr.sz (.node dn ch)) H K w (zLK h 0) w'∧Bk w' w.heap.size #[.pointer (some ⟨cb,0,none⟩)] 79∧Bk w' (w.heap.size+1) #[(idT us (.node dn ch):Int)] 3∧Bk w' (w.heap.size+1+1) #[(dn:Int)] 3)
    (fun h w'=>HD Far mb sb most (zx L) us (Tr.add H us) (Tr.sz (.node dn ch)+1) H K w (zLK h 0) w')
    (fun w'=>HD Far mb sb most (zx L) us (Tr.add H us) (Tr.sz (.node dn ch)+1) H K w (zLK 0 14) w')
    ⟨hkind⟩ ⟨fun W hb=>?_⟩ ⟨fun W hb hsz k1 k2 k3=>?_⟩ (fun e w' h=>?_) ⟨fun h w' hP=>?_⟩).mono ?_
   · rcases (hK.later (hb.block mb hmb)).look hl0 hT hdp with ⟨hn,-⟩ | ⟨-,hr⟩
     · exact absurd hn hin
     · exact hr
   · refine (HM.out W hb hsz k1 k2 k3).mono fun e w' h=>⟨h.since hb fun k hk=>hk,?_,?_,?_⟩
     · exact k1.far h.keeps (.inr ⟨Nat.le_refl _,by omega⟩)
     · exact k2.far h.keeps (.inr ⟨by omega,by omega⟩)
     · exact k3.far h.keeps (.inr ⟨by omega,by omega⟩)
   · obtain ⟨h,k1,k2,k3⟩:=h;rcases h.way with ⟨-,rfl,-⟩ | ⟨-,rfl,-⟩
     · exact .inl ⟨_,rfl,h,k1,k2,k3⟩
     · exact .inr ⟨rfl,(h.weak (Nat.le_succ _)).since (Below.refl _ _) fun k hk=>.inl hk⟩
   · obtain ⟨hD,k1,k2,k3⟩:=hP;refine ⟨⟨k1,k2,k3,hC.kc.far hD.keeps (.inl hC.fc)⟩,fun W hb=>?_⟩;obtain ⟨h1,rfl,h3,K',h4,h5⟩:=hD.yes;have h4':=h4.later (hb.block mb h4.lt);have hTi:Tr.node dn ch∈Tr.add H us:=hp.subset hT;have hnin:Tr.node dn ch ∉ K':=fun h=>(h5 _ h).elim hin (fun h=>absurd h (Nat.lt_irrefl _));obtain ⟨W',hr,m1,m2,m3⟩:=h4'.put hlen hTi hdp hnin (by rw [hH];exact Tr.mem_add _ _)
     rw [hH] at hr;refine ⟨W',?_,?_,.inl ⟨h1,rfl,?_,_,m1,fun x hx=>?_⟩⟩
     · unfold zFw at hr;rw [zV hp hT] at hr;exact hr
     · exact ((hD.keeps.less fun k hk=>.inl hk).trans (Keeps.below hb)).trans (Keeps.grown m2 fun g e hx=>by injection e with e;exact hC.fm (e ▸ hx))
     · exact ((h3.later hb).apart m2 (.inr rfl)).less (FarM.mono fun k hk=>.inl hk)
     · rcases List.mem_append.1 hx with hx | hx
       · exact (h5 x hx).imp id fun h=>Nat.lt_succ_of_lt h
       · rw [List.mem_singleton.1 hx];exact .inr (Nat.lt_succ_self _)
   · rintro e w' (⟨h,rfl,hD⟩ | ⟨rfl,hD⟩)
     · exact hD
     · exact hD
theorem zG2 (cb sb mb:Nat) (ta:Option Addr) (tc:Nat) (L:List Mat) (hl:L.length≤1000000000) (most:Int) : ∀ (n:Nat),n≤11 → ∀ (f:Pt→Int),(∀ p,0≤f p∧f p≤255) → ∀ (w:World) (Far:Nat→Prop) (us K:List Tr),
 HCtx w Far cb sb mb ta tc L→StoreIs w (FarM Far mb) sb most us→Memo w mb (zx L) us K→Good us→(∀ k,Far k→k<w.heap.size)→trF (n+1) f∈us→(Tr.add (trF n (zT (zx L) f)) us).length≤4000000 →
 Calls Tryz.prog 46 #[.pointer (some ⟨cb,0,none⟩),.int .i64 (idT us (trF (n+1) f):Int),.int .i64 ((n:Int)+3)] w (HD Far mb sb most (zx L) us (Tr.add (trF n (zT (zx L) f)) us) (Tr.sz (trF (n+1) f)+1) (trF n (zT (zx L) f)) K w):=by
 intro n
 induction n with
 | zero =>
   intro hn f hf w Far us K hC hS hK hG hFar hT hlen;have hl0:us.length≤4000000:=Nat.le_trans (Tr.add_prefix _ us).length_le hlen;rcases zB6 f 1 ⟨0,0,0⟩ with ⟨c,hc⟩ | ⟨h,_⟩ | ⟨m,ch,hm,he,hch⟩
   · have hu:trF 0 (zT (zx L) f) = .uni c:=zE1 (al0 0) hc;rw [show trF (0+1) f = .uni c from hc] at hT ⊢;rw [hu];refine (zGx cb sb mb ta L.length tc _ _ 1 w hC.kc rfl ⟨fun W hb=>zGA (FarM Far mb) sb most us _ hT (by omega) W (hS.later hb)⟩).mono ?_
     rintro e w' ⟨rfl,hb⟩;exact HD.same hb hS hK hT
   · omega
   · obtain rfl:m=0:=by omega
     have hhT:zEs (zx L) (trF (0+1) f)=trF 0 (zT (zx L) f):=zE0 _ f 0
     have hGet : ∀ W,StoreIs W (FarM Far mb) sb most us → ∀ x y z:Int,0≤x∧x<8→0≤y∧y<8→0≤z∧z<8→Calls Tryz.prog 55 #[.pointer (some ⟨sb,0,none⟩),.int .i64 (idT us (trF (0+1) f):Int),(3:Int),.agg #[x,y,z]] W fun e w'=>e = .returned (.int .i64 (f ⟨x,y,z⟩))∧Below W.heap.size W w':=fun W hS x y z hx hy hz=>by
      have hin:inB ⟨x,y,z⟩ (zL (2 ^ (1+2)))=true:=zX.2 (by simp only [zL,Pt.zero];omega)
      have h:=zEf W (FarM Far mb) sb most us _ hT 1 (by omega) (zDP f 1 _) hG (by omega) x y z hin hS
      rwa [zEh hin] at h
     rw [show trF (0+1) f = .node 3 ch from he] at hT hhT hGet ⊢;refine zG3 cb sb mb ta tc L most us K 3 ch _ w Far (by omega) hC hS hK hFar hT hhT hlen ⟨fun W hb hsz k1 k2 k3=>?_⟩
     have hSW:=(hS.widen (Far':=FarM (fun x=>Far x∨(w.heap.size≤x∧x<w.heap.size+3)) mb) (fun k hk=>by rcases hk with (hk | hk) | hk;exact .inl (.inl hk);exact .inr hk.1;exact .inl (.inr hk))).later hb
     have hKW:=hK.later (hb.block mb hK.lt);refine zGy _ _ _ cb _ W k3 k1 k2 _ (fun e w' h=>h.ends) ⟨?_⟩;refine zGn cb sb ta tc L _ _ f (fun i k=>f ⟨2 * ((i:Int) % 4)+(k:Int) % 2,2 * ((i:Int) / 4 % 4)+(k:Int) / 2 % 2,2 * ((i:Int) / 16)+(k:Int) / 4⟩) W hl (hC.tb.below hb) (hC.kc.later hb) hf (fun i k _ _=>rfl) ⟨fun W2 hb2=>hGet W2 ((hS.later hb).later hb2)⟩ _ (fun e w' h=>h.ends) ⟨fun W2 a cap hb2 hsl=>?_⟩;have hx:((List.range 64).map fun (i:Nat)=>zJj (zx L) (l8 fun k=>f ⟨2 * ((i:Int) % 4)+(k:Int) % 2,2 * ((i:Int) / 4 % 4)+(k:Int) / 2 % 2,2 * ((i:Int) / 16)+(k:Int) / 4⟩))=(List.range 64).map fun (i:Nat)=>zT (zx L) f (Tr.cellAt ⟨0,0,0⟩ i):=List.map_congr_left fun i _=>by rw [zGH];rfl
     rw [hx] at hsl
     have hfh : ∀ p,0≤zT (zx L) f p∧zT (zx L) f p≤255:=fun p=>by
      obtain ⟨q,e,_⟩:=zg (zEy (zx L) f p).mem;rw [e];exact hf q
     have hbr:=zBk W2 (FarM (fun x=>Far x∨(w.heap.size≤x∧x<w.heap.size+3)) mb) sb most us a cap _ (by simp) (by
      rw [List.all_eq_true];intro x hx;obtain ⟨i,_,rfl⟩:=List.mem_map.1 hx;have:=hfh (Tr.cellAt ⟨0,0,0⟩ i)
      simp [Pal.cell];omega) hsl hG (by omega) (fun k hk=>by
       have h1:=hb2.size;rcases hk with (hk | hk) | hk
       · have:=hFar k hk;have:=hb.size;omega
       · omega
       · have:=hK.lt;have:=hb.size;omega) (hSW.later hb2)
     refine hbr.mono fun e w' hg=>?_;exact (HD.made (B:=Tr.sz (.node 3 ch)) hg (Tr.add_prefix _ _) (hKW.later (hb2.block mb hKW.lt))).since hb2 fun k hk=>hk
 | succ n ih =>
   intro hn f hf w Far us K hC hS hK hG hFar hT hlen;have hl0:us.length≤4000000:=Nat.le_trans (Tr.add_prefix _ us).length_le hlen;rcases zB6 f (n+1+1) ⟨0,0,0⟩ with ⟨c,hc⟩ | ⟨h,_⟩ | ⟨m,ch,hm,he,hch⟩
   · have hu:trF (n+1) (zT (zx L) f) = .uni c:=zE1 (al0 (n+1)) hc;rw [show trF (n+1+1) f = .uni c from hc] at hT ⊢;rw [hu];refine (zGx cb sb mb ta L.length tc _ _ 1 w hC.kc rfl ⟨fun W hb=>zGA (FarM Far mb) sb most us _ hT (by omega) W (hS.later hb)⟩).mono ?_
     rintro e w' ⟨rfl,hb⟩;exact HD.same hb hS hK hT
   · omega
   · obtain rfl:m=n+1:=by omega
     have hhT:zEs (zx L) (trF (n+1+1) f)=trF (n+1) (zT (zx L) f):=zE0 _ f (n+1);have hw:=zAD hf (n+1+1) ⟨0,0,0⟩ (by omega)
     have hfh : ∀ p,0≤zT (zx L) f p∧zT (zx L) f p≤255:=fun p=>by
      obtain ⟨q,e,_⟩:=zg (zEy (zx L) f p).mem;rw [e];exact hf q
     rw [show trF (n+1+1) f = .node (n+1+3) ch from he] at hT hhT ⊢;have hdd:((n+1:Nat):Int)+3=((n+1+3:Nat):Int):=by omega
     rw [hdd];refine zG3 cb sb mb ta tc L most us K (n+1+3) ch _ w Far (by omega) hC hS hK hFar hT hhT hlen ⟨fun W hb hsz k1 k2 k3=>?_⟩
     obtain ⟨chH,hchH⟩ : ∃ chH:Nat→Tr,chH=fun k=>Tr.can (zT (zx L) f) n (Tr.cor ⟨0,0,0⟩ n k):=⟨_,rfl⟩;obtain ⟨chT,hchT⟩ : ∃ chT:Nat→Tr,chT=fun k=>Tr.can f (n+1) (Tr.cor ⟨0,0,0⟩ (n+1) k):=⟨_,rfl⟩;have hTT:ch=fun i=>chT i.val:=by funext i;rw [hchT];exact hch i
     have hHH:trF (n+1) (zT (zx L) f)=Tr.mkInner (n+3) fun i=>chH i.val:=by rw [hchH];rfl
     have hkT : ∀ k,k<8→chT k∈us:=fun k hk=>by have:=hG.closed.2 _ _ hT ⟨k,hk⟩;rwa [hTT] at this
     have hwH : ∀ i,Tr.WF (chH i):=fun i=>by rw [hchH];exact zAD hfh n _ (by omega)
     have hszT : ∀ k,k<8→Tr.sz (chT k)<Tr.sz (.node (n+1+3) ch):=fun k hk=>by have:=Tr.sz_kid (n+1+3) ch ⟨k,hk⟩;rw [hTT] at this ⊢; exact this
     have hpre : ∀ k,k≤8→Tr.addK (fun i:Fin 8=>chH i.val) k us <+: Tr.add (trF (n+1) (zT (zx L) f)) us:=fun k hk=>by rw [hHH];exact (zAo hk (Nat.le_refl _)).trans (zFf hG)
     obtain ⟨Far1,hF1⟩ : ∃ F:Nat→Prop,F=fun x=>Far x∨(w.heap.size≤x∧x<w.heap.size+3):=⟨_,rfl⟩;rw [←hF1];have hmbW:mb<W.heap.size:=Nat.lt_of_lt_of_le hK.lt hb.size
     have hF1W : ∀ k,Far1 k→k<W.heap.size:=fun k hk=>by
      rw [hF1] at hk;have:=hb.size;rcases hk with hk | hk
      · have:=hFar k hk;omega
      · omega
     have hC1:HCtx W Far1 cb sb mb ta tc L:=(hC.later hb).wider (fun k hk=>by rw [hF1];exact .inl hk) (by
      rw [hF1];have:=hK.lt;rintro (h | h)
      · exact hC.fm h
      · omega)
     have hSW:StoreIs W (FarM Far1 mb) sb most us:=(hS.widen (Far':=FarM Far1 mb) (fun k hk=>by rw [hF1] at hk;rcases hk with (hk | hk) | hk;exact .inl (.inl hk);exact .inr hk.1;exact .inl (.inr hk))).later hb
     have hKW:=hK.later (hb.block mb hK.lt);have g1:Far1 w.heap.size:=by rw [hF1];exact .inr ⟨Nat.le_refl _,by omega⟩
     have g2:Far1 (w.heap.size+1):=by rw [hF1];exact .inr ⟨by omega,by omega⟩
     have g3:Far1 (w.heap.size+1+1):=by rw [hF1];exact .inr ⟨by omega,by omega⟩
     have hdm:((n+1+3:Nat):Int) - 1=(n:Int)+3:=by omega
     refine (zGz _ _ _ cb sb mb ta L.length tc _ _ (fun k=>(idT us (chT k):Int)) W (by omega) (by omega) ⟨k3,k1,k2,hC1.kc⟩ ⟨fun W2 hb2=>?_⟩
      (HJI W Far1 cb sb mb ta tc L most us K (Tr.sz (.node (n+1+3) ch)) chT chH)
      (fun w'=>HD Far1 mb sb most (zx L) us (Tr.add (trF (n+1) (zT (zx L) f)) us) (Tr.sz (.node (n+1+3) ch)) (trF (n+1) (zT (zx L) f)) K W (zLK 0 14) w')
      (HD Far1 mb sb most (zx L) us (Tr.add (trF (n+1) (zT (zx L) f)) us) (Tr.sz (.node (n+1+3) ch)) (trF (n+1) (zT (zx L) f)) K W)
      (fun e w' h=>h.ends) ⟨fun gk W2 hb2 hge hlt kr=>?_⟩ ⟨fun gk k W2 hI=>?_⟩ ⟨fun gk k W2 hk hI=>?_⟩ ⟨fun gk W2 hI=>?_⟩).mono ?_
     · have h:=zMc (FarM Far1 mb) sb most us (n+1+3) ch hT W2 (hSW.later hb2);rw [hTT] at h ⊢;exact h
     · refine ⟨?_,.inl rfl,⟨K,hKW.later (hb2.block mb hKW.lt),fun x hx=>.inl hx⟩,(zLV (y:=fun k=>(idT us (chT k):Int)) kr).congr fun i hi=>?_,Keeps.below hb2,hlt,hge⟩
       · exact (hSW.widen fun k hk=>by
          rcases hk with (hk | hk) | hk
          · exact .inl (.inl hk)
          · exact .inr hk.1
          · exact .inl (.inr hk)).later hb2
       · simp only [Nat.not_lt_zero,if_false]
     · have hk2:=hI.keeps;exact ⟨k3.far hk2 g3,k1.far hk2 g1,k2.far hk2 g2,hC1.kc.far hk2 hC1.fc⟩
     · have hGk:Good (Tr.addK (fun i:Fin 8=>chH i.val) k us):=zEk hG (fun i=>hwH _) k (by omega)
       have hpk:=Tr.addK_prefix (fun i:Fin 8=>chH i.val) k (by omega) us
       have hsucc:Tr.addK (fun i:Fin 8=>chH i.val) (k+1) us=Tr.add (chH k) (Tr.addK (fun i:Fin 8=>chH i.val) k us):=Tr.addK_succ _ hk _;obtain ⟨Kk,hKk,hKks⟩:=hI.memo;have hge:=hI.ge;have hih:=ih (by omega) (shf (Tr.cor ⟨0,0,0⟩ (n+1) k) f) (fun p=>hf _) W2 (fun x=>Far1 x∨(W.heap.size≤x∧x≤gk)) (Tr.addK (fun i:Fin 8=>chH i.val) k us) Kk
       rw [zCD,zDI n k,zEx,zCD,←zDI n k,show Tr.can f (n+1) (Tr.cor ⟨0,0,0⟩ (n+1) k)=chT k by rw [hchT],show Tr.can (zT (zx L) f) n (Tr.cor ⟨0,0,0⟩ n k)=chH k by rw [hchH],←hsucc,zV hpk (hkT k hk)] at hih
       rw [hdm];refine (hih ((hC1.far hI.keeps).wider (fun k hk=>.inl hk) (by rintro (h | h);exact hC1.fm h;omega)) hI.store hKk hGk (fun x hx=>?_) (hpk.subset (hkT k hk)) (Nat.le_trans (hpre (k+1) (by omega)).length_le hlen)).mono ?_
       · have h1:=hI.keeps.size;have h2:=hI.size;rcases hx with hx | hx
         · have:=hF1W x hx;omega
         · omega
       · intro e w' hD;have hrow:=zLW hI.row hD.keeps (.inr ⟨hI.ge,Nat.le_refl _⟩);obtain ⟨vs,hv1,hv2,-⟩:=hrow;rcases hD.way with ⟨h1,rfl,-⟩ | ⟨h1,rfl,vs2,v1,v2,v3,v4⟩
         · exact .inl ⟨_,rfl,⟨vs,hv1,hv2⟩,zE9 hF1W hmbW hk hI hKks (hszT k hk) hD h1⟩
         · refine .inr ⟨rfl,hI.keeps.trans (hD.keeps.less fun k hk=>.inl hk),.inr ⟨?_,rfl,vs2,v1,hpk.trans v2,v3.trans (hpre (k+1) (by omega)),v4.less (FarM.mono fun k hk=>.inl hk)⟩⟩
           have hp2:Tr.addK (fun i:Fin 8=>chH i.val) k us <+: Tr.addK (fun i:Fin 8=>chH i.val) (k+1) us:=zAo (by omega) (by omega)
           exact Tr.not_fits_mono (hpk.trans hp2) (hpre (k+1) (by omega)) (Tr.not_fits_later hpk hp2 h1)
     · have hG8:Good (Tr.addK (fun i:Fin 8=>chH i.val) 8 us):=zEk hG (fun i=>hwH _) 8 (Nat.le_refl _);have hp8:=Tr.addK_prefix (fun i:Fin 8=>chH i.val) 8 (Nat.le_refl _) us;refine ⟨fun j=>(idT (Tr.addK (fun i:Fin 8=>chH i.val) 8 us) (chH j):Int),row8 (y:=fun j=>(idT (Tr.addK (fun i:Fin 8=>chH i.val) 8 us) (chH j):Int)) (hI.row.congr fun i hi=>by simp only [hi,if_true]),fun W3 hb3=>?_⟩
       obtain ⟨K8,hK8,hK8s⟩:=hI.memo
       have hin:=zFe W3 (FarM (fun x=>Far1 x∨(W.heap.size≤x∧x≤gk)) mb) sb most (Tr.addK (fun i:Fin 8=>chH i.val) 8 us) n (by omega) chH (fun i=>Tr.addK_mem _ us 8 (Nat.le_refl _) i i.isLt) (fun i=>by rw [hchH];exact zIl _ n _) hG8 (Nat.le_trans (hpre 8 (Nat.le_refl _)).length_le hlen) (fun k hk=>by
        have h1:=hI.keeps.size;have h2:=hI.size;have h3:=hb3.size;rcases hk with (hk | hk) | hk
        · have:=hF1W k hk;omega
        · omega
        · omega) (hI.store.later hb3)
       rw [zFZ hG (fun i=>hwH _),←hHH] at hin;rw [hdm];refine hin.mono fun e w' hg=>?_;have hK3:=hK8.later (hb3.block mb hK8.lt);have hD:=(HD.made (B:=Tr.sz (.node (n+1+3) ch)) hg (hpre 8 (Nat.le_refl _)) hK3).since hb3 fun k hk=>hk;refine ⟨hI.keeps.trans (hD.keeps.less fun k hk=>.inl hk),?_⟩;rcases hD.way with ⟨h1,h2,h3,K',h4,h5⟩ | ⟨h1,h2,vs,v1,v2,v3,v4⟩
       · exact .inl ⟨Tr.fits_trans hp8 (hpre 8 (Nat.le_refl _)) hI.fits h1,h2,h3.less (FarM.mono fun k hk=>.inl hk),K',h4,fun x hx=>(h5 x hx).elim (hK8s x) .inr⟩
       · exact .inr ⟨Tr.not_fits_later hp8 (hpre 8 (Nat.le_refl _)) h1,h2,vs,v1,hp8.trans v2,v3,v4.less (FarM.mono fun k hk=>.inl hk)⟩
     · rintro e w' (h | ⟨rfl,h⟩)
       · exact h
       · exact h
end
section
open Go.Sort Go.RowKit
section
variable {P:Program} {ops:Array Oper} {Q:Exit→Act→World→Prop} {a:Act} {w:World}
theorem zNJ {o:Oper} (ht:zNE o=true) {K:Act→World→Prop} (h:o.wp P a w K Q∨(o.asks P a w∧LetsOut Q)) : ∃ v,(∀ w',(execOp a.eval o).run P w' = .ok (.value v) w')∧K (a.put o.dst v) w:=by
 unfold zNE at ht;unfold Oper.wp Oper.asks at h;obtain ⟨op,dst,g,af⟩:=o;simp only at ht;split at ht
 · rcases h with h | ⟨h,-⟩
   · exact ⟨_,fun w'=>rfl,h⟩
   · exact absurd h.1 zIW
 · rcases h with h | ⟨h,-⟩
   · exact ⟨_,fun w'=>rfl,h⟩
   · exact absurd h.1 zIW
 · rename_i t ix;simp only [execOp] at h ⊢;generalize a.eval t=v at *;unfold Instr.extract at h;split at h
   · rename_i vs;split at h
     · rename_i x hx;rcases h with h | ⟨h,-⟩
       · refine ⟨x,fun w'=>?_,h⟩;rw [show Instr.extract (Value.tuple vs) ix=pure x by unfold Instr.extract;simp only [hx]]
         rfl
       · exact absurd h.1 zIW
     · rcases h with h | ⟨h,-⟩
       · exact h.elim
       · exact absurd h.1 zIW
   · rcases h with h | ⟨h,-⟩
     · exact h.elim
     · exact absurd h.1 zIW
 · cases ht
def zND (ops:Array Oper) (k:Nat):Bool:=match ops[k]? with
 | some o=>zNE o && o.guard.isNone
 | none=>false
def seqP (md:Region.Mode) (ops:Array Oper):List Nat→Array Bool→Bool
 | [],listed=>(Region.ready md ops listed).isEmpty
 | k::ks,listed=>(decide (Region.ready md ops listed=[k]) || (zND ops k && Region.noSelect ops && Region.free md ops listed k && (Region.ready md ops listed).contains k)) && seqP md ops ks (listed.setIfInBounds k true)
theorem zOG {md:Region.Mode} (hQ : ∀ c a d v w,Q (.panic c) (Act.put a d v) w→Q (.panic c) a w) : ∀ (ks:List Nat) (listed:Array Bool) (a:Act) (w:World),
 seqP md ops ks listed=true→wpList P ops Q (ks.filterMap fun k=>ops[k]?) a w→wpAny P md ops Q ks.length listed a w
 | [],listed,a,w,hB,h=>⟨by simpa [seqP] using hB,h⟩
 | k :: ks, listed, a, w, hB, h => by
   simp only [seqP,Bool.and_eq_true,Bool.or_eq_true,decide_eq_true_eq] at hB;obtain ⟨hk,hB⟩:=hB
   have hin:k∈Region.ready md ops listed:=by
    rcases hk with hk | hk
    · rw [hk];simp
    · simpa using hk.2
   obtain ⟨-,o,h0,-⟩:=mem_ready.1 hin;rw [List.filterMap_cons_some h0] at h;rcases hk with hk | ⟨⟨⟨ht,hs⟩,hf⟩,hr⟩
   · refine ⟨fun h1=>(by rw [hk] at h1;cases h1),fun i hi=>?_⟩
     rw [hk] at hi;have hik:i=k:=by simpa using hi
     subst hik;have hw:wpOp P ops Q i (wpList P ops Q (ks.filterMap fun k=>ops[k]?)) a w:=by unfold wpOp;simp only [h0];exact h
     exact wpOp_mono (fun a' w' h'=>zOG hQ ks _ a' w' hB h') hw
   · unfold zND at ht;simp only [h0,Bool.and_eq_true,Option.isNone_iff_eq_none] at ht;have hwt:Region.wanted o (yielded ops a.tmps)=true:=by simp [Region.wanted,ht.2]
     unfold wpList at h;rw [if_pos hwt] at h;obtain ⟨v,hv,hK⟩:=zNJ ht.1 h;exact wpAny_take h0 hs hf hr (fun c a w=>hQ c a o.dst v w) (.inl ⟨hwt,hv⟩) (zOG hQ ks _ _ w hB hK)
end
section
variable {P:Program} {ops:Array Oper} {Q Q':Exit→Act→World→Prop}
theorem zIu (hq : ∀ e a w,Q' e a w→Q e a w) {o:Oper} {a:Act} {w:World} {K K':Act→World→Prop} (h : ∀ a w,K' a w→K a w) (hh:o.wp P a w K' Q'):o.wp P a w K Q:=by
 unfold Oper.wp at *;generalize (execOp a.eval o).run P w=r at *;cases r with
 | ok n w' =>
   cases n <;> simp only [Oper.upon] at hh ⊢ <;>
    first
     | exact h _ _ hh
     | exact Calls.mono hh (fun e w'' he=>by cases e <;> first | exact h _ _ he | exact hq _ _ _ he | (obtain ⟨a,w,g⟩:=he;exact ⟨a,w,hq _ _ _ g⟩))
     | exact Rows.mono hh (fun _ _ he=>h _ _ he)
 | halt x w'=>cases x <;> simp only [Oper.upon] at hh ⊢ <;> first | exact hh | exact hq _ _ _ hh
theorem zOQ (hq : ∀ e a w,Q' e a w→Q e a w) {i:Nat} {a:Act} {w:World} {K K':Act→World→Prop} (h : ∀ a w,K' a w→K a w) (hh:wpOp P ops Q' i K' a w):wpOp P ops Q i K a w:=by
 unfold wpOp at *;split
 · exact h _ _ (by simpa [*] using hh)
 · rename_i o ho;simp only [ho] at hh;split
   · rename_i hw;simp only [hw,if_true] at hh;rcases hh with hh | ⟨h1,a,w,g⟩
     · exact .inl (zIu hq h hh)
     · exact .inr ⟨h1,a,w,hq _ _ _ g⟩
   · rename_i hw;simp only [hw] at hh;exact h _ _ hh
theorem zOD (hq : ∀ e a w,Q' e a w→Q e a w) {md:Region.Mode} : ∀ (n:Nat) (listed:Array Bool) (a:Act) (w:World),wpAny P md ops Q' n listed a w→wpAny P md ops Q n listed a w
 | 0,_,_,_,h=>⟨h.1,hq _ _ _ h.2⟩
 | n+1,_,_,_,h=>⟨fun e=>hq _ _ _ (h.1 e),fun i hi=>zOQ hq (fun a w=>zOD hq n _ a w) (h.2 i hi)⟩
end
def zE5 (l:List Oper) (n:Nat) (ks:List Nat):Bool :=
 decide (n<l.length) && zBV .any l n && zNB l n && zLB l n && decide (ks.length=l.length - n) && seqP .any l.toArray ks (Array.replicate n true++Array.replicate (l.length - n) false)
section
variable {P:Program} {l:List Oper} {W:World} {a:Act}
theorem zBG {Q:Exit→Act→World→Prop} (n:Nat) (ks:List Nat) (R:Nat→Value→World→Prop) (hB:zE5 l n ks=true) (mt:Nat) (hdm:zDk l mt=true) (ham:a.tmps.size=mt)
 (hf : ∀ i,i<n→zAR (R i))
 (hop : ∀ i o,i<n→l[i]? = some o → ∀ (ρ:Operand→Value) w,Below W.heap.size W w→(∀ v,ρ (.const v)=v)→(∀ g,ρ (.global g) = .pointer (some ⟨g,0,none⟩))→(∀ f,ρ (.func f) = .func (.func f) #[] #[]) →
  (∀ d,.tmp d∈o.op.operands→zAW l n R a d (ρ (.tmp d)) w)→zLD P w (R i) ((execOp ρ o).run P w))
 (h : ∀ (vs:List Value) w',vs.length=n→Below W.heap.size W w'→(∀ i v,vs[i]? = some v→R i v w') → ∀ Q':Exit→Act→World→Prop,(∀ a w,Q .normal a w→Q' .normal a w)→wpList P l.toArray Q' (ks.filterMap fun k=>l.toArray[k]?) (zKA (((l.take n).map (·.dst)).zip vs) a) w'):wpAny P .any l.toArray Q l.toArray.size (Array.replicate l.toArray.size false) a { W with drawn:=W.drawn+1 }:=by
 simp only [zE5,Bool.and_eq_true,decide_eq_true_eq] at hB;obtain ⟨⟨⟨⟨⟨hn,hb⟩,ht⟩,hrel⟩,hlk⟩,hseq⟩:=hB;have B:=zLC hrel;have hd : ∀ i d,i<n→zM l i=some d→d<a.tmps.size:=fun i d _ hd=>by rw [ham];exact zDl hdm hd
 have:=zLP (Q:=Q) (by omega) B hb ht hf hd hop (fun a' w' I=>?_) n (Array.replicate n false) a { W with drawn:=W.drawn+1 } (by simp) (fun m k h=>by
  simp only [Array.getD_eq_getD_getElem?,Array.getElem?_replicate] at h;split at h <;> simp at h) (by simp [unl])
  ⟨rfl,rfl,fun x _=>rfl,fun i d _ hs=>(by rw [getD_replicate_false] at hs;cases hs),⟨rfl,rfl,rfl,Nat.le_refl _,fun _ _=>rfl⟩⟩
 · have e:Array.replicate n false++Array.replicate (l.length - n) false=Array.replicate l.toArray.size false:=by
    rw [Array.replicate_append_replicate];congr 1;simp;omega
   rw [e,show n+(l.length - n)=l.toArray.size by simp;omega] at this
   exact this
 · have hv : ∀ i,∃ v,i<n→(∃ d,zM l i=some d∧a'.tmps[d]? = some v)∧R i v w':=by
    intro i;by_cases hi:i<n
    · obtain ⟨o,ho⟩ : ∃ o,l[i]? = some o:=⟨_,List.getElem?_eq_getElem (by omega)⟩
      obtain ⟨d,hdd⟩:=B.dst i o hi ho;have hdl:zM l i=some d:=by simp [zM,ho,hdd]
      obtain ⟨v,h1,h2⟩:=I.head i d hi (by simp [hi]) hdl
      exact ⟨v,fun _=>⟨⟨d,hdl,h1⟩,h2⟩⟩
    · exact ⟨undef,fun h=>absurd h hi⟩
   obtain ⟨g,hg⟩:=Classical.axiomOfChoice hv;have hlen:((List.range n).map g).length=n:=by simp
   have hz : ∀ i,i<n→(((l.take n).map (·.dst)).zip ((List.range n).map g))[i]? = some (zM l i,g i):=by
    intro i hi;rw [(List.getElem?_zip_eq_some (z:=(zM l i,g i))).2];refine ⟨?_,by simp [hi]⟩
    rw [List.getElem?_map,List.getElem?_take,if_pos hi];unfold zM;rw [List.getElem?_eq_getElem (show i<l.length by omega)];rfl
   have hlt : ∀ {i p},(((l.take n).map (·.dst)).zip ((List.range n).map g))[i]? = some p→i<n:=by
    intro i p hp;have:=(List.getElem?_eq_some_iff.1 hp).1;simp at this;omega
   have heq:a'=zKA (((l.take n).map (·.dst)).zip ((List.range n).map g)) a:=by
    refine zAi ?_ fun x=>?_
    · rw [(zKD _ _).2];exact I.defers
    · by_cases hx : ∃ i,i<n∧zM l i=some x
      · obtain ⟨i,hi,hdx⟩:=hx;obtain ⟨⟨d,h1,h2⟩,_⟩:=hg i hi;rw [hdx] at h1;obtain rfl:=Option.some.inj h1;rw [h2];symm;refine zKB _ a x _ (hd i x hi hdx) ?_ (List.mem_iff_getElem?.2 ⟨i,by rw [hz i hi,hdx]⟩)
        rw [List.pairwise_iff_getElem];intro p q hp hq hpq d' e1 e2;have n1:=hz p (hlt (List.getElem?_eq_getElem hp));have n2:=hz q (hlt (List.getElem?_eq_getElem hq));rw [List.getElem?_eq_getElem hp] at n1;rw [List.getElem?_eq_getElem hq] at n2;rw [Option.some.inj n1] at e1;rw [Option.some.inj n2] at e2;exact B.dist p q d' (hlt (List.getElem?_eq_getElem hp)) (hlt (List.getElem?_eq_getElem hq)) (by omega) e1 e2
      · rw [zKC _ _ x (fun p hp e=>by
         obtain ⟨i,hi⟩:=List.mem_iff_getElem?.1 hp;have hin:=hlt hi;rw [hz i hin] at hi;have:=Option.some.inj hi;subst this;exact hx ⟨i,hin,e⟩)]
        exact I.old x fun i hi _ e=>hx ⟨i,hi,e⟩
   have hres:=h ((List.range n).map g) w' hlen I.below (fun i v hi=>by
    have hin:i<n:=by have:=(List.getElem?_eq_some_iff.1 hi).1;simpa using this
    have:v=g i:=by simpa [hin] using hi.symm
    rw [this];exact (hg i hin).2) (fun e a w=>e = .normal∧Q e a w) (fun a w hq=>⟨rfl,hq⟩)
   rw [←heq] at hres;have:=zOG (P:=P) (md:=.any) (ops:=l.toArray) (Q:=fun e a w=>e = .normal∧Q e a w) (fun c a d v w h=>absurd h.1 (by simp)) ks (Array.replicate n true++Array.replicate (l.length - n) false) a' w' hseq hres
   rw [hlk] at this;exact zOD (fun e a w h=>h.2) _ _ _ _ this
theorem zOV {id:Nat} {Q:Exit→Act→World→Prop} (n:Nat) (ks:List Nat) (R:Nat→Value→World→Prop) (hm:P.follows .mixedOrders=true) (hB:zE5 l n ks=true) (mt:Nat) (hdm:zDk l mt=true) (ham:a.tmps.size=mt)
 (hf : ∀ i,i<n→zAR (R i))
 (hop : ∀ i o,i<n→l[i]? = some o → ∀ (ρ:Operand→Value) w,Below W.heap.size W w→(∀ v,ρ (.const v)=v)→(∀ g,ρ (.global g) = .pointer (some ⟨g,0,none⟩))→(∀ f,ρ (.func f) = .func (.func f) #[] #[]) →
  (∀ d,.tmp d∈o.op.operands→zAW l n R a d (ρ (.tmp d)) w)→zLD P w (R i) ((execOp ρ o).run P w))
 (h : ∀ (vs:List Value) w',vs.length=n→Below W.heap.size W w'→(∀ i v,vs[i]? = some v→R i v w') → ∀ Q':Exit→Act→World→Prop,(∀ a w,Q .normal a w→Q' .normal a w)→wpList P l.toArray Q' (ks.filterMap fun k=>l.toArray[k]?) (zKA (((l.take n).map (·.dst)).zip vs) a) w'):(Code.region id l.toArray true).wp P Q a W :=
 wp_region_any hm (zBG n ks R hB mt hdm ham hf hop h)
end
end
end Go.Proofs.YtgnfgblkpnfcnaaGreatDoor
