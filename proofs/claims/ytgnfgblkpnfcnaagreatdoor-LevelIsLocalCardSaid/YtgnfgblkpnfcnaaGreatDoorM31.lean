/- Ini, Lmm, Lhd, Lha, Tfn, Tch: joined by program, for one claim. -/
import Derived.Test.YtgnfgblkpnfcnaaGreatDoorM24
import Derived.Test.YtgnfgblkpnfcnaaGreatDoorM28
import Derived.Test.YtgnfgblkpnfcnaaGreatDoorM30
import Derived.Test.YtgnfgblkpnfcnaaGreatDoorM10
import Derived.Test.YtgnfgblkpnfcnaaGreatDoorM29
import Derived.Test.YtgnfgblkpnfcnaaGreatDoorM22
import Derived.Test.YtgnfgblkpnfcnaaGreatDoorM23
import Derived.Test.YtgnfgblkpnfcnaaGreatDoorM11
import Derived.Test.YtgnfgblkpnfcnaaGreatDoorM12
import Derived.Test.YtgnfgblkpnfcnaaGreatDoorM4
set_option linter.unusedVariables false
set_option linter.unusedSimpArgs false
namespace Go.Proofs.YtgnfgblkpnfcnaaGreatDoor
section
open Go.RowKit Go.Sort Go.Maps
open Oct
theorem idx_arr (x:Nat→Int) (k:Nat) (hk:k<8) (W:World):(Instr.index 54 (.agg #[.int .i64 (x 0),.int .i64 (x 1),.int .i64 (x 2),.int .i64 (x 3),.int .i64 (x 4),.int .i64 (x 5),.int .i64 (x 6),.int .i64 (x 7)]) (.int .i64 (k:Int))).run Tryz.prog W = .ok (.int .i64 (x k)) W:=by
 have hu:=Tryz.underlying54
 have h0:k=0∨k=1∨k=2∨k=3∨k=4∨k=5∨k=6∨k=7:=by omega
 have h1 : Tryz.prog.cellsOf 3=1:=by kernel_rfl
 rcases h0 with rfl | rfl | rfl | rfl | rfl | rfl | rfl | rfl
 all_goals
  simp [Instr.index,run_underlying hu,asIntOf,go_sem]
def depT:Tr→Int
 | .uni _=>0
 | .brick _=>2
 | .node d _=>d
def okKid (t:Tr) (d:Int):Prop:=(∃ c,t = .uni c)∨depT t=d - 1
set_option maxRecDepth 100000 in
set_option maxHeartbeats 2000000 in
theorem Inner_ok (w:World) (Far:Nat→Prop) (sb:Nat) (most:Int) (ts:List Tr) (d:Int) (hd:3≤d∧d≤14) (x:Nat→Int) (HK:Bx (∀ k,k<8 → ∃ t,t∈ts∧x k=idT ts t∧okKid t d)) (_hlen:ts.length≤1000000000000) (hS:StoreIs w Far sb most ts) (R:Ending→World→Prop) (hR : ∀ e w',R e w' → ∃ i er,e=ret2 i er)
 (hin:Bx (∀ W,Below w.heap.size w W→Calls Tryz.prog 70 #[.pointer (some ⟨sb,0,none⟩),d,.agg #[.int .i64 (x 0),.int .i64 (x 1),.int .i64 (x 2),.int .i64 (x 3),.int .i64 (x 4),.int .i64 (x 5),.int .i64 (x 6),.int .i64 (x 7)]] W R)) :
 Calls Tryz.prog 106 #[.pointer (some ⟨sb,0,none⟩),d,.agg #[.int .i64 (x 0),.int .i64 (x 1),.int .i64 (x 2),.int .i64 (x 3),.int .i64 (x 4),.int .i64 (x 5),.int .i64 (x 6),.int .i64 (x 7)]] w R:=by
 have t1:decide (d≤2)=false:=by simp;omega
 have t2:decide (14<d)=false:=by simp;omega
 have hsub:IntKind.i64.wrap (d - 1)=d - 1:=IntWalk.i64_in _ (by omega)
 go_enter Tryz.func106,Tryz.ntmps106
 go_wp2_with fail
 generalize hW:World.alloc w _=W
 have hSz:=sz1 hW
 have hB:=bl1 hW
 have ka:Bk W (w.heap.size) #[.int .i64 (x 0),.int .i64 (x 1),.int .i64 (x 2),.int .i64 (x 3),.int .i64 (x 4),.int .i64 (x 5),.int .i64 (x 6),.int .i64 (x 7)] 54:=bk0 hW
 clear hW
 have HS:Bx (StoreIs W Far sb most ts):=⟨hS.later hB⟩
 obtain ⟨ca0,ca1,ca2,ca3,ca4,ca5,ca6,ca7⟩:=ka.c8
 go_wp2_with fail
 clear ca0 ca1 ca2 ca3 ca4 ca5 ca6 ca7
 go_loopw [17] (fun v wr => ∃ k:Nat,k≤8∧v = .int .i64 k∧wr=W) (fun i _=>8 - (intOf i).toNat)
 case atStart=>exact ⟨0,Nat.zero_le _,rfl,rfl⟩
 case round =>
  obtain ⟨k,hk,rfl,rfl⟩:=hrel
  by_cases hlt:k<8
  · have t3:decide ((k:Int)<8)=true:=by simp;omega
    have hidx:=fun V=>idx_arr x k (by omega) V
    obtain ⟨t,hm,hx,hok⟩:=HK.out k hlt
    cases t with
    | uni c =>
      clear hok
      obtain ⟨g,cap,mb,ks,hi,hc⟩:=Bx.node HS.out hm (k:=1) (c:=c) rfl
      have cs1:=ks.cell 1 rfl
      have d0:=hc.out 0 _ (by omega) rfl
      have d3:=hc.out 3 _ (by omega) rfl
      rw [Nat.add_zero] at d0
      have b1:(0:Int)≤(idT ts (.uni c):Int):=by omega
      have b2:(idT ts (.uni c):Int)<(ts.length:Int):=by omega
      have b3:decide ((idT ts (.uni c):Int)<0)=false:=by simp
      have b4:decide ((ts.length:Int)≤(idT ts (.uni c):Int))=false:=by simp;omega
      rw [hx] at hidx
      clear ks hc hm hx
      go_wp2_with fail
      go_roundw
      case rel=>exact ⟨k+1,by omega,by go_num,trivial⟩
      case measure=>simp [intOf];omega
    | brick l =>
      have e1:(2:Int)=d - 1:=hok.elim (fun ⟨c,h⟩=>by cases h) (fun h=>h)
      have e2:((2:Int) != d - 1)=false:=by simp;omega
      clear hok
      obtain ⟨g,cap,mb,ks,hi,hc⟩:=Bx.node HS.out hm (k:=2) (s:=strOfNums l) rfl
      have cs1:=ks.cell 1 rfl
      have d0:=hc.out 0 _ (by omega) rfl
      have d3:=hc.out 3 _ (by omega) rfl
      rw [Nat.add_zero] at d0
      have b1:(0:Int)≤(idT ts (.brick l):Int):=by omega
      have b2:(idT ts (.brick l):Int)<(ts.length:Int):=by omega
      have b3:decide ((idT ts (.brick l):Int)<0)=false:=by simp
      have b4:decide ((ts.length:Int)≤(idT ts (.brick l):Int))=false:=by simp;omega
      rw [hx] at hidx
      clear ks hc hm hx
      go_wp2_with fail
      go_roundw
      case rel=>exact ⟨k+1,by omega,by go_num,trivial⟩
      case measure=>simp [intOf];omega
    | node dk ch =>
      have e1:(dk:Int)=d - 1:=hok.elim (fun ⟨c,h⟩=>by cases h) (fun h=>h)
      have e2:((dk:Int) != d - 1)=false:=by simp;omega
      clear hok
      obtain ⟨g,cap,mb,ks,hi,hc⟩:=Bx.node HS.out hm (k:=3) (s:=ByteArray.empty) rfl
      have cs1:=ks.cell 1 rfl
      have d0:=hc.out 0 _ (by omega) rfl
      have d3:=hc.out 3 _ (by omega) rfl
      rw [Nat.add_zero] at d0
      have b1:(0:Int)≤(idT ts (.node dk ch):Int):=by omega
      have b2:(idT ts (.node dk ch):Int)<(ts.length:Int):=by omega
      have b3:decide ((idT ts (.node dk ch):Int)<0)=false:=by simp
      have b4:decide ((ts.length:Int)≤(idT ts (.node dk ch):Int))=false:=by simp;omega
      rw [hx] at hidx
      clear ks hc hm hx
      go_wp2_with fail
      go_roundw
      case rel=>exact ⟨k+1,by omega,by go_num,trivial⟩
      case measure=>simp [intOf];omega
  · obtain rfl:k=8:=by omega
    have t3:decide (((8:Nat):Int)<8)=false:=by decide
    obtain ⟨ca0,ca1,ca2,ca3,ca4,ca5,ca6,ca7⟩:=ka.c8
    go_wp2_with fail
    refine (hin.out _ hB).mono ?_
    intro e7 w7 hr
    have Hr:=Bx.mk hr
    obtain ⟨i7,er7,rfl⟩:=hR _ _ hr
    clear hr
    go_wp2_with fail
    exact Hr.out
end
section
open Go.RowKit Go.Sort Go.Maps
open Go.WideMaps (KeyLaw)
open Oct
theorem pairLaw:KeyLaw Tryz.prog 140:=deep_law_laid nodeLaid (m:=3) (by omega) (of_decide_eq_true (by kernel_rfl)) (by kernel_rfl) (by kernel_rfl)
theorem pairKeyed:Keyed Tryz.prog 140:=Keyed.of_law pairLaw
theorem pairCells : Tryz.prog.cellsOf 140=2:=by kernel_rfl
theorem pairKeyType : Tryz.prog.keyType 140=true:=by kernel_rfl
theorem key_pair (x y:Int) (h : ∀ q∈[x,y],(Lit.int .i64 q).wf=true) : ∃ kl,keyOf Tryz.prog 140 (.agg #[x,y])=some kl:=by
 simp only [List.mem_cons,List.not_mem_nil,or_false,forall_eq_or_imp,forall_eq] at h
 obtain ⟨h1,h2⟩:=h
 obtain ⟨m,hm⟩:=typesMany
 unfold keyOf
 rw [Tryz.underlying140,hm]
 simp [pairKeyType,Value.formed,Tryz.underlying140,pairCells,Program.keyLits,Value.cells,Tryz.underlying3,intCells,h1,h2,List.range_succ,List.mapM_cons,List.mapM_nil]
theorem zeroIL (w:World):(zeroValue 3).run Tryz.prog w = .ok (.int .i64 0) w:=by kernel_rfl
noncomputable abbrev keyM (ts:List Tr) (T:Tr):Value:=.agg #[(idT ts T:Int),.int .i64 (depT T)]
theorem keyM_inj {ts:List Tr} {T U:Tr} (hT:T∈ts) (hU:U∈ts) (h:keyM ts T=keyM ts U):T=U:=by
 injection h with h
 injection h with h
 have h1:=(List.cons.inj h).1
 injection h1 with _ h1
 exact idT_inj hT hU (by omega)
theorem keyM_key {ts:List Tr} (hlen:ts.length≤4000000) {T:Tr} (hT:T∈ts) (hd:0≤depT T∧depT T≤16) : ∃ kl,keyOf Tryz.prog 140 (keyM ts T)=some kl:=by
 have:=idT_lt hT
 refine key_pair _ _ fun q hq=>?_
 simp only [List.mem_cons,List.not_mem_nil,or_false] at hq
 rcases hq with rfl | rfl <;> exact WalkArith.wf_i64 ⟨by omega,by omega⟩
structure Memo (w:World) (mb:Nat) (s:Int→Bool) (ts K:List Tr):Prop where
 nd:K.Nodup
 mem : ∀ T∈K,T∈ts∧halfT s T∈ts
 map : ∃ F,MapV 140 w mb K.length F∧(∀ T∈K,F (keyM ts T)=some (.int .i64 (idT ts (halfT s T):Int))) ∧ ∀ key v,F key=some v → ∃ T∈K,key=keyM ts T
theorem Memo.lt {w:World} {mb:Nat} {s:Int→Bool} {ts K:List Tr} (h:Memo w mb s ts K):mb<w.heap.size:=by
 obtain ⟨F,h1,_⟩:=h.map
 exact h1.lt
theorem Memo.later {w w':World} {mb:Nat} {s:Int→Bool} {ts K:List Tr} (h:Memo w mb s ts K) (hb:w'.heap[mb]? = w.heap[mb]?):Memo w' mb s ts K:=by
 obtain ⟨F,h1,h2⟩:=h.map
 exact ⟨h.nd,h.mem,F,h1.of_block hb,h2⟩
theorem Memo.grow {w:World} {mb:Nat} {s:Int→Bool} {ts us K:List Tr} (h:Memo w mb s ts K) (hp:ts <+: us):Memo w mb s us K:=by
 obtain ⟨F,h1,h2,h3⟩:=h.map
 have key : ∀ T∈K,keyM us T=keyM ts T:=fun T hT=>by unfold keyM;rw [idT_prefix hp (h.mem T hT).1]
 refine ⟨h.nd,fun T hT=>⟨hp.subset (h.mem T hT).1,hp.subset (h.mem T hT).2⟩,F,h1,fun T hT=>?_,fun k v hk=>?_⟩
 · rw [key T hT,h2 T hT,idT_prefix hp (h.mem T hT).2]
 · obtain ⟨T,hT,e⟩:=h3 k v hk
   exact ⟨T,hT,e.trans (key T hT).symm⟩
theorem Memo.new {w:World} {mb:Nat} (s:Int→Bool) (ts:List Tr) (h:MapV 140 w mb 0 fun _=>none):Memo w mb s ts [] :=
 ⟨by simp,fun T h=>by simp at h,_,h,fun T h=>by simp at h,fun key v h=>by cases h⟩
theorem Memo.look {w:World} {mb:Nat} {s:Int→Bool} {ts K:List Tr} (h:Memo w mb s ts K) (hlen:ts.length≤4000000) {T:Tr} (hT:T∈ts) (hd:0≤depT T∧depT T≤16) :
 (T∈K∧(Instr.lookup 136 (.map (some mb)) (keyM ts T) true).run Tryz.prog w = .ok (.tuple #[(idT ts (halfT s T):Int),.bool true]) w) ∨
 (T ∉ K∧(Instr.lookup 136 (.map (some mb)) (keyM ts T) true).run Tryz.prog w = .ok (.tuple #[(0:Int),.bool false]) w):=by
 obtain ⟨F,h1,h2,h3⟩:=h.map
 obtain ⟨kl,hk⟩:=keyM_key hlen hT hd
 have hr:=(MapV.look pairKeyed Tryz.underlying136 (zeroIL w) h1 hk).2
 by_cases hm:T∈K
 · refine .inl ⟨hm,?_⟩
   rw [hr,h2 T hm];rfl
 · refine .inr ⟨hm,?_⟩
   cases hf:F (keyM ts T) with
   | none=>rw [hr,hf];rfl
   | some v =>
     obtain ⟨U,hU,e⟩:=h3 _ v hf
     exact absurd (keyM_inj hT (h.mem U hU).1 e ▸ hU) hm
theorem Memo.len {w:World} {mb:Nat} {s:Int→Bool} {ts K:List Tr} (h:Memo w mb s ts K):K.length≤ts.length:=nodup_le3 K ts h.nd fun x hx=>(h.mem x hx).1
theorem Memo.put {w:World} {mb:Nat} {s:Int→Bool} {ts K:List Tr} (h:Memo w mb s ts K) (hlen:ts.length≤4000000) {T:Tr} (hT:T∈ts) (hd:0≤depT T∧depT T≤16) (hK:T ∉ K) (hh:halfT s T∈ts) :
 ∃ w',(Instr.mapUpdate 136 (.map (some mb)) (keyM ts T) (.int .i64 (idT ts (halfT s T):Int))).run Tryz.prog w = .ok () w'∧Memo w' mb s ts (K++[T])∧w.grownBy w' (some mb)∧w'.heap.size=w.heap.size:=by
 have hl:=h.len
 obtain ⟨F,h1,h2,h3⟩:=h.map
 obtain ⟨kl,hk⟩:=keyM_key hlen hT hd
 obtain ⟨w',hr,m1,m2,m3⟩:=MapV.put pairKeyed Tryz.underlying136 h1 (by unfold maxLen;omega) hk (.int .i64 (idT ts (halfT s T):Int))
 refine ⟨w',hr,⟨?_,?_,_,by simpa using m1,?_,?_⟩,m2,m3⟩
 · rw [List.nodup_append]
   exact ⟨h.nd,by simp,fun a ha b hb e=>by rw [List.mem_singleton.1 hb] at e;exact hK (e ▸ ha)⟩
 · intro U hU
   rcases List.mem_append.1 hU with hU | hU
   · exact h.mem U hU
   · rw [List.mem_singleton.1 hU];exact ⟨hT,hh⟩
 · intro U hU
   by_cases e:U=T
   · subst e;exact putV_same _ _ _
   · have hUK:U∈K:=by
      rcases List.mem_append.1 hU with hU | hU
      · exact hU
      · exact absurd (List.mem_singleton.1 hU) e
     rw [putV_other F _ (fun e'=>e (keyM_inj (h.mem U hUK).1 hT e'))]
     exact h2 U hUK
 · intro key v hv
   by_cases e:key=keyM ts T
   · exact ⟨T,by simp,e⟩
   · rw [putV_other F _ e] at hv
     obtain ⟨U,hU,e'⟩:=h3 key v hv
     exact ⟨U,by simp [hU],e'⟩
end
section
open Go.RowKit Go.Sort Go.Maps
open Oct
theorem cell_keepsL {w w':World} {Far:Nat→Prop} {b o:Nat} {v:Value} (hk:Keeps Far w w') (hf:Far b) (h:w.cell? ⟨b,o,none⟩=some v):w'.cell? ⟨b,o,none⟩=some v:=by
 rw [World.cell?_of_block (hk.block b hf (World.block_lt_of_cell? w _ h))];exact h
def FarM (Far:Nat→Prop) (mb:Nat):Nat→Prop:=fun x=>Far x∨x=mb
theorem FarM.mono {Far Far':Nat→Prop} {mb:Nat} (h : ∀ k,Far k→Far' k) : ∀ k,FarM Far mb k→FarM Far' mb k:=fun k hk=>hk.imp (h k) id
theorem SlM.far {w w':World} {Far:Nat→Prop} {a:Option Addr} {L:List Mat} (h:SlM w a L) (hk:Keeps Far w w') (hf:L ≠ [] → ∀ b,a.map (·.block)=some b→Far b):SlM w' a L:=by
 intro i m hm
 obtain ⟨b,off,rfl,hc⟩:=h i m hm
 refine ⟨b,off,rfl,fun j u hu=>cell_keepsL hk (hf (by rintro rfl;simp at hm) b rfl) (hc j u hu)⟩
structure HCtx (w:World) (Far:Nat→Prop) (cb sb mb:Nat) (ta:Option Addr) (tc:Nat) (L:List Mat):Prop where
 kc:Bk w cb #[.pointer (some ⟨sb,0,none⟩),.slice ta L.length tc,.map (some mb)] 138
 tb:SlM w ta L
 fc:Far cb
 fm : ¬Far mb
 ft:L ≠ [] → ∀ b,ta.map (·.block)=some b→Far b
theorem HCtx.far {w w':World} {Far:Nat→Prop} {cb sb mb:Nat} {ta:Option Addr} {tc:Nat} {L:List Mat} (h:HCtx w Far cb sb mb ta tc L) (hk:Keeps Far w w'):HCtx w' Far cb sb mb ta tc L :=
 ⟨h.kc.far hk h.fc,h.tb.far hk h.ft,h.fc,h.fm,h.ft⟩
theorem HCtx.later {w w':World} {Far:Nat→Prop} {cb sb mb:Nat} {ta:Option Addr} {tc:Nat} {L:List Mat} (h:HCtx w Far cb sb mb ta tc L) (hb:Below w.heap.size w w'):HCtx w' Far cb sb mb ta tc L:=h.far (Keeps.below hb)
theorem HCtx.wider {w:World} {Far Far':Nat→Prop} {cb sb mb:Nat} {ta:Option Addr} {tc:Nat} {L:List Mat} (h:HCtx w Far cb sb mb ta tc L) (hf : ∀ k,Far k→Far' k) (hm : ¬Far' mb):HCtx w Far' cb sb mb ta tc L :=
 ⟨h.kc,h.tb,hf _ h.fc,hm,fun hL b hb=>hf _ (h.ft hL b hb)⟩
structure HD (Far:Nat→Prop) (mb sb:Nat) (most:Int) (s:Int→Bool) (ts ts':List Tr) (B:Nat) (H:Tr) (K:List Tr) (w:World) (e:Ending) (w':World):Prop where
 keeps:Keeps Far w w'
 way:(Tr.Fits most ts ts'∧e=ret2 (idT ts' H:Int) 0∧StoreIs w' (FarM Far mb) sb most ts' ∧ ∃ K',Memo w' mb s ts' K' ∧ ∀ x∈K',x∈K∨Tr.sz x<B) ∨
  (¬Tr.Fits most ts ts'∧e=ret2 0 14 ∧ ∃ us,Good us∧ts <+: us∧us <+: ts'∧StoreIs w' (FarM Far mb) sb most us)
theorem HD.since {Far Far':Nat→Prop} {mb sb:Nat} {most:Int} {s:Int→Bool} {ts ts':List Tr} {B:Nat} {H:Tr} {K:List Tr} {w W w':World} {e:Ending} (h:HD Far' mb sb most s ts ts' B H K W e w') (hb:Below w.heap.size w W) (hf : ∀ k,Far k→Far' k):HD Far mb sb most s ts ts' B H K w e w':=by
 refine ⟨(Keeps.below hb).trans (h.keeps.less hf),?_⟩
 rcases h.way with ⟨h1,h2,h3,h4⟩ | ⟨h1,h2,us,g1,g2,g3,g4⟩
 · exact .inl ⟨h1,h2,h3.less (FarM.mono hf),h4⟩
 · exact .inr ⟨h1,h2,us,g1,g2,g3,g4.less (FarM.mono hf)⟩
theorem HD.ends {Far:Nat→Prop} {mb sb:Nat} {most:Int} {s:Int→Bool} {ts ts':List Tr} {B:Nat} {H:Tr} {K:List Tr} {w w':World} {e:Ending} (h:HD Far mb sb most s ts ts' B H K w e w') : ∃ i er,e=ret2 i er:=by
 rcases h.way with ⟨_,h,_⟩ | ⟨_,h,_⟩ <;> exact ⟨_,_,h⟩
theorem HD.same {Far:Nat→Prop} {mb sb:Nat} {most:Int} {s:Int→Bool} {ts:List Tr} {B:Nat} {H:Tr} {K:List Tr} {w w':World} (hb:Below w.heap.size w w') (hS:StoreIs w (FarM Far mb) sb most ts) (hK:Memo w mb s ts K) (hH:H∈ts):HD Far mb sb most s ts (Tr.add H ts) B H K w (ret2 (idT ts H:Int) 0) w':=by
 rw [Tr.add_same _ _ hH]
 exact ⟨Keeps.below hb,.inl ⟨.inl rfl,rfl,hS.later hb,K,hK.later (hb.block _ hK.lt),fun x hx=>.inl hx⟩⟩
theorem HD.made {Far:Nat→Prop} {mb sb:Nat} {most:Int} {s:Int→Bool} {ts ts':List Tr} {B:Nat} {H:Tr} {K:List Tr} {w w':World} {e:Ending} (h:Grew (FarM Far mb) sb most ts ts' H w e w') (hp:ts <+: ts') (hK:Memo w mb s ts K):HD Far mb sb most s ts ts' B H K w e w':=by
 refine ⟨h.keeps.less fun k hk=>.inl hk,?_⟩
 rcases h.way with ⟨h1,h2,h3⟩ | ⟨h1,h2,h3⟩
 · exact .inl ⟨h1,h2,h3,K,(hK.later (h.keeps.block _ (.inr rfl) hK.lt)).grow hp,fun x hx=>.inl hx⟩
 · exact .inr ⟨h1,h2,h3⟩
end
section
open Go.RowKit Go.Sort Go.Maps
open Oct
attribute [local go_sem] Oper.semAt_some
set_option maxRecDepth 100000 in
set_option maxHeartbeats 1000000 in
theorem lv_half_uni (cb sb mb:Nat) (ta:Option Addr) (nl tc:Nat) (id d k:Int) (w:World) (hC:Bk w cb #[.pointer (some ⟨sb,0,none⟩),.slice ta nl tc,.map (some mb)] 138) (hk:k=1)
 (HK:Bx (∀ W,Below w.heap.size w W→Calls Tryz.prog 103 #[.pointer (some ⟨sb,0,none⟩),id] W fun e w'=>e = .returned (.int .i64 k)∧W=w')) :
 Calls Tryz.prog 46 #[.pointer (some ⟨cb,0,none⟩),id,d] w fun e w'=>e=ret2 id 0∧Below w.heap.size w w':=by
 have HC:=Bx.mk hC
 have t0:(k == 1)=true:=by simpa using hk
 clear hC hk
 go_enter Tryz.func46,Tryz.ntmps46
 go_upto_region 1 with fail
 generalize hW:World.alloc (World.alloc (World.alloc w _) _) _=W
 have hB:=bl3 hW
 have kc:Bk W w.heap.size #[.pointer (some ⟨cb,0,none⟩)] 79:=bk2 hW
 have ki:Bk W (w.heap.size+1) #[id] 3:=bk1 hW
 have kd:Bk W (w.heap.size+1+1) #[d] 3:=bk0 hW
 clear hW
 have kk:=HC.out.later hB
 have p0 : ∀ dk osk,(grow (redrawn W dk) osk).cell? ⟨w.heap.size,0,none⟩=some (.pointer (some ⟨cb,0,none⟩)):=cell_regrown (kc.cell 0 rfl)
 have p1 : ∀ dk osk,(grow (redrawn W dk) osk).cell? ⟨w.heap.size+1,0,none⟩=some (.int .i64 id):=cell_regrown (ki.cell 0 rfl)
 have p2 : ∀ dk osk,(grow (redrawn W dk) osk).cell? ⟨cb,0,none⟩=some (.pointer (some ⟨sb,0,none⟩)):=cell_regrown (kk.cell 0 rfl)
 have u0:=Bx.mk fun dk osk=>(HK.out (grow (redrawn W dk) osk) (hB.trans ((below_regrown W dk osk).mono hB.size))).mono fun e w' (h:_∧_)=>And.intro h.1 (show Below (grow (redrawn W dk) osk).heap.size (grow (redrawn W dk) osk) w' from h.2 ▸ Below.refl _ _)
 have u1:=Bx.mk fun dk osk=>Calls.regrown_of (u0.out dk osk)
 refine wp_region_quiet_below (by kernel_rfl) (by kernel_rfl) ?_
 repeat (first | go_big_quiet_step (exact u1.out _ _) | quiet_step (exact u1.out _ _))
 refine wpQuiet_nil ?_
 rintro _ ⟨⟨dq,osq⟩,rfl⟩
 have hb:=below_regrown W dq osq
 replace hB:=hB.trans (hb.mono hB.size)
 replace kc:=Bx.mk (kc.later hb)
 replace ki:=Bx.mk (ki.later hb)
 replace kd:=Bx.mk (kd.later hb)
 replace kk:=Bx.mk (kk.later hb)
 clear hb p0 p1 p2 u0 u1
 generalize grow (redrawn W dq) osq=W1 at *
 have c1:=ki.out.cell 0 rfl
 go_wp2_with fail
 go_ret2
 exact ⟨rfl,hB⟩
set_option maxRecDepth 100000 in
set_option maxHeartbeats 1000000 in
theorem lv_half_hit (cb sb mb:Nat) (ta:Option Addr) (nl tc:Nat) (id d k:Int) (w:World) (hC:Bk w cb #[.pointer (some ⟨sb,0,none⟩),.slice ta nl tc,.map (some mb)] 138) (h:Int) (hk:k ≠ 1)
 (HK:Bx (∀ W,Below w.heap.size w W→Calls Tryz.prog 103 #[.pointer (some ⟨sb,0,none⟩),id] W fun e w'=>e = .returned (.int .i64 k)∧W=w'))
 (HL:Bx (∀ W,Below w.heap.size w W→(Instr.lookup 136 (.map (some mb)) (.agg #[id,d]) true).run Tryz.prog W = .ok (.tuple #[h,.bool true]) W)) :
 Calls Tryz.prog 46 #[.pointer (some ⟨cb,0,none⟩),id,d] w fun e w'=>e=ret2 h 0∧Below w.heap.size w w':=by
 have HC:=Bx.mk hC
 have t0:(k == 1)=false:=by simpa using hk
 clear hC hk
 go_enter Tryz.func46,Tryz.ntmps46
 go_upto_region 1 with fail
 generalize hW:World.alloc (World.alloc (World.alloc w _) _) _=W
 have hB:=bl3 hW
 have kc:Bk W w.heap.size #[.pointer (some ⟨cb,0,none⟩)] 79:=bk2 hW
 have ki:Bk W (w.heap.size+1) #[id] 3:=bk1 hW
 have kd:Bk W (w.heap.size+1+1) #[d] 3:=bk0 hW
 clear hW
 have kk:=HC.out.later hB
 have p0 : ∀ dk osk,(grow (redrawn W dk) osk).cell? ⟨w.heap.size,0,none⟩=some (.pointer (some ⟨cb,0,none⟩)):=cell_regrown (kc.cell 0 rfl)
 have p1 : ∀ dk osk,(grow (redrawn W dk) osk).cell? ⟨w.heap.size+1,0,none⟩=some (.int .i64 id):=cell_regrown (ki.cell 0 rfl)
 have p2 : ∀ dk osk,(grow (redrawn W dk) osk).cell? ⟨cb,0,none⟩=some (.pointer (some ⟨sb,0,none⟩)):=cell_regrown (kk.cell 0 rfl)
 have u0:=Bx.mk fun dk osk=>(HK.out (grow (redrawn W dk) osk) (hB.trans ((below_regrown W dk osk).mono hB.size))).mono fun e w' (h:_∧_)=>And.intro h.1 (show Below (grow (redrawn W dk) osk).heap.size (grow (redrawn W dk) osk) w' from h.2 ▸ Below.refl _ _)
 have u1:=Bx.mk fun dk osk=>Calls.regrown_of (u0.out dk osk)
 refine wp_region_quiet_below (by kernel_rfl) (by kernel_rfl) ?_
 repeat (first | go_big_quiet_step (exact u1.out _ _) | quiet_step (exact u1.out _ _))
 refine wpQuiet_nil ?_
 rintro _ ⟨⟨dq,osq⟩,rfl⟩
 have hb:=below_regrown W dq osq
 replace hB:=hB.trans (hb.mono hB.size)
 replace kc:=Bx.mk (kc.later hb)
 replace ki:=Bx.mk (ki.later hb)
 replace kd:=Bx.mk (kd.later hb)
 replace kk:=Bx.mk (kk.later hb)
 clear hb p0 p1 p2 u0 u1
 generalize grow (redrawn W dq) osq=W1 at *
 go_upto_region 3 with fail
 refine wp_region_relX 8 0 (fun ii v w'=>match ii with
  | 0=>v = .pointer (some ⟨cb,0,none⟩)
  | 1=>v = .pointer (some ⟨cb,0,none⟩)
  | 2=>v = .pointer (some ⟨cb,2,none⟩)
  | 3=>v = .map (some mb)
  | 4=>v = .int .i64 id
  | 5=>v = .int .i64 d
  | 6=>v = .agg #[id,d]
  | _=>v = .tuple #[h,.bool true]) (by kernel_rfl) (by kernel_rfl) 52 (by kernel_rfl) (by rfl) ?_ ?_ ?_
 · intro ii hi v u1 u2 hb h
   match ii,hi with
   | 0,_=>exact h
   | 1,_=>exact h
   | 2,_=>exact h
   | 3,_=>exact h
   | 4,_=>exact h
   | 5,_=>exact h
   | 6,_=>exact h
   | 7,_=>exact h
 · intro ii o hi ho ρ w1 hb hc1 hc2 hc3 hk
   match ii,hi with
   | 0, _ =>
     obtain rfl:=Option.some.inj ho
     have g0:ρ (.tmp 3) = .pointer (some ⟨w.heap.size,0,none⟩):=hk 3 (by simp [Op.operands,Call.operands])
     have k1:=kc.out.later hb
     have z0:=k1.cell 0 rfl
     clear hk hb HK HL
     go_simp
     exact Below.refl _ _
   | 1, _ =>
     obtain rfl:=Option.some.inj ho
     have g0:ρ (.tmp 22) = .pointer (some ⟨cb,0,none⟩):=hk 22 (by simp [Op.operands,Call.operands])
     clear hk hb HK HL
     go_simp
     exact Below.refl _ _
   | 2, _ =>
     obtain rfl:=Option.some.inj ho
     have g0:ρ (.tmp 23) = .pointer (some ⟨cb,0,none⟩):=hk 23 (by simp [Op.operands,Call.operands])
     clear hk hb HK HL
     go_simp
     exact Below.refl _ _
   | 3, _ =>
     obtain rfl:=Option.some.inj ho
     have g0:ρ (.tmp 24) = .pointer (some ⟨cb,2,none⟩):=hk 24 (by simp [Op.operands,Call.operands])
     have k1:=kk.out.later hb
     have z2:=k1.cell 2 rfl
     clear hk hb HK HL
     go_simp
     exact Below.refl _ _
   | 4, _ =>
     obtain rfl:=Option.some.inj ho
     have g0:ρ (.tmp 4) = .pointer (some ⟨w.heap.size+1,0,none⟩):=hk 4 (by simp [Op.operands,Call.operands])
     have k1:=ki.out.later hb
     have z0:=k1.cell 0 rfl
     clear hk hb HK HL
     go_simp
     exact Below.refl _ _
   | 5, _ =>
     obtain rfl:=Option.some.inj ho
     have g0:ρ (.tmp 5) = .pointer (some ⟨w.heap.size+1+1,0,none⟩):=hk 5 (by simp [Op.operands,Call.operands])
     have k1:=kd.out.later hb
     have z0:=k1.cell 0 rfl
     clear hk hb HK HL
     go_simp
     exact Below.refl _ _
   | 6, _ =>
     obtain rfl:=Option.some.inj ho
     have g0:ρ (.tmp 26) = .int .i64 id:=hk 26 (by simp [Op.operands,Call.operands])
     have g1:ρ (.tmp 27) = .int .i64 d:=hk 27 (by simp [Op.operands,Call.operands])
     clear hk hb HK HL
     go_simp
     exact Below.refl _ _
   | 7, _ =>
     obtain rfl:=Option.some.inj ho
     have g0:ρ (.tmp 25) = .map (some mb):=hk 25 (by simp [Op.operands,Call.operands])
     have g1:ρ (.tmp 28) = .agg #[id,d]:=hk 28 (by simp [Op.operands,Call.operands])
     have hl:=HL.out w1 (hB.trans (hb.mono hB.size))
     clear hk hb HK HL
     go_simp
     exact Below.refl _ _
 · intro vs W2 hlen hb hR
   match vs,hlen with
   | [v0,v1,v2,v3,v4,v5,v6,v7],_ =>
   have r0:v0 = .pointer (some ⟨cb,0,none⟩):=hR 0 v0 rfl
   have r1:v1 = .pointer (some ⟨cb,0,none⟩):=hR 1 v1 rfl
   have r2:v2 = .pointer (some ⟨cb,2,none⟩):=hR 2 v2 rfl
   have r3:v3 = .map (some mb):=hR 3 v3 rfl
   have r4:v4 = .int .i64 id:=hR 4 v4 rfl
   have r5:v5 = .int .i64 d:=hR 5 v5 rfl
   have r6:v6 = .agg #[id,d]:=hR 6 v6 rfl
   have r7:v7 = .tuple #[h,.bool true]:=hR 7 v7 rfl
   clear hR
   subst r0 r1 r2 r3 r4 r5 r6 r7
   simp only [puts,List.take_succ_cons,List.take_zero,List.drop_succ_cons,List.drop_zero,List.map_cons,List.map_nil,List.zip_cons_cons,List.zip_nil_right,List.foldl_cons,List.foldl_nil]
   replace hB:=hB.trans (hb.mono hB.size)
   replace kc:=Bx.mk (kc.out.later hb)
   replace ki:=Bx.mk (ki.out.later hb)
   replace kd:=Bx.mk (kd.out.later hb)
   replace kk:=Bx.mk (kk.out.later hb)
   clear hb
   go_wp2_with fail
   go_ret2
   exact ⟨rfl,hB⟩
set_option maxRecDepth 100000 in
set_option maxHeartbeats 1000000 in
theorem lv_half_miss (cb sb mb:Nat) (ta:Option Addr) (nl tc:Nat) (id d k:Int) (w:World) (hC:Bk w cb #[.pointer (some ⟨sb,0,none⟩),.slice ta nl tc,.map (some mb)] 138) (hk:k ≠ 1) (R1:Ending→World→Prop) (P P2:Int→World→Prop) (Q:World→Prop)
 (HK:Bx (∀ W,Below w.heap.size w W→Calls Tryz.prog 103 #[.pointer (some ⟨sb,0,none⟩),id] W fun e w'=>e = .returned (.int .i64 k)∧W=w'))
 (HL:Bx (∀ W,Below w.heap.size w W→(Instr.lookup 136 (.map (some mb)) (.agg #[id,d]) true).run Tryz.prog W = .ok (.tuple #[(0:Int),.bool false]) W))
 (HM:Bx (∀ W,Below w.heap.size w W→w.heap.size+3≤W.heap.size→Bk W w.heap.size #[.pointer (some ⟨cb,0,none⟩)] 79→Bk W (w.heap.size+1) #[id] 3→Bk W (w.heap.size+1+1) #[d] 3→Calls Tryz.prog 104 #[.pointer (some ⟨w.heap.size+1+1,0,none⟩),.pointer (some ⟨w.heap.size,0,none⟩),.pointer (some ⟨w.heap.size+1,0,none⟩)] W R1))
 (HR : ∀ e w',R1 e w'→(∃ h,e=ret2 h 0∧P h w')∨(e=ret2 0 14∧Q w'))
 (HP:Bx (∀ h w',P h w'→(Bk w' w.heap.size #[.pointer (some ⟨cb,0,none⟩)] 79∧Bk w' (w.heap.size+1) #[id] 3∧Bk w' (w.heap.size+1+1) #[d] 3∧Bk w' cb #[.pointer (some ⟨sb,0,none⟩),.slice ta nl tc,.map (some mb)] 138) ∧ ∀ W,Below w'.heap.size w' W → ∃ W',(Instr.mapUpdate 136 (.map (some mb)) (.agg #[id,d]) (.int .i64 h)).run Tryz.prog W = .ok () W'∧P2 h W')) :
 Calls Tryz.prog 46 #[.pointer (some ⟨cb,0,none⟩),id,d] w fun e w'=>(∃ h,e=ret2 h 0∧P2 h w')∨(e=ret2 0 14∧Q w'):=by
 have HRb:=Bx.mk HR
 clear HR
 have HC:=Bx.mk hC
 have t0:(k == 1)=false:=by simpa using hk
 clear hC hk
 go_enter Tryz.func46,Tryz.ntmps46
 go_upto_region 1 with fail
 generalize hW:World.alloc (World.alloc (World.alloc w _) _) _=W
 have hB:=bl3 hW
 have kc:Bk W w.heap.size #[.pointer (some ⟨cb,0,none⟩)] 79:=bk2 hW
 have ki:Bk W (w.heap.size+1) #[id] 3:=bk1 hW
 have kd:Bk W (w.heap.size+1+1) #[d] 3:=bk0 hW
 have hSz:w.heap.size+3≤W.heap.size:=by rw [←hW];simp
 clear hW
 have kk:=HC.out.later hB
 have p0 : ∀ dk osk,(grow (redrawn W dk) osk).cell? ⟨w.heap.size,0,none⟩=some (.pointer (some ⟨cb,0,none⟩)):=cell_regrown (kc.cell 0 rfl)
 have p1 : ∀ dk osk,(grow (redrawn W dk) osk).cell? ⟨w.heap.size+1,0,none⟩=some (.int .i64 id):=cell_regrown (ki.cell 0 rfl)
 have p2 : ∀ dk osk,(grow (redrawn W dk) osk).cell? ⟨cb,0,none⟩=some (.pointer (some ⟨sb,0,none⟩)):=cell_regrown (kk.cell 0 rfl)
 have u0:=Bx.mk fun dk osk=>(HK.out (grow (redrawn W dk) osk) (hB.trans ((below_regrown W dk osk).mono hB.size))).mono fun e w' (h:_∧_)=>And.intro h.1 (show Below (grow (redrawn W dk) osk).heap.size (grow (redrawn W dk) osk) w' from h.2 ▸ Below.refl _ _)
 have u1:=Bx.mk fun dk osk=>Calls.regrown_of (u0.out dk osk)
 refine wp_region_quiet_below (by kernel_rfl) (by kernel_rfl) ?_
 repeat (first | go_big_quiet_step (exact u1.out _ _) | quiet_step (exact u1.out _ _))
 refine wpQuiet_nil ?_
 rintro _ ⟨⟨dq,osq⟩,rfl⟩
 have hb:=below_regrown W dq osq
 replace hB:=hB.trans (hb.mono hB.size)
 replace kc:=Bx.mk (kc.later hb)
 replace ki:=Bx.mk (ki.later hb)
 replace kd:=Bx.mk (kd.later hb)
 replace kk:=Bx.mk (kk.later hb)
 replace hSz:=Nat.le_trans hSz hb.size
 clear hb p0 p1 p2 u0 u1
 generalize grow (redrawn W dq) osq=W1 at *
 go_upto_region 3 with fail
 refine wp_region_relX 8 0 (fun ii v w'=>match ii with
  | 0=>v = .pointer (some ⟨cb,0,none⟩)
  | 1=>v = .pointer (some ⟨cb,0,none⟩)
  | 2=>v = .pointer (some ⟨cb,2,none⟩)
  | 3=>v = .map (some mb)
  | 4=>v = .int .i64 id
  | 5=>v = .int .i64 d
  | 6=>v = .agg #[id,d]
  | _=>v = .tuple #[(0:Int),.bool false]) (by kernel_rfl) (by kernel_rfl) 52 (by kernel_rfl) (by rfl) ?_ ?_ ?_
 · intro ii hi v u1 u2 hb h
   match ii,hi with
   | 0,_=>exact h
   | 1,_=>exact h
   | 2,_=>exact h
   | 3,_=>exact h
   | 4,_=>exact h
   | 5,_=>exact h
   | 6,_=>exact h
   | 7,_=>exact h
 · intro ii o hi ho ρ w1 hb hc1 hc2 hc3 hk
   match ii,hi with
   | 0, _ =>
     obtain rfl:=Option.some.inj ho
     have g0:ρ (.tmp 3) = .pointer (some ⟨w.heap.size,0,none⟩):=hk 3 (by simp [Op.operands,Call.operands])
     have k1:=kc.out.later hb
     have z0:=k1.cell 0 rfl
     clear hk hb HK HL
     go_simp
     exact Below.refl _ _
   | 1, _ =>
     obtain rfl:=Option.some.inj ho
     have g0:ρ (.tmp 22) = .pointer (some ⟨cb,0,none⟩):=hk 22 (by simp [Op.operands,Call.operands])
     clear hk hb HK HL
     go_simp
     exact Below.refl _ _
   | 2, _ =>
     obtain rfl:=Option.some.inj ho
     have g0:ρ (.tmp 23) = .pointer (some ⟨cb,0,none⟩):=hk 23 (by simp [Op.operands,Call.operands])
     clear hk hb HK HL
     go_simp
     exact Below.refl _ _
   | 3, _ =>
     obtain rfl:=Option.some.inj ho
     have g0:ρ (.tmp 24) = .pointer (some ⟨cb,2,none⟩):=hk 24 (by simp [Op.operands,Call.operands])
     have k1:=kk.out.later hb
     have z2:=k1.cell 2 rfl
     clear hk hb HK HL
     go_simp
     exact Below.refl _ _
   | 4, _ =>
     obtain rfl:=Option.some.inj ho
     have g0:ρ (.tmp 4) = .pointer (some ⟨w.heap.size+1,0,none⟩):=hk 4 (by simp [Op.operands,Call.operands])
     have k1:=ki.out.later hb
     have z0:=k1.cell 0 rfl
     clear hk hb HK HL
     go_simp
     exact Below.refl _ _
   | 5, _ =>
     obtain rfl:=Option.some.inj ho
     have g0:ρ (.tmp 5) = .pointer (some ⟨w.heap.size+1+1,0,none⟩):=hk 5 (by simp [Op.operands,Call.operands])
     have k1:=kd.out.later hb
     have z0:=k1.cell 0 rfl
     clear hk hb HK HL
     go_simp
     exact Below.refl _ _
   | 6, _ =>
     obtain rfl:=Option.some.inj ho
     have g0:ρ (.tmp 26) = .int .i64 id:=hk 26 (by simp [Op.operands,Call.operands])
     have g1:ρ (.tmp 27) = .int .i64 d:=hk 27 (by simp [Op.operands,Call.operands])
     clear hk hb HK HL
     go_simp
     exact Below.refl _ _
   | 7, _ =>
     obtain rfl:=Option.some.inj ho
     have g0:ρ (.tmp 25) = .map (some mb):=hk 25 (by simp [Op.operands,Call.operands])
     have g1:ρ (.tmp 28) = .agg #[id,d]:=hk 28 (by simp [Op.operands,Call.operands])
     have hl:=HL.out w1 (hB.trans (hb.mono hB.size))
     clear hk hb HK HL
     go_simp
     exact Below.refl _ _
 · intro vs W2 hlen hb hR
   match vs,hlen with
   | [v0,v1,v2,v3,v4,v5,v6,v7],_ =>
   have r0:v0 = .pointer (some ⟨cb,0,none⟩):=hR 0 v0 rfl
   have r1:v1 = .pointer (some ⟨cb,0,none⟩):=hR 1 v1 rfl
   have r2:v2 = .pointer (some ⟨cb,2,none⟩):=hR 2 v2 rfl
   have r3:v3 = .map (some mb):=hR 3 v3 rfl
   have r4:v4 = .int .i64 id:=hR 4 v4 rfl
   have r5:v5 = .int .i64 d:=hR 5 v5 rfl
   have r6:v6 = .agg #[id,d]:=hR 6 v6 rfl
   have r7:v7 = .tuple #[(0:Int),.bool false]:=hR 7 v7 rfl
   clear hR
   subst r0 r1 r2 r3 r4 r5 r6 r7
   simp only [puts,List.take_succ_cons,List.take_zero,List.drop_succ_cons,List.drop_zero,List.map_cons,List.map_nil,List.zip_cons_cons,List.zip_nil_right,List.foldl_cons,List.foldl_nil]
   replace hB:=hB.trans (hb.mono hB.size)
   replace kc:=Bx.mk (kc.out.later hb)
   replace ki:=Bx.mk (ki.out.later hb)
   replace kd:=Bx.mk (kd.out.later hb)
   replace kk:=Bx.mk (kk.out.later hb)
   replace hSz:=Nat.le_trans hSz hb.size
   clear hb
   go_wp2_with fail
   refine (HM.out _ hB hSz kc.out ki.out kd.out).mono ?_
   intro e3 w3 h3
   have hR:=HRb.out e3 w3 h3
   clear h3 HRb HM HL HK hB hSz kc ki kd kk HC
   rcases hR with ⟨h,rfl,hP⟩ | ⟨rfl,hQ⟩
   · obtain ⟨⟨kc,ki,kd,kk⟩,hm⟩:=HP.out h w3 hP
     replace kc:=Bx.mk kc
     replace ki:=Bx.mk ki
     replace kd:=Bx.mk kd
     replace kk:=Bx.mk kk
     replace hm:=Bx.mk hm
     clear hP HP
     go_upto_region 9 with fail
     refine wp_region_relX 8 1 (fun ii v w'=>match ii with
      | 0=>v = .pointer (some ⟨cb,0,none⟩)
      | 1=>v = .pointer (some ⟨cb,0,none⟩)
      | 2=>v = .pointer (some ⟨cb,2,none⟩)
      | 3=>v = .map (some mb)
      | 4=>v = .int .i64 id
      | 5=>v = .int .i64 d
      | 6=>v = .agg #[id,d]
      | _=>v = .int .i64 h) (by kernel_rfl) (by kernel_rfl) 52 (by kernel_rfl) (by rfl) ?_ ?_ ?_
     · intro ii hi v u1 u2 hb h
       match ii,hi with
       | 0,_=>exact h
       | 1,_=>exact h
       | 2,_=>exact h
       | 3,_=>exact h
       | 4,_=>exact h
       | 5,_=>exact h
       | 6,_=>exact h
       | 7,_=>exact h
     · intro ii o hi ho ρ w1 hb hc1 hc2 hc3 hk
       match ii,hi with
       | 0, _ =>
         obtain rfl:=Option.some.inj ho
         have g0:ρ (.tmp 3) = .pointer (some ⟨w.heap.size,0,none⟩):=hk 3 (by simp [Op.operands,Call.operands])
         have k1:=kc.out.later hb
         have z0:=k1.cell 0 rfl
         clear hk hb hm
         go_simp
         exact Below.refl _ _
       | 1, _ =>
         obtain rfl:=Option.some.inj ho
         have g0:ρ (.tmp 42) = .pointer (some ⟨cb,0,none⟩):=hk 42 (by simp [Op.operands,Call.operands])
         clear hk hb hm
         go_simp
         exact Below.refl _ _
       | 2, _ =>
         obtain rfl:=Option.some.inj ho
         have g0:ρ (.tmp 43) = .pointer (some ⟨cb,0,none⟩):=hk 43 (by simp [Op.operands,Call.operands])
         clear hk hb hm
         go_simp
         exact Below.refl _ _
       | 3, _ =>
         obtain rfl:=Option.some.inj ho
         have g0:ρ (.tmp 44) = .pointer (some ⟨cb,2,none⟩):=hk 44 (by simp [Op.operands,Call.operands])
         have k1:=kk.out.later hb
         have z2:=k1.cell 2 rfl
         clear hk hb hm
         go_simp
         exact Below.refl _ _
       | 4, _ =>
         obtain rfl:=Option.some.inj ho
         have g0:ρ (.tmp 4) = .pointer (some ⟨w.heap.size+1,0,none⟩):=hk 4 (by simp [Op.operands,Call.operands])
         have k1:=ki.out.later hb
         have z0:=k1.cell 0 rfl
         clear hk hb hm
         go_simp
         exact Below.refl _ _
       | 5, _ =>
         obtain rfl:=Option.some.inj ho
         have g0:ρ (.tmp 5) = .pointer (some ⟨w.heap.size+1+1,0,none⟩):=hk 5 (by simp [Op.operands,Call.operands])
         have k1:=kd.out.later hb
         have z0:=k1.cell 0 rfl
         clear hk hb hm
         go_simp
         exact Below.refl _ _
       | 6, _ =>
         obtain rfl:=Option.some.inj ho
         have g0:ρ (.tmp 46) = .int .i64 id:=hk 46 (by simp [Op.operands,Call.operands])
         have g1:ρ (.tmp 47) = .int .i64 d:=hk 47 (by simp [Op.operands,Call.operands])
         clear hk hb hm
         go_simp
         exact Below.refl _ _
       | 7, _ =>
         obtain rfl:=Option.some.inj ho
         have g0:ρ (.tmp 11) = .int .i64 h:=hk 11 (by simp [Op.operands,Call.operands])
         clear hk hb hm
         go_simp
         exact Below.refl _ _
     · intro vs W2 hlen hb hR
       match vs,hlen with
       | [v0,v1,v2,v3,v4,v5,v6,v7],_ =>
       have r0:v0 = .pointer (some ⟨cb,0,none⟩):=hR 0 v0 rfl
       have r1:v1 = .pointer (some ⟨cb,0,none⟩):=hR 1 v1 rfl
       have r2:v2 = .pointer (some ⟨cb,2,none⟩):=hR 2 v2 rfl
       have r3:v3 = .map (some mb):=hR 3 v3 rfl
       have r4:v4 = .int .i64 id:=hR 4 v4 rfl
       have r5:v5 = .int .i64 d:=hR 5 v5 rfl
       have r6:v6 = .agg #[id,d]:=hR 6 v6 rfl
       have r7:v7 = .int .i64 h:=hR 7 v7 rfl
       clear hR
       subst r0 r1 r2 r3 r4 r5 r6 r7
       simp only [puts,List.take_succ_cons,List.take_zero,List.drop_succ_cons,List.drop_zero,List.map_cons,List.map_nil,List.zip_cons_cons,List.zip_nil_right,List.foldl_cons,List.foldl_nil]
       obtain ⟨W4,hrun,hP2⟩:=hm.out W2 hb
       have HP2:=Bx.mk hP2
       clear hm hb hP2 kc ki kd kk
       go_wp2_with fail
       go_ret2
       exact .inl ⟨h,rfl,HP2.out⟩
   · have HQ:=Bx.mk hQ
     clear hQ HP
     go_wp2_with fail
     go_ret2
     exact .inr ⟨rfl,HQ.out⟩
end
section
open Go.RowKit
open Oct
abbrev wholeB (n:Nat):Box:=cubeB (2 ^ (n+2))
end
section
open Go.RowKit Go.Sort Go.Maps
open Oct
def kindV:Tr→Int
 | .uni _=>1
 | .brick _=>2
 | .node _ _=>3
theorem kindV_any (Far:Nat→Prop) (sb:Nat) (most:Int) (ts:List Tr) (t:Tr) (ht:t∈ts) (hlen:ts.length≤4194304) (w:World) (hS:StoreIs w Far sb most ts) :
 Calls Tryz.prog 103 #[.pointer (some ⟨sb,0,none⟩),(idT ts t:Int)] w fun e w'=>e = .returned (.int .i64 (kindV t))∧w=w' :=
 kind_any Far sb most ts _ t (idT_get ht) (kindV t) (by cases t <;> rfl) hlen w hS
noncomputable abbrev kidsV (ts:List Tr) (t:Tr):Value:=.agg #[(idT ts (t.kid 0):Int),(idT ts (t.kid 1):Int),(idT ts (t.kid 2):Int),(idT ts (t.kid 3):Int),(idT ts (t.kid 4):Int),(idT ts (t.kid 5):Int),(idT ts (t.kid 6):Int),(idT ts (t.kid 7):Int)]
theorem storeKids_any (Far:Nat→Prop) (sb:Nat) (most:Int) (ts:List Tr) (d:Nat) (ch:Fin 8→Tr) (ht:Tr.node d ch∈ts) (w:World) (hS:StoreIs w Far sb most ts) :
 Calls Tryz.prog 68 #[.pointer (some ⟨sb,0,none⟩),(idT ts (.node d ch):Int)] w fun e w'=>e = .returned (kidsV ts (.node d ch))∧Below w.heap.size w w' :=
 children_any Far sb most ts _ (.node d ch) (idT_get ht) _ _ _ _ _ _ _ _ (fun j u hu=>by
  match j with
  | 0=>simp at hu;subst hu;rfl
  | 1=>simp at hu;subst hu;rfl
  | 2=>simp at hu;subst hu;rfl
  | 3=>simp at hu;subst hu;rfl
  | 4=>simp at hu;subst hu;rfl
  | 5=>simp at hu;subst hu;rfl
  | 6=>simp at hu;subst hu;rfl
  | 7=>simp at hu;subst hu;rfl
  | j+8=>simp at hu) w hS
theorem bk8 {w:World} {g:Nat} {x0 x1 x2 x3 x4 x5 x6 x7:Value} {t:TypeId} (h:Bk w g #[x0,x1,x2,x3,x4,x5,x6,x7] t) (a b c d e f i j:Value):Bk ((((((((w.setCell ⟨g,0,none⟩ a).setCell ⟨g,1,none⟩ b).setCell ⟨g,2,none⟩ c).setCell ⟨g,3,none⟩ d).setCell ⟨g,4,none⟩ e).setCell ⟨g,5,none⟩ f).setCell ⟨g,6,none⟩ i).setCell ⟨g,7,none⟩ j) g #[a,b,c,d,e,f,i,j] t:=by
 simpa using (((((((h.set 0 a).set 1 b).set 2 c).set 3 d).set 4 e).set 5 f).set 6 i).set 7 j
end
end Go.Proofs.YtgnfgblkpnfcnaaGreatDoor
