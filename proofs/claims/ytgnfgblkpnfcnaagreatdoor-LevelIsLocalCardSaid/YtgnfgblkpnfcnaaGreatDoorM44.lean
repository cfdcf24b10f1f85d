/- Ldg, Lrt, Lnw, Lsn: joined by program, for one claim. -/
import Derived.Test.YtgnfgblkpnfcnaaGreatDoorM39
import Derived.Test.YtgnfgblkpnfcnaaGreatDoorM43
import Derived.Great.BuildSlice
import Derived.Deep.MidRow
import Derived.Deep.LoopGhost
import Derived.Test.YtgnfgblkpnfcnaaGreatDoorM29
import Derived.Test.YtgnfgblkpnfcnaaGreatDoorM21
set_option linter.unusedVariables false
set_option linter.unusedSimpArgs false
namespace Go.Proofs.YtgnfgblkpnfcnaaGreatDoor
section
open Go.RowKit Go.Sort Go.Maps
open Oct
theorem fill_oneL {AL:List Value} {k:Nat} (hk:0<k) (hl:AL.length=k) (cells:Array Value) (hc:cells.size=k):Instr.fill (fun i=>some (i * k,k)) cells [(0,.agg AL.toArray)]=some AL.toArray:=by
 obtain ⟨r,h1,h2,h3⟩:=Go.Great.fill_dense hk [.agg AL.toArray] 0 cells (fun v hv=>by
  rw [List.mem_singleton] at hv
  subst hv
  show AL.toArray.size=k
  simpa using hl) (by simp;omega)
 have e:(([.agg AL.toArray]:List Value).zipIdx 0).map (fun x=>(x.2,x.1))=[(0,.agg AL.toArray)]:=rfl
 rw [e] at h1
 rw [h1]
 congr 1
 apply Array.ext_getElem?
 intro j
 rw [h3 j]
 rcases Nat.lt_or_ge j k with h | h
 · rw [if_pos (by simp;omega)]
   have hd:j / k - 0=0:=by rw [Nat.div_eq_of_lt h]
   rw [hd,Nat.mod_eq_of_lt h]
   rfl
 · rw [if_neg (by simp;omega),Array.getElem?_eq_none (by omega),Array.getElem?_eq_none (by simp;omega)]
theorem wpList_buildOneL {P:Program} {ops:Array Oper} {rest:List Oper} {o:Oper} {a:Act} {w:World} {Q:Exit→Act→World→Prop} (hg:o.guard=none) (t e:TypeId) (x:Operand) (ho:o.op = .buildSlice t 1 #[(0,x)]) (AL:List Value) (hx:a.eval x = .agg AL.toArray)
 (hu:P.underlying t=some (.slice e)) (hi:(P.info? e).map (·.size)=some AL.length) (hz:((P.info? e).bind (·.zero)).isSome=true) (hpos:0<AL.length) (hsm:AL.length≤1000)
 (h:wpList P ops Q rest (a.put o.dst (.slice (some ⟨w.heap.size,0,none⟩) 1 1)) (w.alloc (.cells AL.toArray e))):wpList P ops Q (o::rest) a w:=by
 cases hie:P.info? e with
 | none=>simp [hie] at hi
 | some ie =>
   simp only [hie,Option.map_some,Option.some.injEq,Option.bind_some] at hi hz
   obtain ⟨z,hzz⟩:=Option.isSome_iff_exists.1 hz
   refine wpList_buildSlice hg t e 1 _ ho _ ie z hu hie hzz (by rw [hi];omega) (by rw [hi];omega) ?_ h
   have hp:(#[((0:Nat),x)].map fun (i,x)=>(i,a.eval x)).toList=[((0:Nat),Value.agg AL.toArray)]:=by simp [hx]
   rw [hp,hi]
   exact fill_oneL hpos rfl _ (by simp)
def flatD (Ds:List (List Int)):List Value:=Ds.flatMap fun d=>d.map (Value.int .u8)
theorem flatD_at : ∀ {Ds:List (List Int)},(∀ d∈Ds,d.length=16) → ∀ {k:Nat} {d:List Int},Ds[k]? = some d → ∀ {j:Nat},j<16→(flatD Ds)[k * 16+j]? = (d.map (Value.int .u8))[j]?
 | [],_,k,d,hk,_,_=>by simp at hk
 | x :: Ds, h, 0, d, hk, j, hj => by
   obtain rfl:x=d:=by simpa using hk
   have hx:=h x (List.mem_cons_self ..)
   unfold flatD
   rw [List.flatMap_cons,Nat.zero_mul,Nat.zero_add,List.getElem?_append_left (by rw [List.length_map];omega)]
 | x :: Ds, h, k + 1, d, hk, j, hj => by
   have hx:=h x (List.mem_cons_self ..)
   have ih:=flatD_at (Ds:=Ds) (fun d hd=>h d (List.mem_cons_of_mem _ hd)) (k:=k) (d:=d) (by simpa using hk) hj
   unfold flatD at ih ⊢
   rw [List.flatMap_cons,List.getElem?_append_right (by rw [List.length_map];omega),List.length_map,hx,show (k+1) * 16+j - 16=k * 16+j by omega]
   exact ih
structure OwnD (w:World) (B:Nat) (v:Value) (Ds:List (List Int)):Prop where
 row:w.ownsRow B 43 16 v Ds.length (flatD Ds)
 len : ∀ d∈Ds,d.length=16
theorem OwnD.nil (w:World) (B:Nat):OwnD w B (.slice none 0 0) []:=⟨World.ownsRow_nil w B _ 16,by simp⟩
theorem OwnD.below {w w':World} {B:Nat} {v:Value} {Ds:List (List Int)} (h:OwnD w B v Ds) (hb:Below w.heap.size w w'):OwnD w' B v Ds:=⟨ownsRow_below h.row hb,h.len⟩
theorem OwnD.grown {w w':World} {B:Nat} {v:Value} {Ds:List (List Int)} (h:OwnD w B v Ds) {row:Option Nat} (hg:w.grownBy w' row) (hne:v.ownBlock=none∨v.ownBlock ≠ row):OwnD w' B v Ds:=⟨World.ownsRow.kept h.row hg hne,h.len⟩
theorem OwnD.lt {w:World} {B:Nat} {v:Value} {Ds:List (List Int)} (h:OwnD w B v Ds) : ∀ g,v.ownBlock=some g→B≤g∧g<w.heap.size:=World.ownsRow.lt h.row
def SlD (w:World) (a:Option Addr) (Ds:List (List Int)):Prop := ∀ (k:Nat) d,Ds[k]? = some d → ∃ g,a=some ⟨g,0,none⟩∧w.rangeAt g (k * 16) (d.map (Value.int .u8))∧d.length=16
theorem SlD.below {w w':World} {a:Option Addr} {Ds:List (List Int)} (h:SlD w a Ds) (hb:Below w.heap.size w w'):SlD w' a Ds:=fun k d hk=>by
 obtain ⟨g,h1,h2,h3⟩:=h k d hk
 exact ⟨g,h1,fun j v hj=>cell_later hb (h2 j v hj),h3⟩
theorem OwnD.form {w:World} {B:Nat} {v:Value} {Ds:List (List Int)} (h:OwnD w B v Ds) : ∃ a c,v = .slice a Ds.length c∧Ds.length≤c∧SlD w a Ds:=by
 obtain ⟨a,c,h1,h2,h3,h4⟩:=ownsRow_form h.row
 refine ⟨a,c,h1,h2,fun k d hk=>?_⟩
 have hd:=h.len d (List.mem_of_getElem? hk)
 have hkl:=(List.getElem?_eq_some_iff.1 hk).1
 rcases h3 with h3 | ⟨g,h3,-⟩
 · omega
 · refine ⟨g,h3,fun j u hj=>?_,hd⟩
   have hj16:j<16:=by have:=(List.getElem?_eq_some_iff.1 hj).1;rw [List.length_map] at this;omega
   obtain ⟨g',e,hc⟩:=h4 (k * 16+j) u (by rw [flatD_at h.len hk hj16];exact hj)
   rw [h3] at e
   simp only [Option.some.injEq,Addr.mk.injEq,and_true] at e
   rw [e];exact hc
theorem wpList_append_dig {w:World} {ops:Array Oper} {rest:List Oper} {o:Oper} {a:Act} {Q:Exit→Act→World→Prop} (hgd:o.guard=none) (s x:Operand)
 (ho:o.op = .call { callee:=.builtin .append,args:=#[s,x],argTypes:=#[41,41] })
 (B:Nat) (v:Value) (Ds:List (List Int)) (hs:a.eval s=v) (hown:OwnD w B v Ds) (g c:Nat) (d:List Int) (hd:d.length=16) (hx:a.eval x = .slice (some ⟨g,0,none⟩) 1 c) (hk:Bk w g (d.map (Value.int .u8)).toArray 43) (hl:Ds.length≤1000) (hbase:B≤w.heap.size)
 (h : ∀ v' w',OwnD w' B v' (Ds++[d])→w.grownBy w' v.ownBlock→(v'.ownBlock=v.ownBlock∨v'.ownBlock=some w.heap.size)→wpList Tryz.prog ops Q rest (a.put o.dst v') w'):wpList Tryz.prog ops Q (o::rest) a w :=
 wpList_plain hgd fun _ hK=>by
  obtain ⟨i,hi,hzz⟩:=Option.map_eq_some_iff.1 (show (Tryz.prog.info? 43).map (fun i=>(i.zero,i.size,i.bytes))=some (some (.agg (Array.replicate 16 (.int .u8 0))),16,16) by kernel_rfl)
  simp only [Prod.mk.injEq] at hzz
  obtain ⟨hz,hsz,hby⟩:=hzz
  obtain ⟨v',w',hr,h2,h3,-,h5⟩:=run_append_own_at (P:=Tryz.prog) w B 41 o.type 43 i _ 16 16 Tryz.underlying41 hi hz hsz hby (by decide) (by decide) v Ds.length (flatD Ds) hown.row ⟨g,0,none⟩ 1 c (d.map (Value.int .u8)) (by rw [List.length_map];omega) (fun j u hj=>by
   rw [show (⟨g,0,none⟩:Addr).add j=⟨g,j,none⟩ by cases j <;> simp [Addr.add]]
   exact hk.cell j (by simpa using hj)) (fun y hy=>by obtain ⟨z,_,rfl⟩:=List.mem_map.1 hy;rfl) (by unfold maxLen;omega) (by omega) hbase
  unfold Oper.wp execOp
  simp only [ho,resolve,invoke,builtin,Sem.run_bind,Sem.run_pure,Result.andThen_ok,List.map_toArray,List.map_cons,List.map_nil,hs,hx,hr]
  refine hK _ _ (h v' w' ⟨?_,fun x hx=>?_⟩ h3 h5)
  · rw [show flatD (Ds++[d])=flatD Ds++d.map (Value.int .u8) by simp [flatD],List.length_append]
    exact h2
  · rcases List.mem_append.1 hx with hx | hx
    · exact hown.len x hx
    · rw [List.mem_singleton.1 hx];exact hd
theorem OwnD.far {w w':World} {Far:Nat→Prop} {B:Nat} {v:Value} {Ds:List (List Int)} (h:OwnD w B v Ds) (hk:Keeps Far w w') (hf : ∀ g,v.ownBlock=some g→Far g):OwnD w' B v Ds:=by
 refine ⟨⟨h.row.1,?_⟩,h.len⟩
 rcases h.row.2 with hn | ⟨g,cap,cur,rfl,hb,hgg,rest⟩
 · exact .inl hn
 · exact .inr ⟨g,cap,cur,rfl,hb,by rw [hk.block g (hf g rfl) (Array.getElem?_eq_some_iff.1 hgg).1];exact hgg,rest⟩
end
section
open Go.RowKit Go.Sort Go.Maps
open Oct
attribute [local go_sem] Oper.semAt_some
theorem sizeDig:(Tryz.prog.info? 43).map (·.size)=some 16:=by kernel_rfl
theorem zeroDig:((Tryz.prog.info? 43).bind (·.zero)).isSome=true:=by kernel_rfl
set_option maxRecDepth 100000 in
set_option maxHeartbeats 2000000 in
theorem lv_roots (sb:Nat) (a:Option Addr) (cap:Nat) (ids:List Int) (Ds:List (List Int)) (w:World) (hs:Sl w .i64 a ids) (hn:ids.length=Ds.length) (h1000:Ds.length≤1000) (hd : ∀ d∈Ds,d.length=16)
 (HD:Bx (∀ W,Below w.heap.size w W → ∀ (k:Nat) id d,ids[k]? = some id→Ds[k]? = some d→Calls Tryz.prog 39 #[.pointer (some ⟨sb,0,none⟩),id] W (DigPost W d))) :
 Calls Tryz.prog 16 #[.pointer (some ⟨sb,0,none⟩),.slice a ids.length cap] w fun e w' => ∃ v,e = .returned v∧OwnD w' w.heap.size v Ds∧Below w.heap.size w w':=by
 have HS:=Bx.mk hs
 have Hd:=Bx.mk hd
 have H1:=Bx.mk h1000
 have HN:=Bx.mk hn
 obtain ⟨n,hnn⟩ : ∃ n,n=ids.length:=⟨_,rfl⟩
 rw [←hnn]
 have Hnn:=Bx.mk hnn
 have hn1000:n≤1000:=by omega
 have h16:=Bx.mk sizeDig
 have hz16:=Bx.mk zeroDig
 clear hs hd h1000 hn hnn
 go_enter Tryz.func16,Tryz.ntmps16
 go_wp2_with fail
 go_loopw [5,10] (fun v5 v10 wr => ∃ i:Nat,i≤n∧v10 = .int .i64 i∧Bx (Below w.heap.size w wr)∧Bx (OwnD wr w.heap.size v5 (Ds.take i))) (fun _ i _=>n - (intOf i).toNat)
 case atStart=>exact ⟨0,Nat.zero_le _,rfl,⟨Below.refl _ _⟩,⟨by rw [List.take_zero];exact OwnD.nil _ _⟩⟩
 case round =>
  obtain ⟨i,hi,rfl,HI,HO⟩:=hrel
  by_cases hlt:i<n
  · have t0:decide ((i:Int)<(n:Int))=true:=by simp;omega
    have t0b:decide (i<n)=true:=by simpa using hlt
    have hiI:i<ids.length:=by have:=Hnn.out;omega
    have hiD:i<Ds.length:=by have:=HN.out;omega
    obtain ⟨b,off,rfl,hc⟩:=HS.out i ids[i] (List.getElem?_eq_getElem hiI)
    have c0:=cell_later HI.out hc
    have hD:=Bx.mk (HD.out _ HI.out i ids[i] Ds[i] (List.getElem?_eq_getElem hiI) (List.getElem?_eq_getElem hiD))
    have b1:(0:Int)≤(i:Int)∧(i:Int)<(n:Int):=by omega
    have hcat:Bx (Ds.take i++[Ds[i]]=Ds.take (i+1)):=⟨(List.take_succ_eq_append_getElem hiD).symm⟩
    have hd16:Bx (Ds[i].length=16):=⟨Hd.out _ (List.getElem_mem hiD)⟩
    have hln:Bx ((Ds.take i).length≤1000):=⟨by rw [List.length_take];have:=H1.out;omega⟩
    generalize ids[i]=x at *
    generalize Ds[i]=d at *
    have Hlt:=Bx.mk hlt
    have Hi:=Bx.mk hi
    clear hc hiI hiD hlt hi
    go_wp2_with fail
    refine hD.out.mono ?_
    rintro _ w2 ⟨rfl,hb⟩
    obtain ⟨AL,hAL⟩ : ∃ AL,AL=d.map (Value.int .u8):=⟨_,rfl⟩
    have HAL:=Bx.mk hAL
    have hal:Bx (AL.length=16):=⟨by rw [hAL,List.length_map];exact hd16.out⟩
    unfold arrV
    rw [←hAL]
    have hB2:=Bx.mk (HI.out.trans (hb.mono HI.out.size))
    have HO2:=Bx.mk (HO.out.below hb)
    clear hD c0 hb hAL HI HO
    have hle:w.heap.size≤w2.heap.size:=hB2.out.size
    go_wp2_with (first
     | (refine wpList_buildOneL rfl _ 43 _ rfl AL rfl Tryz.underlying41 (by rw [hal.out];exact h16.out) hz16.out (by rw [hal.out];decide) (by rw [hal.out];decide) ?_)
     | (at_builtin
        refine wpList_append_dig rfl _ _ rfl w.heap.size _ (Ds.take i) rfl (HO2.out.below ((Below.refl _ _).alloc (Nat.le_refl _) (.cells AL.toArray 43))) w2.heap.size 1 d hd16.out rfl (by rw [HAL.out];exact blk_new _ _ _ rfl) hln.out (Nat.le_trans hle (by simp)) ?_
        intro v1 w1 hown1 hg1 _
        rw [hcat.out] at hown1
        have HO3:=Bx.mk hown1
        have HI3:=Bx.mk ((hB2.out.alloc hle (.cells AL.toArray 43)).grown hg1 (le_alloc hle _) (fun g hg=>(HO2.out.lt g hg).1))
        clear hown1 hg1))
    have hlt:=Hlt.out
    go_roundw
    case rel=>exact ⟨i+1,by omega,by go_num,HI3,HO3⟩
    case measure=>simp [intOf];omega
  · obtain rfl:i=n:=by omega
    have t0:decide ((i:Int)<(i:Int))=false:=by simp
    have t0b:decide (i<i)=false:=by simp
    have hO:=HO.out
    rw [List.take_of_length_le (by have:=HN.out;have:=Hnn.out;omega)] at hO
    have HO2:=Bx.mk hO
    clear hO HO hlt hi
    go_wp2_with fail
    go_ret
    exact ⟨_,rfl,HO2.out,HI.out⟩
end
section
open Go.RowKit Go.Sort Go.Maps
open Oct
structure RnQ (q:Int) (w:World) (a b c d e f:Int) (gr gk:Nat) (k:Nat) (v:Value) (wr:World):Prop where
 kk:Bk wr gk #[a,b,c,d,e,f,v] 28
 own:Own wr (gk+1) 3 .i64 v (List.replicate k q)
 kr:Bk wr gr #[(0:Int),(0:Int),(0:Int),(0:Int),(0:Int),(0:Int),.slice none 0 0] 28
 bel:Below w.heap.size w wr
 lt:w.heap.size≤gr∧gr<gk
set_option maxRecDepth 100000 in
set_option maxHeartbeats 2000000 in
theorem ref_newQ (q:Int) (hq:0≤q∧q≤255) (a b c d e f:Int) (hok:okB ⟨⟨a,b,c⟩,⟨d,e,f⟩⟩=true) (he:emptyB ⟨⟨a,b,c⟩,⟨d,e,f⟩⟩=false) (n:Nat) (hn:volB ⟨⟨a,b,c⟩,⟨d,e,f⟩⟩=n) (hle:n≤5000) (w:World) :
 Calls Tryz.prog 37 #[.agg #[a,b,c,d,e,f],q] w fun e' w' => ∃ g cap,e' = .returned (.tuple #[.agg #[a,b,c,d,e,f,.slice (some ⟨g,0,none⟩) n cap],(0:Int)])∧Own w' w.heap.size 3 .i64 (.slice (some ⟨g,0,none⟩) n cap) (List.replicate n q)∧Below w.heap.size w w':=by
 have hok2:okP ⟨a,b,c⟩=true∧okP ⟨d,e,f⟩=true:=by simpa [okB] using hok
 have hr0:=Bx.mk fun W=>ref_ranged a b c W
 have hr1:=Bx.mk fun W=>ref_ranged d e f W
 have hm:=Bx.mk fun W=>ref_mat q W
 have hv:=Bx.mk fun W=>ref_vol a b c d e f (okB_small hok) W
 have hpos:1≤n:=by have:=atB_pos he;omega
 rw [hok2.1] at hr0
 rw [hok2.2] at hr1
 rw [hn] at hv
 rw [show Pal.cell q=true by simp [Pal.cell];omega] at hm
 clear hok he hok2 hn hq
 have t1:((n:Int) == 0)=false:=beq_eq_false_iff_ne.2 (by omega)
 have t2:decide (2097152<(n:Int))=false:=by simp;omega
 go_enter Tryz.func37,Tryz.ntmps37
 go_wp2_with fail
 generalize hW:World.alloc (World.alloc w _) _=W
 have hSz:=sz2 hW
 have hB:=bl2 hW
 have kb:Bk W (w.heap.size) #[a,b,c,d,e,f] 25:=bk1 hW
 have kr:Bk W (w.heap.size+1) #[(0:Int),(0:Int),(0:Int),(0:Int),(0:Int),(0:Int),.slice none 0 0] 28:=bk0 hW
 clear hW
 refine (hr0.out _).mono ?_
 rintro _ w1 ⟨rfl,hb⟩
 replace hB:=hB.trans (hb.mono hB.size)
 replace kb:=kb.later hb
 replace kr:=kr.later hb
 replace hSz:=Nat.le_trans hSz hb.size
 clear hb
 obtain ⟨cb0,cb1,cb2,cb3,cb4,cb5⟩:=kb.c6
 go_wp2_with fail
 clear cb0 cb1 cb2 cb3 cb4 cb5
 refine (hr1.out _).mono ?_
 rintro _ w2 ⟨rfl,hb⟩
 replace hB:=hB.trans (hb.mono hB.size)
 replace kb:=kb.later hb
 replace kr:=kr.later hb
 replace hSz:=Nat.le_trans hSz hb.size
 clear hb
 go_wp2_with fail
 refine (hm.out _).mono ?_
 rintro _ _ ⟨rfl,rfl⟩
 obtain ⟨cb0,cb1,cb2,cb3,cb4,cb5⟩:=kb.c6
 go_wp2_with fail
 refine (hv.out _).mono ?_
 rintro _ w3 ⟨rfl,hb⟩
 clear cb0 cb1 cb2 cb3 cb4 cb5
 replace hB:=hB.trans (hb.mono hB.size)
 replace kb:=kb.later hb
 replace kr:=kr.later hb
 replace hSz:=Nat.le_trans hSz hb.size
 clear hb
 obtain ⟨cb0,cb1,cb2,cb3,cb4,cb5⟩:=kb.c6
 go_wp2_with fail
 generalize hW3:World.alloc w3 _=V3
 have HI:Bx (RnQ q w a b c d e f (w.heap.size+1) w3.heap.size 0 (.slice none 0 0) V3):=⟨by
  have kk:Bk V3 w3.heap.size #[a,b,c,d,e,f,.slice none 0 0] 28:=bk0 hW3 rfl
  have hb3:=bl1 hW3
  exact ⟨kk,Own.nil _ _ _ _,kr.later hb3,hB.trans (hb3.mono hB.size),by omega,kr.lt⟩⟩
 clear cb0 cb1 cb2 cb3 cb4 cb5
 clear hW3 kb kr hB hr0 hr1 hm hv hSz
 generalize w3.heap.size=gk at *
 obtain ⟨gr,hgr⟩ : ∃ gr,gr=w.heap.size+1:=⟨_,rfl⟩
 rw [←hgr] at HI ⊢
 clear hgr
 go_loopw [11] (fun v11 wr => ∃ (k:Nat) (v:Value),k≤n∧v11 = .int .i64 k∧Bx (RnQ q w a b c d e f gr gk k v wr)) (fun i _=>n - (intOf i).toNat)
 case atStart=>exact ⟨0,_,Nat.zero_le _,rfl,HI⟩
 case round =>
  clear HI
  obtain ⟨k,v,hk,rfl,HI⟩:=hrel
  by_cases hlt:k<n
  · have t0:decide ((k:Int)<(n:Int))=true:=by simp;omega
    obtain ⟨pa0,pc0,rfl,-⟩:=HI.out.own.form
    have hlr:(List.replicate k q).length=k:=List.length_replicate
    rw [hlr] at HI
    have cg6:=HI.out.kk.cell 6 rfl
    have hgl:gk+1≤wr.heap.size:=HI.out.kk.lt
    have hl9:(List.replicate k q++[q]).length=k+1:=by simp
    have hne:=Bx.mk (show ∀ x,x<gk+1→(Value.slice pa0 k pc0).ownBlock ≠ some x from fun x hx e=>by have:=(HI.out.own.lt x e).1;omega)
    have Htl:=Bx.mk (show (List.replicate k q).length≤1000000000 by rw [List.length_replicate];omega)
    go_wp2_with (first
     | (at_builtin
        refine wpList_append_int rfl _ _ 26 rfl 3 .i64 (.int .i64 0) 8 (by omega) Tryz.underlying26 (by kernel_rfl) rfl (gk+1) _ (List.replicate k q) rfl (HI.out.own.alloc _) q ⟨wr.heap.size,0,none⟩ 1 rfl (cell_new _ _ _) Htl.out (le_alloc hgl _) ?_
        intro v1 w1 hown1 hg1 hv1
        obtain ⟨pa,pc,rfl,-⟩:=hown1.form
        rw [hl9] at hown1 ⊢
        have kk1:Bk w1 gk #[a,b,c,d,e,f,.slice pa0 k pc0] 28:=Bk.grownO (blk_old HI.out.kk) hg1 (hne.out _ (by omega))
        have cg6':=kk1.cell 6 rfl
        have fg6:=kk1.frozen 6))
    have kr1:Bk w1 gr #[(0:Int),(0:Int),(0:Int),(0:Int),(0:Int),(0:Int),.slice none 0 0] 28:=Bk.grownO (blk_old HI.out.kr) hg1 (hne.out _ (by have:=HI.out.lt.2;omega))
    have hb1:Below w.heap.size w w1:=(HI.out.bel.alloc HI.out.bel.size (.cells #[q] 3)).grown hg1 (le_alloc HI.out.bel.size _) (fun g hg=>by have:=(HI.out.own.lt g hg).1;have:=HI.out.lt;omega)
    have Hown1:=Bx.mk hown1
    have HK:=Bx.mk kk1
    have HR:=Bx.mk kr1
    have HB:=Bx.mk hb1
    clear hl9 hlr hown1 hg1 hne kk1 kr1 hb1 cg6
    generalize hW2:World.setCell w1 _ _=w2
    have HI2:Bx (RnQ q w a b c d e f gr gk (k+1) (.slice pa (k+1) pc) w2):=⟨by
     have hge:=HI.out.lt
     rw [←hW2]
     refine ⟨by simpa using HK.out.set 6 (.slice pa (k+1) pc),?_,HR.out.other _ _ (by simp only;omega),HB.out.setCell (by simp only;omega) _,HI.out.lt⟩
     rw [List.replicate_succ']
     exact Hown1.out.setBelow (by simp only;omega) _⟩
    clear hW2 Hown1 HK HR HB HI cg6' fg6
    go_roundw
    case rel=>exact ⟨k+1,_,by omega,by go_num,HI2⟩
    case measure=>simp [intOf];omega
  · obtain rfl:k=n:=by omega
    have t0:decide ((k:Int)<(k:Int))=false:=by simp
    obtain ⟨g,cap,rfl,-,-,-,-,-⟩:=HI.out.own.at (by rw [List.length_replicate];omega)
    have hlr:(List.replicate k q).length=k:=List.length_replicate
    rw [hlr] at HI
    have kk:=HI.out.kk
    have kr:=HI.out.kr
    have hB:=HI.out.bel
    have hlo:=HI.out.lt
    have Hown:=Bx.mk HI.out.own
    clear HI hlr
    obtain ⟨ck0,ck1,ck2,ck3,ck4,ck5,ck6⟩:=kk.c7
    have cr0:=kr.cell 0 rfl
    have fr0:=kr.frozen 0
    have cr1:=kr.cell 1 rfl
    have fr1:=kr.frozen 1
    have cr2:=kr.cell 2 rfl
    have fr2:=kr.frozen 2
    have cr3:=kr.cell 3 rfl
    have fr3:=kr.frozen 3
    have cr4:=kr.cell 4 rfl
    have fr4:=kr.frozen 4
    have cr5:=kr.cell 5 rfl
    have fr5:=kr.frozen 5
    have cr6:=kr.cell 6 rfl
    have fr6:=kr.frozen 6
    go_wp2_with fail
    replace kr:=kr.put7 (.int .i64 a) (.int .i64 b) (.int .i64 c) (.int .i64 d) (.int .i64 e) (.int .i64 f) (.slice (some ⟨g,0,none⟩) k cap)
    obtain ⟨z0,z1,z2,z3,z4,z5,z6⟩:=kr.c7
    have hB7:=blw7 hB hlo.1 (.int .i64 a) (.int .i64 b) (.int .i64 c) (.int .i64 d) (.int .i64 e) (.int .i64 f) (.slice (some ⟨g,0,none⟩) k cap)
    have hO:Own _ (gk+1) 3 .i64 (.slice (some ⟨g,0,none⟩) k cap) (List.replicate k q):=((((((Hown.out.setBelow (a:=⟨gr,0,none⟩) (by simp only;omega) (.int .i64 a)).setBelow (a:=⟨gr,1,none⟩) (by simp only;omega) (.int .i64 b)).setBelow (a:=⟨gr,2,none⟩) (by simp only;omega) (.int .i64 c)).setBelow (a:=⟨gr,3,none⟩) (by simp only;omega) (.int .i64 d)).setBelow (a:=⟨gr,4,none⟩) (by simp only;omega) (.int .i64 e)).setBelow (a:=⟨gr,5,none⟩) (by simp only;omega) (.int .i64 f)).setBelow (a:=⟨gr,6,none⟩) (by simp only;omega) (.slice (some ⟨g,0,none⟩) k cap)
    clear ck0 ck1 ck2 ck3 ck4 ck5 ck6 cr0 cr1 cr2 cr3 cr4 cr5 cr6 fr0 fr1 fr2 fr3 fr4 fr5 fr6
    exact bodyPost_ret (v:=.tuple #[.agg #[a,b,c,d,e,f,.slice (some ⟨g,0,none⟩) k cap],(0:Int)]) (by simp [results,Tryz.results37,go_sem,z0,z1,z2,z3,z4,z5,z6]) rfl ⟨g,cap,rfl,hO.base (by omega),hB7⟩
end
section
open Go.RowKit Go.Sort Go.Maps
open Oct
noncomputable def tsA:List Tr:=Tr.add (.uni 1) []
theorem tsA_eq:tsA=[.uni 1]:=by unfold tsA;rw [Tr.add_uni,Tr.ins_of_not (by simp)];rfl
theorem tsA_good:Good tsA:=good_nil.uni (by decide)
theorem tsA_mem:Tr.uni 1∈tsA:=Tr.mem_add _ _
noncomputable def tsB:List Tr:=Tr.add (trF 1 g8) tsA
theorem tsB_good:Good tsB:=good_add _ tsA_good (wf_can g8_fn.range 1 _ (by decide))
theorem tsB_mem:trF 1 g8∈tsB:=Tr.mem_add _ _
theorem tsB_len:tsB.length≤100:=by
 have h1:=add_len (trF 1 g8) tsA
 have h2:(trF 1 g8).sz≤many 1:=sz_can g8 1 ⟨0,0,0⟩
 have h3:tsA.length=1:=by rw [tsA_eq];rfl
 have h4:many 1≤50:=by decide
 unfold tsB
 omega
noncomputable def tsC:List Tr:=lvS (solT defL) 1 g8 tsB 1
theorem tsC_len:tsC.length≤300:=by
 have h1:=lvl_few (s:=solT defL) (N:=1) (by decide) g8_fn tsB_good
 have h2:=tsB_len
 have h3:=add_len (trF 1 g8) []
 have h4:(trF 1 g8).sz≤many 1:=sz_can g8 1 ⟨0,0,0⟩
 have h5:many 1≤50:=by decide
 unfold addn at h1
 unfold tsC
 simp only [List.length_nil] at h3
 omega
theorem tsC_good:Good tsC:=lvS_good (by decide) g8_fn tsB_good 1 (Nat.le_refl 1)
theorem sn_uni (w:World) (Far:Nat→Prop) (sb:Nat) (lt : ∀ k,Far k→k<w.heap.size) (st:StoreIs w Far sb 1000 []) :
 Calls Tryz.prog 36 #[.pointer (some ⟨sb,0,none⟩),(1:Int)] w fun e w'=>e=ret2 (idT tsA (.uni 1):Int) 0∧StoreIs w' Far sb 1000 tsA∧Keeps Far w w' :=
 (uniform_any w Far sb 1000 [] 1 (by decide) good_nil (by simp) lt st).mono fun _ _ h=>h.fit (.inr (by have:=tsA_eq;unfold tsA at this;rw [this];decide))
theorem sn_pyrA (w:World) (Far:Nat→Prop) (sb g:Nat) (lt : ∀ k,Far k→k<w.heap.size) (st:StoreIs w Far sb 1000 tsA) (tb:SlM w (some ⟨g,0,none⟩) defL) (hg:Far g) :
 Calls Tryz.prog 12 #[.pointer (some ⟨sb,0,none⟩),.slice (some ⟨g,0,none⟩) 9 9,(idT tsA (.uni 1):Int),(4:Int)] w fun e w' => ∃ v,e = .returned (.tuple #[v,(0:Int)])∧Own w' w.heap.size 3 .i64 v [(idT tsA (.uni 1):Int),(idT tsA (.uni 1):Int),(idT tsA (.uni 1):Int)]∧StoreIs w' (fun x=>Far x∨v.ownBlock=some x) sb 1000 tsA∧Keeps Far w w':=by
 have hS:lvS (solT defL) 2 cF tsA 2=tsA:=lvS_uni cF_tr tsA_mem 2 (Nat.le_refl 2)
 have hX : ∀ k,k≤2→lvX (solT defL) 2 cF tsA k=(idT tsA (.uni 1):Int):=fun k hk=>by unfold lvX idn;rw [lvl_uni cF_tr k hk,lvS_uni cF_tr tsA_mem k hk]
 have h:=lv_Pyramid w Far sb (some ⟨g,0,none⟩) 9 defL (by decide) 1000 tsA st lt tb (fun _ b hb=>by simp at hb;exact hb ▸ hg) tsA_good 2 (by decide) cF cF_fn (by rw [cF_tr];exact tsA_mem) (by rw [hS,tsA_eq];decide)
 unfold idn at h
 rw [cF_tr] at h
 refine h.mono ?_
 rintro e w' ⟨hk,(⟨-,v,rfl,h2,h3⟩ | ⟨h1,-⟩)⟩
 · rw [hS] at h3
   refine ⟨v,rfl,?_,h3,hk⟩
   rw [show List.range (2+1)=[0,1,2] by decide] at h2
   simpa [hX 0 (by decide),hX 1 (by decide),hX 2 (by decide)] using h2
 · rw [hS] at h1;exact absurd (.inl rfl) h1
theorem sn_from (w:World) (Far:Nat→Prop) (sb g cap:Nat) (hc:256≤cap) (lt : ∀ k,Far k→k<w.heap.size) (st:StoreIs w Far sb 1000 tsA) (hs:Sl w .i64 (some ⟨g,0,none⟩) x8) (hg:Far g) :
 Calls Tryz.prog 38 #[.pointer (some ⟨sb,0,none⟩),.agg #[(0:Int),(0:Int),(0:Int),(8:Int),(8:Int),(4:Int),.slice (some ⟨g,0,none⟩) 256 cap],(3:Int)] w fun e w'=>e=ret2 (idT tsB (trF 1 g8):Int) 0∧StoreIs w' Far sb 1000 tsB∧Keeps Far w w':=by
 have hx:x8.length=256:=by unfold x8;rw [List.length_replicate]
 have h:=from_yes w sb 0 0 0 8 8 4 (some ⟨g,0,none⟩) cap x8 1 (by decide) hs (g8_good cap hc).toH g8_valid (.inr g8_in) Far (fun _ b hb=>by simp at hb;exact hb ▸ hg) 1000 tsA tsA_good (by rw [tsA_eq];decide) lt st
 rw [hx] at h
 refine h.mono fun e w' hd=>?_
 have:=tsB_len
 exact Done.fit (t:=trF 1 g8) (ts':=tsB) hd (.inr (by omega))
theorem sn_pyrB (w:World) (Far:Nat→Prop) (sb g:Nat) (lt : ∀ k,Far k→k<w.heap.size) (st:StoreIs w Far sb 1000 tsB) (tb:SlM w (some ⟨g,0,none⟩) defL) (hg:Far g) :
 Calls Tryz.prog 12 #[.pointer (some ⟨sb,0,none⟩),.slice (some ⟨g,0,none⟩) 9 9,(idT tsB (trF 1 g8):Int),(3:Int)] w fun e w' => ∃ v,e = .returned (.tuple #[v,(0:Int)])∧Own w' w.heap.size 3 .i64 v ((List.range 2).map (lvX (solT defL) 1 g8 tsB))∧StoreIs w' (fun x=>Far x∨v.ownBlock=some x) sb 1000 tsC∧Keeps Far w w':=by
 have hl:=tsC_len
 have h:=lv_Pyramid w Far sb (some ⟨g,0,none⟩) 9 defL (by decide) 1000 tsB st lt tb (fun _ b hb=>by simp at hb;exact hb ▸ hg) tsB_good 1 (by decide) g8 g8_fn tsB_mem (by unfold tsC at hl;omega)
 refine h.mono ?_
 rintro e w' ⟨hk,(⟨-,v,rfl,h2,h3⟩ | ⟨h1,-⟩)⟩
 · exact ⟨v,rfl,h2,h3,hk⟩
 · exact absurd (.inr (by unfold tsC at hl;omega)) h1
theorem sn_xB:(List.range 2).map (lvX (solT defL) 1 g8 tsB)=[(idT tsB (trF 1 g8):Int),lvX (solT defL) 1 g8 tsB 1]:=rfl
theorem sn_cell (w:World) (Far:Nat→Prop) (sb:Nat) (a:Option Addr) (cap:Nat) (st:StoreIs w Far sb 1000 tsC) (hs:Sl w .i64 a ((List.range 2).map (lvX (solT defL) 1 g8 tsB))) (z v:Int) (hz:0≤z∧z≤7) (hv:lvlF (solT defL) g8 1 ⟨2,1,z / 2⟩=v) :
 Calls Tryz.prog 17 #[.pointer (some ⟨sb,0,none⟩),.slice a 2 cap,(1:Int),.agg #[(5:Int),(2:Int),z]] w fun e w'=>e = .returned (.int .i64 v)∧Below w.heap.size w w':=by
 have hl:=tsC_len
 have h:=lv_Cell_any (solT defL) 1 (by decide) g8 g8_fn sb 1000 Far tsB tsB_good tsB_mem (by unfold tsC at hl;omega) a cap 1 5 2 z (by unfold W64;decide) (by unfold W64;decide) (by unfold W64;omega) w st hs
 have hc:cellL (solT defL) 1 g8 1 ⟨5,2,z⟩=v:=by
  unfold cellL
  rw [if_pos ⟨by decide,by decide,inB_iff.2 (by simp only [cubeB,Pt.zero];omega)⟩]
  exact hv
 rw [hc] at h
 exact h
theorem sn_cell1:lvlF (solT defL) g8 1 ⟨2,1,3 / 2⟩=1:=g8_half1 _
theorem sn_cell0:lvlF (solT defL) g8 1 ⟨2,1,4 / 2⟩=0:=g8_half0 _
end
end Go.Proofs.YtgnfgblkpnfcnaaGreatDoor
