/- Rne, Op, Pgr, Pba, Pck, Pup: joined by program, for one claim. -/
import Derived.Test.YtajhkncolbgkbaaMr
import Derived.Test.YtajhkncolbgkbaaM8
import Derived.Deep.RegionLaw
import Derived.Maps.AppendAt
import Derived.Deep.AppendLies
import Derived.Test.YtajhkncolbgkbaaM7
import Derived.Test.YtajhkncolbgkbaaM2
set_option linter.unusedVariables false
set_option linter.unusedSimpArgs false
namespace Go.Proofs.Ytajhkncolbgkbaa
section
open Go.RowKit Go.Sort
theorem step_append_own {P:Program} {ops:Array Oper} {o:Oper} {a:Act} {w:World} {K:Act→World→Prop} {Q:Exit→Act→World→Prop} {E:Prop} (hgd:o.guard=none) (s x:Operand) (t:TypeId)
 (ho:o.op = .call { callee:=.builtin .append,args:=#[s,x],argTypes:=#[t,t] })
 (base:Nat) (e:TypeId) (i:TypeInfo) (z:Value) (size bytes:Nat) (ht:P.underlying t=some (.slice e)) (hi:P.info? e=some i) (hz:i.zero=some z)
 (hsize:i.size=size) (hby:i.bytes=bytes) (hzs:z.cells.size=size) (hsz:0<size)
 (v:Value) (n:Nat) (xs:List Value) (hs:a.eval s=v) (hown:w.ownsRow base e size v n xs)
 (ad:Addr) (m c:Nat) (news:List Value) (hx:a.eval x = .slice (some ad) m c) (hl:news.length=m * size) (hnews : ∀ j u,news[j]? = some u→w.cell? (ad.add j)=some u) (h1 : ∀ u∈news,u.oneCell'=true)
 (h63:n+m≤maxLen) (hbytes:(n+m) * bytes≤140737488355328) (hbase:base≤w.heap.size)
 (h : ∀ v' w',Bx (w'.ownsRow base e size v' (n+m) (xs++news))→Bx (w.grownBy w' v.ownBlock)→Bx (v'.ownBlock=v.ownBlock∨v'.ownBlock=some w.heap.size)→K (a.put o.dst v') w') :
 if Region.wanted o (yielded ops a.tmps)=true then Oper.wp P o a w K Q else E:=by
 have hw:Region.wanted o (yielded ops a.tmps)=true:=by simp [Region.wanted,hgd]
 rw [if_pos hw]
 obtain ⟨v',w',hr,h2,h3,h4,h5⟩:=run_append_own_at (P:=P) w base t o.type e i z size bytes ht hi hz hsize hby hzs hsz v n xs hown ad m c news hl hnews h1 h63 hbytes hbase
 unfold Oper.wp
 simp [execOp,ho,resolve,invoke,builtin,hs,hx,hr,Result.andThen]
 exact h v' w' ⟨h2⟩ ⟨h3⟩ ⟨h5⟩
def zrow:List Value:=List.replicate 128 (.int .u8 0)
theorem made_rep (z:Value) (n:Nat):madeCells #[z] n=(List.replicate n z).toArray:=by
 apply Array.ext
 · simp [madeCells]
 · intro i h1 h2
   simp only [madeCells,Array.getElem_map,Array.getElem_range,List.getElem_toArray,List.getElem_replicate]
   rw [show (#[z]:Array Value).size=1 from rfl,Nat.mod_one]
   rfl
theorem made_row (W:World):(Instr.makeSlice 66 (.int .i64 128) (.int .i64 128)).run Try.prog W = .ok (.slice (some ⟨W.heap.size,0,none⟩) 128 128) (W.alloc (.cells zrow.toArray 5)):=by
 have hi:(Try.prog.info? 5).map (fun i=>(i.zero,i.size,i.bytes))=some (some (.int .u8 0),1,1):=by kernel_rfl
 obtain ⟨i0,hi0,hz0,hz1,hz2⟩:=info_parts hi
 have:=run_make W 66 5 i0 _ Try.underlying66 hi0 hz0 .i64 .i64 128 128 (by omega) (Int.le_refl _) (by rw [hz2];omega) (by omega)
 rw [hz1,show (Value.int .u8 0).cells=#[Value.int .u8 0] from rfl,show Int.toNat 128 * 1=128 from rfl,made_rep] at this
 exact this
set_option maxRecDepth 100000 in
theorem rzeros_any (w:World):Calls Try.prog 54 #[.int .i64 128] w fun e w'=>e = .returned (.string (strOfNums zer))∧Below w.heap.size w w':=by
 have hmk:=made_row
 have hsl:Sl (w.alloc (.cells zrow.toArray 5)) .u8 (some ⟨w.heap.size,0,none⟩) zer:=fun i x hx=>⟨_,0,rfl,by
  rw [Nat.zero_add]
  have hi:=(List.getElem?_eq_some_iff.1 hx).1
  rw [zer_len] at hi
  obtain rfl:=zer_get hx
  exact cells_new _ _ _ _ _ (by rw [List.getElem?_toArray];unfold zrow;rw [List.getElem?_replicate,if_pos hi])⟩
 have hcv:=conv_str (P:=Try.prog) 66 5 9 Try.underlying66 Try.underlying5 Try.underlying9 hsl 128 128 zer_len.symm
 clear hsl
 generalize zrow.toArray=Z at *
 go_enter Try.func54,Try.ntmps54
 go_wp2_with fail
 go_ret
 exact ⟨rfl,(Below.refl _ _).alloc (Nat.le_refl _) _⟩
def zpages (n:Nat):List Value:=(List.replicate n [Value.string (strOfNums zer),.string ⟨#[]⟩,.bool false]).flatten
theorem zpages_succ (n:Nat):zpages (n+1)=zpages n++[Value.string (strOfNums zer),.string ⟨#[]⟩,.bool false]:=by
 unfold zpages
 rw [List.replicate_succ',List.flatten_append];rfl
theorem zpages_len (n:Nat):(zpages n).length=n * 3:=by
 induction n with
 | zero=>rfl
 | succ n ih=>rw [zpages_succ,List.length_append,ih];simp;omega
theorem zpages_get {n i j:Nat} (hi:i<n) (hj:j<3):(zpages n)[i * 3+j]? = some (rcell (zer,none) j):=by
 induction n with
 | zero=>omega
 | succ n ih =>
   rw [zpages_succ]
   by_cases e:i<n
   · rw [List.getElem?_append_left (by rw [zpages_len];omega)]
     exact ih e
   · have:i=n:=by omega
     subst this
     rw [List.getElem?_append_right (by rw [zpages_len];omega),zpages_len,show i * 3+j - i * 3=j by omega]
     match j,hj with
     | 0,_=>rfl
     | 1,_=>rfl
     | 2,_=>rfl
theorem rc_own {w:World} {B g n cap:Nat} {e:TypeId} {xs:List Value} (h:w.ownsRow B e 3 (.slice (some ⟨g,0,none⟩) n cap) n xs) (F:Nat→Nat→Value) (hF : ∀ i j,i<n→j<3→xs[i * 3+j]? = some (F i j)):RC w g n F∧n≤cap∧cap≤maxLen∧B≤g:=by
 rcases h.2 with ⟨e,_⟩ | ⟨g',cap',cur,e,hB,hg,hnc,hcm,hcs,ht⟩
 · cases e
 · injection e with e1 _ e3
   injection e1 with e1
   injection e1 with e1 _ _
   subst e1 e3
   refine ⟨⟨fun i j hi hj=>?_,fun i j hi hj=>frozen_of_row w g _ cur _ hg,(Array.getElem?_eq_some_iff.1 hg).1⟩,hnc,hcm,hB⟩
   have hu:=hF i j hi hj
   rw [←ht,List.getElem?_take] at hu
   split at hu
   · have:w.cell? ⟨g,i * 3+j,none⟩=cur[i * 3+j]? := by simp [World.cell?,hg]
     rw [this,←Array.getElem?_toList];exact hu
   · cases hu
structure RnI (w:World) (q k:Nat) (v:Value) (wr:World):Prop where
 kq:Bk wr q #[v,.bool false,.int .i64 (-1)] 102
 own:wr.ownsRow w.heap.size 104 3 v k (zpages k)
 bel:Below w.heap.size w wr
 hq:w.heap.size≤q
 ne:v.ownBlock ≠ some q
theorem own_held {w wr w2:World} {q k:Nat} {v:Value} (h:RnI w q k v wr) (hb:Below wr.heap.size wr w2) (o:Obj):(w2.alloc o).ownsRow w.heap.size 104 3 v k (zpages k) :=
 (World.ownsRow.kept (row:=none) h.own ⟨hb.os,hb.tape,hb.output,hb.size,fun i hi _=>hb.block i hi⟩ (by cases v.ownBlock <;> simp)).alloc o
theorem base_held {w wr w2:World} {q k:Nat} {v:Value} (h:RnI w q k v wr) (hb:Below wr.heap.size wr w2) (o:Obj):w.heap.size≤(w2.alloc o).heap.size:=le_alloc (Nat.le_trans h.bel.size hb.size) o
theorem row_held {w wr w2 w4:World} {q k:Nat} {v:Value} {o:Obj} (h:RnI w q k v wr) (hb:Below wr.heap.size wr w2) (hg:(w2.alloc o).grownBy w4 v.ownBlock):Below w.heap.size w w4:=by
 have h2:Below w.heap.size w (w2.alloc o):=(h.bel.trans (hb.mono h.bel.size)).trans (((Below.refl _ _).alloc (Nat.le_refl _) _).mono (Nat.le_trans h.bel.size hb.size))
 exact h2.trans ((Chg.ofRow hg).below h2.size (fun j hj e=>by have:=(World.ownsRow.lt h.own j e).1;omega))
theorem kq_held {w wr w2 w4:World} {q k:Nat} {v:Value} {o:Obj} (h:RnI w q k v wr) (hb:Below wr.heap.size wr w2) (hg:(w2.alloc o).grownBy w4 v.ownBlock):Bk w4 q #[v,.bool false,.int .i64 (-1)] 102 :=
 ((h.kq.later hb).alloc o).chg (Chg.ofRow hg) h.ne
theorem form3 {w:World} {B size n:Nat} {e:TypeId} {v:Value} {xs:List Value} (h:w.ownsRow B e size v n xs) : ∃ a c,v = .slice a n c:=by
 rcases h.2 with ⟨rfl,rfl⟩ | ⟨g,cap,cur,rfl,_⟩
 · exact ⟨none,0,rfl⟩
 · exact ⟨_,cap,rfl⟩
theorem rn_next {w wr w2 w4:World} {q k:Nat} {v:Value} {va:Option Addr} {vc:Nat} {o:Obj} (h:RnI w q k v wr) (hb:Below wr.heap.size wr w2) (hk:Bk w4 q #[v,.bool false,.int .i64 (-1)] 102)
 (ho:w4.ownsRow w.heap.size 104 3 (.slice va (k+1) vc) (k+1) (zpages k++[.string (strOfNums zer),.string ⟨#[]⟩,.bool false])) (hg:(w2.alloc o).grownBy w4 v.ownBlock)
 (hat:(Value.slice va (k+1) vc).ownBlock=v.ownBlock∨(Value.slice va (k+1) vc).ownBlock=some (w2.alloc o).heap.size):RnI w q (k+1) (.slice va (k+1) vc) (w4.setCell ⟨q,0,none⟩ (.slice va (k+1) vc)):=by
 have hne:(Value.slice va (k+1) vc).ownBlock ≠ some q:=fun e=>by
  rcases hat with h1 | h1
  · exact h.ne (h1 ▸ e)
  · rw [h1] at e
    injection e with e
    have h2:=h.kq.lt
    have h3:=hb.size
    rw [show (w2.alloc o).heap.size=w2.heap.size+1 by simp] at e
    omega
 have hc:=chg_cell w4 q 0 (.slice va (k+1) vc)
 refine ⟨by simpa using hk.set 0 (.slice va (k+1) vc),?_,(row_held h hb hg).setCell h.hq _,h.hq,hne⟩
 rw [zpages_succ]
 exact World.ownsRow.kept ho hc.toRow (.inr hne)
def RNewPost (n:Nat) (w:World) (e:Ending) (w':World):Prop :=
 ∃ q g cap,e = .returned (.tuple #[.pointer (some ⟨q,0,none⟩),.int .i64 0])∧RkIs w' q g cap (mkDk n)∧w.heap.size≤q∧w.heap.size≤g∧Below w.heap.size w w'
theorem rpgInfo:(Try.prog.info? 104).map (fun i=>(i.zero,i.size,i.bytes))=some (some (.agg #[.string ⟨#[]⟩,.string ⟨#[]⟩,.bool false]),3,40):=by kernel_rfl
set_option maxRecDepth 100000 in
theorem rnew_ok (w:World) (n:Nat) (h1:1≤n) (h2:n≤120):Calls Try.prog 42 #[.int .i64 (n:Int)] w (RNewPost n w):=by
 have h3 : ¬(n:Int)<1:=by omega
 have h4:(n:Int)≤4096:=by omega
 obtain ⟨i0,hi0,hz0,hz1,hz2⟩:=info_parts rpgInfo
 replace hi0:=Bx.mk hi0
 replace hz0:=Bx.mk hz0
 replace hz1:=Bx.mk hz1
 replace hz2:=Bx.mk hz2
 go_enter Try.func42,Try.ntmps42
 go_wp2_with fail
 have HI:Bx (∃ v,Bx (RnI w w.heap.size 0 v (w.alloc (.cells #[.slice none 0 0,.bool false,.int .i64 (-1)] 102)))):=⟨_,⟨⟨blk_new _ _ _ rfl,World.ownsRow_nil _ _ _ 3,(Below.refl _ _).alloc (Nat.le_refl _) _,Nat.le_refl _,by simp [Value.ownBlock]⟩⟩⟩
 generalize hqq:w.heap.size=q0 at *
 go_loopw [5] (fun v5 wr => ∃ k:Nat,k≤n∧v5 = .int .i64 k ∧ ∃ v,Bx (RnI w q0 k v wr)) (fun v5 _=>n - (intOf v5).toNat)
 case atStart=>exact ⟨0,by omega,rfl,HI.out⟩
 case round =>
  clear HI
  obtain ⟨k,hk,rfl,v,HI⟩:=hrel
  by_cases hlt:k<n
  · have t0:decide ((k:Int)<(n:Int))=true:=by simp;omega
    have c0:=HI.out.kq.cell 0 rfl
    go_upto_region 7 with fail
    have hz:=Bx.mk fun W=>rzeros_any W
    have HI':=HI
    have hwr:=Bx.mk (show w.heap.size≤wr.heap.size from hqq ▸ HI.out.bel.size)
    have hqlo:=HI.out.hq
    have hBr:=Bx.mk HI.out.bel
    go_region_law ((first
     | (go_simp;go_at_call 54;refine (hz.out _).mono ?_;rintro _ w2 ⟨rfl,hb2⟩;have c0':w2.cell? ⟨q0,0,none⟩=some v:=cell_later hb2 c0;have c0a : ∀ o,(w2.alloc o).cell? ⟨q0,0,none⟩=some v:=fun o=>cell_later ((Below.refl _ _).alloc (Nat.le_refl _) _) c0';have hb2B:Bx (Below wr.heap.size wr w2):=⟨((Below.refl _ _).drew).trans hb2⟩;go_wp2_with fail)
     | (refine step_append_own (by rfl) _ _ 100 (by rfl) w.heap.size 104 i0 _ 3 40 Try.underlying100 hi0.out hz0.out hz1.out hz2.out rfl (by omega) v k (zpages k) (by rfl) (own_held HI'.out hb2B.out _) ⟨w2.heap.size,0,none⟩ 1 1 [.string (strOfNums zer),.string ⟨#[]⟩,.bool false] (by rfl) (by rfl) (World.news_of_block (cs:=#[.string (strOfNums zer),.string ⟨#[]⟩,.bool false]) (t:=104) (fr:=(0,0)) (heap_alloc_new w2 _)) (by simp [Value.oneCell']) (by unfold maxLen;omega) (by omega) (base_held HI'.out hb2B.out _) ?_;intro v4 w4 hown hgrow hat;obtain ⟨va,vc,rfl⟩:=form3 hown.out;have k4:=kq_held HI'.out hb2B.out hgrow.out;have c4:=k4.cell 0 rfl;have f4:=k4.frozen 0;have k4B:=Bx.mk k4;clear k4)))
    all_goals
     have HI9:Bx (RnI w q0 (k+1) (.slice va (k+1) vc) (w4.setCell ⟨q0,0,none⟩ (.slice va (k+1) vc))):=⟨rn_next HI'.out hb2B.out k4B.out hown.out hgrow.out hat.out⟩
     clear hown hgrow hat k4B c4 f4 HI HI' c0 hb2 hb2B hBr c0' c0a
     go_wp2_with fail
     go_roundw
     case rel=>exact ⟨k+1,by omega,by go_num,_,HI9⟩
     case measure=>simp [intOf];omega
  · have t0:decide ((k:Int)<(n:Int))=false:=by simp;omega
    obtain rfl:k=n:=by omega
    obtain ⟨gg,cc,rfl⟩ : ∃ gg cc,v = .slice (some ⟨gg,0,none⟩) k cc:=by
     rcases HI.out.own.2 with ⟨_,e⟩ | ⟨gg,cc,_,e,_⟩
     · omega
     · exact ⟨gg,cc,e⟩
    obtain ⟨hrc,hl1,hl2,hl3⟩:=rc_own HI.out.own (Fof (mkDk k).p) fun i j hi hj=>(zpages_get hi hj).trans (congrArg some (fof_at (by unfold mkDk;rw [List.getElem?_replicate,if_pos hi]) j).symm)
    have hD:Bx (RkIs wr q0 gg cc (mkDk k)):=by
     have hl:(mkDk k).p.length=k:=List.length_replicate ..
     refine ⟨⟨mkDk_ok k h2,by rw [hl];omega,by rw [hl];exact ⟨hl1,hl2⟩,by rw [hl];exact HI.out.kq,by rw [hl];exact hrc,fun e=>HI.out.ne (by rw [e];rfl)⟩⟩
    have hB:=Bx.mk HI.out.bel
    have hq1:=Bx.mk HI.out.hq
    have hl3:=Bx.mk hl3
    clear HI hrc
    go_wp2_with fail
    go_ret2
    exact ⟨q0,gg,cc,rfl,hD.out,hq1.out,hl3.out,hB.out⟩
end
section
open Go.RowKit Go.Sort
theorem write_any (w:World) (p g mb cap m:Nat) (d:Dk) (h:DkIs w p g mb cap m d) (hm:m<1000000) (i at_:Int) (s:List Int) (hs:Byt s) (hl:s.length≤300) (hat : -9223372036854775808≤at_∧at_≤9223372036854775807) :
 Calls Try.prog 51 #[.pointer (some ⟨p,0,none⟩),.int .i64 i,.int .i64 at_,.string (strOfNums s)] w (WritePost p g mb cap (m+1) w (d.write i at_ s).1 (d.write i at_ s).2):=by
 unfold Dk.write eDown eArg
 by_cases ho:d.off=true
 · rw [if_pos ho]
   have:=write_bad w p g mb cap m d h i at_ s hl hat (.inl ho)
   rw [if_pos ho] at this
   exact this.mono fun e w' ⟨h1,h2,h3⟩=>⟨h1,h2.mono (by omega),h3⟩
 · rw [if_neg ho]
   by_cases hb:(d.is i && decide (0≤at_) && decide (at_≤128) && decide ((s.length:Int)≤128 - at_))=false
   · rw [if_pos hb]
     have:=write_bad w p g mb cap m d h i at_ s hl hat (.inr hb)
     rw [if_neg ho] at this
     exact this.mono fun e w' ⟨h1,h2,h3⟩=>⟨h1,h2.mono (by omega),h3⟩
   · rw [if_neg hb]
     rw [Bool.not_eq_false] at hb
     simp only [Bool.and_eq_true,decide_eq_true_eq] at hb
     obtain ⟨⟨⟨hi,h0⟩,h1⟩,h2⟩:=hb
     obtain ⟨k,x,rfl,hx⟩:=is_at hi
     obtain ⟨j,rfl⟩:=Int.eq_ofNat_of_zero_le h0
     have hof:d.off=false:=by simpa using ho
     by_cases hst:d.step.2=false
     · rw [if_pos hst]
       exact (write_down w p g mb cap m d h k j s hof hi (by omega) hst).mono fun e w' ⟨h1,h2,h3⟩=>⟨h1,h2.mono (by omega),h3⟩
     · rw [if_neg hst]
       have:=write_ok w p g mb cap m d h hm k j x hx s hs hof (by omega) (by simpa using hst)
       rw [step_p] at this
       exact this
theorem flush_any (w:World) (p g mb cap m:Nat) (d:Dk) (h:DkIs w p g mb cap m d) :
 Calls Try.prog 16 #[.pointer (some ⟨p,0,none⟩)] w (WritePost p g mb cap m w d.flush.1 d.flush.2):=by
 unfold Dk.flush eDown
 by_cases ho:d.off=true
 · rw [if_pos ho];exact flush_off w p g mb cap m d h ho
 · rw [if_neg ho]
   have hof:d.off=false:=by simpa using ho
   by_cases hst:d.step.2=false
   · rw [if_pos hst];exact flush_down w p g mb cap m d h hof hst
   · rw [if_neg hst]
     have:=flush_ok w p g mb cap m d h hof (by simpa using hst)
     rw [step_p] at this
     exact this
theorem rot_any (w:World) (p g mb cap m:Nat) (d:Dk) (h:DkIs w p g mb cap m d) (i bit:Int) :
 Calls Try.prog 27 #[.pointer (some ⟨p,0,none⟩),.int .i64 i,.int .i64 bit] w (WritePost p g mb cap m w (d.rot i bit).1 (d.rot i bit).2):=by
 unfold Dk.rot eArg
 by_cases hb:(d.is i && decide (0≤bit) && decide (bit<1024))=false
 · rw [if_pos hb];exact rot_bad w p g mb cap m d h i bit hb
 · rw [if_neg hb]
   rw [Bool.not_eq_false] at hb
   simp only [Bool.and_eq_true,decide_eq_true_eq] at hb
   obtain ⟨⟨hi,h0⟩,h1⟩:=hb
   obtain ⟨k,x,rfl,hx⟩:=is_at hi
   obtain ⟨j,rfl⟩:=Int.eq_ofNat_of_zero_le h0
   exact rot_ok w p g mb cap m d h k j x hx (by omega)
structure Opn where
 kind:Int
 i:Int
 at_:Int
 text:List Int
 a:Option Addr
 c:Nat
 picks:List Int
def Opn.v (x:Opn):Value:=.agg #[.int .i64 x.kind,.int .i64 x.i,.int .i64 x.at_,.string (strOfNums x.text),.slice x.a x.picks.length x.c]
theorem Chg.after {S:Nat→Prop} {w w1 w':World} {B:Nat} (hb:Below B w w1) (hB:B=w.heap.size) (h:Chg S w1 w'):Chg S w w':=by
 subst hB
 exact (Chg.ofBelow hb S).trans h (fun _ _ e=>e)
end
section
open Go.RowKit Go.Sort Go.Maps
def PS (w:World) (pp dp N:Nat) (bv:Value) (cl:Bool):Prop:=Bk w pp #[.pointer (some ⟨dp,0,none⟩),.int .i64 (N:Int),bv,.bool cl] 82
theorem PS.later {w w':World} {pp dp N:Nat} {bv:Value} {cl:Bool} (h:PS w pp dp N bv cl) (hb:Below w.heap.size w w'):PS w' pp dp N bv cl:=Bk.later h hb
theorem read_byts {d:Dk} (h:DkOk d) (i:Int):Byts (d.read i).1∧(d.read i).1.length≤128:=by
 unfold Dk.read
 split
 · exact ⟨(fun x hx=>by cases hx),Nat.zero_le _⟩
 · split
   · exact ⟨(fun x hx=>by cases hx),Nat.zero_le _⟩
   · cases e:d.p[i.toNat]? with
     | none=>exact ⟨(fun x hx=>by cases hx),Nat.zero_le _⟩
     | some x =>
       have:=(h.pages x (List.mem_of_getElem? e)).now
       exact ⟨this.2,by show x.now.length≤128;omega⟩
def readP (d:Dk) (cl:Bool) (i:Int):List Int × Int :=
 if cl=true then ([],20) else if i<0∨(d.p.length:Int) - 17≤i then ([],1) else if (d.read (17+i)).2 ≠ 0 then ([],(d.read (17+i)).2) else if goodP (d.read (17+i)).1 then (dataP (d.read (17+i)).1,0) else ([],7)
set_option maxRecDepth 100000 in
set_option maxHeartbeats 1000000 in
theorem plen_any (w:World) (pp dp N g mb cap m:Nat) (bv:Value) (cl:Bool) (d:Dk) (hp:PS w pp dp N bv cl) (h:DkIs w dp g mb cap m d) :
 Calls Try.prog 18 #[.pointer (some ⟨pp,0,none⟩)] w fun e w'=>e = .returned (.int .i64 ((d.p.length:Int) - 17))∧w=w':=by
 have c0:=hp.cell 0 rfl
 have hl:=Bx.mk (dklen_any w dp g mb cap m d h)
 have hf:=h.ok.few
 have e1:IntKind.i64.wrap ((d.p.length:Int) - 17)=(d.p.length:Int) - 17:=IntWalk.i64_in _ (by omega)
 clear hp h
 go_enter Try.func18,Try.ntmps18
 go_wp2_with fail
 refine hl.out.mono ?_
 rintro _ _ ⟨rfl,rfl⟩
 go_wp2_with fail
 go_ret
 exact ⟨rfl,rfl⟩
set_option maxRecDepth 100000 in
theorem pnum_any (w:World) (pp dp N:Nat) (bv:Value) (cl:Bool) (hp:PS w pp dp N bv cl) :
 Calls Try.prog 19 #[.pointer (some ⟨pp,0,none⟩)] w fun e w'=>e = .returned (.int .i64 (N:Int))∧w=w':=by
 have c0:=hp.cell 1 rfl
 clear hp
 go_enter Try.func19,Try.ntmps19
 go_wp2_with fail
 go_ret
 exact ⟨rfl,rfl⟩
set_option maxRecDepth 100000 in
set_option maxHeartbeats 2000000 in
theorem pread_any (w:World) (pp dp N g mb cap m:Nat) (bv:Value) (cl:Bool) (d:Dk) (hp:PS w pp dp N bv cl) (h:DkIs w dp g mb cap m d) (i:Int) (hi : -9223372036854775808≤i∧i≤9223372036854775807) :
 Calls Try.prog 21 #[.pointer (some ⟨pp,0,none⟩),.int .i64 i] w fun e w'=>e = .returned (.tuple #[.string (strOfNums (readP d cl i).1),.int .i64 (readP d cl i).2])∧Below w.heap.size w w':=by
 have c0:=hp.cell 0 rfl
 have c3:=hp.cell 3 rfl
 have hl:=Bx.mk (plen_any w pp dp N g mb cap m bv cl d hp h)
 have hr:=Bx.mk (read_any w dp g mb cap m d h (17+i))
 have hf:=h.ok.few
 have hbb:=read_byts h.ok (17+i)
 have hu:=Bx.mk fun W=>unseal_any (d.read (17+i)).1 hbb.1 (by omega) W
 clear hp h hbb
 obtain ⟨n,hn⟩ : ∃ n:Int,n=(d.p.length:Int) - 17:=⟨_,rfl⟩
 cases cl with
 | true =>
   have hv:readP d true i=([],20):=rfl
   rw [hv]
   clear hl hr hu hn hv
   go_enter Try.func21,Try.ntmps21
   go_wp2_with fail
   go_ret2
   exact ⟨rfl,Below.refl _ _⟩
 | false =>
   unfold readP
   rw [if_neg (by decide),←hn]
   rw [←hn] at hl
   by_cases h0:i<0
   · have t0:decide (i<0)=true:=by simpa using h0
     rw [if_pos (.inl h0)]
     clear hl hr hu hn
     go_enter Try.func21,Try.ntmps21
     go_wp2_with fail
     go_ret2
     exact ⟨rfl,Below.refl _ _⟩
   · have t0:decide (i<0)=false:=by simpa using h0
     by_cases h1:n≤i
     · have t1:decide (i ≥ n)=true:=by simpa using h1
       rw [if_pos (.inr h1)]
       clear hr hu hn
       go_enter Try.func21,Try.ntmps21
       go_wp2_with fail
       refine hl.out.mono ?_
       rintro _ _ ⟨rfl,rfl⟩
       go_wp2_with fail
       go_ret2
       exact ⟨rfl,Below.refl _ _⟩
     · have t1:decide (i ≥ n)=false:=by simpa using h1
       rw [if_neg (by omega)]
       have e1:IntKind.i64.wrap (17+i)=17+i:=IntWalk.i64_in _ (by omega)
       obtain ⟨q,hq⟩ : ∃ q,q=17+i:=⟨_,rfl⟩
       rw [←hq] at hr hu e1 ⊢
       replace e1:IntKind.i64.wrap (17+i)=q:=by rw [hq] at e1 ⊢; exact e1
       clear hq hn h0 h1 hi
       generalize hrr:d.read q=r at *
       obtain ⟨s,er⟩:=r
       clear hrr
       simp only at hr hu ⊢
       unfold unV at hu
       by_cases h2:er=0
       · subst h2
         rw [if_neg (by simp)]
         by_cases hg:goodP s
         · rw [if_pos hg]
           rw [decide_eq_true hg] at hu
           have hd:datOf s=dataP s:=by unfold datOf;rw [if_pos hg]
           rw [hd] at hu
           clear hg hd
           go_enter Try.func21,Try.ntmps21
           go_wp2_with fail
           refine hl.out.mono ?_
           rintro _ _ ⟨rfl,rfl⟩
           go_wp2_with fail
           refine hr.out.mono ?_
           rintro _ w1 ⟨rfl,hb1⟩
           have HB1:=Bx.mk hb1
           clear hb1 c0 c3
           go_wp2_with fail
           refine (hu.out _).mono ?_
           rintro _ w2 ⟨rfl,hb2⟩
           have HB2:=Bx.mk (HB1.out.trans (hb2.mono HB1.out.size))
           clear hb2
           go_wp2_with fail
           go_ret2
           exact ⟨rfl,HB2.out⟩
         · rw [if_neg hg]
           rw [decide_eq_false hg] at hu
           clear hg
           go_enter Try.func21,Try.ntmps21
           go_wp2_with fail
           refine hl.out.mono ?_
           rintro _ _ ⟨rfl,rfl⟩
           go_wp2_with fail
           refine hr.out.mono ?_
           rintro _ w1 ⟨rfl,hb1⟩
           have HB1:=Bx.mk hb1
           clear hb1 c0 c3
           go_wp2_with fail
           refine (hu.out _).mono ?_
           rintro _ w2 ⟨rfl,hb2⟩
           have HB2:=Bx.mk (HB1.out.trans (hb2.mono HB1.out.size))
           clear hb2
           go_wp2_with fail
           go_ret2
           exact ⟨rfl,HB2.out⟩
       · rw [if_pos h2]
         have n1:(er != 0)=true:=by simpa using h2
         have n2:(er == 0)=false:=by simpa using h2
         clear h2 hu
         go_enter Try.func21,Try.ntmps21
         go_wp2_with fail
         refine hl.out.mono ?_
         rintro _ _ ⟨rfl,rfl⟩
         go_wp2_with fail
         refine hr.out.mono ?_
         rintro _ w1 ⟨rfl,hb1⟩
         have HB1:=Bx.mk hb1
         clear hb1 c0 c3
         go_wp2_with fail
         go_ret2
         exact ⟨rfl,HB1.out⟩
end
section
open Go.RowKit Go.Sort Go.Maps
set_option maxRecDepth 100000 in
set_option maxHeartbeats 1000000 in
theorem pbad_any (w:World) (pp dp N:Nat) (a:Option Addr) (c:Nat) (l:List Nat) (cl:Bool) (hp:PS w pp dp N (.slice a l.length c) cl) (hs:Sl w .i64 a (ints64 l)) (hl:l.length≤1000) :
 Calls Try.prog 20 #[.pointer (some ⟨pp,0,none⟩)] w fun e w' => ∃ v,e = .returned v∧Own w' w.heap.size 3 .i64 v (ints64 l)∧Below w.heap.size w w':=by
 have h0:Own (w.alloc (.cells #[] 3)) w.heap.size 3 .i64 (.slice (some ⟨w.heap.size,0,none⟩) 0 0) []:=Own.lit w _ _ _ #[] [] 0 (Nat.le_refl _) (by simp [maxLen]) rfl rfl
 have h1:=hs.below ((Below.refl w.heap.size w).alloc (Nat.le_refl _) (.cells #[] 3))
 have c2:=(hp.later ((Below.refl w.heap.size w).alloc (Nat.le_refl _) (.cells #[] 3))).cell 2 rfl
 have hn:=ints64_len l
 have Hn:=Bx.mk hn
 obtain ⟨n,hnn⟩ : ∃ n,n=l.length:=⟨_,rfl⟩
 rw [←hnn] at c2 hl hn
 replace hn:=Bx.mk hn
 clear hp hs hnn
 go_enter Try.func20,Try.ntmps20
 go_wp2_with (first
  | (at_builtin
     refine wpList_append_ints rfl _ _ 41 rfl 3 .i64 (.int .i64 0) 8 (by omega) Try.underlying41 (by kernel_rfl) rfl w.heap.size _ [] rfl h0 (ints64 l) a n c rfl hn.out.symm h1 (by have:=hn.out;simp;omega) (le_alloc (Nat.le_refl _) _) ?_
     intro v5 w5 hown5 hg5 _))
 go_ret
 exact ⟨_,rfl,by simpa using hown5,((Below.refl _ _).alloc (Nat.le_refl _) _).grown hg5 (le_alloc (Nat.le_refl _) _) (fun g hg=>(h0.lt g hg).1)⟩
end
section
open Go.RowKit Go.Sort Go.Maps
def SlP (w:World) (a:Option Addr) (l:List (Int × List Int)):Prop := ∀ i x,l[i]? = some x → ∃ b off,a=some ⟨b,off,none⟩∧w.cell? ⟨b,off+i * 2,none⟩=some (.int .i64 x.1)∧w.cell? ⟨b,off+i * 2+1,none⟩=some (.string (strOfNums x.2))
theorem SlP.below {w w':World} {a:Option Addr} {l:List (Int × List Int)} (h:SlP w a l) (hb:Below w.heap.size w w'):SlP w' a l:=fun i x hx=>by
 obtain ⟨b,off,e,h1,h2⟩:=h i x hx
 exact ⟨b,off,e,cell_later hb h1,cell_later hb h2⟩
def okTo (m:Int) (l:List (Int × List Int)) (k:Nat):Prop := ∀ i x,i<k→l[i]? = some x→0≤x.1∧x.1<m∧x.2.length=116∧(0<i → ∀ y,l[i - 1]? = some y→y.1<x.1)
open Classical in
noncomputable def okV (m:Int) (l:List (Int × List Int)):Int:=if okTo m l l.length then 0 else 1
theorem okV_yes {m:Int} {l:List (Int × List Int)} (h:okTo m l l.length):okV m l=0:=by unfold okV;rw [if_pos h]
theorem okV_no {m:Int} {l:List (Int × List Int)} (h : ¬okTo m l l.length):okV m l=1:=by unfold okV;rw [if_neg h]
noncomputable def chkV (cl:Bool) (N:Nat) (m:Int) (l:List (Int × List Int)):Int :=
 if cl=true then 20 else if 16<l.length∨1073741824≤N then 2 else if l.length=0 then 1 else okV m l
theorem okTo.zero (m:Int) (l:List (Int × List Int)):okTo m l 0:=fun i x hi=>by omega
theorem okTo.succ {m:Int} {l:List (Int × List Int)} {k:Nat} (h:okTo m l k) {x:Int × List Int} (hx:l[k]? = some x) (h1:0≤x.1∧x.1<m∧x.2.length=116∧(0<k → ∀ y,l[k - 1]? = some y→y.1<x.1)):okTo m l (k+1):=fun i y hi hy=>by
 by_cases e:i=k
 · subst e;rw [hx] at hy;obtain rfl:=Option.some.inj hy;exact h1
 · exact h i y (by omega) hy
set_option maxRecDepth 100000 in
set_option maxHeartbeats 4000000 in
theorem pcheck_any (w:World) (pp dp N g mb cap m:Nat) (bv:Value) (cl:Bool) (d:Dk) (hp:PS w pp dp N bv cl) (h:DkIs w dp g mb cap m d) (a:Option Addr) (c:Nat) (l:List (Int × List Int)) (hl:l.length≤1000) (hs:SlP w a l) (hw64 : ∀ x∈l,(-9223372036854775808≤x.1∧x.1≤9223372036854775807)∧x.2.length≤10000) :
 Calls Try.prog 44 #[.pointer (some ⟨pp,0,none⟩),.slice a l.length c] w fun e w'=>e = .returned (.int .i64 (chkV cl N ((d.p.length:Int) - 17) l))∧Below w.heap.size w w':=by
 have c1:=hp.cell 1 rfl
 have c3:=hp.cell 3 rfl
 have hlen:=Bx.mk fun W (hb:Below w.heap.size w W)=>((plen_any W pp dp N g mb cap m bv cl d (hp.later hb) (h.later hb)).mono fun e w' h=>(⟨h.1,h.2 ▸ Below.refl _ _⟩:e = .returned (.int .i64 ((d.p.length:Int) - 17))∧Below W.heap.size W w'))
 clear hp h
 generalize (d.p.length:Int) - 17=md at *
 unfold chkV
 cases cl with
 | true =>
   rw [if_pos rfl]
   go_enter Try.func44,Try.ntmps44
   go_wp2_with fail
   go_ret
   exact ⟨rfl,Below.refl _ _⟩
 | false =>
   rw [if_neg (by decide)]
   obtain ⟨n,hn⟩ : ∃ n,n=l.length:=⟨_,rfl⟩
   have Hn:=Bx.mk hn
   rw [←hn] at hl ⊢
   by_cases h1:16<n
   · have t1:decide ((n:Int) > 16)=true:=by simp;omega
     have t1b:decide (16<n)=true:=by simpa using h1
     rw [if_pos (.inl h1)]
     clear hs hn
     go_enter Try.func44,Try.ntmps44
     go_wp2_with fail
     go_ret
     exact ⟨rfl,Below.refl _ _⟩
   · have t1:decide ((n:Int) > 16)=false:=by simp;omega
     have t1b:decide (16<n)=false:=by simp;omega
     by_cases h2:1073741824≤N
     · have t2:decide ((N:Int) ≥ 1073741824)=true:=by simp;omega
       have t2b:decide (1073741824≤N)=true:=by simpa using h2
       rw [if_pos (.inr h2)]
       clear hs hn
       go_enter Try.func44,Try.ntmps44
       go_wp2_with fail
       go_ret
       exact ⟨rfl,Below.refl _ _⟩
     · have t2:decide ((N:Int) ≥ 1073741824)=false:=by simp;omega
       have t2b:decide (1073741824≤N)=false:=by simp;omega
       rw [if_neg (by omega)]
       by_cases h3:n=0
       · have t3:((n:Int) == 0)=true:=by simp [h3]
         rw [if_pos h3]
         clear hs hn
         go_enter Try.func44,Try.ntmps44
         go_wp2_with fail
         go_ret
         exact ⟨rfl,Below.refl _ _⟩
       · have t3:((n:Int) == 0)=false:=by simp;omega
         have t3b : ¬(n:Int)=0:=by omega
         rw [if_neg h3]
         have HSl:=Bx.mk hs
         have H64:=Bx.mk hw64
         have HR0:Bx (okTo md l n→okV md l=0):=⟨fun h=>okV_yes (by rw [←Hn.out];exact h)⟩
         have HR1:Bx (¬okTo md l n→okV md l=1):=⟨fun h=>okV_no (by rw [←Hn.out];exact h)⟩
         clear hs hn hw64 h1 h2 h3
         go_enter Try.func44,Try.ntmps44
         go_wp2_with fail
         clear c1 c3 t1 t1b t2 t2b t3 t3b
         go_loopw [29] (fun v29 wr => ∃ k:Nat,k≤n∧v29 = .int .i64 k∧Bx (okTo md l k)∧Bx (Below w.heap.size w wr)) (fun i _=>n - (intOf i).toNat)
         case atStart=>exact ⟨0,Nat.zero_le _,rfl,⟨okTo.zero _ _⟩,⟨Below.refl _ _⟩⟩
         case round =>
          obtain ⟨k,hk,rfl,HO,HW⟩:=hrel
          by_cases hlt:k<n
          · have t0:decide ((k:Int)<(n:Int))=true:=by simp;omega
            obtain ⟨x,hx⟩ : ∃ x,l[k]? = some x:=⟨_,List.getElem?_eq_getElem (by rw [←Hn.out];exact hlt)⟩
            obtain ⟨b,off,rfl,hc1,hc2⟩:=HSl.out k x hx
            have z0:=cell_later HW.out hc1
            have z1:=cell_later HW.out hc2
            have h64:=H64.out x (List.mem_of_getElem? hx)
            have HX:=Bx.mk hx
            have b1:(0:Int)≤(k:Int):=by omega
            have b2:(k:Int)<(n:Int):=by omega
            have Hlt:=Bx.mk hlt
            obtain ⟨xp,xt⟩:=x
            simp only at z0 z1 h64
            clear hx hc1 hc2 hlt
            go_upto_region 10 with fail
            clear z0 z1 t0
            generalize hW:World.alloc wr _=W
            have hbW:=bl1 hW
            have KX:Bk W wr.heap.size #[.int .i64 xp,.string (strOfNums xt)] 69:=bk0 hW rfl
            clear hW
            have HBW:=Bx.mk (HW.out.trans (hbW.mono HW.out.size))
            have q0:=Bx.mk fun dk osk=>Calls.regrown_of (hlen.out (grow (redrawn W dk) osk) (HBW.out.trans ((below_regrown W dk osk).mono HBW.out.size)))
            obtain ⟨x0,x1⟩:=KX.r2
            obtain ⟨sz,hsz0⟩ : ∃ n,n=xt.length:=⟨_,rfl⟩
            have hsz:(strOfNums xt).size=sz:=by rw [strOfNums_size,hsz0]
            have Hsz:=Bx.mk hsz0
            have l1:sz≤10000:=by omega
            clear hbW KX hsz0 h64 HW hlen
            generalize strOfNums xt=Sx at *
            have y0:True:=trivial
            by_cases c1:xp<0
            · have n1:decide (xp<0)=true:=by simpa using c1
              have HF:Bx (okV md l=1):=⟨HR1.out fun h=>by have:=(h k _ Hlt.out HX.out).1;simp only at this;omega⟩
              clear c1
              refine wp_region_quiet_below (by kernel_rfl) (by kernel_rfl) ?_
              repeat (first
               | go_big_quiet_step (first | with_reducible exact q0.out _ _)
               | quiet_step (first | with_reducible exact q0.out _ _))
              refine wpQuiet_nil ?_
              rintro _ ⟨⟨dq,osq⟩,rfl⟩
              have hbq:=below_regrown W dq osq
              have HJ:=Bx.mk (HBW.out.trans (hbq.mono HBW.out.size))
              clear hbq x0 x1 y0 q0 hsz
              generalize grow (redrawn W dq) osq=w9 at *
              go_wp2_with fail
              go_ret
              exact ⟨by rw [HF.out];first | rfl | trivial,HJ.out⟩
            · have n1:decide (xp<0)=false:=by simpa using c1
              by_cases c2:md≤xp
              · have n2:decide (xp ≥ md)=true:=by simpa using c2
                have HF:Bx (okV md l=1):=⟨HR1.out fun h=>by have:=(h k _ Hlt.out HX.out).2.1;simp only at this;omega⟩
                clear c1 c2
                refine wp_region_quiet_below (by kernel_rfl) (by kernel_rfl) ?_
                repeat (first
                 | go_big_quiet_step (first | with_reducible exact q0.out _ _)
                 | quiet_step (first | with_reducible exact q0.out _ _))
                refine wpQuiet_nil ?_
                rintro _ ⟨⟨dq,osq⟩,rfl⟩
                have hbq:=below_regrown W dq osq
                have HJ:=Bx.mk (HBW.out.trans (hbq.mono HBW.out.size))
                clear hbq x0 x1 y0 q0 hsz
                generalize grow (redrawn W dq) osq=w9 at *
                go_wp2_with fail
                go_ret
                exact ⟨by rw [HF.out];first | rfl | trivial,HJ.out⟩
              · have n2:decide (xp ≥ md)=false:=by simpa using c2
                by_cases c3:sz=116
                · subst c3
                  have n3:(((116:Nat):Int) != 116)=false:=by decide
                  rcases Nat.eq_zero_or_pos k with c4 | c4
                  · have n4:decide ((k:Int) > 0)=false:=by simp;omega
                    have n4b:decide (0<k)=false:=by simp;omega
                    have HG:Bx (okTo md l (k+1)):=⟨HO.out.succ HX.out ⟨by simp only;omega,by simp only;omega,Hsz.out.symm,fun h=>absurd h (by omega)⟩⟩
                    clear c1 c2
                    refine wp_region_quiet_below (by kernel_rfl) (by kernel_rfl) ?_
                    repeat (first
                     | go_big_quiet_step (first | with_reducible exact q0.out _ _)
                     | quiet_step (first | with_reducible exact q0.out _ _))
                    refine wpQuiet_nil ?_
                    rintro _ ⟨⟨dq,osq⟩,rfl⟩
                    have hbq:=below_regrown W dq osq
                    have HJ:=Bx.mk (HBW.out.trans (hbq.mono HBW.out.size))
                    clear hbq x0 x1 y0 q0 hsz
                    generalize grow (redrawn W dq) osq=w9 at *
                    go_wp2_with fail
                    go_roundw
                    case rel=>exact ⟨k+1,by have:=Hlt.out;omega,by go_num,HG,HJ⟩
                    case measure=>have:=Hlt.out;simp [intOf];omega
                  · have n4:decide ((k:Int) > 0)=true:=by simp;omega
                    have n4b:decide (0<k)=true:=by simp;omega
                    obtain ⟨jm,hjm⟩ : ∃ n:Nat,n=k - 1:=⟨_,rfl⟩
                    have e6:IntKind.i64.wrap ((k:Int) - 1)=(jm:Int):=by rw [show (k:Int) - 1=(jm:Int) by omega];exact IntWalk.i64_in _ (by omega)
                    obtain ⟨y,hy⟩ : ∃ y,l[jm]? = some y:=⟨_,List.getElem?_eq_getElem (by rw [←Hn.out];have:=Hlt.out;omega)⟩
                    obtain ⟨b',off',e,hy1,-⟩:=HSl.out jm y hy
                    simp only [Option.some.injEq,Addr.mk.injEq,and_true] at e
                    obtain ⟨rfl,rfl⟩:=e
                    have HY:=Bx.mk (show l[k - 1]? = some y by rw [←hjm];exact hy)
                    obtain ⟨yp,yt⟩:=y
                    simp only at hy1
                    clear y0
                    have y0 : ∀ dk osk,(grow (redrawn W dk) osk).cell? ⟨b,off+jm * 2,none⟩=some (.int .i64 yp):=cell_regrown (cell_later HBW.out hy1)
                    have b3:(0:Int)≤(jm:Int):=by omega
                    have b4:(jm:Int)<(n:Int):=by omega
                    have Hk0:=Bx.mk c4
                    clear hy hy1 hjm c4
                    by_cases c5:xp≤yp
                    · have n5:decide (yp ≥ xp)=true:=by simpa using c5
                      have HF:Bx (okV md l=1):=⟨HR1.out fun h=>by have:=(h k _ Hlt.out HX.out).2.2.2 Hk0.out _ HY.out;simp only at this;omega⟩
                      clear c1 c2 c5
                      refine wp_region_quiet_below (by kernel_rfl) (by kernel_rfl) ?_
                      repeat (first
                       | go_big_quiet_step (first | with_reducible exact q0.out _ _)
                       | quiet_step (first | with_reducible exact q0.out _ _))
                      refine wpQuiet_nil ?_
                      rintro _ ⟨⟨dq,osq⟩,rfl⟩
                      have hbq:=below_regrown W dq osq
                      have HJ:=Bx.mk (HBW.out.trans (hbq.mono HBW.out.size))
                      clear hbq x0 x1 y0 q0 hsz
                      generalize grow (redrawn W dq) osq=w9 at *
                      go_wp2_with fail
                      go_ret
                      exact ⟨by rw [HF.out];first | rfl | trivial,HJ.out⟩
                    · have n5:decide (yp ≥ xp)=false:=by simpa using c5
                      have HG:Bx (okTo md l (k+1)):=⟨HO.out.succ HX.out ⟨by simp only;omega,by simp only;omega,Hsz.out.symm,fun _ z hz=>by rw [HY.out] at hz;obtain rfl:=Option.some.inj hz;simp only;omega⟩⟩
                      clear c1 c2 c5
                      refine wp_region_quiet_below (by kernel_rfl) (by kernel_rfl) ?_
                      repeat (first
                       | go_big_quiet_step (first | with_reducible exact q0.out _ _)
                       | quiet_step (first | with_reducible exact q0.out _ _))
                      refine wpQuiet_nil ?_
                      rintro _ ⟨⟨dq,osq⟩,rfl⟩
                      have hbq:=below_regrown W dq osq
                      have HJ:=Bx.mk (HBW.out.trans (hbq.mono HBW.out.size))
                      clear hbq x0 x1 y0 q0 hsz
                      generalize grow (redrawn W dq) osq=w9 at *
                      go_wp2_with fail
                      go_roundw
                      case rel=>exact ⟨k+1,by have:=Hlt.out;omega,by go_num,HG,HJ⟩
                      case measure=>have:=Hlt.out;simp [intOf];omega
                · have n3:((sz:Int) != 116)=true:=by simp;omega
                  have HF:Bx (okV md l=1):=⟨HR1.out fun h=>by have:=(h k _ Hlt.out HX.out).2.2.1;simp only at this;have:=Hsz.out;omega⟩
                  clear c1 c2 c3
                  refine wp_region_quiet_below (by kernel_rfl) (by kernel_rfl) ?_
                  repeat (first
                   | go_big_quiet_step (first | with_reducible exact q0.out _ _)
                   | quiet_step (first | with_reducible exact q0.out _ _))
                  refine wpQuiet_nil ?_
                  rintro _ ⟨⟨dq,osq⟩,rfl⟩
                  have hbq:=below_regrown W dq osq
                  have HJ:=Bx.mk (HBW.out.trans (hbq.mono HBW.out.size))
                  clear hbq x0 x1 y0 q0 hsz
                  generalize grow (redrawn W dq) osq=w9 at *
                  go_wp2_with fail
                  go_ret
                  exact ⟨by rw [HF.out];first | rfl | trivial,HJ.out⟩
          · obtain rfl:k=n:=by omega
            have t0:decide ((k:Int)<(k:Int))=false:=by simp
            have hr:=HR0.out HO.out
            go_wp2_with fail
            go_ret
            exact ⟨by rw [hr];rfl,HW.out⟩
end
section
def Dk.upTo (d:Dk) (ops:List DOp) (k:Nat):Dk:=(ops.take k).foldl (fun d o=>(d.op o).1) d
theorem Dk.upTo_succ {d:Dk} {ops:List DOp} {k:Nat} {o:DOp} (h:ops[k]? = some o):d.upTo ops (k+1)=((d.upTo ops k).op o).1:=by
 have hk:k<ops.length:=(List.getElem?_eq_some_iff.1 h).1
 unfold Dk.upTo
 rw [List.take_succ_eq_append_getElem hk,List.foldl_append]
 rw [List.getElem?_eq_getElem hk] at h
 rw [Option.some.inj h];rfl
def Dk.fine (d:Dk) (ops:List DOp) (k:Nat):Prop := ∀ j o,j<k→ops[j]? = some o→((d.upTo ops j).op o).2=0
theorem Dk.fine_zero (d:Dk) (ops:List DOp):d.fine ops 0:=fun j o h=>absurd h (by omega)
theorem Dk.fine_succ {d:Dk} {ops:List DOp} {k:Nat} {o:DOp} (h:d.fine ops k) (ho:ops[k]? = some o) (h0:((d.upTo ops k).op o).2=0):d.fine ops (k+1):=fun j p hj hp=>by
 by_cases e:j=k
 · subst e;rw [ho] at hp;obtain rfl:=Option.some.inj hp;exact h0
 · exact h j p (by omega) hp
theorem Dk.fine_tail {d:Dk} {o:DOp} {ops:List DOp} {k:Nat} (h:d.fine (o::ops) (k+1)):(d.op o).2=0∧(d.op o).1.fine ops k :=
 ⟨h 0 o (by omega) rfl,fun j p hj hp=>h (j+1) p (by omega) hp⟩
theorem Dk.run_all : ∀ {ops:List DOp} {d:Dk},d.fine ops ops.length→d.run ops=(d.upTo ops ops.length,0)
 | [],_,_=>rfl
 | o :: ops, d, h => by
   obtain ⟨h0,h1⟩:=Dk.fine_tail h
   unfold Dk.run
   rw [if_pos h0,Dk.run_all h1];rfl
theorem Dk.run_fail : ∀ {ops:List DOp} {d:Dk} {k:Nat} {o:DOp},d.fine ops k→ops[k]? = some o→((d.upTo ops k).op o).2 ≠ 0→d.run ops=(d.upTo ops k).op o
 | [],_,_,_,_,h,_=>by simp at h
 | p :: ops, d, 0, o, _, h, hn => by
   obtain rfl:=Option.some.inj h
   unfold Dk.run
   exact if_neg (show ¬(d.op p).2=0 from hn)
 | p :: ops, d, k + 1, o, hf, h, hn => by
   obtain ⟨h0,h1⟩:=Dk.fine_tail hf
   unfold Dk.run
   rw [if_pos h0,Dk.run_fail h1 h hn];rfl
end
end Go.Proofs.Ytajhkncolbgkbaa
