/- Pss, Pco, Pri: joined by program, for one claim. -/
import Derived.Test.YtajhkncolbgkbaaM19
import Derived.Laws.ResultCell
import Derived.Test.YtajhkncolbgkbaaM18
import Derived.Test.YtajhkncolbgkbaaM14
import Derived.Test.YtajhkncolbgkbaaM16
set_option linter.unusedVariables false
set_option linter.unusedSimpArgs false
namespace Go.Proofs.Ytajhkncolbgkbaa
section
open Go.RowKit Go.Sort Go.Maps
theorem pg_put4 {w:World} {g:Nat} {x y z u:Value} {t:TypeId} (h:Bk w g #[x,y,z,u] t) (a b c d:Value):Bk ((((w.setCell ⟨g,0,none⟩ a).setCell ⟨g,1,none⟩ b).setCell ⟨g,2,none⟩ c).setCell ⟨g,3,none⟩ d) g #[a,b,c,d] t:=by
 simpa using (((h.set 0 a).set 1 b).set 2 c).set 3 d
theorem start_end {fn:Func} (hf:fn.results=#[.cell 2 51,.tmp 3]) {Y:World} {g:Nat} {a b c d e:Value} {tmps:Array Value} (h:Bk Y g #[a,b,c,d] 51) (h2:tmps.getD 2 undef = .pointer (some ⟨g,0,none⟩)) (h3:tmps.getD 3 undef=e) :
 (results fn tmps).run Try.prog Y = .ok (.tuple #[.agg #[a,b,c,d],e]) Y:=by
 rw [results_cell_tmp (p:=2) (u:=3) (ty:=51) hf,h2,h3]
 have:=run_loadVar_row (P:=Try.prog) Y g 51 51 #[a,b,c,d] (0,0) _ h Try.underlying51 rfl (by kernel_rfl)
 simp only [asAddr,Sem.run_pure,Result.andThen_ok,this]
set_option maxRecDepth 100000 in
set_option maxHeartbeats 2000000 in
theorem start_no (w:World) (n:Int) (hn : -9223372036854775808≤n∧n≤9223372036854775807) (h:n<18∨24<n) :
 Calls Try.prog 23 #[.int .i64 n] w fun e w'=>e = .returned (.tuple #[.agg #[.pointer none,.pointer none,.pointer none,.pointer none],.bool false])∧Below w.heap.size w w':=by
 have tail : ∀ W:World,W=w.alloc (.cells #[.pointer none,.pointer none,.pointer none,.pointer none] 51)→Below w.heap.size w W∧Bk W w.heap.size #[.pointer none,.pointer none,.pointer none,.pointer none] 51:=fun W hW=>by
  subst hW
  exact ⟨(Below.refl _ _).alloc (Nat.le_refl _) _,blk_new _ _ _ rfl⟩
 have t:(decide (n<18)=true)∨(decide (n<18)=false∧decide (n > 24)=true):=by
  rcases h with h | h
  · exact .inl (by simpa using h)
  · exact .inr ⟨by simp;omega,by simpa using h⟩
 clear h
 rcases t with t1 | ⟨t1,t2⟩
 all_goals
  go_enter Try.func23,Try.ntmps23
  go_upto_region 2 with fail
  generalize hW:World.alloc w _=W
  obtain ⟨hb,hk⟩:=tail W hW.symm
  clear tail
  have c0:=hk.cell 0 rfl;have c1:=hk.cell 1 rfl;have c2:=hk.cell 2 rfl;have c3:=hk.cell 3 rfl
  have f0:=hk.frozen 0;have f1:=hk.frozen 1;have f2:=hk.frozen 2;have f3:=hk.frozen 3
  go_wp2_with fail
  exact bodyPost_ret (start_end rfl (pg_put4 hk _ _ _ _) rfl rfl) rfl ⟨rfl,(((hb.setCell (Nat.le_refl _) _).setCell (Nat.le_refl _) _).setCell (Nat.le_refl _) _).setCell (Nat.le_refl _) _⟩
set_option maxRecDepth 100000 in
set_option maxHeartbeats 4000000 in
theorem start_yes (w:World) (n:Nat) (h1:18≤n) (h2:n≤24) :
 Calls Try.prog 23 #[.int .i64 (n:Int)] w fun e w' => ∃ dp g mb pp q qq bv,e = .returned (.tuple #[.agg #[.pointer (some ⟨dp,0,none⟩),.pointer (some ⟨pp,0,none⟩),.pointer (some ⟨q,0,none⟩),.pointer (some ⟨qq,0,none⟩)],.bool true])∧St w.heap.size w' dp g mb n pp (0+20) (mkDk n) 0 bv false∧Below w.heap.size w w':=by
 have t1:decide ((n:Int)<18)=false:=by simp;omega
 have t1b:decide (n<18)=false:=by simp;omega
 have t2:decide ((n:Int) > 24)=false:=by simp;omega
 have t2b:decide (n > 24)=false:=by simp;omega
 have hlen:(mkDk n).p.length=n:=by unfold mkDk;exact List.length_replicate ..
 have HLEN:=Bx.mk hlen
 clear hlen
 go_enter Try.func23,Try.ntmps23
 go_upto_region 3 with fail
 generalize hW:World.alloc w _=W
 have hb:=bl1 hW
 have hk:Bk W w.heap.size #[.pointer none,.pointer none,.pointer none,.pointer none] 51:=bk0 hW rfl
 have hnew:=Bx.mk (new_ok W n (by omega) (by omega))
 have HB:=Bx.mk hb
 have HK:=Bx.mk hk
 clear hW hb hk t1 t2 t1b t2b
 go_upto_region 4 with (go_at_call 14;refine hnew.out.mono ?_;rintro _ w1 ⟨dp,g,mb,rfl,hd1,l1,l2,l3,hb1⟩)
 have hW1:=HB.out.size
 have hKl:=HK.out.lt
 have hlo : ∀ k,In3 dp g mb k→w.heap.size<k:=fun k hk=>by rcases hk with rfl | rfl | rfl <;> omega
 have HLO:=Bx.mk hlo
 have HD1:=Bx.mk hd1
 have HB1:=Bx.mk (HB.out.trans (hb1.mono HB.out.size))
 have HK1:=Bx.mk (HK.out.later hb1)
 have hrn:=Bx.mk (rnew_ok w1 n (by omega) (by omega))
 clear hnew hd1 hb1 l1 l2 l3 hlo HB HK hW1 hKl
 go_upto_region 7 with (go_at_call 42;refine hrn.out.mono ?_;rintro _ w2 hr2;obtain ⟨q,rg,rcap,rfl,hr2,hrl1,hrl2,hb2⟩:=hr2)
 have HD2:=HD1.out.later hb2
 have hlt3:=HD1.out.lt
 have HK2:=Bx.mk (HK1.out.later hb2)
 have HB2:=Bx.mk (HB1.out.trans (hb2.mono HB1.out.size))
 have hop:=St.open_ HD2 (B:=w.heap.size) (fun k hk=>Nat.le_of_lt (HLO.out k hk)) (by rw [HLEN.out];omega) rfl (by decide) (d':=mkDk n) (by rw [replay_mk];rfl) HB2.out.size
 rw [nowI_mk,mx_mk] at hop
 replace hop:=Bx.mk hop
 have HR2:=Bx.mk hr2
 have HIN:Bx (∀ k,In2 q rg k → ¬In3 dp g mb k):=⟨fun k hk h3=>by rcases hk with rfl | rfl <;> (rcases h3 with h3 | h3 | h3 <;> omega)⟩
 clear HD2 hlt3 hr2 hrl1 hrl2 hb2 hrn HD1 HK1 HB1
 go_upto_region 8 with (go_at_call 17;refine hop.out.mono ?_;rintro _ w3 ⟨pp,bv,rfl,hst3,-,hpl,hc3⟩)
 have HS3:=Bx.mk hst3
 have HR3:=Bx.mk (HR2.out.chg hc3 HIN.out)
 have HK3:=Bx.mk (HK2.out.chg hc3 fun h=>by have:=HLO.out _ h;omega)
 have HB3:=Bx.mk (HB2.out.trans (hc3.below HB2.out.size fun k hk hS=>by have:=HLO.out k hS;omega))
 have hKl:=HK2.out.lt
 have HPL:Bx (w.heap.size<pp):=⟨by omega⟩
 have hro:=Bx.mk (ropen_zero w3 q rg rcap n (by omega) (by omega) HR3.out)
 clear hst3 hpl hc3 hop HR2 HK2 HB2 hKl HIN
 go_upto_region 9 with (go_at_call 43;refine hro.out.mono ?_;rintro _ w4 ⟨qq,rfl,hb4⟩)
 have HS4:=Bx.mk (HS3.out.later hb4)
 have HK4:=Bx.mk (HK3.out.later hb4)
 have HB4:=Bx.mk (HB3.out.trans (hb4.mono HB3.out.size))
 have c0:=HK4.out.cell 0 rfl;have c1:=HK4.out.cell 1 rfl;have c2:=HK4.out.cell 2 rfl;have c3:=HK4.out.cell 3 rfl
 have f0:=HK4.out.frozen 0;have f1:=HK4.out.frozen 1;have f2:=HK4.out.frozen 2;have f3:=HK4.out.frozen 3
 clear hb4 hro HR3 HS3 HK3 HB3
 go_wp2_with fail
 have hc:Chg (· = w.heap.size) w4 ((((w4.setCell ⟨w.heap.size,0,none⟩ (.pointer (some ⟨dp,0,none⟩))).setCell ⟨w.heap.size,1,none⟩ (.pointer (some ⟨pp,0,none⟩))).setCell ⟨w.heap.size,2,none⟩ (.pointer (some ⟨q,0,none⟩))).setCell ⟨w.heap.size,3,none⟩ (.pointer (some ⟨qq,0,none⟩))):=by
  refine Chg.setCell (S:=(· = w.heap.size)) (Chg.setCell (S:=(· = w.heap.size)) (Chg.setCell (S:=(· = w.heap.size)) (Chg.setCell (S:=(· = w.heap.size)) (Chg.refl _ _) ?_ _) ?_ _) ?_ _) ?_ _ <;> exact Or.inl rfl
 exact bodyPost_ret (start_end rfl (pg_put4 HK4.out _ _ _ _) rfl rfl) rfl ⟨dp,g,mb,pp,q,qq,bv,rfl,⟨HS4.out.dk.chg hc (fun k hk e=>by have:=HLO.out k hk;omega),Bk.chg HS4.out.ps hc (fun e=>by have:=HPL.out;omega),HS4.out.ne,HS4.out.lo⟩,(((HB4.out.setCell (Nat.le_refl _) _).setCell (Nat.le_refl _) _).setCell (Nat.le_refl _) _).setCell (Nat.le_refl _) _⟩
end
section
open Go.RowKit Go.Sort Go.Maps
def conP (d:Dk) (cl:Bool) (k:Nat):List (List Int):=(List.range k).map fun (i:Nat)=>(readP d cl (i:Int)).1
theorem conP_len (d:Dk) (cl:Bool) (k:Nat):(conP d cl k).length=k:=by simp [conP]
theorem conP_succ (d:Dk) (cl:Bool) (k:Nat):strs (conP d cl k)++[.string (strOfNums (readP d cl (k:Int)).1)]=strs (conP d cl (k+1)):=by
 unfold conP;rw [List.range_succ,List.map_append];exact (strs_snoc _ _).symm
set_option maxRecDepth 100000 in
set_option maxHeartbeats 1000000 in
theorem contents_any (w:World) (pp dp N g mb cap m:Nat) (bv:Value) (cl:Bool) (d:Dk) (hp:PS w pp dp N bv cl) (h:DkIs w dp g mb cap m d) (n:Nat) (hn:d.p.length=17+n) (hok : ∀ i,i<n→(readP d cl (i:Int)).2=0) :
 Calls Try.prog 26 #[.pointer (some ⟨pp,0,none⟩)] w fun e w' => ∃ v,e = .returned (.tuple #[v,.bool true])∧Ownv w' w.heap.size 9 v (strs (conP d cl n))∧Below w.heap.size w w':=by
 have hfew:=h.ok.few
 have hl:Bx (∀ W,Below w.heap.size w W→Calls Try.prog 18 #[.pointer (some ⟨pp,0,none⟩)] W fun e w'=>e = .returned (.int .i64 (n:Int))∧W=w'):=⟨fun W hb=>by
  have:=plen_any W pp dp N g mb cap m bv cl d (hp.later hb) (h.later hb)
  rwa [show (d.p.length:Int) - 17=(n:Int) by omega] at this⟩
 have hr:=Bx.mk fun W (hb:Below w.heap.size w W) (k:Nat) (hk:k<n)=>pread_any W pp dp N g mb cap m bv cl d (hp.later hb) (h.later hb) (k:Int) (by omega)
 have HOK:=Bx.mk hok
 have hn120:n≤120:=by omega
 clear hp h hn hok hfew
 go_enter Try.func26,Try.ntmps26
 go_wp2_with fail
 go_loopw [4,5] (fun v4 v5 wr => ∃ k:Nat,k≤n∧v5 = .int .i64 k∧Bx (Ownv wr w.heap.size 9 v4 (strs (conP d cl k)))∧Bx (Below w.heap.size w wr)) (fun _ i _=>n - (intOf i).toNat)
 case atStart=>exact ⟨0,Nat.zero_le _,rfl,⟨show Ownv w w.heap.size 9 (.slice none 0 0) [] from Ownv.nil _ _ _⟩,⟨Below.refl _ _⟩⟩
 case round =>
  obtain ⟨k,hk,rfl,HO,HW⟩:=hrel
  have hl1:=Bx.mk (hl.out wr HW.out)
  by_cases hlt:k<n
  · have t0:decide ((k:Int)<(n:Int))=true:=by simp;omega
    have t0b:decide (k<n)=true:=by simpa using hlt
    have hr1:=Bx.mk (hr.out wr HW.out k hlt)
    have h0:=HOK.out k hlt
    have hc:=Bx.mk (conP_succ d cl k)
    have hcl:=Bx.mk (conP_len d cl k)
    rw [h0] at hr1
    generalize strOfNums (readP d cl (k:Int)).1=S at *
    have Hlt:=Bx.mk hlt
    clear hlt h0
    go_wp2_with fail
    refine hl1.out.mono ?_
    rintro _ _ ⟨rfl,rfl⟩
    go_wp2_with fail
    refine hr1.out.mono ?_
    rintro _ w2 ⟨rfl,hb2⟩
    have hB2:=HW.out.trans (hb2.mono HW.out.size)
    have hown:=HO.out.below hb2
    have hln:(strs (conP d cl k)).length≤1000000000:=by rw [strs_length,hcl.out];omega
    have hle:=hB2.size
    clear hb2 hr1 hl1 HO HW t0 t0b
    go_wp2_with (first
     | (at_builtin
        refine wpList_append_val rfl _ _ 59 rfl 9 (.string ByteArray.empty) 16 (by omega) Try.underlying59 (by kernel_rfl) rfl w.heap.size _ (strs (conP d cl k)) rfl (hown.alloc _) (.string S) rfl ⟨w2.heap.size,0,none⟩ 1 rfl (cell_new _ _ _) hln (le_alloc hle _) ?_
        intro v1 w4 hown1 hg1 _))
    rw [hc.out] at hown1
    have HO6:=Bx.mk hown1
    have HI6:=Bx.mk ((hB2.alloc hle _).grown hg1 (le_alloc hle _) (fun g hg=>(hown.lt g hg).1))
    clear hown1 hg1 hown hB2 hln hle
    go_roundw
    case rel=>exact ⟨k+1,by have:=Hlt.out;omega,by go_num,HO6,HI6⟩
    case measure=>have:=Hlt.out;simp [intOf];omega
  · obtain rfl:k=n:=by omega
    have t0:decide ((k:Int)<(k:Int))=false:=by simp
    have t0b:decide (k<k)=false:=by simp
    go_wp2_with fail
    refine hl1.out.mono ?_
    rintro _ _ ⟨rfl,rfl⟩
    go_wp2_with fail
    go_ret2
    exact ⟨_,rfl,HO.out,HW.out⟩
end
section
open Go.RowKit Go.Sort Go.Maps
theorem q_len (im:List (List Int)):(qDk im).p.length=im.length:=by unfold qDk;exact List.length_map _
theorem q_ok {im:List (List Int)} (h:DkOk (qDk im)) : ∀ x∈im,x.length=128∧Byts x:=fun x hx=>by
 have:=(h.pages (x,none) (by unfold qDk;exact List.mem_map.2 ⟨x,hx,rfl⟩)).now
 exact this
theorem mk_q (n:Nat):mkDk n=qDk (List.replicate n (zerosP 128)):=by
 unfold mkDk qDk
 rw [List.map_replicate]
 rfl
structure RotI (w:World) (dp g mb cap pp wb n q qq:Nat) (bv:Value) (t m:Nat) (im:List (List Int)) (W:World):Prop where
 st:St w.heap.size W dp g mb cap pp m (qDk im) t bv false
 inv:PInv n t im
 bel:Below w.heap.size w W
 wbk:Bk W wb #[.pointer (some ⟨dp,0,none⟩),.pointer (some ⟨pp,0,none⟩),.pointer (some ⟨q,0,none⟩),.pointer (some ⟨qq,0,none⟩)] 51
 ap:wb ≠ pp ∧ ¬In3 dp g mb wb
section
variable {w W W':World} {dp g mb cap pp wb n q qq t m:Nat} {bv:Value} {im:List (List Int)}
theorem RotI.later (h:RotI w dp g mb cap pp wb n q qq bv t m im W) (hb:Below W.heap.size W W'):RotI w dp g mb cap pp wb n q qq bv t m im W' :=
 ⟨h.st.later hb,h.inv,h.bel.trans (hb.mono h.bel.size),h.wbk.later hb,h.ap⟩
theorem RotI.more (h:RotI w dp g mb cap pp wb n q qq bv t m im W) {m':Nat} (hm:m≤m'):RotI w dp g mb cap pp wb n q qq bv t m' im W :=
 ⟨⟨h.st.dk.mono hm,h.st.ps,h.st.ne,h.st.lo⟩,h.inv,h.bel,h.wbk,h.ap⟩
theorem RotI.write (h:RotI w dp g mb cap pp wb n q qq bv t m im W) (ht:t≤1000) (hm:m+40<1000000) (a:Option Addr) (c:Nat) (l:List (Int × List Int)) (hs:SlP W a l) (hl:l.length≤20) (hx : ∀ x∈l,(-9223372036854775808≤x.1∧x.1≤9223372036854775807)∧x.2.length=116∧Byts x.2) :
 Calls Try.prog 24 #[.pointer (some ⟨pp,0,none⟩),.slice a l.length c] W fun e w' => ∃ er t' im',e = .returned (.int .i64 er)∧t'≤t+1∧RotI w dp g mb cap pp wb n q qq bv t' (m+40) im' w':=by
 by_cases hc:chkV false t (((qDk im).p.length:Int) - 17) l=0
 · obtain ⟨_,hN,L,rfl,hL⟩:=chk_batch (fun x hx'=>(hx x hx').2.2) hc
   have hlen:(qDk im).p.length=n:=by rw [q_len,h.inv.len]
   have e:(L.map fun x=>((x.1:Int),x.2)).length=L.length:=List.length_map _
   rw [e]
   refine (pwrite_ok W pp dp t g mb cap m bv (qDk im) h.st.ps h.st.dk h.st.ne hm hN a c L hL hs).mono ?_
   intro e w' hp
   have hL':BatchOk im.length L:=by rwa [q_len] at hL
   unfold WrPost at hp
   rw [run_steps (by rw [h.inv.len];exact h.inv.big) hL' h.inv.len128] at hp
   obtain ⟨h1,h2,h3,h4⟩:=hp
   refine ⟨0,t+1,_,h1,Nat.le_refl _,⟨⟨h3,h2,h.st.ne,h.st.lo⟩,h.inv.write (by rwa [hlen] at hL) (by omega),h.bel.trans (h4.below h.bel.size fun k hk hS=>by have:=h.st.lo k hS;omega),h.wbk.chg h4 fun hS=>?_,h.ap⟩⟩
   rcases hS with hS | hS
   · exact h.ap.1 hS
   · exact h.ap.2 hS
 · refine (h.st.refuse a c l (by omega) hs (fun x hx'=>⟨(hx x hx').1,by have:=(hx x hx').2.1;omega⟩) rfl hc).mono ?_
   rintro e w' ⟨h1,hb⟩
   exact ⟨_,t,im,h1,by omega,(h.later hb).more (by omega)⟩
end
theorem bits_flip14 (y:Int) (hy:0≤y∧y≤255) {s:Nat} (hs:s<8):bits .xor .u8 y (2 ^ s) ≠ y:=by
 obtain ⟨n,rfl⟩:=Int.eq_ofNat_of_zero_le hy.1
 have hn:n<256:=by omega
 have key : ∀ s:Fin 8,∀ n:Fin 256,bits .xor .u8 ((n.val:Nat):Int) (2 ^ s.val) ≠ ((n.val:Nat):Int):=by decide +kernel
 exact key ⟨s,hs⟩ ⟨n,hn⟩
theorem rot_q {n t:Nat} {im:List (List Int)} (h:PInv n t im) (hb : ∀ x∈im,x.length=128∧Byts x) (p bit:Int) :
 (((qDk im).rot p bit).2 ≠ 0∧((qDk im).rot p bit).1=qDk im) ∨ ∃ (pn:Nat) (z:List Int),p=(pn:Int)∧pn<n ∧ ¬goodP z∧z.length=128∧Byts z∧(qDk im).rot p bit=(qDk (im.set pn z),0):=by
 by_cases hok:((qDk im).is p && decide (0≤bit) && decide (bit<1024))=false
 · left
   unfold Dk.rot
   rw [if_pos hok]
   exact ⟨by show (eArg:Int) ≠ 0;decide,rfl⟩
 · right
   have hok2:=hok
   rw [Bool.not_eq_false] at hok2
   simp only [Bool.and_eq_true,decide_eq_true_eq] at hok2
   obtain ⟨⟨hi,h0⟩,h1⟩:=hok2
   unfold Dk.is at hi
   simp only [Bool.and_eq_true,decide_eq_true_eq] at hi
   rw [q_len,h.len] at hi
   obtain ⟨pn,rfl⟩:=Int.eq_ofNat_of_zero_le hi.1
   have hpn:pn<im.length:=by rw [h.len];omega
   obtain ⟨k,hk⟩ : ∃ k,k=bit.toNat / 8:=⟨_,rfl⟩
   have hk128:k<128:=by omega
   have hx:=hb _ (List.getElem_mem hpn)
   obtain ⟨x,hxe⟩ : ∃ x,x=im[pn]:=⟨_,rfl⟩
   rw [←hxe] at hx
   have hg:=(h.all x (by rw [hxe];exact List.getElem_mem hpn)).1
   obtain ⟨y,hy⟩ : ∃ y,x[k]? = some y:=⟨_,List.getElem?_eq_getElem (by omega)⟩
   have hyb:=hx.2 y (List.mem_of_getElem? hy)
   have hz:bits .xor .u8 y (2 ^ (bit.toNat % 8)) ≠ y:=bits_flip14 y hyb (by omega)
   have hzb:=bits_u8 y (2 ^ (bit.toNat % 8))
   have hfl:flip x k (bit.toNat % 8)=x.set k (bits .xor .u8 y (2 ^ (bit.toNat % 8))):=by
    unfold flip
    apply List.ext_getElem?
    intro j
    rw [List.getElem?_modify,List.getElem?_set]
    by_cases e:k=j
    · subst e
      rw [hy]
      simp only [if_true,Option.map_eq_map,Option.map_some]
      rw [if_pos (by omega)]
    · simp only [if_neg e,Option.map_eq_map]
      cases x[j]? <;> rfl
   refine ⟨pn,flip x k (bit.toNat % 8),rfl,by rw [h.len] at hpn;exact hpn,?_,?_,?_,?_⟩
   · rw [hfl]
     exact rot_page hg hx.2 hk128 hzb (fun e=>by rw [hy] at e;exact hz (Option.some.inj e).symm)
   · rw [hfl,List.length_set];exact hx.1
   · rw [hfl]
     intro v hv
     rcases List.mem_or_eq_of_mem_set hv with h | h
     · exact hx.2 v h
     · rw [h];exact hzb
   · unfold Dk.rot
     rw [if_neg hok]
     congr 1
     unfold qDk
     simp only
     congr 1
     apply List.ext_getElem?
     intro j
     rw [List.getElem?_modify,List.getElem?_map,List.getElem?_map,List.getElem?_set]
     by_cases e:pn=j
     · subst e
       simp only [Int.toNat_natCast,if_true,Option.map_eq_map]
       rw [if_pos hpn,List.getElem?_eq_getElem hpn,←hxe,←hk]
       rfl
     · simp only [Int.toNat_natCast,if_neg e,Option.map_eq_map]
       cases im[j]? <;> rfl
theorem rot_reads {n t:Nat} {im:List (List Int)} (h:PInv n t im) (hb : ∀ x∈im,x.length=128∧Byts x) (ht:t≤1000) (hn:n≤65536) {pn:Nat} (hp:pn<n) {z:List Int} (hz : ¬goodP z) (hzl:z.length=128∧Byts z) :
 ∃ d', (qDk (im.set pn z)).run (replayP (nowI (qDk (im.set pn z)))) = (d', 0) ∧ d'.p.length = n ∧ (∀ i : Nat, 17 + i < n → ∃ s, readP (qDk im) false (i : Int) = (s, 0) ∧ (readP d' false (i : Int) = (s, 0) ∨ (readP d' false (i : Int) = ([], 7) ∧ pn = 17 + i))) ∧
   (badP (imgR (nowI (qDk (im.set pn z)))) (n - 17)=[]∨(badP (imgR (nowI (qDk (im.set pn z)))) (n - 17)=[pn - 17]∧17≤pn)):=by
 have hlen:(im.set pn z).length=n:=by rw [List.length_set];exact h.len
 have hbig:=h.big
 rw [now_q]
 obtain ⟨d',h1,h2,h3⟩:=run_replay (im:=im.set pn z) (by rw [hlen];exact hbig) (fun x hx=>by
  rcases List.mem_or_eq_of_mem_set hx with hx | hx
  · exact hb x hx
  · rw [hx];exact hzl) (qDk (im.set pn z)) (calm_q _) (now_q _)
 have hl':d'.p.length=n:=by
  have:=congrArg List.length h3
  unfold nowI imgR at this
  rw [List.length_map,applyW_len,hlen] at this
  exact this
 have hrot:=open_rot h (by omega) hn hp hz
 refine ⟨d',h1,hl',fun i hi=>?_,?_⟩
 · have hil:17+i<im.length:=by rw [h.len];exact hi
   have hg:=(h.all _ (List.getElem_mem hil)).1
   have hat:=List.getElem?_eq_getElem hil
   have r0:=read_calm (calm_q im) (i:=i) (by rw [q_len];exact hil) (by rw [now_q];exact hat)
   rw [if_pos hg] at r0
   refine ⟨_,r0,?_⟩
   rcases hrot (17+i) (by omega) hi with e | ⟨e1,e2⟩
   · left
     have:=read_calm h2 (i:=i) (by rw [hl'];exact hi) (by rw [h3,e];exact hat)
     rw [if_pos hg] at this
     exact this
   · right
     have:=read_calm h2 (i:=i) (by rw [hl'];exact hi) (by rw [h3];exact e2)
     rw [if_neg hz] at this
     exact ⟨this,e1.symm⟩
 · rcases bad_rot h.len (fun x hx=>(h.all x hx).1) hrot (n - 17) (by omega) with e | ⟨e,e1,_⟩
   · exact .inl e
   · exact .inr ⟨e,e1⟩
def BatR (v:Value) (w:World):Prop := ∃ a c l,v = .slice a (l:List (Int × List Int)).length c∧SlP w a l∧l.length≤20 ∧ ∀ x∈l,(-9223372036854775808≤x.1∧x.1≤9223372036854775807)∧x.2.length=116∧Byts x.2
theorem BatR.later {v:Value} {w w':World} (h:BatR v w) (hb:Below w.heap.size w w'):BatR v w':=by
 obtain ⟨a,c,l,h1,h2,h3⟩:=h
 exact ⟨a,c,l,h1,h2.below hb,h3⟩
theorem batch_R (w:World) (s:OpB) (ho:s.Ok w):Calls Try.prog 25 #[s.agg] w fun e w' => ∃ v,e = .returned v∧Below w.heap.size w w'∧BatR v w' :=
 (batch_any w s ho).mono fun e w' h=>by
  obtain ⟨a,c,l,h1,h2,h3,h4,h5⟩:=h
  exact ⟨_,h1,h5,a,c,l,rfl,h2,h3,h4⟩
structure RotJ (w:World) (dp g mb cap pp wb q qq:Nat) (bv:Value) (t po u m:Nat) (bo:Value) (d:Dk) (oa ba:Option Addr) (os:List Value) (l:List Nat) (W:World):Prop where
 s1:St w.heap.size W dp g mb cap pp m d t bv false
 s2:St w.heap.size W dp g mb cap po m d u bo false
 old:Slv W oa os
 bad:Sl W .i64 ba (ints64 l)
 bel:Below w.heap.size w W
 wbk:Bk W wb #[.pointer (some ⟨dp,0,none⟩),.pointer (some ⟨pp,0,none⟩),.pointer (some ⟨q,0,none⟩),.pointer (some ⟨qq,0,none⟩)] 51
theorem Slv.later14 {w w':World} {a:Option Addr} {vs:List Value} (h:Slv w a vs) (hb:Below w.heap.size w w'):Slv w' a vs:=fun i x hx=>by
 obtain ⟨b,off,e,hc⟩:=h i x hx
 exact ⟨b,off,e,cell_later hb hc⟩
theorem RotJ.later {w W W':World} {dp g mb cap pp wb q qq t po u m:Nat} {bv bo:Value} {d:Dk} {oa ba:Option Addr} {os:List Value} {l:List Nat} (h:RotJ w dp g mb cap pp wb q qq bv t po u m bo d oa ba os l W) (hb:Below W.heap.size W W'):RotJ w dp g mb cap pp wb q qq bv t po u m bo d oa ba os l W' :=
 ⟨h.s1.later hb,h.s2.later hb,h.old.later14 hb,h.bad.below hb,h.bel.trans (hb.mono h.bel.size),h.wbk.later hb⟩
theorem Slv.chg14 {S:Nat→Prop} {w w':World} {g:Nat} {vs:List Value} (h:Slv w (some ⟨g,0,none⟩) vs) (hc:Chg S w w') (hn : ¬S g):Slv w' (some ⟨g,0,none⟩) vs:=fun i x hx=>by
 obtain ⟨b,off,e,hcell⟩:=h i x hx
 simp only [Option.some.injEq,Addr.mk.injEq,and_true] at e
 obtain ⟨rfl,rfl⟩:=e
 refine ⟨g,0,rfl,?_⟩
 rw [World.cell?_of_block (hc.block _ (World.block_lt_of_cell? w _ hcell) hn)]
 exact hcell
theorem old_at (d:Dk) (cl:Bool) {n k:Nat} (h:k<n) {s:List Int} {er:Int} (hr:readP d cl (k:Int)=(s,er)):(strs (conP d cl n))[k]? = some (.string (strOfNums s)):=by
 refine strs_at ?_
 unfold conP
 rw [List.getElem?_map,List.getElem?_range h]
 simp only [Option.map_some,hr]
end
end Go.Proofs.Ytajhkncolbgkbaa
