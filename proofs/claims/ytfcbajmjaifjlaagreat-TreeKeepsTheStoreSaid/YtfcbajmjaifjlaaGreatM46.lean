/- Lik, Add, Mtp, Mtc, Bu1: joined by program, for one claim. -/
import Derived.Test.YtfcbajmjaifjlaaGreatM36
import Derived.Test.YtfcbajmjaifjlaaGreatM45
import Derived.Test.YtfcbajmjaifjlaaGreatM28
import Derived.Test.YtfcbajmjaifjlaaGreatM4
import Derived.Test.YtfcbajmjaifjlaaGreatM12
import Derived.Test.YtfcbajmjaifjlaaGreatM42
import Derived.Test.YtfcbajmjaifjlaaGreatM19
import Derived.Test.YtfcbajmjaifjlaaGreatM18
set_option linter.unusedVariables false
set_option linter.unusedSimpArgs false
namespace Go.Proofs.YtfcbajmjaifjlaaGreat
section
open Go.RowKit Go.Sort Go.Maps
open Oct
set_option maxRecDepth 100000 in
set_option maxHeartbeats 2000000 in
theorem like_uni (w:World) (Far:Nat→Prop) (sb:Nat) (most:Int) (ts:List Tr) (c:Int) (hc:0≤c∧c≤255) (ht:Tr.uni c∈ts) (hG:Good ts) (hlen:ts.length≤4194304) (hS:StoreIs w Far sb most ts) :
 Calls Tryz.prog 15 #[.pointer (some ⟨sb,0,none⟩),(idT ts (.uni c):Int),.string (strOfNums (Tr.enc (.uni c)))] w fun e w'=>e = .returned (.bool true)∧Below w.heap.size w w':=by
 have hcel:=Bx.mk (cells_any w Far sb most ts (.uni c) ht hG (by omega) hS)
 have hK:=Bx.mk fun W (h:Below w.heap.size w W)=>kind_b Far sb most ts (.uni c) ht 1 rfl hlen W (hS.later h)
 have hby:Byt [117,c]:=fun x hx=>by
  simp only [List.mem_cons,List.not_mem_nil,or_false] at hx
  omega
 have hi0:=fun W:World=>idx_str (P:=Tryz.prog) 9 Tryz.underlying9 hby (k:=0) (x:=117) rfl W
 have hi1:=fun W:World=>idx_str (P:=Tryz.prog) 9 Tryz.underlying9 hby (k:=1) (x:=c) rfl W
 rw [show ((0:Nat):Int)=0 from rfl] at hi0
 rw [show ((1:Nat):Int)=1 from rfl] at hi1
 have hwrap:IntKind.i64.wrap c=c:=IntWalk.i64_in _ (by omega)
 rw [show Tr.enc (.uni c)=[117,c] by simp [Tr.enc]]
 generalize strOfNums [117,c]=S at *
 generalize (idT ts (.uni c):Int)=id at *
 clear hby hc ht hG hlen hS
 go_enter Tryz.func15,Tryz.ntmps15
 go_wp2_with fail
 refine hcel.out.mono ?_
 rintro _ w1 ⟨v,rfl,how,hB⟩
 obtain ⟨pa,pc,rfl,hsl⟩:=how.form
 obtain ⟨b,off,rfl,hcell⟩:=hsl 0 c rfl
 rw [Nat.add_zero] at hcell
 have Hcell:=Bx.mk hcell
 have hlen1:(outT (.uni c)).length=1:=rfl
 rw [hlen1]
 clear how hsl hcel hcell hlen1
 go_wp2_with fail
 have qc : ∀ dk osk,(grow (redrawn w1 dk) osk).cell? ⟨b,off,none⟩=some (.int .i64 c):=cell_regrown Hcell.out
 have q0:=Bx.mk fun dk osk=>Calls.regrown_of (hK.out _ (hB.trans ((below_regrown w1 dk osk).mono hB.size)))
 refine wp_region_quiet_below (by kernel_rfl) (by kernel_rfl) ?_
 repeat (first | go_big_quiet_step ((first | with_reducible exact q0.out _ _)) | quiet_step (first | with_reducible exact q0.out _ _))
 refine wpQuiet_nil ?_
 rintro _ ⟨⟨dq,osq⟩,rfl⟩
 have hb0:=below_regrown w1 dq osq
 replace hB:=hB.trans (hb0.mono hB.size)
 generalize grow (redrawn w1 dq) osq=w2 at *
 clear q0 qc
 go_wp2_with fail
 go_ret
 exact ⟨rfl,hB⟩
set_option maxRecDepth 100000 in
set_option maxHeartbeats 2000000 in
theorem like_brick (w:World) (Far:Nat→Prop) (sb:Nat) (most:Int) (ts:List Tr) (l:List Int) (hl:l.length=64) (hb : ∀ x∈l,0≤x∧x≤255) (ht:Tr.brick l∈ts) (hG:Good ts) (hlen:ts.length≤4194304) (hS:StoreIs w Far sb most ts) :
 Calls Tryz.prog 15 #[.pointer (some ⟨sb,0,none⟩),(idT ts (.brick l):Int),.string (strOfNums (Tr.enc (.brick l)))] w fun e w'=>e = .returned (.bool true)∧Below w.heap.size w w':=by
 have hcel:=Bx.mk (cells_any w Far sb most ts (.brick l) ht hG (by omega) hS)
 have hK:=Bx.mk fun W (h:Below w.heap.size w W)=>kind_any Far sb most ts _ (.brick l) (idT_get ht) 2 rfl hlen W (hS.later h)
 have hby:Byt (98::l):=fun x hx=>by
  rcases List.mem_cons.1 hx with rfl | hx
  · omega
  · exact hb x hx
 have hi0:=fun W:World=>idx_str (P:=Tryz.prog) 9 Tryz.underlying9 hby (k:=0) (x:=98) rfl W
 rw [show ((0:Nat):Int)=0 from rfl] at hi0
 have hij:=Bx.mk fun (j:Nat) (x:Int) (hx:l[j]? = some x)=>(show (∀ W:World,_)∧0≤x∧x≤255 from ⟨fun W:World=>idx_str (P:=Tryz.prog) 9 Tryz.underlying9 hby (k:=j+1) (x:=x) (by simpa using hx) W,hb x (List.mem_of_getElem? hx)⟩)
 rw [show Tr.enc (.brick l)=98::l by simp [Tr.enc]]
 generalize strOfNums (98::l)=S at *
 generalize (idT ts (.brick l):Int)=id at *
 have Hl:=Bx.mk hl
 clear hby hb ht hG hlen hS hl
 go_enter Tryz.func15,Tryz.ntmps15
 go_wp2_with fail
 refine hcel.out.mono ?_
 rintro _ w1 ⟨v,rfl,how,hB⟩
 obtain ⟨pa,pc,rfl,hsl⟩:=how.form
 replace hsl:=Bx.mk hsl
 have hlen1:(outT (.brick l)).length=64:=Hl.out
 have hout:outT (.brick l)=l:=rfl
 rw [hout] at hsl
 rw [hlen1]
 clear how hcel hlen1 hout
 go_wp2_with fail
 refine (hK.out _ hB).mono ?_
 rintro _ _ ⟨rfl,rfl⟩
 have HB:=Bx.mk hB
 clear hB hK
 go_wp2_with fail
 go_loopw [55] (fun v55 wr => ∃ j:Nat,j≤64∧v55 = .int .i64 j∧wr=w1) (fun i _=>64 - (intOf i).toNat)
 case atStart=>exact ⟨0,Nat.zero_le _,rfl,rfl⟩
 case round =>
  obtain ⟨j,hj,rfl,hwr⟩:=hrel
  subst hwr
  by_cases hlt:j<64
  · have t1:decide ((j:Int)<64)=true:=by simp;omega
    obtain ⟨x,hx⟩ : ∃ x,l[j]? = some x:=⟨_,List.getElem?_eq_getElem (by have:=Hl.out;omega)⟩
    obtain ⟨b,off,rfl,hcell⟩:=hsl.out j x hx
    obtain ⟨hix,hx0⟩:=hij.out j x hx
    rw [show ((j+1:Nat):Int)=1+(j:Int) by omega] at hix
    have hwx:IntKind.i64.wrap x=x:=IntWalk.i64_in _ (by omega)
    have b1:(0:Int)≤(j:Int):=by omega
    have b2:(j:Int)<64:=by omega
    have hw1:IntKind.i64.wrap (1+(j:Int))=1+(j:Int):=IntWalk.i64_in _ (by omega)
    clear hx hx0
    go_wp2_with fail
    go_roundw
    case rel=>exact ⟨j+1,by omega,by go_num,trivial⟩
    case measure=>simp [intOf];omega
  · obtain rfl:j=64:=by omega
    have t1:decide (((64:Nat):Int)<64)=false:=by decide
    go_wp2_with fail
    go_ret
    exact ⟨rfl,HB.out⟩
set_option maxRecDepth 100000 in
set_option maxHeartbeats 2000000 in
theorem like_any (Far:Nat→Prop) (sb:Nat) (most:Int) (ts:List Tr) (hG:Good ts) (hlen:ts.length≤4194304) : ∀ (t:Tr),Tr.WF t→(Tr.enc t).length≤1000000000000000→t∈ts → ∀ (w:World),StoreIs w Far sb most ts →
 Calls Tryz.prog 15 #[.pointer (some ⟨sb,0,none⟩),(idT ts t:Int),.string (strOfNums (Tr.enc t))] w fun e w'=>e = .returned (.bool true)∧Below w.heap.size w w':=by
 intro t
 induction t with
 | uni c=>intro h _ ht w hS;exact like_uni w Far sb most ts c h ht hG hlen hS
 | brick l=>intro h _ ht w hS;exact like_brick w Far sb most ts l h.1 h.2 ht hG hlen hS
 | node d ch ih =>
   intro h hsz ht w hS
   have hK:=Bx.mk fun W (hs:StoreIs W Far sb most ts)=>kindV_any Far sb most ts (.node d ch) ht hlen W hs
   have hD:=Bx.mk fun W (hs:StoreIs W Far sb most ts)=>depth_b Far sb most ts (.node d ch) ht (d:Int) rfl hlen W hs
   have hC:=Bx.mk fun W (hs:StoreIs W Far sb most ts)=>children_any Far sb most ts _ (.node d ch) (idT_get ht) (kidX ts ch 0) (kidX ts ch 1) (kidX ts ch 2) (kidX ts ch 3) (kidX ts ch 4) (kidX ts ch 5) (kidX ts ch 6) (kidX ts ch 7) (fun j u hu=>by
    match j with
    | 0=>simp at hu;subst hu;rfl
    | 1=>simp at hu;subst hu;rfl
    | 2=>simp at hu;subst hu;rfl
    | 3=>simp at hu;subst hu;rfl
    | 4=>simp at hu;subst hu;rfl
    | 5=>simp at hu;subst hu;rfl
    | 6=>simp at hu;subst hu;rfl
    | 7=>simp at hu;subst hu;rfl
    | j+8=>simp at hu) W hs
   have hR:=Bx.mk fun W=>ref9_children d ch h hsz W
   have hD9:=Bx.mk fun W=>depth10_any (.node d ch) h W
   rw [show depV (.node d ch)=(d:Int) from rfl] at hD9
   have hd:d≤255:=h.1
   have hIH:=Bx.mk fun (k:Nat) (hk:k<8) W (hs:StoreIs W Far sb most ts)=>(show Calls Tryz.prog 15 #[.pointer (some ⟨sb,0,none⟩),.int .i64 (kidX ts ch k),.string (strOfNums (Tr.enc (ch ⟨k,hk⟩)))] W fun e w'=>e = .returned (.bool true)∧Below W.heap.size W w' from by
    unfold kidX
    rw [dif_pos hk]
    exact ih ⟨k,hk⟩ (h.2 _) (by
     have h1:=Tr.pos_succ ch hk
     have h2:=Tr.pos_le d ch (show k+1≤8 by omega)
     omega) (hG.closed.2 d ch ht _) W hs)
   have hi0:=fun W:World=>idx_str (P:=Tryz.prog) 9 Tryz.underlying9 (Tr.enc_byt _ h) (k:=0) (x:=110) (by simp [Tr.enc]) W
   rw [show ((0:Nat):Int)=0 from rfl] at hi0
   have HS:=Bx.mk hS
   have HK8:=Bx.mk fun k (hk:k<8)=>strs_at (kidsE_at ch hk)
   rw [show kindV (.node d ch)=3 from rfl] at hK
   generalize strOfNums (Tr.enc (.node d ch))=S at *
   generalize (idT ts (.node d ch):Int)=id at *
   have hde:((d:Int) == (d:Int))=true:=by simp
   have hW:=Bx.mk (Below.refl w.heap.size w)
   clear h ht hG hlen hS hsz ih
   go_enter Tryz.func15,Tryz.ntmps15
   go_wp2_with fail
   refine (hK.out _ HS.out).mono ?_
   rintro _ _ ⟨rfl,rfl⟩
   go_wp2_with fail
   refine (hD.out _ HS.out).mono ?_
   rintro _ w1 ⟨rfl,hb1⟩
   replace HS:=Bx.mk (HS.out.later hb1)
   replace hW:=Bx.mk (hW.out.trans hb1)
   clear hb1
   go_wp2_with fail
   refine (hD9.out _).mono ?_
   rintro _ _ ⟨rfl,rfl⟩
   go_wp2_with fail
   refine (hC.out _ HS.out).mono ?_
   rintro _ w3 ⟨rfl,hb3⟩
   replace HS:=Bx.mk (HS.out.later hb3)
   replace hW:=Bx.mk (hW.out.trans (hb3.mono hW.out.size))
   clear hb3 hC hK hD hD9
   go_wp2_with fail
   generalize hW4:World.alloc w3 _=W4
   have hb4:=bl1 hW4
   have kc:Bk W4 w3.heap.size #[.int .i64 (kidX ts ch 0),.int .i64 (kidX ts ch 1),.int .i64 (kidX ts ch 2),.int .i64 (kidX ts ch 3),.int .i64 (kidX ts ch 4),.int .i64 (kidX ts ch 5),.int .i64 (kidX ts ch 6),.int .i64 (kidX ts ch 7)] 108:=bk0 hW4 rfl
   replace HS:=Bx.mk (HS.out.later hb4)
   replace hW:=Bx.mk (hW.out.trans (hb4.mono hW.out.size))
   clear hW4 hb4
   generalize w3.heap.size=gc at *
   refine (hR.out _).mono ?_
   rintro _ w5 ⟨g,pc2,rfl,hk,-,hb5⟩
   have HI:=Bx.mk (show DsI w Far sb most ts ch gc g w5 from ⟨HS.out.later hb5,hW.out.trans (hb5.mono hW.out.size),kc.later hb5,hk⟩)
   clear hk hb5 kc HS hW hR
   go_wp2_with fail
   go_loopw [86] (fun v11 wr => ∃ k:Nat,k≤8∧v11 = .int .i64 k∧Bx (DsI w Far sb most ts ch gc g wr)) (fun i _=>8 - (intOf i).toNat)
   case atStart=>exact ⟨0,Nat.zero_le _,rfl,HI⟩
   case round =>
    clear HI
    obtain ⟨k,hk,rfl,HI⟩:=hrel
    by_cases hlt:k<8
    · have t0:decide ((k:Int)<8)=true:=by simp;omega
      have b1:(0:Int)≤(k:Int):=by omega
      have b2:(k:Int)<8:=by omega
      obtain ⟨b,off,he,hck⟩:=HI.out.kids k _ (HK8.out k hlt)
      simp only [Option.some.injEq,Addr.mk.injEq,and_true] at he
      obtain ⟨rfl,rfl⟩:=he
      rw [Nat.zero_add] at hck
      have hcc:=cells8 HI.out.kc hlt
      have q0:=Bx.mk (hIH.out k hlt wr HI.out.st)
      go_wp2_with fail
      refine q0.out.mono ?_
      rintro _ w7 ⟨rfl,hb7⟩
      have HI2:=Bx.mk (HI.out.later hb7)
      clear q0 hcc hck hb7 HI
      go_wp2_with fail
      go_roundw
      case rel=>exact ⟨k+1,by omega,by go_num,HI2⟩
      case measure=>simp [intOf];omega
    · obtain rfl:k=8:=by omega
      have t0:decide (((8:Nat):Int)<8)=false:=by decide
      go_wp2_with fail
      go_ret
      exact ⟨rfl,HI.out.bel⟩
end
section
open Go.RowKit Go.Sort
open Oct
def encs (ts:List Tr):List Value:=strs (ts.map Tr.enc)
theorem encs_len (ts:List Tr):(encs ts).length=ts.length:=by unfold encs;rw [strs_length,List.length_map]
theorem encs_at {ts:List Tr} {i:Nat} {t:Tr} (h:ts[i]? = some t):(encs ts)[i]? = some (.string (strOfNums (Tr.enc t))):=strs_at (by rw [List.getElem?_map,h];rfl)
theorem encs_snoc (ts:List Tr) (t:Tr):encs (ts++[t])=encs ts++[.string (strOfNums (Tr.enc t))]:=by unfold encs;rw [List.map_append];exact strs_snoc _ _
noncomputable def hasB (ts:List Tr) (t:Tr):Bool:=@decide (t∈ts) (Classical.propDecidable _)
theorem hasB_yes {ts:List Tr} {t:Tr} (h:t∈ts):hasB ts t=true:=@decide_eq_true _ (Classical.propDecidable _) h
theorem hasB_no {ts:List Tr} {t:Tr} (h:t ∉ ts):hasB ts t=false:=@decide_eq_false _ (Classical.propDecidable _) h
theorem text_eq {t t':Tr} (h:Tr.WF t) (h':Tr.WF t'):strOfNums (Tr.enc t)=strOfNums (Tr.enc t') ↔ t=t' :=
 ⟨fun e=>(Tr.enc_eq h h').1 (strOfNums_inj (Tr.enc_byt _ h) (Tr.enc_byt _ h') e),fun e=>by rw [e]⟩
theorem ref9_has (ts:List Tr) (t:Tr) (hts : ∀ x∈ts,Tr.WF x) (ht:Tr.WF t) (hl:ts.length≤1000000000) (a:Option Addr) (cap:Nat) (w:World) (hs:Slv w a (encs ts)) :
 Calls Tryz.prog 56 #[.slice a ts.length cap,.string (strOfNums (Tr.enc t))] w fun e w'=>e = .returned (.bool (hasB ts t))∧w=w':=by
 have Hs:=Bx.mk hs
 have Hw:=Bx.mk hts
 have Ht:=Bx.mk ht
 obtain ⟨n,hn⟩ : ∃ n,n=ts.length:=⟨_,rfl⟩
 rw [←hn] at hl ⊢
 have Hn:=Bx.mk hn
 generalize hS:strOfNums (Tr.enc t)=S
 have HS:=Bx.mk hS
 clear hs hts ht hn hS
 go_enter Tryz.func56,Tryz.ntmps56
 go_wp2_with fail
 go_loop [5] (fun i => ∃ k:Nat,k≤n∧i = .int .i64 k∧Bx (∀ j,j<k→ts[j]? ≠ some t)) (fun i=>n - (intOf i).toNat)
 case atStart=>exact ⟨0,Nat.zero_le _,rfl,⟨fun j hj=>absurd hj (Nat.not_lt_zero j)⟩⟩
 case round =>
  obtain ⟨k,hk,rfl,hno⟩:=hrel
  by_cases hlt:k<n
  · have t0:decide ((k:Int)<(n:Int))=true:=by simp;omega
    obtain ⟨x,hx⟩ : ∃ x,ts[k]? = some x:=⟨_,List.getElem?_eq_getElem (by rw [←Hn.out];exact hlt)⟩
    obtain ⟨b,off,rfl,hc⟩:=Hs.out k _ (encs_at hx)
    have b1:(0:Int)≤(k:Int):=by omega
    have b2:(k:Int)<(n:Int):=by omega
    have hq:((strOfNums (Tr.enc x)).toList == S.toList)=true ↔ x=t:=by rw [strEq_iff,←HS.out,text_eq (Hw.out x (List.mem_of_getElem? hx)) Ht.out]
    have HX:=Bx.mk hx
    generalize strOfNums (Tr.enc x)=X at *
    by_cases he:x=t
    · have h1:(X.toList == S.toList)=true:=hq.2 he
      have Hm:=Bx.mk (show t∈ts from he ▸ List.mem_of_getElem? HX.out)
      clear hx hq he HX
      go_wp2_with fail
      go_ret
      exact ⟨by rw [hasB_yes Hm.out];rfl,rfl⟩
    · have h1:(X.toList == S.toList)=false:=by
       cases hb:(X.toList == S.toList) with
       | false=>rfl
       | true=>exact absurd (hq.1 hb) he
      have hno2:=Bx.mk (show ∀ j,j<k+1→ts[j]? ≠ some t from fun j hj=>by
       by_cases e:j=k
       · rw [e,HX.out];intro e2;injection e2 with e2;exact he e2
       · exact hno.out j (by omega))
      clear hx hq he HX
      go_wp2_with fail
      go_round
      case rel=>exact ⟨k+1,by omega,by go_num,hno2⟩
      case measure=>simp [intOf];omega
  · obtain rfl:k=n:=by omega
    have t0:decide ((k:Int)<(k:Int))=false:=by simp
    have Hm:=Bx.mk (show t ∉ ts from fun hm=>by
     obtain ⟨j,hj,he⟩:=List.getElem_of_mem hm
     exact hno.out j (by rw [Hn.out];exact hj) (by rw [List.getElem?_eq_getElem hj,he]))
    go_wp2_with fail
    go_ret
    exact ⟨by rw [hasB_no Hm.out];rfl,rfl⟩
theorem enc_first (t:Tr) : ∃ b r,Tr.enc t=b::r∧((b == 110)=true ↔ ∃ d ch,t = .node d ch):=by
 cases t with
 | uni c=>exact ⟨117,[c],by rw [Tr.enc],by simp⟩
 | brick l=>exact ⟨98,l,by rw [Tr.enc],by simp⟩
 | node d ch=>exact ⟨110,_,by rw [Tr.enc],by simp⟩
theorem wf_add : ∀ (t:Tr),Tr.WF t → ∀ (ts:List Tr),(∀ x∈ts,Tr.WF x) → ∀ x∈Tr.add t ts,Tr.WF x:=by
 have ins : ∀ (t:Tr),Tr.WF t → ∀ (ts:List Tr),(∀ x∈ts,Tr.WF x) → ∀ x∈Tr.ins t ts,Tr.WF x:=fun t ht ts hts x hx=>by
  rcases Tr.of_mem_ins hx with h | h
  · exact hts x h
  · exact h ▸ ht
 intro t
 induction t with
 | uni c=>intro ht ts hts;rw [Tr.add_uni];exact ins _ ht ts hts
 | brick l=>intro ht ts hts;rw [Tr.add_brick];exact ins _ ht ts hts
 | node d ch ih =>
   intro ht ts hts x hx
   rw [Tr.add_node] at hx
   split at hx
   · exact hts x hx
   · rcases List.mem_append.1 hx with h | h
     · exact Tr.addK_ind (P:=fun us => ∀ x∈us,Tr.WF x) (fun i us hus=>ih i (ht.2 i) us hus) 8 (Nat.le_refl _) ts hts x h
     · rw [List.mem_singleton] at h;exact h ▸ ht
structure AddI (w:World) (B:Nat) (v:Value) (n:Nat) (ch:Fin 8→Tr) (g:Nat) (us:List Tr) (v0:Value) (wr:World):Prop where
 own:Ownv wr B 9 v0 (encs us)
 add:Added w wr v v0 n
 kids:Slv wr (some ⟨g,0,none⟩) (strs (kidsE ch))
 lt:g<wr.heap.size
 ap:v0.ownBlock ≠ some g
set_option maxRecDepth 100000 in
theorem add_yes (t:Tr) (ht:Tr.WF t) (ts:List Tr) (hts : ∀ x∈ts,Tr.WF x) (hm:t∈ts) (hl:ts.length≤100000000) (w:World) (B:Nat) (v:Value) (hown:Ownv w B 9 v (encs ts)) :
 Calls Tryz.prog 12 #[v,.string (strOfNums (Tr.enc t))] w fun e w' => ∃ v',e = .returned v'∧Ownv w' B 9 v' (encs (Tr.add t ts))∧Added w w' v v' ts.length:=by
 rw [Tr.add_same t ts hm]
 obtain ⟨a,cap,rfl,hsl⟩:=hown.form
 rw [encs_len]
 have hh:=ref9_has ts t hts ht (by omega) a cap w hsl
 rw [hasB_yes hm] at hh
 have HH:=Bx.mk hh
 rw [encs_len] at hown
 have Hown:=Bx.mk hown
 clear hh hsl hown hts ht hm
 generalize strOfNums (Tr.enc t)=S at *
 go_enter Tryz.func12,Tryz.ntmps12
 go_wp2_with fail
 refine HH.out.mono ?_
 rintro _ _ ⟨rfl,rfl⟩
 go_wp2_with fail
 go_ret
 exact ⟨_,rfl,Hown.out,Added.refl _ _ _⟩
set_option maxRecDepth 100000 in
theorem add_flat (t:Tr) (ht:Tr.WF t) (hn : ¬ ∃ d ch,t = .node d ch) (ts:List Tr) (hts : ∀ x∈ts,Tr.WF x) (hm:t ∉ ts) (hl:ts.length≤100000000) (w:World) (B:Nat) (hB:B≤w.heap.size) (v:Value) (hown:Ownv w B 9 v (encs ts)) :
 Calls Tryz.prog 12 #[v,.string (strOfNums (Tr.enc t))] w fun e w' => ∃ v',e = .returned v'∧Ownv w' B 9 v' (encs (Tr.add t ts))∧Added w w' v v' ts.length:=by
 have hadd:Tr.add t ts=ts++[t]:=by
  cases t with
  | uni c=>rw [Tr.add_uni,Tr.ins_of_not hm]
  | brick l=>rw [Tr.add_brick,Tr.ins_of_not hm]
  | node d ch=>exact absurd ⟨d,ch,rfl⟩ hn
 have Hs:=Bx.mk (show encs (Tr.add t ts)=encs ts++[.string (strOfNums (Tr.enc t))] by rw [hadd,encs_snoc])
 obtain ⟨b0,r0,he0,hu0⟩:=enc_first t
 have hb0:(b0 == 110)=false:=by
  cases hb:(b0 == 110) with
  | false=>rfl
  | true=>exact absurd (hu0.1 hb) hn
 have hi0:=fun W:World=>idx_str (P:=Tryz.prog) 9 Tryz.underlying9 (Tr.enc_byt _ ht) (k:=0) (x:=b0) (by rw [he0];rfl) W
 rw [show ((0:Nat):Int)=0 from rfl] at hi0
 have hlt:=Bx.mk hown.lt
 obtain ⟨a,cap,rfl,hsl⟩:=hown.form
 rw [encs_len] at hown hlt ⊢
 have hh:=ref9_has ts t hts ht (by omega) a cap w hsl
 rw [hasB_no hm] at hh
 have HH:=Bx.mk hh
 have Hown:=Bx.mk hown
 have Hl:=Bx.mk (show (encs ts).length≤1000000000 by rw [encs_len];omega)
 have HE:=Bx.mk (encs_len ts)
 clear hh hsl hown hts ht hm he0 hu0 hn hadd
 generalize strOfNums (Tr.enc t)=S at *
 go_enter Tryz.func12,Tryz.ntmps12
 go_wp2_with fail
 refine HH.out.mono ?_
 rintro _ _ ⟨rfl,rfl⟩
 go_wp2_with (first
  | (at_builtin
     refine wpList_append_keep rfl _ _ 35 rfl 9 (.string ByteArray.empty) 16 (by omega) Tryz.underlying35 (by kernel_rfl) rfl B _ (encs ts) rfl (Hown.out.alloc _) (.string S) rfl ⟨w.heap.size,0,none⟩ 1 rfl (cell_new _ _ _) Hl.out (le_alloc hB _) ?_
     intro v1 w1 hown1 hadd1))
 rw [←Hs.out] at hown1
 rw [HE.out] at hadd1
 have H1:=Bx.mk (show Added w w1 _ v1 ts.length from Added.after (below_lit w _) hadd1 (fun g hg=>(hlt.out g hg).2))
 have H2:=Bx.mk hown1
 clear hown1 hadd1
 go_wp2_with fail
 go_ret
 exact ⟨v1,rfl,H2.out,H1.out⟩
set_option maxRecDepth 100000 in
set_option maxHeartbeats 2000000 in
theorem ref9_add : ∀ (t:Tr),Tr.WF t→(Tr.enc t).length≤1000000000000000 → ∀ (ts:List Tr),(∀ x∈ts,Tr.WF x)→(Tr.add t ts).length≤100000000 → ∀ (w:World) (B:Nat) (v:Value),B≤w.heap.size→Ownv w B 9 v (encs ts) →
 Calls Tryz.prog 12 #[v,.string (strOfNums (Tr.enc t))] w fun e w' => ∃ v',e = .returned v'∧Ownv w' B 9 v' (encs (Tr.add t ts))∧Added w w' v v' ts.length:=by
 intro t
 induction t with
 | uni c =>
   intro ht _ ts hts hl w B v hB hown
   have hl2:=(Tr.add_prefix (.uni c) ts).length_le
   by_cases hm:Tr.uni c∈ts
   · exact add_yes _ ht ts hts hm (by omega) w B v hown
   · exact add_flat _ ht (by rintro ⟨d,ch,h⟩;cases h) ts hts hm (by omega) w B hB v hown
 | brick l =>
   intro ht _ ts hts hl w B v hB hown
   have hl2:=(Tr.add_prefix (.brick l) ts).length_le
   by_cases hm:Tr.brick l∈ts
   · exact add_yes _ ht ts hts hm (by omega) w B v hown
   · exact add_flat _ ht (by rintro ⟨d,ch,h⟩;cases h) ts hts hm (by omega) w B hB v hown
 | node d ch ih =>
   intro ht hsz ts hts hl w B v hB hown
   have hl2:=(Tr.add_prefix (.node d ch) ts).length_le
   by_cases hm:Tr.node d ch∈ts
   · exact add_yes _ ht ts hts hm (by omega) w B v hown
   · have hadd:Tr.add (.node d ch) ts=Tr.addK ch 8 ts++[.node d ch]:=by rw [Tr.add_node,if_neg hm]
     have Hs:=Bx.mk (show encs (Tr.add (.node d ch) ts)=encs (Tr.addK ch 8 ts)++[.string (strOfNums (Tr.enc (.node d ch)))] by rw [hadd,encs_snoc])
     have h8:(Tr.addK ch 8 ts).length+1≤100000000:=by rw [hadd] at hl;simpa using hl
     have hi0:=fun W:World=>idx_str (P:=Tryz.prog) 9 Tryz.underlying9 (Tr.enc_byt _ ht) (k:=0) (x:=110) (by simp [Tr.enc]) W
     rw [show ((0:Nat):Int)=0 from rfl] at hi0
     have hlt:=Bx.mk hown.lt
     obtain ⟨a,cap,rfl,hsl⟩:=hown.form
     rw [encs_len] at hown hlt ⊢
     have hh:=ref9_has ts _ hts ht (by omega) a cap w hsl
     rw [hasB_no hm] at hh
     have HH:=Bx.mk hh
     have Hown:=Bx.mk hown
     have HC:=Bx.mk fun W=>ref9_children d ch ht hsz W
     have Hle:=Bx.mk fun k (hk:k≤8)=>(addK_pre (ch:=ch) (ts:=ts) hk (Nat.le_refl _)).length_le
     have Hle0:=Bx.mk fun k (hk:k≤8)=>(Tr.addK_prefix ch k hk ts).length_le
     have Hwf:=Bx.mk fun k (hk:k≤8)=>Tr.addK_ind (P:=fun us => ∀ x∈us,Tr.WF x) (fun i us hus=>wf_add _ (ht.2 i) us hus) k hk ts hts
     have HIH:=Bx.mk fun (k:Nat) (hk:k<8)=>ih ⟨k,hk⟩ (ht.2 _) (by
      have h1:=Tr.pos_succ ch hk
      have h2:=Tr.pos_le d ch (show k+1≤8 by omega)
      omega) (Tr.addK ch k ts) (Hwf.out k (by omega)) (by
      rw [←Tr.addK_succ ch hk];have:=Hle.out (k+1) (by omega);omega)
     have HE8:=Bx.mk (show (encs (Tr.addK ch 8 ts)).length≤1000000000 by rw [encs_len];omega)
     have Hsu:=Bx.mk fun k (hk:k<8)=>Tr.addK_succ ch hk ts
     have HK:=Bx.mk fun k (hk:k<8)=>strs_at (kidsE_at ch hk)
     clear hh hsl hown hts ht hm hadd ih hsz h8
     generalize strOfNums (Tr.enc (.node d ch))=S at *
     go_enter Tryz.func12,Tryz.ntmps12
     go_wp2_with fail
     refine HH.out.mono ?_
     rintro _ _ ⟨rfl,rfl⟩
     go_wp2_with fail
     refine (HC.out _).mono ?_
     rintro _ w1 ⟨g,pc,rfl,hk,hg,hb⟩
     have HI:Bx (AddI w B (.slice a ts.length cap) ts.length ch g (Tr.addK ch 0 ts) (.slice a ts.length cap) w1):=⟨⟨by rw [Tr.addK_zero];exact Hown.out.below hb,(Added.refl _ _ _).below hb,hk,hg.2,fun e=>by have:=(hlt.out g e).2;omega⟩⟩
     clear hk hg hb
     go_wp2_with fail
     go_loopw [0,7] (fun v0 v7 wr => ∃ k:Nat,k≤8∧v7 = .int .i64 k∧Bx (AddI w B (.slice a ts.length cap) ts.length ch g (Tr.addK ch k ts) v0 wr)) (fun _ i _=>8 - (intOf i).toNat)
     case atStart=>exact ⟨0,Nat.zero_le _,rfl,HI⟩
     case round =>
      clear HI
      obtain ⟨k,hk,rfl,HI⟩:=hrel
      obtain ⟨a0,cap0,rfl,-⟩:=HI.out.own.form
      by_cases hlt8:k<8
      · have t0:decide ((k:Int)<8)=true:=by simp;omega
        have b1:(0:Int)≤(k:Int):=by omega
        have b2:(k:Int)<8:=by omega
        obtain ⟨b,off,he,hck⟩:=HI.out.kids k _ (HK.out k hlt8)
        simp only [Option.some.injEq,Addr.mk.injEq,and_true] at he
        obtain ⟨rfl,rfl⟩:=he
        rw [Nat.zero_add] at hck
        have hcall:=Bx.mk (HIH.out k hlt8 wr B _ (Nat.le_trans hB HI.out.add.grown.size) HI.out.own)
        rw [←Hsu.out k hlt8] at hcall
        have Hlk:=Bx.mk (Hle0.out k (by omega))
        go_wp2_with fail
        refine hcall.out.mono ?_
        rintro _ w2 ⟨v2,rfl,ho,ha⟩
        have HI2:Bx (AddI w B (.slice a ts.length cap) ts.length ch g (Tr.addK ch (k+1) ts) v2 w2):=⟨⟨ho,HI.out.add.trans ha Hlk.out (fun g hg=>(hlt.out g hg).2),HI.out.kids.grown ha.grown HI.out.ap,Nat.lt_of_lt_of_le HI.out.lt ha.grown.size,fun e=>by
         rcases ha.where_ with h1 | h1
         · exact HI.out.ap (h1 ▸ e)
         · have:=h1 g e;have:=HI.out.lt;omega⟩⟩
        clear ho ha hcall hck
        go_wp2_with fail
        go_roundw
        case rel=>exact ⟨k+1,by omega,by go_num,HI2⟩
        case measure=>simp [intOf];omega
      · obtain rfl:k=8:=by omega
        have t0:decide (((8:Nat):Int)<8)=false:=by decide
        have hB2:B≤wr.heap.size:=Nat.le_trans hB HI.out.add.grown.size
        have Hl8:=Bx.mk (Hle0.out 8 (Nat.le_refl _))
        have HEn:=Bx.mk (encs_len (Tr.addK ch 8 ts))
        go_wp2_with (first
         | (at_builtin
            refine wpList_append_keep rfl _ _ 35 rfl 9 (.string ByteArray.empty) 16 (by omega) Tryz.underlying35 (by kernel_rfl) rfl B _ (encs (Tr.addK ch 8 ts)) rfl (HI.out.own.alloc _) (.string S) rfl ⟨wr.heap.size,0,none⟩ 1 rfl (cell_new _ _ _) HE8.out (le_alloc hB2 _) ?_
            intro v1 w2 hown1 hadd1))
        rw [←Hs.out] at hown1
        have H1:=Bx.mk (show Added w w2 (.slice a ts.length cap) v1 ts.length from HI.out.add.trans (Added.after (below_lit wr _) hadd1 (fun g hg=>(HI.out.own.lt g hg).2)) (by rw [HEn.out];exact Hl8.out) (fun g hg=>(hlt.out g hg).2))
        have H2:=Bx.mk hown1
        clear hown1 hadd1
        go_wp2_with fail
        go_ret
        exact ⟨v1,rfl,H2.out,H1.out⟩
end
section
open Go.RowKit Go.Sort Go.Maps
open Oct
structure Ed where
 x:Int
 y:Int
 z:Int
 c:Int
def SlE (w:World) (a:Option Addr) (es:List Ed):Prop := ∀ (i:Nat) (ed:Ed),es[i]? = some ed → ∃ b off,a=some ⟨b,off,none⟩∧w.cell? ⟨b,off+i * 4,none⟩=some (.int .i64 ed.x)∧w.cell? ⟨b,off+i * 4+1,none⟩=some (.int .i64 ed.y)∧w.cell? ⟨b,off+i * 4+2,none⟩=some (.int .i64 ed.z)∧w.cell? ⟨b,off+i * 4+3,none⟩=some (.int .i64 ed.c)
theorem SlE.below {w w':World} {a:Option Addr} {es:List Ed} (h:SlE w a es) (hb:Below w.heap.size w w'):SlE w' a es:=by
 intro i x hx
 obtain ⟨b,off,rfl,h0,h1,h2,h3⟩:=h i x hx
 exact ⟨b,off,rfl,cell_later hb h0,cell_later hb h1,cell_later hb h2,cell_later hb h3⟩
structure MatI (w:World) (Far:Nat→Prop) (sb:Nat) (most:Int) (n:Nat) (F:Pt→Int) (ts us:List Tr) (v:Value) (wr:World):Prop where
 st:StoreIs wr Far sb most ts
 far : ∀ j,Far j→j<wr.heap.size
 old : ∀ j,j<w.heap.size→Far j
 bel:Below w.heap.size w wr
 good:Good ts
 mem:trF n F∈ts
 fn:FnC n F
 own:Ownv wr w.heap.size 9 v (encs us)
 row : ∀ g,v.ownBlock=some g→Far g
theorem Ownv.far {w w':World} {Far:Nat→Prop} {B:Nat} {e:TypeId} {v:Value} {vs:List Value} (h:Ownv w B e v vs) (hk:Keeps Far w w') (hf : ∀ g,v.ownBlock=some g→Far g):Ownv w' B e v vs:=by
 refine ⟨h.1,?_⟩
 rcases h.2 with hn | ⟨g,cap,cur,rfl,hb,hgg,rest⟩
 · exact .inl hn
 · exact .inr ⟨g,cap,cur,rfl,hb,by rw [hk.block g (hf g rfl) (Array.getElem?_eq_some_iff.1 hgg).1];exact hgg,rest⟩
section
variable {w wr w':World} {Far:Nat→Prop} {sb:Nat} {most:Int} {n:Nat} {F F':Pt→Int} {ts us ts' us':List Tr} {v v':Value}
theorem MatI.later (h:MatI w Far sb most n F ts us v wr) (hb:Below wr.heap.size wr w'):MatI w Far sb most n F ts us v w' :=
 ⟨h.st.later hb,fun j hj=>Nat.lt_of_lt_of_le (h.far j hj) hb.size,h.old,h.bel.trans (hb.mono h.bel.size),h.good,h.mem,h.fn,h.own.below hb,h.row⟩
theorem MatI.made (h:MatI w Far sb most n F ts us v wr) (hk:Keeps Far wr w') (hs:StoreIs w' Far sb most ts') (hg:Good ts') (hm:trF n F'∈ts') (hf:FnC n F'):MatI w Far sb most n F' ts' us v w' :=
 ⟨hs,fun j hj=>Nat.lt_of_lt_of_le (h.far j hj) hk.size,h.old,below_of_keeps h.bel hk h.old,hg,hm,hf,h.own.far hk h.row,h.row⟩
theorem MatI.push {k:Nat} (h:MatI w Far sb most n F ts us v wr) (ha:Added wr w' v v' k) (hown:Ownv w' w.heap.size 9 v' (encs us')):MatI w (fun j=>Far j∨v'.ownBlock=some j) sb most n F ts us' v' w':=by
 have hg:=ha.grown
 have hst:StoreIs w' (fun j=>Far j∨v'.ownBlock=some j) sb most ts:=by
  have h1:StoreIs wr (fun j=>Far j∨v'.ownBlock=some j) sb most ts:=h.st.widen fun k hk=>by
   rcases hk with hk | hk
   · exact .inl hk
   · rcases ha.where_ with e | e
     · rw [e] at hk;exact .inl (h.row k hk)
     · exact .inr (e k hk)
  cases hvo:v.ownBlock with
  | none =>
    rw [hvo] at hg
    exact h1.later ⟨hg.os,hg.tape,hg.output,hg.size,fun i hi=>hg.block i hi (by simp)⟩
  | some g=>rw [hvo] at hg;exact h1.apart hg (.inl (h.row g hvo))
 refine ⟨hst,fun j hj=>?_,fun j hj=>.inl (h.old j hj),?_,h.good,h.mem,h.fn,hown,fun g hg=>.inr hg⟩
 · rcases hj with hj | hj
   · exact Nat.lt_of_lt_of_le (h.far j hj) hg.size
   · exact (hown.lt j hj).2
 · exact h.bel.grown hg h.bel.size (fun g e=>(h.own.lt g e).1)
theorem MatI.drop {k:Nat} (h:MatI w Far sb most n F ts us v wr) (ha:Added wr w' v v' k) (hk:us.length≤k):MatI w Far sb most n F ts us v w':=by
 have hg:=ha.grown
 have hst:StoreIs w' Far sb most ts:=by
  cases hvo:v.ownBlock with
  | none =>
    rw [hvo] at hg
    exact h.st.later ⟨hg.os,hg.tape,hg.output,hg.size,fun i hi=>hg.block i hi (by simp)⟩
  | some g=>rw [hvo] at hg;exact h.st.apart hg (h.row g hvo)
 exact ⟨hst,fun j hj=>Nat.lt_of_lt_of_le (h.far j hj) hg.size,h.old,h.bel.grown hg h.bel.size (fun g e=>(h.own.lt g e).1),h.good,h.mem,h.fn,h.own.keep ha (by rw [encs_len];exact hk),h.row⟩
end
theorem good_wf {ts:List Tr} (hG:Good ts) : ∀ x∈ts,Tr.WF x:=fun x hx=>wf_of_good hG x hx
end
section
open Go.RowKit Go.Sort Go.Maps
open Oct
noncomputable def txt (n:Nat) (F:Pt→Int):ByteArray:=strOfNums (Tr.enc (trF n F))
noncomputable def idn (ts:List Tr) (n:Nat) (F:Pt→Int):Int:=(idT ts (trF n F):Int)
noncomputable def addn (n:Nat) (F:Pt→Int) (ts:List Tr):List Tr:=Tr.add (trF n F) ts
theorem enc_trF {n:Nat} {F:Pt→Int} (hn:n≤12) (hF : ∀ p,0≤F p∧F p≤255):(Tr.enc (trF n F)).length≤1000000000000000:=by
 have h:=Tr.enc_small n (trF n F) (wf_can hF n _ (by omega)) (small_can F n _)
 have h8:8 ^ n≤8 ^ 12:=Nat.pow_le_pow_right (by omega) hn
 omega
theorem m_from_fits (w:World) (sb:Nat) (a b c d e f:Int) (ha:Option Addr) (hcp:Nat) (xs:List Int) (n:Nat) (hn:n≤12) (hsl:Sl w .i64 ha xs) (HX:GoodG ⟨⟨a,b,c⟩,⟨d,e,f⟩⟩ xs hcp) (hV:validG ⟨⟨a,b,c⟩,⟨d,e,f⟩⟩ xs=true) (hC:emptyB ⟨⟨a,b,c⟩,⟨d,e,f⟩⟩=true∨containsB ⟨⟨0,0,0⟩,⟨2 ^ (n+2),2 ^ (n+2),2 ^ (n+2)⟩⟩ ⟨⟨a,b,c⟩,⟨d,e,f⟩⟩=true)
 (Far:Nat→Prop) (hfx:xs ≠ [] → ∀ b,ha.map (·.block)=some b→Far b) (most:Int) (hFar : ∀ k,Far k→k<w.heap.size) (hS:StoreIs w Far sb most []) (hfit:Tr.Fits most [] (addn n (cellG ⟨⟨a,b,c⟩,⟨d,e,f⟩⟩ xs) [])) :
 Calls Tryz.prog 33 #[.pointer (some ⟨sb,0,none⟩),.agg #[a,b,c,d,e,f,.slice ha xs.length hcp],.int .i64 ((n:Int)+2)] w fun E w'=>E=ret2 (idn (addn n (cellG ⟨⟨a,b,c⟩,⟨d,e,f⟩⟩ xs) []) n (cellG ⟨⟨a,b,c⟩,⟨d,e,f⟩⟩ xs)) 0∧StoreIs w' Far sb most (addn n (cellG ⟨⟨a,b,c⟩,⟨d,e,f⟩⟩ xs) [])∧Keeps Far w w' :=
 (from_yes w sb a b c d e f ha hcp xs n hn hsl HX hV hC Far hfx most [] good_nil (by simp) hFar hS).mono fun _ _ h=>h.fit hfit
theorem m_ref_yes (a b c d e f:Int) (ha:Option Addr) (hcp:Nat) (xs:List Int) (hl:xs.length≤300) (n:Nat) (hn:n≤12) (HX:GoodG ⟨⟨a,b,c⟩,⟨d,e,f⟩⟩ xs hcp) (hE:fromE ⟨⟨a,b,c⟩,⟨d,e,f⟩⟩ xs ((n:Int)+2)=0) (w:World) (hsl:Sl w .i64 ha xs) :
 Calls Tryz.prog 34 #[.agg #[a,b,c,d,e,f,.slice ha xs.length hcp],.int .i64 ((n:Int)+2)] w fun e' w'=>e' = .returned (.tuple #[.string (txt n (cellG ⟨⟨a,b,c⟩,⟨d,e,f⟩⟩ xs)),(0:Int)])∧Below w.heap.size w w' :=
 ref9_from_yes a b c d e f ha hcp xs hl n hn HX hE w hsl
theorem m_add (n:Nat) (F:Pt→Int) (hn:n≤12) (hF : ∀ p,0≤F p∧F p≤255) (ts:List Tr) (hG:Good ts) (hl:(addn n F ts).length≤100000000) (w:World) (B:Nat) (v:Value) (hB:B≤w.heap.size) (hown:Ownv w B 9 v (encs ts)) :
 Calls Tryz.prog 12 #[v,.string (txt n F)] w fun e w' => ∃ v',e = .returned v'∧Ownv w' B 9 v' (encs (addn n F ts))∧Added w w' v v' ts.length :=
 ref9_add (trF n F) (wf_can hF n _ (by omega)) (enc_trF hn hF) ts (good_wf hG) hl w B v hB hown
theorem addn_good {n:Nat} {F:Pt→Int} {ts:List Tr} (hn:n≤12) (hF:FnC n F) (hG:Good ts):Good (addn n F ts):=good_fn hn hF hG
theorem addn_mem (n:Nat) (F:Pt→Int) (ts:List Tr):trF n F∈addn n F ts:=Tr.mem_add _ _
theorem addn_pre (n:Nat) (F:Pt→Int) (ts:List Tr):ts <+: addn n F ts:=Tr.add_prefix _ _
theorem addn_few {b:Box} {xs:List Int} {hcp n:Nat} (HX:GoodG b xs hcp) (hn:n≤12):(addn n (cellG b xs) []).length≤3901:=by
 have:=can_few HX hn good_nil
 rwa [List.length_nil,Nat.zero_add] at this
end
section
open Go.RowKit Go.Sort Go.Maps
open Oct
set_option maxRecDepth 100000 in
set_option maxHeartbeats 1000000 in
theorem built10_yes (most:Int) (a b c d e f:Int) (ha:Option Addr) (hcp:Nat) (xs:List Int) (hl:xs.length≤300) (n:Nat) (hn:n≤12) (HX:GoodG ⟨⟨a,b,c⟩,⟨d,e,f⟩⟩ xs hcp) (hE:fromE ⟨⟨a,b,c⟩,⟨d,e,f⟩⟩ xs ((n:Int)+2)=0) (hV:validG ⟨⟨a,b,c⟩,⟨d,e,f⟩⟩ xs=true) (hC:emptyB ⟨⟨a,b,c⟩,⟨d,e,f⟩⟩=true∨containsB ⟨⟨0,0,0⟩,⟨2 ^ (n+2),2 ^ (n+2),2 ^ (n+2)⟩⟩ ⟨⟨a,b,c⟩,⟨d,e,f⟩⟩=true) (hfit:Tr.Fits most [] (addn n (cellG ⟨⟨a,b,c⟩,⟨d,e,f⟩⟩ xs) [])) (w:World) (hsl:Sl w .i64 ha xs) :
 Calls Tryz.prog 11 #[.agg #[a,b,c,d,e,f,.slice ha xs.length hcp],.int .i64 ((n:Int)+2),most] w fun e' w' => ∃ sb,e' = .returned (.tuple #[.pointer (some ⟨sb,0,none⟩),.int .i64 (idn (addn n (cellG ⟨⟨a,b,c⟩,⟨d,e,f⟩⟩ xs) []) n (cellG ⟨⟨a,b,c⟩,⟨d,e,f⟩⟩ xs)),.string (txt n (cellG ⟨⟨a,b,c⟩,⟨d,e,f⟩⟩ xs)),.bool true])∧StoreIs w' (fun k=>k<w.heap.size) sb most (addn n (cellG ⟨⟨a,b,c⟩,⟨d,e,f⟩⟩ xs) [])∧Below w.heap.size w w':=by
 have hfx:xs ≠ [] → ∀ b,ha.map (·.block)=some b→b<w.heap.size:=fun hx b hb=>by
  obtain ⟨x,r,rfl⟩:=List.exists_cons_of_ne_nil hx
  obtain ⟨b',off,h1,h2⟩:=hsl 0 x rfl
  rw [h1] at hb
  simp only [Option.map_some,Option.some.injEq] at hb
  rw [←hb];exact World.block_lt_of_cell? w _ h2
 have hfr:=Bx.mk (fun W sb Far h1 h2 h3 h4=>m_from_fits W sb a b c d e f ha hcp xs n hn h1 HX hV hC Far h2 most h3 h4 hfit)
 have hrf:=Bx.mk (fun W h1=>m_ref_yes a b c d e f ha hcp xs hl n hn HX hE W h1)
 have hsl:=Bx.mk hsl
 have hfx:=Bx.mk hfx
 clear HX hV hC hn hE hfit hl
 generalize idn (addn n (cellG ⟨⟨a,b,c⟩,⟨d,e,f⟩⟩ xs) []) n (cellG ⟨⟨a,b,c⟩,⟨d,e,f⟩⟩ xs)=iX at *
 generalize addn n (cellG ⟨⟨a,b,c⟩,⟨d,e,f⟩⟩ xs) []=ts at *
 generalize txt n (cellG ⟨⟨a,b,c⟩,⟨d,e,f⟩⟩ xs)=S at *
 go_enter Tryz.func11,Tryz.ntmps11
 go_wp2_with fail
 generalize hW:World.alloc w _=W
 have hB:=bl1 hW
 have kg:Bk W w.heap.size #[a,b,c,d,e,f,.slice ha xs.length hcp] 28:=bk0 hW
 clear hW
 refine (newStore_any most _).mono ?_
 rintro _ w1 ⟨sb,rfl,hS1,hb1⟩
 have HS:=Bx.mk (hS1.less (Far:=fun k=>k<w.heap.size) (fun k hk=>Nat.lt_of_lt_of_le hk hB.size))
 have HB:=Bx.mk (hB.trans (hb1.mono hB.size))
 have KG:=Bx.mk (kg.later hb1)
 obtain ⟨c0,c1,c2,c3,c4,c5,c6⟩:=KG.out.c7
 clear hS1 hb1 hB kg
 go_wp2_with fail
 refine (hrf.out _ (hsl.out.below HB.out)).mono ?_
 rintro _ w2 ⟨rfl,hb2⟩
 replace HS:=Bx.mk (HS.out.later hb2)
 replace HB:=Bx.mk (HB.out.trans (hb2.mono HB.out.size))
 replace KG:=Bx.mk (KG.out.later hb2)
 clear c0 c1 c2 c3 c4 c5 c6
 obtain ⟨c0,c1,c2,c3,c4,c5,c6⟩:=KG.out.c7
 clear hb2
 go_wp2_with fail
 refine (hfr.out _ sb (fun k=>k<w.heap.size) (hsl.out.below HB.out) (fun hx b hb=>hfx.out hx b hb) (fun k hk=>Nat.lt_of_lt_of_le hk HB.out.size) HS.out).mono ?_
 rintro _ w3 ⟨rfl,hS3,hK3⟩
 have HB3:Bx (Below w.heap.size w w3):=⟨HB.out.trans ⟨hK3.os,hK3.tape,hK3.output,hK3.size,fun k hk=>hK3.block k hk (Nat.lt_of_lt_of_le hk HB.out.size)⟩⟩
 have HS3:=Bx.mk hS3
 clear hS3 hK3 c0 c1 c2 c3 c4 c5 c6
 go_wp2_with fail
 exact bodyPost_ret (v:=.tuple #[.pointer (some ⟨sb,0,none⟩),iX,.string S,.bool true]) (by simp [results,Tryz.results11,go_sem]) rfl ⟨sb,rfl,HS3.out,HB3.out⟩
end
end Go.Proofs.YtfcbajmjaifjlaaGreat
