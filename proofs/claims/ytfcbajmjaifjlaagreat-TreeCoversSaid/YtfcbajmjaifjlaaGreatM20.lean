/- Tch, Edt, Gri, Enc, Ini: joined by program, for one claim. -/
import Derived.Test.YtfcbajmjaifjlaaGreatM18
import Derived.Test.YtfcbajmjaifjlaaGreatM11
import Derived.Test.YtfcbajmjaifjlaaGreatM12
import Derived.Test.YtfcbajmjaifjlaaGreatM4
import Derived.Test.YtfcbajmjaifjlaaGreatM19
import Derived.Test.YtfcbajmjaifjlaaGreatM15
set_option linter.unusedVariables false
set_option linter.unusedSimpArgs false
namespace Go.Proofs.YtfcbajmjaifjlaaGreat
section
open Go.RowKit Go.Sort Go.Maps
open Oct
def cells2:Tr→List Int
 | .uni c=>List.replicate 64 c
 | .brick l=>l
 | .node _ _=>[]
def kindV:Tr→Int
 | .uni _=>1
 | .brick _=>2
 | .node _ _=>3
theorem kindV_any (Far:Nat→Prop) (sb:Nat) (most:Int) (ts:List Tr) (t:Tr) (ht:t∈ts) (hlen:ts.length≤4194304) (w:World) (hS:StoreIs w Far sb most ts) :
 Calls Tryz.prog 39 #[.pointer (some ⟨sb,0,none⟩),(idT ts t:Int)] w fun e w'=>e = .returned (.int .i64 (kindV t))∧w=w' :=
 kind_any Far sb most ts _ t (idT_get ht) (kindV t) (by cases t <;> rfl) hlen w hS
noncomputable abbrev kidsV (ts:List Tr) (t:Tr):Value:=.agg #[(idT ts (t.kid 0):Int),(idT ts (t.kid 1):Int),(idT ts (t.kid 2):Int),(idT ts (t.kid 3):Int),(idT ts (t.kid 4):Int),(idT ts (t.kid 5):Int),(idT ts (t.kid 6):Int),(idT ts (t.kid 7):Int)]
theorem storeKids_any (Far:Nat→Prop) (sb:Nat) (most:Int) (ts:List Tr) (d:Nat) (ch:Fin 8→Tr) (ht:Tr.node d ch∈ts) (w:World) (hS:StoreIs w Far sb most ts) :
 Calls Tryz.prog 65 #[.pointer (some ⟨sb,0,none⟩),(idT ts (.node d ch):Int)] w fun e w'=>e = .returned (kidsV ts (.node d ch))∧Below w.heap.size w w' :=
 children_any Far sb most ts _ (.node d ch) (idT_get ht) _ _ _ _ _ _ _ _ (fun j u hu=>by
  match j with
  | 0=>simp at hu;subst hu;rfl
  | 1=>simp at hu;subst hu;rfl
  | 2=>simp at hu;subst hu;rfl
  | 3=>simp at hu;subst hu;rfl
  | 4=>simp at hu;subst hu;rfl
  | 5=>simp at hu;subst hu;rfl
  | 6=>simp at hu;subst hu;rfl
  | 7=>simp at hu;subst hu;rfl
  | j+8=>simp at hu) w hS
theorem bk8 {w:World} {g:Nat} {x0 x1 x2 x3 x4 x5 x6 x7:Value} {t:TypeId} (h:Bk w g #[x0,x1,x2,x3,x4,x5,x6,x7] t) (a b c d e f i j:Value):Bk ((((((((w.setCell ⟨g,0,none⟩ a).setCell ⟨g,1,none⟩ b).setCell ⟨g,2,none⟩ c).setCell ⟨g,3,none⟩ d).setCell ⟨g,4,none⟩ e).setCell ⟨g,5,none⟩ f).setCell ⟨g,6,none⟩ i).setCell ⟨g,7,none⟩ j) g #[a,b,c,d,e,f,i,j] t:=by
 simpa using (((((((h.set 0 a).set 1 b).set 2 c).set 3 d).set 4 e).set 5 f).set 6 i).set 7 j
theorem kids_node (Far:Nat→Prop) (sb:Nat) (most:Int) (ts:List Tr) (d:Nat) (ch:Fin 8→Tr) (ht:Tr.node d ch∈ts) (hlen:ts.length≤4194304) (w:World) (hS:StoreIs w Far sb most ts) :
 Calls Tryz.prog 68 #[.pointer (some ⟨sb,0,none⟩),(idT ts (.node d ch):Int)] w fun e w'=>e = .returned (kidsV ts (.node d ch))∧Below w.heap.size w w':=by
 have hk:=Bx.mk fun W (hs:StoreIs W Far sb most ts)=>kindV_any Far sb most ts _ ht hlen W hs
 have hc:=Bx.mk fun W (hs:StoreIs W Far sb most ts)=>storeKids_any Far sb most ts d ch ht W hs
 have HS:=Bx.mk hS
 have t1:((3:Int) == 3)=true:=by decide
 unfold kidsV at hc
 unfold kidsV
 generalize (idT ts ((Tr.node d ch).kid 0):Int)=x0 at *
 generalize (idT ts ((Tr.node d ch).kid 1):Int)=x1 at *
 generalize (idT ts ((Tr.node d ch).kid 2):Int)=x2 at *
 generalize (idT ts ((Tr.node d ch).kid 3):Int)=x3 at *
 generalize (idT ts ((Tr.node d ch).kid 4):Int)=x4 at *
 generalize (idT ts ((Tr.node d ch).kid 5):Int)=x5 at *
 generalize (idT ts ((Tr.node d ch).kid 6):Int)=x6 at *
 generalize (idT ts ((Tr.node d ch).kid 7):Int)=x7 at *
 generalize (idT ts (Tr.node d ch):Int)=id at *
 clear hS ht hlen
 go_enter Tryz.func68,Tryz.ntmps68
 go_wp2_with fail
 generalize hW:World.alloc w _=W
 have hSz:=sz1 hW
 have hB:=bl1 hW
 have kr:Bk W (w.heap.size) #[(0:Int),(0:Int),(0:Int),(0:Int),(0:Int),(0:Int),(0:Int),(0:Int)] 108:=bk0 hW
 clear hW
 refine (hk.out _ (HS.out.later hB)).mono ?_
 rintro _ _ ⟨rfl,rfl⟩
 go_wp2_with fail
 refine (hc.out _ (HS.out.later hB)).mono ?_
 rintro _ w2 ⟨rfl,hb⟩
 replace hB:=hB.trans (hb.mono hB.size)
 replace kr:=kr.later hb
 clear hb
 obtain ⟨cr0,cr1,cr2,cr3,cr4,cr5,cr6,cr7⟩:=kr.c8
 obtain ⟨fr0,fr1,fr2,fr3,fr4,fr5,fr6,fr7⟩:=kr.f8
 go_wp2_with fail
 replace kr:=bk8 kr (.int .i64 x0) (.int .i64 x1) (.int .i64 x2) (.int .i64 x3) (.int .i64 x4) (.int .i64 x5) (.int .i64 x6) (.int .i64 x7)
 exact bodyPost_ret (v:=.agg #[x0,x1,x2,x3,x4,x5,x6,x7]) (results_cell_row rfl _ _ _ 108 #[x0,x1,x2,x3,x4,x5,x6,x7] (0,0) _ rfl kr Tryz.underlying108 rfl (by kernel_rfl)) rfl ⟨rfl,blw8 hB (by omega) _ _ _ _ _ _ _ _⟩
theorem kids_flat (Far:Nat→Prop) (sb:Nat) (most:Int) (ts:List Tr) (t:Tr) (k:Int) (hk3:kindV t=k) (hne:(k == 3)=false) (ht:t∈ts) (hlen:ts.length≤4194304) (w:World) (hS:StoreIs w Far sb most ts) :
 Calls Tryz.prog 68 #[.pointer (some ⟨sb,0,none⟩),(idT ts t:Int)] w fun e w'=>e = .returned (.agg #[(idT ts t:Int),(idT ts t:Int),(idT ts t:Int),(idT ts t:Int),(idT ts t:Int),(idT ts t:Int),(idT ts t:Int),(idT ts t:Int)])∧Below w.heap.size w w':=by
 have hk:=Bx.mk fun W (hs:StoreIs W Far sb most ts)=>kindV_any Far sb most ts _ ht hlen W hs
 rw [hk3] at hk
 have HS:=Bx.mk hS
 generalize (idT ts t:Int)=id at *
 clear hS ht hlen hk3
 go_enter Tryz.func68,Tryz.ntmps68
 go_wp2_with fail
 generalize hW:World.alloc w _=W
 have hSz:=sz1 hW
 have hB:=bl1 hW
 have kr:Bk W (w.heap.size) #[(0:Int),(0:Int),(0:Int),(0:Int),(0:Int),(0:Int),(0:Int),(0:Int)] 108:=bk0 hW
 clear hW
 refine (hk.out _ (HS.out.later hB)).mono ?_
 rintro _ _ ⟨rfl,rfl⟩
 obtain ⟨cr0,cr1,cr2,cr3,cr4,cr5,cr6,cr7⟩:=kr.c8
 obtain ⟨fr0,fr1,fr2,fr3,fr4,fr5,fr6,fr7⟩:=kr.f8
 go_wp2_with fail
 replace kr:=bk8 kr (.int .i64 id) (.int .i64 id) (.int .i64 id) (.int .i64 id) (.int .i64 id) (.int .i64 id) (.int .i64 id) (.int .i64 id)
 exact bodyPost_ret (v:=.agg #[id,id,id,id,id,id,id,id]) (results_cell_row rfl _ _ _ 108 #[id,id,id,id,id,id,id,id] (0,0) _ rfl kr Tryz.underlying108 rfl (by kernel_rfl)) rfl ⟨rfl,blw8 hB (by omega) _ _ _ _ _ _ _ _⟩
theorem kids_any (Far:Nat→Prop) (sb:Nat) (most:Int) (ts:List Tr) (t:Tr) (ht:t∈ts) (hlen:ts.length≤4194304) (w:World) (hS:StoreIs w Far sb most ts) :
 Calls Tryz.prog 68 #[.pointer (some ⟨sb,0,none⟩),(idT ts t:Int)] w fun e w'=>e = .returned (kidsV ts t)∧Below w.heap.size w w':=by
 cases t with
 | uni c=>exact kids_flat Far sb most ts (.uni c) 1 rfl rfl ht hlen w hS
 | brick l=>exact kids_flat Far sb most ts (.brick l) 2 rfl rfl ht hlen w hS
 | node d ch=>exact kids_node Far sb most ts d ch ht hlen w hS
theorem cells2_uni (w:World) (Far:Nat→Prop) (sb:Nat) (most:Int) (ts:List Tr) (c:Int) (ht:Tr.uni c∈ts) (hG:Good ts) (hlen:ts.length≤1000000000000) (hS:StoreIs w Far sb most ts) :
 Calls Tryz.prog 158 #[.pointer (some ⟨sb,0,none⟩),(idT ts (.uni c):Int)] w fun e w' => ∃ v,e = .returned v∧Own w' w.heap.size 3 .i64 v (List.replicate 64 c)∧Below w.heap.size w w':=by
 have hC:=Bx.mk fun W (hs:StoreIs W Far sb most ts)=>cells_any W Far sb most ts (.uni c) ht hG hlen hs
 have hR:=Bx.mk fun W ad cap=>repeat_one ad cap c 64 (by decide) (by decide) W
 have HS:=Bx.mk hS
 generalize (idT ts (Tr.uni c):Int)=id at *
 clear hS ht hG hlen
 go_enter Tryz.func158,Tryz.ntmps158
 go_wp2_with fail
 refine (hC.out _ HS.out).mono ?_
 rintro _ w1 ⟨v,rfl,hv,hB⟩
 obtain ⟨a,cap,rfl,hsl⟩:=hv.form
 clear hv hsl
 have t1:(((([c]:List Int).length:Nat):Int) != 1)=false:=by simp
 go_wp2_with fail
 refine (hC.out _ (HS.out.later hB)).mono ?_
 rintro _ w2 ⟨v,rfl,hv,hb⟩
 replace hB:=hB.trans (hb.mono hB.size)
 obtain ⟨a2,cap2,rfl,hsl⟩:=hv.form
 obtain ⟨b,off,rfl,hc0⟩:=hsl 0 c rfl
 have hR2:=Bx.mk (hR.out w2 ⟨b,off,none⟩ cap2 hc0)
 clear hv hb hsl hc0 t1
 go_wp2_with fail
 refine hR2.out.mono ?_
 rintro _ w3 ⟨v3,rfl,hv,hb⟩
 replace hB':=hB.trans (hb.mono hB.size)
 have hv2:=Bx.mk (hv.base hB.size)
 clear hv hb hB
 go_wp2_with fail
 go_ret
 exact ⟨_,rfl,hv2.out,hB'⟩
theorem cells2_txt (w:World) (Far:Nat→Prop) (sb:Nat) (most:Int) (ts:List Tr) (l:List Int) (hl:l.length=64) (ht:Tr.brick l∈ts) (hG:Good ts) (hlen:ts.length≤1000000000000) (hS:StoreIs w Far sb most ts) :
 Calls Tryz.prog 158 #[.pointer (some ⟨sb,0,none⟩),(idT ts (.brick l):Int)] w fun e w' => ∃ v,e = .returned v∧Own w' w.heap.size 3 .i64 v l∧Below w.heap.size w w':=by
 have hC:=Bx.mk fun W (hs:StoreIs W Far sb most ts)=>cells_any W Far sb most ts (.brick l) ht hG hlen hs
 have HS:=Bx.mk hS
 generalize (idT ts (Tr.brick l):Int)=id at *
 clear hS ht hG hlen
 go_enter Tryz.func158,Tryz.ntmps158
 go_wp2_with fail
 refine (hC.out _ HS.out).mono ?_
 rintro _ w1 ⟨v,rfl,hv,hB⟩
 have hf:=hv.form
 have hv:=Bx.mk hv
 obtain ⟨a,cap,rfl,hsl⟩:=hf
 rw [show (outT (.brick l)).length=64 from hl] at hv ⊢
 clear hsl
 have t1:(((64:Nat):Int) != 1)=true:=by decide
 go_wp2_with fail
 go_ret
 exact ⟨_,rfl,hv.out,hB⟩
theorem cells2_any (w:World) (Far:Nat→Prop) (sb:Nat) (most:Int) (ts:List Tr) (t:Tr) (hd : ∀ d ch,t ≠ .node d ch) (ht:t∈ts) (hW:Tr.WF t) (hG:Good ts) (hlen:ts.length≤1000000000000) (hS:StoreIs w Far sb most ts) :
 Calls Tryz.prog 158 #[.pointer (some ⟨sb,0,none⟩),(idT ts t:Int)] w fun e w' => ∃ v,e = .returned v∧Own w' w.heap.size 3 .i64 v (cells2 t)∧Below w.heap.size w w':=by
 cases t with
 | uni c=>exact cells2_uni w Far sb most ts c ht hG hlen hS
 | brick l=>exact cells2_txt w Far sb most ts l ((hG.bytes _ ht).bricks l rfl).1 ht hG hlen hS
 | node d ch=>exact absurd rfl (hd d ch)
end
section
open Go.RowKit Go.Sort Go.Maps
open Oct
abbrev ret3 (i:Int) (b:Bool) (e:Int):Ending:=.returned (.tuple #[i,.bool b,e])
abbrev buildV (pe ps pb:Nat):Value:=.func (.func 157) #[] #[.pointer (some ⟨pe,0,none⟩),.pointer (some ⟨ps,0,none⟩),.pointer (some ⟨pb,0,none⟩)]
structure ECtx (w:World) (Far:Nat→Prop) (pe ps pb sb:Nat) (nf bf:Value) (P:World→Prop):Prop where
 ke:Bk w pe #[nf,bf] 158
 kr:Bk w ps #[.pointer (some ⟨sb,0,none⟩)] 32
 kb:Bk w pb #[buildV pe ps pb] 181
 fe:Far pe
 fr:Far ps
 fb:Far pb
 hp:P w
abbrev Stays (Far:Nat→Prop) (P:World→Prop):Prop := ∀ a b,Keeps Far a b→P a→P b
theorem Bk.keeps {w w':World} {Far:Nat→Prop} {g:Nat} {cs:Array Value} {t:TypeId} (h:Bk w g cs t) (hk:Keeps Far w w') (hf:Far g):Bk w' g cs t:=by
 unfold Bk;rw [hk.block g hf h.lt];exact h
theorem ECtx.far {w w':World} {Far:Nat→Prop} {pe ps pb sb:Nat} {nf bf:Value} {P:World→Prop} (h:ECtx w Far pe ps pb sb nf bf P) (HP:Stays Far P) (hk:Keeps Far w w'):ECtx w' Far pe ps pb sb nf bf P :=
 ⟨h.ke.keeps hk h.fe,h.kr.keeps hk h.fr,h.kb.keeps hk h.fb,h.fe,h.fr,h.fb,HP _ _ hk h.hp⟩
theorem ECtx.wider {w:World} {Far Far':Nat→Prop} {pe ps pb sb:Nat} {nf bf:Value} {P:World→Prop} (h:ECtx w Far pe ps pb sb nf bf P) (hf : ∀ k,Far k→Far' k):ECtx w Far' pe ps pb sb nf bf P :=
 ⟨h.ke,h.kr,h.kb,hf _ h.fe,hf _ h.fr,hf _ h.fb,h.hp⟩
structure NodeSays (Far:Nat→Prop) (sb:Nat) (most:Int) (us:List Tr) (t':Tr) (U:Prop) (w:World) (e:Ending) (w':World):Prop where
 keeps:Keeps Far w w'
 way:(Tr.Fits most us (Tr.add t' us)∧e=ret3 (idT (Tr.add t' us) t':Int) true 0∧StoreIs w' Far sb most (Tr.add t' us)) ∨
  (¬Tr.Fits most us (Tr.add t' us)∧(∃ kn,e=ret3 0 kn 14) ∧ ∃ vs,Good vs∧us <+: vs∧vs <+: Tr.add t' us∧StoreIs w' Far sb most vs) ∨
  (U∧(∃ i,e=ret3 i false 0)∧Below w.heap.size w w')
def kidN (t:Tr) (j:Nat):Tr:=if h:j<8 then t.kid ⟨j,h⟩ else t
theorem kidN_eq (t:Tr) {j:Nat} (h:j<8):kidN t j=t.kid ⟨j,h⟩:=by unfold kidN;rw [dif_pos h]
theorem kidN_in {ts:List Tr} (hG:Good ts) {t:Tr} (ht:t∈ts) (j:Nat):kidN t j∈ts:=by
 unfold kidN;split
 · exact kid_in hG ht _
 · exact ht
structure EI (Far:Nat→Prop) (sb:Nat) (most:Int) (ts:List Tr) (t0:Tr) (ch:Nat→Tr) (gk:Nat) (ax ay az l:Int) (w:World) (k:Nat) (wr:World):Prop where
 store:StoreIs wr (fun x=>Far x∨(w.heap.size≤x∧x≤gk)) sb most (Tr.addK (fun i=>ch i.val) k ts)
 fits:Tr.Fits most ts (Tr.addK (fun i=>ch i.val) k ts)
 row:wr.rowIs gk 108 8 (fun j=>.int .i64 (if j<k then (idT (Tr.addK (fun i=>ch i.val) k ts) (ch j):Int) else (idT ts (kidN t0 j):Int)))
 kp:Bk wr w.heap.size #[ax,ay,az,l] 39
 keeps:Keeps Far w wr
 size:gk<wr.heap.size
theorem ei_step {w wr w4 w5:World} {Far:Nat→Prop} {sb:Nat} {most:Int} {ts:List Tr} {t0:Tr} {ch:Nat→Tr} {gk k:Nat} {ax ay az l:Int} (HF : ∀ k,Far k→k<w.heap.size) (hk:k<8) (hgk:w.heap.size<gk)
 (hI:EI Far sb most ts t0 ch gk ax ay az l w k wr) (hb:Below wr.heap.size wr w4) (hkp:Keeps (fun x=>Far x∨(w.heap.size≤x∧x≤gk)) w4 w5)
 (hf:Tr.Fits most (Tr.addK (fun i=>ch i.val) k ts) (Tr.addK (fun i=>ch i.val) (k+1) ts)) (hs:StoreIs w5 (fun x=>Far x∨(w.heap.size≤x∧x≤gk)) sb most (Tr.addK (fun i=>ch i.val) (k+1) ts)) :
 EI Far sb most ts t0 ch gk ax ay az l w (k+1) (w5.setCell ⟨gk,k,none⟩ (.int .i64 (idT (Tr.addK (fun i=>ch i.val) (k+1) ts) (ch k):Int))):=by
 have hg:=grown_setCell w5 ⟨gk,k,none⟩ (.int .i64 (idT (Tr.addK (fun i=>ch i.val) (k+1) ts) (ch k):Int))
 have hp1:=Tr.addK_prefix (fun i:Fin 8=>ch i.val) k (by omega) ts
 have hp2:Tr.addK (fun i:Fin 8=>ch i.val) k ts <+: Tr.addK (fun i:Fin 8=>ch i.val) (k+1) ts:=addK_pre (by omega) (by omega)
 have hfar : ∀ x,Far x→gk ≠ x:=fun x hx e=>by have:=HF x hx;omega
 have hfg:(fun x=>Far x∨(w.heap.size≤x∧x≤gk)) gk:=.inr ⟨by omega,Nat.le_refl _⟩
 refine ⟨hs.apart hg hfg,Tr.fits_trans hp1 hp2 hI.fits hf,?_,?_,?_,?_⟩
 · refine ((rowIs_far (hI.row.of_block (hb.block gk hI.size)) hkp hfg).set k _).congr (fun j hj=>?_)
   by_cases e:j=k
   · subst e;rw [if_pos rfl,if_pos (by omega)]
   · rw [if_neg e]
     by_cases h5:j<k
     · rw [if_pos h5,if_pos (by omega)]
       have hm:=Tr.addK_mem (fun i:Fin 8=>ch i.val) ts k (by omega) ⟨j,hj⟩ h5
       have:=idT_prefix hp2 hm
       simp only at this
       rw [this]
     · rw [if_neg h5,if_neg (by omega)]
 · exact ((hI.kp.later hb).keeps hkp (.inr ⟨Nat.le_refl _,by omega⟩)).grownO hg (by simp;omega)
 · exact ((hI.keeps.trans (Keeps.below hb)).trans (hkp.less (fun k hk=>.inl hk))).trans (Keeps.grown hg (fun g e hx=>by injection e with e;exact hfar _ hx e))
 · have h1:=hb.size
   have h2:=hkp.size
   have h3:=hI.size
   rw [size_setCell];omega
end
section
open Go.RowKit Go.Sort Go.Maps
open Oct
theorem sl_put7 {w:World} {k:IntKind} {g r off:Nat} {xs:List Int} (h:Sl w k (some ⟨g,off,none⟩) xs) (hne:g ≠ r) (x0 x1 x2 x3 x4 x5 x6:Value) :
 Sl (((((((w.setCell ⟨r,0,none⟩ x0).setCell ⟨r,1,none⟩ x1).setCell ⟨r,2,none⟩ x2).setCell ⟨r,3,none⟩ x3).setCell ⟨r,4,none⟩ x4).setCell ⟨r,5,none⟩ x5).setCell ⟨r,6,none⟩ x6) k (some ⟨g,off,none⟩) xs:=by
 have one : ∀ (w:World) (j:Nat) (x:Value),Sl w k (some ⟨g,off,none⟩) xs→Sl (w.setCell ⟨r,j,none⟩ x) k (some ⟨g,off,none⟩) xs:=fun w j x h=>h.grown (grown_setCell w ⟨r,j,none⟩ x) hne
 exact one _ _ _ (one _ _ _ (one _ _ _ (one _ _ _ (one _ _ _ (one _ _ _ (one _ _ _ h))))))
end
section
open Go.RowKit Go.Sort Go.Maps
open Oct
set_option maxRecDepth 20000 in
theorem ref9_uniform (c:Int) (hc:0≤c∧c≤255) (w:World) :
 Calls Tryz.prog 150 #[c] w fun e w'=>e = .returned (.string (strOfNums (Tr.enc (.uni c))))∧Below w.heap.size w w':=by
 have hw:IntKind.u8.wrap c=c:=by unfold IntKind.wrap;simp [IntKind.bits,IntKind.signed];omega
 have hsl:Sl (w.alloc (.cells #[.int .u8 c] 5)) .u8 (some ⟨w.heap.size,0,none⟩) [c]:=fun i x hx=>by
  match i with
  | 0=>simp at hx;subst hx;exact ⟨_,_,rfl,cell_new _ _ _⟩
  | i+1=>simp at hx
 have hcv:=conv_str (P:=Tryz.prog) 148 5 9 Tryz.underlying148 Tryz.underlying5 Tryz.underlying9 hsl 1 1 rfl
 have hst:=Bx.mk (show (strOfNums [117])++strOfNums [c]=strOfNums (Tr.enc (.uni c)) from str_append [117] [c])
 clear hsl
 go_enter Tryz.func150,Tryz.ntmps150
 go_wp2_with fail
 go_ret
 exact ⟨by first | (rw [←hst.out];rfl) | trace_state,(Below.refl _ _).alloc (Nat.le_refl _) _⟩
def sameL (xs:List Int) (k:Nat):Bool:=(xs.take k).all fun x=>x == xs.headD 0
theorem sameL_succ {xs:List Int} {k:Nat} {x:Int} (h:xs[k]? = some x):sameL xs (k+1)=(sameL xs k && (x == xs.headD 0)):=by
 unfold sameL
 rw [take_snoc_at h,List.all_append]
 simp
theorem sameL_all {xs:List Int} {n:Nat} (hn:xs.length=n):sameL xs n=true ↔ ∀ x∈xs,x=xs.headD 0:=by
 unfold sameL
 rw [List.take_of_length_le (by omega),List.all_eq_true]
 simp
set_option maxRecDepth 100000 in
set_option maxHeartbeats 2000000 in
theorem ref9_brick (a:Option Addr) (cap:Nat) (xs:List Int) (w:World) (hn:xs.length=64) (hb:xs.all Pal.cell=true) (h:Sl w .i64 a xs) :
 Calls Tryz.prog 151 #[.slice a 64 cap] w fun e w'=>e = .returned (.string (strOfNums (Tr.enc (Tr.mkBrick xs))))∧Below w.heap.size w w':=by
 have hcells:=all_cell hb
 obtain ⟨x0,hx0⟩ : ∃ x,xs[0]? = some x:=⟨_,List.getElem?_eq_getElem (by omega)⟩
 obtain ⟨b,off,rfl,hc0⟩:=h 0 x0 hx0
 have hd:xs.headD 0=x0:=by cases xs with
  | nil=>simp at hx0
  | cons y r=>simpa using hx0
 rw [Nat.add_zero] at hc0
 have Hs:=Bx.mk h
 have Hn:=Bx.mk hn
 have Hc:=Bx.mk hcells
 have Hd:=Bx.mk hd
 have Hx0:=Bx.mk hx0
 have Hc0:=Bx.mk hc0
 have hu:=Bx.mk fun W=>ref9_uniform x0 (hcells x0 (List.mem_of_getElem? hx0)) W
 clear h hn hb hcells hd hx0 hc0
 go_enter Tryz.func151,Tryz.ntmps151
 go_wp2_with fail
 go_loopw [3,4,5] (fun v s i wr => ∃ k:Nat,k≤64∧i = .int .i64 k∧s = .bool (sameL xs k)∧Bx (Own wr w.heap.size 5 .u8 v (xs.take k))∧Bx (Below w.heap.size w wr)) (fun _ _ i _=>64 - (intOf i).toNat)
 case atStart=>exact ⟨0,Nat.zero_le _,rfl,rfl,⟨Own.nil _ _ _ _⟩,⟨Below.refl _ _⟩⟩
 case round =>
  obtain ⟨k,hk,rfl,rfl,hown,hbw⟩:=hrel
  have hc0:=(Hs.out.below hbw.out) 0 x0 Hx0.out
  obtain ⟨b0,off0,hbo0,hc0⟩:=hc0
  simp only [Option.some.injEq,Addr.mk.injEq,and_true] at hbo0
  obtain ⟨rfl,rfl⟩:=hbo0
  rw [Nat.add_zero] at hc0
  by_cases hlt:k<64
  · obtain ⟨x,hx⟩:=at_lt Hn hlt
    obtain ⟨b',off',hbo,hc⟩:=(Hs.out.below hbw.out) k x hx
    simp only [Option.some.injEq,Addr.mk.injEq,and_true] at hbo
    obtain ⟨rfl,rfl⟩:=hbo
    have hr:=Hc.out x (List.mem_of_getElem? hx)
    have hnext:=Bx.mk (take_snoc_at hx)
    have hsn:=Bx.mk (sameL_succ hx)
    have b3:(0:Int)≤(k:Int):=by omega
    have b4:(k:Int)<64:=by omega
    have hwrap:IntKind.u8.wrap x=x:=by unfold IntKind.wrap;simp [IntKind.bits,IntKind.signed];omega
    have hle:=hbw.out.size
    have Htl:=Bx.mk (show (xs.take k).length≤1000000000 by rw [List.length_take];omega)
    have Hcw:=Bx.mk hc
    have Hcw0:=Bx.mk hc0
    have HX:=Bx.mk hx
    clear hx
    go_wp2_with (first
     | (at_builtin
        refine wpList_append_int rfl _ _ 148 rfl 5 .u8 (.int .u8 0) 1 (by omega) Tryz.underlying148 (by kernel_rfl) rfl w.heap.size _ (xs.take k) rfl (hown.out.alloc _) x ⟨wr.heap.size,0,none⟩ 1 rfl (cell_new _ _ _) Htl.out (le_alloc hle _) ?_
        intro v1 w1 hown1 hg1 _))
    have hown2:=Bx.mk hown1
    rw [←hnext.out] at hown2
    have hbw2:=Bx.mk ((hbw.out.alloc hle (.cells #[.int .u8 x] 5)).grown hg1 (le_alloc hle _) (fun g hg=>(hown.out.lt g hg).1))
    have hc1:=(Hs.out.below hbw2.out) k x HX.out
    have hc2:=(Hs.out.below hbw2.out) 0 x0 Hx0.out
    obtain ⟨b3',off3,hbo3,hc1⟩:=hc1
    simp only [Option.some.injEq,Addr.mk.injEq,and_true] at hbo3
    obtain ⟨rfl,rfl⟩:=hbo3
    obtain ⟨b4',off4,hbo4,hc2⟩:=hc2
    simp only [Option.some.injEq,Addr.mk.injEq,and_true] at hbo4
    obtain ⟨rfl,rfl⟩:=hbo4
    rw [Nat.add_zero] at hc2
    have Hc1:=Bx.mk hc1
    have Hc2:=Bx.mk hc2
    clear hown1 hg1 hc hc0 hc1 hc2 hown hbw hle Hcw Hcw0
    cases hq:sameL xs k with
    | false =>
      refine wp_region_quiet_below (by kernel_rfl) (by kernel_rfl) ?_
      repeat (first | go_big_quiet_step ((fail)) | quiet_step (fail))
      refine wpQuiet_nil ?_
      rintro _ ⟨⟨dq,osq⟩,rfl⟩
      have hb0:=below_regrown w1 dq osq
      replace hown2:=Bx.mk (hown2.out.below hb0)
      replace hbw2:=Bx.mk (hbw2.out.trans (hb0.mono hbw2.out.size))
      generalize grow (redrawn w1 dq) osq=w7 at *
      go_wp2_with fail
      go_roundw
      case rel=>exact ⟨k+1,by omega,by go_num,by rw [hsn.out,hq];rfl,hown2,hbw2⟩
      case measure=>simp [intOf];omega
    | true =>
      have qc1 : ∀ dk osk,(grow (redrawn w1 dk) osk).cell? ⟨b,off+k,none⟩=some (.int .i64 x):=cell_regrown Hc1.out
      have qc2 : ∀ dk osk,(grow (redrawn w1 dk) osk).cell? ⟨b,off,none⟩=some (.int .i64 x0):=cell_regrown Hc2.out
      refine wp_region_quiet_below (by kernel_rfl) (by kernel_rfl) ?_
      repeat (first | go_big_quiet_step ((fail)) | quiet_step (fail))
      refine wpQuiet_nil ?_
      rintro _ ⟨⟨dq,osq⟩,rfl⟩
      have hb0:=below_regrown w1 dq osq
      replace hown2:=Bx.mk (hown2.out.below hb0)
      replace hbw2:=Bx.mk (hbw2.out.trans (hb0.mono hbw2.out.size))
      generalize grow (redrawn w1 dq) osq=w7 at *
      go_wp2_with fail
      go_roundw
      case rel=>exact ⟨k+1,by omega,by go_num,by rw [hsn.out,hq,Hd.out];rfl,hown2,hbw2⟩
      case measure=>simp [intOf];omega
  · obtain rfl:k=64:=by omega
    have hfull:=Bx.mk (show xs.take 64=xs from List.take_of_length_le (by rw [Hn.out];omega))
    cases hq:sameL xs 64 with
    | true =>
      have hm:Tr.mkBrick xs = .uni x0:=by unfold Tr.mkBrick;rw [if_pos ((sameL_all Hn.out).1 hq),Hd.out]
      have Hm:=Bx.mk hm
      clear hm hq
      go_wp2_with fail
      refine (hu.out _).mono ?_
      rintro _ w2 ⟨rfl,hb2⟩
      go_wp2_with fail
      go_ret
      exact ⟨by rw [Hm.out];rfl,hbw.out.trans (hb2.mono hbw.out.size)⟩
    | false =>
      have hm:Tr.mkBrick xs = .brick xs:=by unfold Tr.mkBrick;rw [if_neg (fun e=>by rw [(sameL_all Hn.out).2 e] at hq;cases hq)]
      have Hm:=Bx.mk hm
      have hown2:=hown.out
      rw [hfull.out] at hown2
      obtain ⟨pa,pc,rfl,hsl⟩:=hown2.form
      have hcv:=conv_str (P:=Tryz.prog) 148 5 9 Tryz.underlying148 Tryz.underlying5 Tryz.underlying9 hsl xs.length pc rfl
      have hsz:(strOfNums xs).size=64:=by rw [strOfNums_size,Hn.out]
      have hst:=Bx.mk (show (strOfNums [98])++strOfNums xs=strOfNums (Tr.enc (.brick xs)) from str_append [98] xs)
      clear hm hq hsl hown2 hown
      go_wp2_with fail
      go_ret
      exact ⟨by rw [Hm.out,←hst.out];rfl,hbw.out⟩
end
section
open Go.RowKit Go.Sort Go.Maps
open Oct
theorem idx_arr (x:Nat→Int) (k:Nat) (hk:k<8) (W:World):(Instr.index 108 (.agg #[.int .i64 (x 0),.int .i64 (x 1),.int .i64 (x 2),.int .i64 (x 3),.int .i64 (x 4),.int .i64 (x 5),.int .i64 (x 6),.int .i64 (x 7)]) (.int .i64 (k:Int))).run Tryz.prog W = .ok (.int .i64 (x k)) W:=by
 have hu:=Tryz.underlying108
 have h0:k=0∨k=1∨k=2∨k=3∨k=4∨k=5∨k=6∨k=7:=by omega
 have h1 : Tryz.prog.cellsOf 3=1:=by kernel_rfl
 rcases h0 with rfl | rfl | rfl | rfl | rfl | rfl | rfl | rfl
 all_goals
  simp [Instr.index,run_underlying hu,asIntOf,go_sem]
def depT:Tr→Int
 | .uni _=>0
 | .brick _=>2
 | .node d _=>d
def okKid (t:Tr) (d:Int):Prop:=(∃ c,t = .uni c)∨depT t=d - 1
set_option maxRecDepth 100000 in
set_option maxHeartbeats 2000000 in
theorem Inner_ok (w:World) (Far:Nat→Prop) (sb:Nat) (most:Int) (ts:List Tr) (d:Int) (hd:3≤d∧d≤14) (x:Nat→Int) (HK:Bx (∀ k,k<8 → ∃ t,t∈ts∧x k=idT ts t∧okKid t d)) (_hlen:ts.length≤1000000000000) (hS:StoreIs w Far sb most ts) (R:Ending→World→Prop) (hR : ∀ e w',R e w' → ∃ i er,e=ret2 i er)
 (hin:Bx (∀ W,Below w.heap.size w W→Calls Tryz.prog 96 #[.pointer (some ⟨sb,0,none⟩),d,.agg #[.int .i64 (x 0),.int .i64 (x 1),.int .i64 (x 2),.int .i64 (x 3),.int .i64 (x 4),.int .i64 (x 5),.int .i64 (x 6),.int .i64 (x 7)]] W R)) :
 Calls Tryz.prog 159 #[.pointer (some ⟨sb,0,none⟩),d,.agg #[.int .i64 (x 0),.int .i64 (x 1),.int .i64 (x 2),.int .i64 (x 3),.int .i64 (x 4),.int .i64 (x 5),.int .i64 (x 6),.int .i64 (x 7)]] w R:=by
 have t1:decide (d≤2)=false:=by simp;omega
 have t2:decide (14<d)=false:=by simp;omega
 have hsub:IntKind.i64.wrap (d - 1)=d - 1:=IntWalk.i64_in _ (by omega)
 go_enter Tryz.func159,Tryz.ntmps159
 go_wp2_with fail
 generalize hW:World.alloc w _=W
 have hSz:=sz1 hW
 have hB:=bl1 hW
 have ka:Bk W (w.heap.size) #[.int .i64 (x 0),.int .i64 (x 1),.int .i64 (x 2),.int .i64 (x 3),.int .i64 (x 4),.int .i64 (x 5),.int .i64 (x 6),.int .i64 (x 7)] 108:=bk0 hW
 clear hW
 have HS:Bx (StoreIs W Far sb most ts):=⟨hS.later hB⟩
 obtain ⟨ca0,ca1,ca2,ca3,ca4,ca5,ca6,ca7⟩:=ka.c8
 go_wp2_with fail
 clear ca0 ca1 ca2 ca3 ca4 ca5 ca6 ca7
 go_loopw [17] (fun v wr => ∃ k:Nat,k≤8∧v = .int .i64 k∧wr=W) (fun i _=>8 - (intOf i).toNat)
 case atStart=>exact ⟨0,Nat.zero_le _,rfl,rfl⟩
 case round =>
  obtain ⟨k,hk,rfl,rfl⟩:=hrel
  by_cases hlt:k<8
  · have t3:decide ((k:Int)<8)=true:=by simp;omega
    have hidx:=fun V=>idx_arr x k (by omega) V
    obtain ⟨t,hm,hx,hok⟩:=HK.out k hlt
    cases t with
    | uni c =>
      clear hok
      obtain ⟨g,cap,mb,ks,hi,hc⟩:=Bx.node HS.out hm (k:=1) (c:=c) rfl
      have cs1:=ks.cell 1 rfl
      have d0:=hc.out 0 _ (by omega) rfl
      have d3:=hc.out 3 _ (by omega) rfl
      rw [Nat.add_zero] at d0
      have b1:(0:Int)≤(idT ts (.uni c):Int):=by omega
      have b2:(idT ts (.uni c):Int)<(ts.length:Int):=by omega
      have b3:decide ((idT ts (.uni c):Int)<0)=false:=by simp
      have b4:decide ((ts.length:Int)≤(idT ts (.uni c):Int))=false:=by simp;omega
      rw [hx] at hidx
      clear ks hc hm hx
      go_wp2_with fail
      go_roundw
      case rel=>exact ⟨k+1,by omega,by go_num,trivial⟩
      case measure=>simp [intOf];omega
    | brick l =>
      have e1:(2:Int)=d - 1:=hok.elim (fun ⟨c,h⟩=>by cases h) (fun h=>h)
      have e2:((2:Int) != d - 1)=false:=by simp;omega
      clear hok
      obtain ⟨g,cap,mb,ks,hi,hc⟩:=Bx.node HS.out hm (k:=2) (s:=strOfNums l) rfl
      have cs1:=ks.cell 1 rfl
      have d0:=hc.out 0 _ (by omega) rfl
      have d3:=hc.out 3 _ (by omega) rfl
      rw [Nat.add_zero] at d0
      have b1:(0:Int)≤(idT ts (.brick l):Int):=by omega
      have b2:(idT ts (.brick l):Int)<(ts.length:Int):=by omega
      have b3:decide ((idT ts (.brick l):Int)<0)=false:=by simp
      have b4:decide ((ts.length:Int)≤(idT ts (.brick l):Int))=false:=by simp;omega
      rw [hx] at hidx
      clear ks hc hm hx
      go_wp2_with fail
      go_roundw
      case rel=>exact ⟨k+1,by omega,by go_num,trivial⟩
      case measure=>simp [intOf];omega
    | node dk ch =>
      have e1:(dk:Int)=d - 1:=hok.elim (fun ⟨c,h⟩=>by cases h) (fun h=>h)
      have e2:((dk:Int) != d - 1)=false:=by simp;omega
      clear hok
      obtain ⟨g,cap,mb,ks,hi,hc⟩:=Bx.node HS.out hm (k:=3) (s:=ByteArray.empty) rfl
      have cs1:=ks.cell 1 rfl
      have d0:=hc.out 0 _ (by omega) rfl
      have d3:=hc.out 3 _ (by omega) rfl
      rw [Nat.add_zero] at d0
      have b1:(0:Int)≤(idT ts (.node dk ch):Int):=by omega
      have b2:(idT ts (.node dk ch):Int)<(ts.length:Int):=by omega
      have b3:decide ((idT ts (.node dk ch):Int)<0)=false:=by simp
      have b4:decide ((ts.length:Int)≤(idT ts (.node dk ch):Int))=false:=by simp;omega
      rw [hx] at hidx
      clear ks hc hm hx
      go_wp2_with fail
      go_roundw
      case rel=>exact ⟨k+1,by omega,by go_num,trivial⟩
      case measure=>simp [intOf];omega
  · obtain rfl:k=8:=by omega
    have t3:decide (((8:Nat):Int)<8)=false:=by decide
    obtain ⟨ca0,ca1,ca2,ca3,ca4,ca5,ca6,ca7⟩:=ka.c8
    go_wp2_with fail
    refine (hin.out _ hB).mono ?_
    intro e7 w7 hr
    have Hr:=Bx.mk hr
    obtain ⟨i7,er7,rfl⟩:=hR _ _ hr
    clear hr
    go_wp2_with fail
    exact Hr.out
end
end Go.Proofs.YtfcbajmjaifjlaaGreat
