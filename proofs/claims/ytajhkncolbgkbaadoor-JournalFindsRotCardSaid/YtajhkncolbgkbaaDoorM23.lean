/- Jr3, Jov, Jtx, Jra, Jde, Jsp: joined by program, for one claim. -/
import Derived.Test.YtajhkncolbgkbaaDoorM22
import Derived.Test.YtajhkncolbgkbaaDoorM18
import Derived.Test.YtajhkncolbgkbaaDoorM21
import Derived.Test.YtajhkncolbgkbaaDoorM15
import Derived.BigQuiet
set_option linter.unusedVariables false
set_option linter.unusedSimpArgs false
namespace Go.Proofs.YtajhkncolbgkbaaDoor
section
open Go.RowKit Go.Sort Go.Maps
def textB (c:Int) (n:Nat):List Int:=(List.range (min n 8100)).map fun i=>IntKind.u8.wrap (c+IntKind.u8.wrap ((i % 7:Nat):Int))
theorem textB_len (c:Int) (n:Nat):(textB c n).length=min n 8100:=by simp [textB]
theorem textB_byts (c:Int) (n:Nat):Byts (textB c n):=fun x hx=>by
 obtain ⟨i,_,rfl⟩:=List.mem_map.1 hx
 rw [IntKind.wrap_u8];omega
set_option maxRecDepth 100000 in
set_option maxHeartbeats 1000000 in
theorem rtext_any (c:Int) (_hc:0≤c∧c≤255) (n:Int) (hn : -9223372036854775808≤n∧n≤9223372036854775807) (w:World) :
 Calls Tryd.prog 10 #[.int .u8 c,.int .i64 n] w fun e w'=>e = .returned (.string (strOfNums (textB c n.toNat)))∧Below w.heap.size w w':=by
 obtain ⟨K,hK⟩ : ∃ K,K=min n.toNat 8100:=⟨_,rfl⟩
 have HK:=Bx.mk hK
 have hK8:K≤8100:=by omega
 have HT:Bx (∀ k,k<K→(textB c n.toNat).take (k+1)=(textB c n.toNat).take k++[IntKind.u8.wrap (c+IntKind.u8.wrap ((k % 7:Nat):Int))]):=⟨fun k hk=>by
  have hl:k<(textB c n.toNat).length:=by rw [textB_len,←hK];exact hk
  rw [List.take_succ_eq_append_getElem hl]
  congr 2
  unfold textB
  simp⟩
 have HA:Bx ((textB c n.toNat).take K=textB c n.toNat):=⟨List.take_of_length_le (by rw [textB_len,←hK];exact Nat.le_refl _)⟩
 have HLn:Bx (∀ k,((textB c n.toNat).take k).length≤8100):=⟨fun k=>by rw [List.length_take,textB_len];omega⟩
 clear hK
 go_enter Tryd.func10,Tryd.ntmps10
 go_upto_region 3 with fail
 go_loopw [5,6] (fun v5 v6 wr => ∃ (k:Nat) (q:Value),k≤K∧v6 = .int .i64 k∧q=v5∧Bx (Own wr w.heap.size 5 .u8 q ((textB c n.toNat).take k))∧Bx (Below w.heap.size w wr)) (fun _ i _=>K - (intOf i).toNat)
 case atStart=>exact ⟨0,_,Nat.zero_le _,rfl,rfl,⟨by simpa using Own.nil w w.heap.size 5 .u8⟩,⟨Below.refl _ _⟩⟩
 case round =>
  obtain ⟨k,q,hk,rfl,rfl,HO,HB⟩:=hrel
  have fin:Bx (k=K → ∃ ha cap,q = .slice ha (textB c n.toNat).length cap∧Sl wr .u8 ha (textB c n.toNat)):=⟨fun e=>by
   have h1:=HO.out
   rw [e,HA.out] at h1
   obtain ⟨ha,cap,h2,h3⟩:=h1.form
   exact ⟨ha,cap,h2,h3⟩⟩
  by_cases hlt:k<K
  · have t0:decide ((k:Int)<n)=true:=by have:=HK.out;simp;omega
    have t1:decide ((k:Int)<8100)=true:=by simp;omega
    have t1b:decide (k<8100)=true:=by simp;omega
    obtain ⟨m7,hm7⟩ : ∃ m7,m7=k % 7:=⟨_,rfl⟩
    have r1:((k:Int)).tmod 7=(m7:Int):=by rw [Int.tmod_eq_emod_of_nonneg (by omega)];omega
    have r2:(k:Int) % 7=(m7:Int):=by omega
    have r3:IntKind.i64.wrap (m7:Int)=(m7:Int):=IntWalk.i64_in _ (by omega)
    obtain ⟨x7,hx7⟩ : ∃ x7,x7=IntKind.u8.wrap (m7:Int):=⟨_,rfl⟩
    obtain ⟨z,hz⟩ : ∃ z,z=IntKind.u8.wrap (c+x7):=⟨_,rfl⟩
    have e1:=hx7.symm
    have e2:=hz.symm
    have HZ:Bx ((textB c n.toNat).take (k+1)=(textB c n.toNat).take k++[z]):=⟨by rw [HT.out k hlt,hz,hx7,hm7]⟩
    have hown:=HO.out.below ((Below.refl wr.heap.size wr).alloc (Nat.le_refl _) (.cells #[.int .u8 z] 5))
    have hle:w.heap.size≤(wr.alloc (.cells #[.int .u8 z] 5)).heap.size:=le_alloc HB.out.size _
    have hln:((textB c n.toNat).take k).length≤1000000000:=by have:=HLn.out k;omega
    have Hlt:=Bx.mk hlt
    clear hm7 hx7 hz hlt fin
    go_wp2_with (first
     | (at_builtin
        refine wpList_append_int rfl _ _ 75 rfl 5 .u8 (.int .u8 0) 1 (by omega) Tryd.underlying75 (by kernel_rfl) rfl w.heap.size _ ((textB c n.toNat).take k) rfl hown z ⟨wr.heap.size,0,none⟩ 1 rfl (cell_new _ _ _) hln hle ?_
        intro q' w2 g1 g2 _
        have HB2:Bx (Below w.heap.size w w2):=⟨(HB.out.alloc HB.out.size _).grown g2 hle fun g hg=>(HO.out.lt g hg).1⟩
        rw [←HZ.out] at g1
        have HO2:=Bx.mk g1
        clear g1 g2 hown hle hln))
    go_roundw
    case rel=>exact ⟨k+1,_,by have:=Hlt.out;omega,by go_num,rfl,HO2,HB2⟩
    case measure=>have:=Hlt.out;simp [intOf];omega
  · obtain rfl:k=K:=by omega
    obtain ⟨ha,cap,rfl,hsl⟩:=fin.out rfl
    have hcv:=conv_str (P:=Tryd.prog) 75 5 9 Tryd.underlying75 Tryd.underlying5 Tryd.underlying9 hsl (textB c n.toNat).length cap rfl
    by_cases h0:(k:Int)<n
    · have t0:decide ((k:Int)<n)=true:=by simpa using h0
      have hk81:k=8100:=by have:=HK.out;omega
      have t1:decide ((k:Int)<8100)=false:=by simp;omega
      have t1b:decide (k<8100)=false:=by simp;omega
      clear hsl hk81 h0
      go_wp2_with fail
      go_ret
      exact ⟨rfl,HB.out⟩
    · have t0:decide ((k:Int)<n)=false:=by simpa using h0
      clear hsl h0
      go_wp2_with fail
      go_ret
      exact ⟨rfl,HB.out⟩
end
section
open Go.RowKit Go.ChangeShapes Go.WideShapes
theorem cellsStp15 : Tryd.prog.cellsOf 35=4:=by kernel_rfl
theorem list4 {α:Type} {l:List α} (h:l.length=4) : ∃ a b c d,l=[a,b,c,d]:=by
 match l,h with
 | [a,b,c,d],_=>exact ⟨a,b,c,d,rfl⟩
section
variable {H:Type} {enc:TypeId × Value→H} {w:World} {base:Nat} {spare:Nat→Bool} {held:Bool} {fuel:Nat} {x:DataW H × List MemPlace}
theorem trod_struct4 {P:Program} {t:TypeId} {f0 f1 f2 f3:Field} {cs:List Value} (ht:P.underlying t=some (.struct #[f0,f1,f2,f3])) (h:DataW.trod enc P w base spare held fuel t cs=some x) :
 ∃ y0 y1 y2 y3 n, DataW.trod enc P w base spare held n f0.type ((cs.drop f0.offset).take (P.cellsOf f0.type)) = some y0 ∧ DataW.trod enc P w base spare held n f1.type ((cs.drop f1.offset).take (P.cellsOf f1.type)) = some y1 ∧
   DataW.trod enc P w base spare held n f2.type ((cs.drop f2.offset).take (P.cellsOf f2.type))=some y2∧DataW.trod enc P w base spare held n f3.type ((cs.drop f3.offset).take (P.cellsOf f3.type))=some y3:=by
 obtain ⟨xs,n,_,rfl,hl,hlen,hf⟩:=DataW.trod_struct ht h
 match xs,hlen with
 | [y0,y1,y2,y3],_=>exact ⟨y0,y1,y2,y3,n,by simpa using hf 0 f0 rfl,by simpa using hf 1 f1 rfl,by simpa using hf 2 f2 rfl,by simpa using hf 3 f3 rfl⟩
end
structure StB where
 kind:Int
 n:Int
 fill:Int
 sa:Option Addr
 sc:Nat
 sizes:List Int
def StB.cells (s:StB):List Value:=[.int .i64 s.kind,.int .i64 s.n,.int .u8 s.fill,.slice s.sa s.sizes.length s.sc]
def StB.agg (s:StB):Value:=.agg #[.int .i64 s.kind,.int .i64 s.n,.int .u8 s.fill,.slice s.sa s.sizes.length s.sc]
structure StB.Ok (w:World) (s:StB):Prop where
 kind : -9223372036854775808≤s.kind∧s.kind≤9223372036854775807
 n : -9223372036854775808≤s.n∧s.n≤9223372036854775807
 fill:0≤s.fill∧s.fill≤255
 sl:Sl w .i64 s.sa s.sizes
 i64 : ∀ x∈s.sizes,-9223372036854775808≤x∧x≤9223372036854775807
 len:s.sizes.length≤9223372036854775807
theorem StB.Ok.later {w w':World} {s:StB} (h:s.Ok w) (hb:Below w.heap.size w w'):s.Ok w':=⟨h.kind,h.n,h.fill,h.sl.below hb,h.i64,h.len⟩
def StsB (w:World) (a:Option Addr) (L:List StB):Prop := ∀ (i:Nat) (s:StB),L[i]? = some s → ∃ b off,a=some ⟨b,off,none⟩∧(∀ j u,s.cells[j]? = some u→w.cell? ⟨b,off+i * 4+j,none⟩=some u)∧s.Ok w
theorem StsB.later {w w':World} {a:Option Addr} {L:List StB} (h:StsB w a L) (hb:Below w.heap.size w w'):StsB w' a L:=fun i s hs=>by
 obtain ⟨b,off,e,hc,ho⟩:=h i s hs
 exact ⟨b,off,e,fun j u hu=>cell_later hb (hc j u hu),ho.later hb⟩
section
variable {H:Type} {enc:TypeId × Value→H} {w:World} {base:Nat} {held:Bool}
theorem trod_stp15 {fuel:Nat} {cs:List Value} {x:DataW H × List MemPlace} (hl:cs.length=4) (h:DataW.trod enc Tryd.prog w base (fun _=>true) held fuel 35 cs=some x) :
 ∃ s:StB,cs=s.cells∧s.Ok w:=by
 obtain ⟨c0,c1,c2,c3,rfl⟩:=list4 hl
 obtain ⟨y0,y1,y2,y3,n,h0,h1,h2,h3⟩:=trod_struct4 Tryd.underlying35 h
 have h0:DataW.trod enc Tryd.prog w base (fun _=>true) held n 3 [c0]=some y0:=by simpa [cellsI14] using h0
 have h1:DataW.trod enc Tryd.prog w base (fun _=>true) held n 3 [c1]=some y1:=by simpa [cellsI14] using h1
 have h2:DataW.trod enc Tryd.prog w base (fun _=>true) held n 5 [c2]=some y2:=by simpa [cellsU14] using h2
 have h3:DataW.trod enc Tryd.prog w base (fun _=>true) held n 33 [c3]=some y3:=by simpa [cellsL14] using h3
 obtain ⟨k,e0,w0⟩:=trod_int14 h0
 obtain ⟨m,e1,w1⟩:=trod_int14 h1
 obtain ⟨b,e2,w2⟩:=trod_u14 h2
 obtain ⟨sa,sc,ss,e3,hs,hc,hm,hw⟩:=trod_ints14 h3
 subst e0 e1 e2 e3
 exact ⟨⟨k,m,b,sa,sc,ss⟩,rfl,bounds_i64 w0,bounds_i64 w1,byte_wf w2,hs,hw,by simp only [maxLen] at hm;show ss.length≤_;omega⟩
set_option maxRecDepth 100000 in
theorem open_stps15 {r:Reach} {b0:Nat} {v:Value} {d:DataW H} {p:List MemPlace} (hv:Value.okWide Tryd.prog w r b0 22 v) (h:DataW.Trod enc Tryd.prog w base (fun _=>true) held 22 v d p) :
 ∃ ha hcp,∃ xs:List StB,v = .slice ha xs.length hcp∧StsB w ha xs∧xs.length≤9223372036854775807:=by
 obtain ⟨a,n,cap,rfl⟩:=okWide_slice Tryd.underlying22 hv
 obtain ⟨fuel,hf⟩:=h
 obtain ⟨ha,hcp,L,e,⟨h1,h2⟩,h3⟩:=open_rowsL StB.cells (StB.Ok w) Tryd.underlying22 cellsStp15 (by decide) ⟨0,0,0,none,0,[]⟩ (fun hl ht=>trod_stp15 hl ht) (by simpa [Value.cells] using hf)
 exact ⟨ha,hcp,L,e,h3,by simp only [maxLen] at h2;omega⟩
end
def textsB (fill:Int) (sizes:List Int):List (List Int):=(sizes.take 30).mapIdx fun i n=>textB (IntKind.u8.wrap (fill+IntKind.u8.wrap ((i:Nat):Int))) n.toNat
theorem textsB_len (fill:Int) (sizes:List Int):(textsB fill sizes).length=min 30 sizes.length:=by simp [textsB]
theorem textsB_at {fill:Int} {sizes:List Int} {i:Nat} {n:Int} (h30:i<30) (hn:sizes[i]? = some n):(textsB fill sizes)[i]? = some (textB (IntKind.u8.wrap (fill+IntKind.u8.wrap ((i:Nat):Int))) n.toNat):=by
 unfold textsB
 rw [List.getElem?_mapIdx,List.getElem?_take,if_pos h30,hn];rfl
theorem textsB_mem {fill:Int} {sizes:List Int} {r:List Int} (h:r∈textsB fill sizes):r.length≤8100∧Byts r:=by
 unfold textsB at h
 obtain ⟨i,hi,rfl⟩:=List.mem_mapIdx.1 h
 exact ⟨by rw [textB_len];omega,textB_byts _ _⟩
theorem strm_le {L:List (List Int)} {M:Nat} (h : ∀ r∈L,r.length≤M):(strmP L).length≤L.length * (M+2):=by
 induction L with
 | nil=>simp [strmP]
 | cons r L ih =>
   have e:strmP (r::L)=recS r++strmP L:=rfl
   have h1:=h r (List.mem_cons_self ..)
   have h2:=ih fun x hx=>h x (List.mem_cons_of_mem _ hx)
   rw [e,List.length_append,recS_len,List.length_cons,Nat.add_mul]
   omega
theorem textsB_small (fill:Int) (sizes:List Int):(strmP (textsB fill sizes)).length≤300000:=by
 have h1:=strm_le (L:=textsB fill sizes) (M:=8100) fun r hr=>(textsB_mem hr).1
 have h2:=textsB_len fill sizes
 have h3:(textsB fill sizes).length * (8100+2)≤30 * (8100+2):=Nat.mul_le_mul_right _ (by omega)
 omega
end
section
open Go.RowKit Go.Sort Go.Maps
set_option maxRecDepth 100000 in
set_option maxHeartbeats 2000000 in
theorem rtexts_any (w:World) (s:StB) (ho:s.Ok w) :
 Calls Tryd.prog 13 #[s.agg] w fun e w' => ∃ v,e = .returned v∧Below w.heap.size w w'∧MoR w.heap.size (strs (textsB s.fill s.sizes)) v w':=by
 obtain ⟨kind,nn,fill,sa,sc,sizes⟩:=s
 unfold StB.agg
 have HO:=Bx.mk ho
 have hfill:=ho.fill
 dsimp only at hfill ⊢
 obtain ⟨T,hT⟩ : ∃ T,T=textsB fill sizes:=⟨_,rfl⟩
 rw [←hT]
 have HT:=Bx.mk hT
 obtain ⟨ls,hls⟩ : ∃ ls,ls=sizes.length:=⟨_,rfl⟩
 have HLS:=Bx.mk hls
 rw [←hls]
 have hlen:ls≤9223372036854775807:=by rw [hls];exact ho.len
 have HTL:Bx (T.length=min 30 ls):=⟨by rw [hT,textsB_len,hls]⟩
 have HX:=Bx.mk fun (W':World) (hb:Below w.heap.size w W') (k:Nat) (hk:k<ls)=>(show ∃ b off n,sa=some ⟨b,off,none⟩∧W'.cell? ⟨b,off+k,none⟩=some (.int .i64 n)∧sizes[k]? = some n ∧ -9223372036854775808≤n∧n≤9223372036854775807 from by
  have h1:sizes[k]? = some sizes[k]:=List.getElem?_eq_getElem (by rw [←hls];exact hk)
  obtain ⟨b,off,e,hc⟩:=(ho.sl.below hb) k _ h1
  exact ⟨b,off,_,e,hc,h1,ho.i64 _ (List.getElem_mem _)⟩)
 clear ho hT hls
 go_enter Tryd.func13,Tryd.ntmps13
 go_upto_region 1 with fail
 generalize hW:World.alloc w _=W
 have hb:=bl1 hW
 have kb:Bk W w.heap.size #[.int .i64 kind,.int .i64 nn,.int .u8 fill,.slice sa ls sc] 35:=bk0 hW rfl
 obtain ⟨sbx,hsbx⟩ : ∃ sbx,sbx=w.heap.size:=⟨_,rfl⟩
 rw [←hsbx] at kb ⊢
 have HB:=Bx.mk hb
 have KB:=Bx.mk kb
 have HSX:=Bx.mk hsbx
 have HWL:Bx (sbx<W.heap.size):=⟨kb.lt⟩
 clear hW hb kb hsbx
 go_upto_region 3 with fail
 go_loopw [3,4] (fun v3 v4 wr => ∃ (k:Nat) (q:Value),k≤min 30 ls∧q=v3∧v4 = .int .i64 k∧Bx (Ownv wr W.heap.size 9 q (strs (T.take k)))∧Bx (Below W.heap.size W wr)) (fun _ i _=>ls - (intOf i).toNat)
 case atStart=>exact ⟨0,_,Nat.zero_le _,rfl,rfl,⟨Ownv.nil _ _ _⟩,⟨Below.refl _ _⟩⟩
 case round =>
  obtain ⟨k,q,hk,rfl,rfl,HI,HBW⟩:=hrel
  have kb:=KB.out.later HBW.out
  have c3:=kb.cell 3 rfl
  have HKB:=Bx.mk kb
  clear kb
  by_cases hlt:k<ls
  · have t0:decide ((k:Int)<(ls:Int))=true:=by simp;omega
    have t0b:decide (k<ls)=true:=by simpa using hlt
    by_cases h30:k<30
    · have t1:decide ((k:Int)<30)=true:=by simp;omega
      have t1b:decide (k<30)=true:=by simpa using h30
      obtain ⟨b,off,n,rfl,hc,hn,hn1,hn2⟩:=HX.out wr (HB.out.trans (HBW.out.mono HB.out.size)) k hlt
      obtain ⟨c,hcc⟩ : ∃ c,c=IntKind.u8.wrap (fill+IntKind.u8.wrap (k:Int)):=⟨_,rfl⟩
      have hc255:0≤c∧c≤255:=by rw [hcc,IntKind.wrap_u8];omega
      obtain ⟨r,hr⟩ : ∃ r,r=textB c n.toNat:=⟨_,rfl⟩
      have HTK:Bx (T[k]? = some r):=⟨by rw [HT.out,textsB_at h30 hn,hr,hcc]⟩
      have htx:=Bx.mk fun (wx:World)=>rtext_any c hc255 n ⟨hn1,hn2⟩ wx
      rw [←hr] at htx
      have ecc:IntKind.u8.wrap (fill+IntKind.u8.wrap (k:Int))=c:=hcc.symm
      have HCC:=Bx.mk fun (wx:World) (hb:Below wr.heap.size wr wx)=>cell_later hb hc
      have b1:(0:Int)≤(k:Int):=by omega
      have b2:(k:Int)<(ls:Int):=by omega
      have Hlt:=Bx.mk (And.intro hlt h30)
      clear hn hn1 hn2 hcc hr hc255 hlt h30 hc
      go_upto_region 5 with fail
      clear t0 t0b t1 t1b c3
      refine wp_region_relT 13 (fun ii v w'=>match ii with
       | 0=>v=q
       | 1=>v = .pointer (some ⟨sbx,2,none⟩)
       | 2=>v = .int .u8 fill
       | 3=>v = .int .i64 (k:Int)
       | 4=>v = .int .u8 (IntKind.u8.wrap (k:Int))
       | 5=>v = .int .u8 c
       | 6=>v = .pointer (some ⟨sbx,3,none⟩)
       | 7=>v = .slice (some ⟨b,off,none⟩) ls sc
       | 8=>v = .int .i64 (k:Int)
       | 9=>v = .pointer (some ⟨b,off+k,none⟩)
       | 10=>v = .int .i64 n
       | 11=>v = .string (strOfNums r)
       | _=>StR r v w') (by kernel_rfl) (by kernel_rfl) 31 (by kernel_rfl) (by rfl) ?_ ?_ ?_
      · intro ii hi v u1 u2 hb h
        match ii,hi with
        | 0,_=>exact h
        | 1,_=>exact h
        | 2,_=>exact h
        | 3,_=>exact h
        | 4,_=>exact h
        | 5,_=>exact h
        | 6,_=>exact h
        | 7,_=>exact h
        | 8,_=>exact h
        | 9,_=>exact h
        | 10,_=>exact h
        | 11,_=>exact h
        | 12,_=>exact h.later hb
      · intro ii o hi ho ρ wx hb hc1 hc2 hc3 hk
        match ii,hi with
        | 0, _ =>
          obtain rfl:=Option.some.inj ho
          have g0:ρ (.tmp 3)=q:=hk 3 (by simp [Op.operands,Call.operands])
          clear hk hb HI HCC htx HKB HX HO HT HTK
          go_simp
          exact Below.refl _ _
        | 1, _ =>
          obtain rfl:=Option.some.inj ho
          have g0:ρ (.tmp 1) = .pointer (some ⟨sbx,0,none⟩):=hk 1 (by simp [Op.operands,Call.operands])
          clear hk hb HI HCC htx HKB HX HO HT HTK
          go_simp
          exact Below.refl _ _
        | 2, _ =>
          obtain rfl:=Option.some.inj ho
          have g0:ρ (.tmp 17) = .pointer (some ⟨sbx,2,none⟩):=hk 17 (by simp [Op.operands,Call.operands])
          have zz:=(HKB.out.later hb).cell 2 rfl
          clear hk hb HI HCC htx HKB HX HO HT HTK
          go_simp
          exact Below.refl _ _
        | 3, _ =>
          obtain rfl:=Option.some.inj ho
          have g0:ρ (.tmp 4) = .int .i64 (k:Int):=hk 4 (by simp [Op.operands,Call.operands])
          clear hk hb HI HCC htx HKB HX HO HT HTK
          go_simp
          exact Below.refl _ _
        | 4, _ =>
          obtain rfl:=Option.some.inj ho
          have g0:ρ (.tmp 19) = .int .i64 (k:Int):=hk 19 (by simp [Op.operands,Call.operands])
          clear hk hb HI HCC htx HKB HX HO HT HTK
          go_simp
          exact Below.refl _ _
        | 5, _ =>
          obtain rfl:=Option.some.inj ho
          have g0:ρ (.tmp 18) = .int .u8 fill:=hk 18 (by simp [Op.operands,Call.operands])
          have g1:ρ (.tmp 20) = .int .u8 (IntKind.u8.wrap (k:Int)):=hk 20 (by simp [Op.operands,Call.operands])
          clear hk hb HI HCC htx HKB HX HO HT HTK
          go_simp
          exact Below.refl _ _
        | 6, _ =>
          obtain rfl:=Option.some.inj ho
          have g0:ρ (.tmp 1) = .pointer (some ⟨sbx,0,none⟩):=hk 1 (by simp [Op.operands,Call.operands])
          clear hk hb HI HCC htx HKB HX HO HT HTK
          go_simp
          exact Below.refl _ _
        | 7, _ =>
          obtain rfl:=Option.some.inj ho
          have g0:ρ (.tmp 22) = .pointer (some ⟨sbx,3,none⟩):=hk 22 (by simp [Op.operands,Call.operands])
          have zz:=(HKB.out.later hb).cell 3 rfl
          clear hk hb HI HCC htx HKB HX HO HT HTK
          go_simp
          exact Below.refl _ _
        | 8, _ =>
          obtain rfl:=Option.some.inj ho
          have g0:ρ (.tmp 4) = .int .i64 (k:Int):=hk 4 (by simp [Op.operands,Call.operands])
          clear hk hb HI HCC htx HKB HX HO HT HTK
          go_simp
          exact Below.refl _ _
        | 9, _ =>
          obtain rfl:=Option.some.inj ho
          have g0:ρ (.tmp 23) = .slice (some ⟨b,off,none⟩) ls sc:=hk 23 (by simp [Op.operands,Call.operands])
          have g1:ρ (.tmp 24) = .int .i64 (k:Int):=hk 24 (by simp [Op.operands,Call.operands])
          clear hk hb HI HCC htx HKB HX HO HT HTK
          go_simp
          exact Below.refl _ _
        | 10, _ =>
          obtain rfl:=Option.some.inj ho
          have g0:ρ (.tmp 25) = .pointer (some ⟨b,off+k,none⟩):=hk 25 (by simp [Op.operands,Call.operands])
          have zz:=HCC.out wx hb
          clear hk hb HI HCC htx HKB HX HO HT HTK
          go_simp
          exact Below.refl _ _
        | 11, _ =>
          obtain rfl:=Option.some.inj ho
          have g0:ρ (.tmp 21) = .int .u8 c:=hk 21 (by simp [Op.operands,Call.operands])
          have g1:ρ (.tmp 26) = .int .i64 n:=hk 26 (by simp [Op.operands,Call.operands])
          have h4:=htx.out wx
          have H4:=Bx.mk h4
          clear h4
          clear hk hb HI HCC htx HKB HX HO HT HTK
          go_simp
          all_goals exact H4.out
        | 12, _ =>
          obtain rfl:=Option.some.inj ho
          have g0:ρ (.tmp 27) = .string (strOfNums r):=hk 27 (by simp [Op.operands,Call.operands])
          have Hn2:Bx (StR r (.slice (some ⟨wx.heap.size,0,none⟩) 1 1) (wx.alloc (.cells #[.string (strOfNums r)] 9))):=⟨_,rfl,Bk.new _ _ _⟩
          clear hk hb HI HCC htx HKB HX HO HT HTK
          go_simp
          exact ⟨(Below.refl _ _).alloc (Nat.le_refl _) _,Hn2.out⟩
      · intro vs w3 hlen hb hR
        match vs,hlen with
        | [v0, v1, v2, v3, v4, v5, v6, v7, v8, v9, v10, v11, v12], _ =>
          have r0:v0=q:=hR 0 v0 rfl
          have r1:v1 = .pointer (some ⟨sbx,2,none⟩):=hR 1 v1 rfl
          have r2:v2 = .int .u8 fill:=hR 2 v2 rfl
          have r3:v3 = .int .i64 (k:Int):=hR 3 v3 rfl
          have r4:v4 = .int .u8 (IntKind.u8.wrap (k:Int)):=hR 4 v4 rfl
          have r5:v5 = .int .u8 c:=hR 5 v5 rfl
          have r6:v6 = .pointer (some ⟨sbx,3,none⟩):=hR 6 v6 rfl
          have r7:v7 = .slice (some ⟨b,off,none⟩) ls sc:=hR 7 v7 rfl
          have r8:v8 = .int .i64 (k:Int):=hR 8 v8 rfl
          have r9:v9 = .pointer (some ⟨b,off+k,none⟩):=hR 9 v9 rfl
          have r10:v10 = .int .i64 n:=hR 10 v10 rfl
          have r11:v11 = .string (strOfNums r):=hR 11 v11 rfl
          have r12:StR r v12 w3:=hR 12 v12 rfl
          clear hR
          subst r0 r1 r2 r3 r4 r5 r6 r7 r8 r9 r10 r11
          obtain ⟨hh,rfl,hbk⟩:=r12
          have hown:=HI.out.below hb
          have HB3:=Bx.mk (HBW.out.trans (hb.mono HBW.out.size))
          have hle3:W.heap.size≤w3.heap.size:=HB3.out.size
          have hlt3:(strs (T.take k)).length≤1000000000:=by rw [strs_length,List.length_take];omega
          have hcell:w3.cell? ⟨hh,0,none⟩=some (.string (strOfNums r)):=hbk.cell 0 rfl
          have HN:Bx (strs (T.take k)++[.string (strOfNums r)]=strs (T.take (k+1))):=⟨by
           obtain ⟨h1,h2⟩:=List.getElem?_eq_some_iff.1 HTK.out
           rw [List.take_succ_eq_append_getElem h1,h2,strs_snoc]⟩
          clear hb HI HCC htx HKB HBW hbk
          simp only [puts,List.take_succ_cons,List.take_zero,List.drop_succ_cons,List.drop_zero,List.map_cons,List.map_nil,List.zip_cons_cons,List.zip_nil_right,List.foldl_cons,List.foldl_nil]
          simp only [Act.put,List.setIfInBounds_toArray,List.set_cons_succ,List.set_cons_zero]
          at_builtin
          refine wpList_append_val rfl _ _ 30 rfl 9 (.string ByteArray.empty) 16 (by omega) Tryd.underlying30 (by kernel_rfl) rfl W.heap.size v0 (strs (T.take k)) rfl hown (.string (strOfNums r)) rfl ⟨hh,0,none⟩ 1 rfl hcell hlt3 hle3 ?_
          intro v' w6 g1 g2 _
          go_wp2_with fail
          rw [HN.out] at g1
          have HG1:=Bx.mk g1
          have HB6:=Bx.mk (HB3.out.grown g2 hle3 fun q hq=>(own_at hown q hq).1)
          clear g1 g2 hown hcell hle3 hlt3
          go_roundw
          case rel=>exact ⟨k+1,_,by have:=Hlt.out;omega,rfl,by go_num,HG1,HB6⟩
          case measure=>have:=Hlt.out;simp [intOf];omega
    · have t1:decide ((k:Int)<30)=false:=by simp;omega
      have t1b:decide (k<30)=false:=by simpa using h30
      have HF:Bx (T.take k=T):=⟨List.take_of_length_le (by rw [HTL.out];omega)⟩
      rw [HF.out] at HI
      clear h30 hlt
      go_wp2_with fail
      go_ret
      exact ⟨_,rfl,HB.out.trans (HBW.out.mono HB.out.size),Ownv.base HI.out HB.out.size⟩
  · have t0:decide ((k:Int)<(ls:Int))=false:=by simp;omega
    have t0b:decide (k<ls)=false:=by simpa using hlt
    have HF:Bx (T.take k=T):=⟨List.take_of_length_le (by rw [HTL.out];omega)⟩
    rw [HF.out] at HI
    clear hlt
    go_wp2_with fail
    go_ret
    exact ⟨_,rfl,HB.out.trans (HBW.out.mono HB.out.size),Ownv.base HI.out HB.out.size⟩
end
section
open Go.RowKit Go.Sort Go.Maps
structure RJ (W:World) (tb size:Nat) (ra:Option Addr) (rc:Nat) (L:List (List Int)):Prop where
 bk:Bk W tb #[.int .i64 (size:Int),.slice ra L.length rc] 32
 rd:Slv W ra (strs L)
 lt : ∀ b,ra=some b→b.block<W.heap.size
theorem RJ.chg {S:Nat→Prop} {W W':World} {tb size:Nat} {ra:Option Addr} {rc:Nat} {L:List (List Int)} (h:RJ W tb size ra rc L) (hc:Chg S W W') (ht : ¬S tb) (hr : ∀ b,ra=some b → ¬S b.block):RJ W' tb size ra rc L :=
 ⟨h.bk.chg hc ht,slv_chg h.rd hc hr,fun b hb=>Nat.lt_of_lt_of_le (h.lt b hb) hc.size⟩
theorem RJ.later {W W':World} {tb size:Nat} {ra:Option Addr} {rc:Nat} {L:List (List Int)} (h:RJ W tb size ra rc L) (hb:Below W.heap.size W W'):RJ W' tb size ra rc L :=
 h.chg (.ofBelow hb fun _=>False) (fun e=>e) (fun _ _ e=>e)
end
section
open Go.RowKit Go.Sort Go.Maps
def JE (F:Nat→Prop) (B:Nat) (W:World) (dp g mb cap pp jp nn h k:Nat) (L:List (List Int)):Prop :=
 ∃ bank bv t m im s,t≤k * 100∧m≤100+k * 4000∧JD F B W dp g mb cap pp jp nn h bank bv t m im s L
section
variable {F F':Nat→Prop} {B:Nat} {W W':World} {dp g mb cap pp jp nn h k:Nat} {L:List (List Int)}
theorem JE.chg (hJ:JE F B W dp g mb cap pp jp nn h k L) (hc:Chg F W W'):JE F B W' dp g mb cap pp jp nn h k L:=by
 obtain ⟨bank,bv,t,m,im,s,h1,h2,h3⟩:=hJ
 exact ⟨bank,bv,t,m,im,s,h1,h2,h3.chg hc⟩
theorem JE.later (hJ:JE F B W dp g mb cap pp jp nn h k L) (hb:Below W.heap.size W W'):JE F B W' dp g mb cap pp jp nn h k L:=hJ.chg (.ofBelow hb F)
theorem JE.more (hJ:JE F B W dp g mb cap pp jp nn h k L) (hF : ∀ k,F' k→F k∨W.heap.size≤k):JE F' B W dp g mb cap pp jp nn h k L:=by
 obtain ⟨bank,bv,t,m,im,s,h1,h2,h3⟩:=hJ
 exact ⟨bank,bv,t,m,im,s,h1,h2,h3.more hF⟩
theorem JE.up (hJ:JE F B W dp g mb cap pp jp nn h k L) {k':Nat} (hk:k≤k'):JE F B W dp g mb cap pp jp nn h k' L:=by
 obtain ⟨bank,bv,t,m,im,s,h1,h2,h3⟩:=hJ
 have e1:k * 100≤k' * 100:=Nat.mul_le_mul_right _ hk
 have e2:k * 4000≤k' * 4000:=Nat.mul_le_mul_right _ hk
 exact ⟨bank,bv,t,m,im,s,Nat.le_trans h1 e1,Nat.le_trans h2 (Nat.add_le_add_left e2 _),h3⟩
theorem JE.far (hJ:JE F B W dp g mb cap pp jp nn h k L) : ∀ x,JW jp pp dp g mb x → ¬F x∧x<W.heap.size:=fun x hx=>by
 obtain ⟨bank,bv,t,m,im,s,h1,h2,h3⟩:=hJ
 exact ⟨h3.far x hx,h3.ltJ x hx⟩
theorem JE.small (hJ:JE F B W dp g mb cap pp jp nn h k L):L.length≤5800∧(strmP L).length≤11600∧1≤h∧h≤99 ∧ ∀ r∈L,r.length≤8000:=by
 obtain ⟨bank,bv,t,m,im,s,h1,h2,h3⟩:=hJ
 have h4:=h3.small
 have h5:=h3.inj.half
 exact ⟨h4.2.1,by rw [←h3.inj.strm];exact h4.1,h5.2.1,h4.2.2.1,h3.inj.short⟩
theorem JE.fits (hJ:JE F B W dp g mb cap pp jp nn h k L):(strmP L).length≤h * 116:=by
 obtain ⟨bank,bv,t,m,im,s,h1,h2,h3⟩:=hJ
 rw [←h3.inj.strm]
 exact h3.inj.fits
theorem JE.len (hJ:JE F B W dp g mb cap pp jp nn h k L):Calls Tryd.prog 18 #[.pointer (some ⟨jp,0,none⟩)] W fun e w'=>e = .returned (.int .i64 (L.length:Int))∧Below W.heap.size W w':=by
 obtain ⟨bank,bv,t,m,im,s,h1,h2,h3⟩:=hJ
 exact h3.len
theorem JE.used (hJ:JE F B W dp g mb cap pp jp nn h k L):Calls Tryd.prog 21 #[.pointer (some ⟨jp,0,none⟩)] W fun e w'=>e = .returned (.int .i64 ((strmP L).length:Int))∧Below W.heap.size W w':=by
 obtain ⟨bank,bv,t,m,im,s,h1,h2,h3⟩:=hJ
 exact h3.used
theorem JE.room (hJ:JE F B W dp g mb cap pp jp nn h k L):Calls Tryd.prog 22 #[.pointer (some ⟨jp,0,none⟩)] W fun e w'=>e = .returned (.int .i64 ((h * 116 - (strmP L).length:Nat):Int))∧Below W.heap.size W w':=by
 obtain ⟨bank,bv,t,m,im,s,h1,h2,h3⟩:=hJ
 exact h3.room
theorem JE.record (hJ:JE F B W dp g mb cap pp jp nn h k L) (i:Int) (hi : -9223372036854775808≤i∧i≤9223372036854775807):Calls Tryd.prog 17 #[.pointer (some ⟨jp,0,none⟩),.int .i64 i] W fun e w'=>e = .returned (recV L i)∧Below W.heap.size W w':=by
 obtain ⟨bank,bv,t,m,im,s,h1,h2,h3⟩:=hJ
 exact h3.record i hi
theorem JE.records (hJ:JE F B W dp g mb cap pp jp nn h k L):Calls Tryd.prog 20 #[.pointer (some ⟨jp,0,none⟩)] W fun e w' => ∃ v,e = .returned v∧Below W.heap.size W w'∧Ownv w' W.heap.size 9 v (strs L):=by
 obtain ⟨bank,bv,t,m,im,s,h1,h2,h3⟩:=hJ
 exact h3.records
def JEp (F:Nat→Prop) (B dp g mb cap pp jp nn h k:Nat) (L':List (List Int)) (W w':World):Prop:=JE F B w' dp g mb cap pp jp nn h k L'∧Chg (JW jp pp dp g mb) W w'
set_option maxRecDepth 100000 in
theorem JEp.of {er:Int} {t m bank:Nat} {bv:Value} {im:List (List Int)} {s:List Int} {L L':List (List Int)} {v:Value} {e:Ending} (hJ:JD F B W dp g mb cap pp jp nn h bank bv t m im s L) (h1:t≤k * 100) (h2:m≤100+k * 4000) (hp:ApPost F B dp g mb cap pp jp nn h bv t m L L' er v W e W'):JEp F B dp g mb cap pp jp nn h (k+1) (if er=0 then L' else L) W W':=by
 rcases hp with ⟨h0,hb⟩ | ⟨h0,t',m',im',s',bank',ht,hm,hJ',hc⟩
 · rw [if_neg h0]
   exact ⟨⟨bank,bv,t,m,im,s,by omega,by omega,hJ.later hb⟩,.ofBelow hb _⟩
 · rw [if_pos h0]
   exact ⟨⟨bank',bv,t',m',im',s',by omega,by omega,hJ'⟩,hc⟩
theorem JE.append (hJ:JE F B W dp g mb cap pp jp nn h k L) (hF : ∀ x,F x→x<W.heap.size) (hk:k≤100) (r:List Int) (hrb:Byts r) (hr:r.length≤60000) :
 Calls Tryd.prog 9 #[.pointer (some ⟨jp,0,none⟩),.string (strOfNums r)] W fun e w'=>e = .returned (.tuple #[.int .i64 (if apE h L r=0 then (L.length:Int) else 0),.int .i64 (apE h L r)])∧JEp F B dp g mb cap pp jp nn h (k+1) (if apE h L r=0 then L++[r] else L) W w':=by
 obtain ⟨bank,bv,t,m,im,s,h1,h2,h3⟩:=hJ
 exact (jappend_any h3 hF (by omega) (by omega) r hrb hr).mono fun e w' hp=>⟨hp.1,.of h3 h1 h2 hp.2⟩
theorem JE.replace (hJ:JE F B W dp g mb cap pp jp nn h k L) (hF : ∀ x,F x→x<W.heap.size) (hk:k≤100) (a:Option Addr) (c:Nat) (L2:List (List Int)) (hs2:Slv W a (strs L2)) (hL2:L2.length≤100000) (hr2 : ∀ r∈L2,r.length≤60000) (ht2:(strmP L2).length≤1000000) (hb2 : ∀ r∈L2,Byts r) :
 Calls Tryd.prog 12 #[.pointer (some ⟨jp,0,none⟩),.slice a L2.length c] W fun e w'=>e = .returned (.int .i64 (jchkV false h (strmP L2) L2))∧JEp F B dp g mb cap pp jp nn h (k+1) (if jchkV false h (strmP L2) L2=0 then L2 else L) W w':=by
 obtain ⟨bank,bv,t,m,im,s,h1,h2,h3⟩:=hJ
 exact (jreplace_any h3 hF (by omega) (by omega) a c L2 hs2 hL2 hr2 ht2 hb2).mono fun e w' hp=>⟨hp.1,.of h3 h1 h2 hp.2⟩
theorem JE.open_ (hJ:JE F B W dp g mb cap pp jp nn h k L) (hF : ∀ x,F x→x<W.heap.size) (hk:k≤100) (hB:B≤W.heap.size) :
 Calls Tryd.prog 15 #[.pointer (some ⟨dp,0,none⟩)] W fun e w' => ∃ pq jq,e = .returned (.tuple #[.pointer (some ⟨jq,0,none⟩),.int .i64 0])∧JE F B w' dp g mb cap pq jq nn h (k+1) L∧Chg (In3 dp g mb) W w':=by
 obtain ⟨bank,bv,t,m,im,s,h1,h2,h3⟩:=hJ
 refine (reopen_any h3.st.dk (fun x hx=>h3.st.lo x (.inr hx)) (fun x hx=>h3.far x (.inr (.inr hx))) hF h3.inv h3.inj h3.byt (by omega) (by omega) hB).mono ?_
 rintro e w' ⟨pq,jq,bq,he,hj,hc⟩
 exact ⟨pq,jq,he,⟨bank,bq,t,m+20,im,s,by omega,by omega,hj⟩,hc⟩
end
theorem begin_JE (w:World) (n:Nat) (h1:20≤n) (h2:n≤120) :
 Calls Tryd.prog 7 #[.int .i64 (n:Int)] w fun e w' => ∃ dp g mb pp jp,e = .returned (.tuple #[.pointer (some ⟨dp,0,none⟩),.pointer (some ⟨jp,0,none⟩),.bool true])∧JE (fun k=>k<w.heap.size) w.heap.size w' dp g mb n pp jp (n - 17) ((n - 17 - 1) / 2) 0 []∧Below w.heap.size w w':=by
 refine (begin_yes w n h1 h2).mono ?_
 rintro e w' ⟨dp,g,mb,pp,jp,bv,he,hJ,hb⟩
 exact ⟨dp,g,mb,pp,jp,he,⟨0,bv,0,20,_,[],Nat.le_refl _,by omega,hJ⟩,hb⟩
end
section
open Go.RowKit Go.Sort Go.Maps
def StpP (F:Nat→Prop) (B dp g mb cap pp jp nn h k:Nat) (W:World) (e:Ending) (w':World):Prop := ∃ (er:Int) (v:Value) (L':List (List Int)),e = .returned (.tuple #[.int .i64 er,v])∧JEp F B dp g mb cap pp jp nn h (k+1) L' W w'
section
variable {F:Nat→Prop} {B:Nat} {W:World} {dp g mb cap pp jp nn h k:Nat} {L:List (List Int)}
set_option maxRecDepth 100000 in
set_option maxHeartbeats 4000000 in
theorem jstep_any (hJ:JE F B W dp g mb cap pp jp nn h k L) (hF : ∀ x,F x→x<W.heap.size) (hk:k≤100) (s:StB) (ho:s.Ok W) :
 Calls Tryd.prog 30 #[.pointer (some ⟨jp,0,none⟩),s.agg,.slice none 0 0] W (StpP F B dp g mb cap pp jp nn h k W):=by
 obtain ⟨kd,n,fill,sa,sc,sizes⟩:=s
 have HO:=Bx.mk ho
 have hfill:0≤fill∧fill≤255:=ho.fill
 have hn : -9223372036854775808≤n∧n≤9223372036854775807:=ho.n
 unfold StB.agg
 dsimp only
 obtain ⟨ls,hls⟩ : ∃ ls,ls=sizes.length:=⟨_,rfl⟩
 have HTX:Bx (∀ W',Below W.heap.size W W'→Calls Tryd.prog 13 #[.agg #[.int .i64 kd,.int .i64 n,.int .u8 fill,.slice sa ls sc]] W' fun e w' => ∃ v,e = .returned v∧Below W'.heap.size W' w'∧MoR W'.heap.size (strs (textsB fill sizes)) v w'):=⟨fun W' hb=>by rw [hls];exact rtexts_any W' ⟨kd,n,fill,sa,sc,sizes⟩ (ho.later hb)⟩
 rw [←hls]
 have HJ:=Bx.mk hJ
 have HF:=Bx.mk hF
 have HK:=Bx.mk hk
 have htx:=Bx.mk fun (wx:World)=>rtext_any fill hfill n hn wx
 obtain ⟨r,hr⟩ : ∃ r,r=textB fill n.toNat:=⟨_,rfl⟩
 rw [←hr] at htx
 have HR:Bx (Byts r∧r.length≤8100):=⟨by rw [hr];exact textB_byts _ _,by rw [hr,textB_len];omega⟩
 obtain ⟨T,hT⟩ : ∃ T,T=textsB fill sizes:=⟨_,rfl⟩
 rw [←hT] at HTX
 have HT:Bx (T.length≤30∧(∀ r∈T,r.length≤8100∧Byts r)∧(strmP T).length≤300000):=⟨by rw [hT,textsB_len];omega,fun r hr=>by rw [hT] at hr;exact textsB_mem hr,by rw [hT];exact textsB_small _ _⟩
 clear hJ hF hk ho hls hfill hn hr hT HO
 go_enter Tryd.func30,Tryd.ntmps30
 go_upto_region 1 with fail
 generalize hW:World.alloc W _=W1
 have hb1:=bl1 hW
 have kb:Bk W1 W.heap.size #[.int .i64 kd,.int .i64 n,.int .u8 fill,.slice sa ls sc] 35:=bk0 hW rfl
 have HB1:=Bx.mk hb1
 have KB:=Bx.mk kb
 have HJ1:=Bx.mk (HJ.out.later hb1)
 obtain ⟨c0,c1,c2,c3⟩:=kb.c4
 clear hW hb1 kb
 by_cases hk2:kd=2
 · have k2:(kd == 2)=true:=by simp [hk2]
   clear hk2
   go_wp2_with fail
   refine (HTX.out W1 HB1.out).mono ?_
   rintro _ w3 ⟨v5,rfl,hb,r5⟩
   clear c0 c1 c2 c3
   obtain ⟨va,vc,rfl,hsl⟩:=Ownv.form r5
   obtain ⟨tl,htl⟩ : ∃ tl,tl=T.length:=⟨_,rfl⟩
   rw [strs_length,←htl] at r5 ⊢
   have HTL:=Bx.mk htl
   have hb3:=HB1.out.trans (hb.mono HB1.out.size)
   have hap:=(HJ1.out.later hb).replace (fun x hx=>Nat.lt_of_lt_of_le (HF.out x hx) hb3.size) HK.out va vc T hsl (by have:=HT.out;omega) (fun r hr=>by have:=(HT.out.2.1 r hr).1;omega) (by have:=HT.out;omega) (fun r hr=>(HT.out.2.1 r hr).2)
   rw [←htl] at hap
   generalize jchkV false h (strmP T) T=er at *
   generalize (if er=0 then T else L)=L2 at *
   replace hap:=Bx.mk hap
   have HB3:=Bx.mk hb3
   clear hb hb3 r5 hsl htl HJ1 HJ
   go_wp2_with (go_at_call 12;refine hap.out.mono ?_;rintro _ w4 ⟨rfl,hp⟩;replace hp:=Bx.mk hp)
   go_ret2
   exact ⟨er,_,L2,rfl,hp.out.1,(Chg.ofBelow HB3.out _).trans hp.out.2 fun _ _ h=>h⟩
 · have k2:(kd == 2)=false:=by simpa using hk2
   clear hk2
   go_wp2_with fail
   refine (htx.out _).mono ?_
   rintro _ w3 ⟨rfl,hb⟩
   clear c0 c1 c2 c3
   have hb3:=HB1.out.trans (hb.mono HB1.out.size)
   have hap:=(HJ1.out.later hb).append (fun x hx=>Nat.lt_of_lt_of_le (HF.out x hx) hb3.size) HK.out r HR.out.1 (by have:=HR.out.2;omega)
   generalize apE h L r=er at *
   generalize (if er=0 then L++[r] else L)=L2 at *
   generalize (if er=0 then (L.length:Int) else 0)=rn at *
   replace hap:=Bx.mk hap
   have HB3:=Bx.mk hb3
   clear hb hb3 HJ1 HJ
   go_upto_region 6 with (go_at_call 9;refine hap.out.mono ?_;rintro _ w4 ⟨rfl,hp⟩;replace hp:=Bx.mk hp)
   obtain ⟨iT,hi0,hz0,hz1,hz2⟩:=info_parts (show (Tryd.prog.info? 9).map (fun i=>(i.zero,i.size,i.bytes))=some (some (.string ByteArray.empty),1,16) by kernel_rfl)
   clear hap
   go_wp2_with (first
    | (at_builtin;refine wpList_append_src rfl _ _ 30 rfl w4.heap.size 9 iT (.string ByteArray.empty) 1 16 Tryd.underlying30 hi0 hz0 hz1 hz2 rfl (by decide) (.slice (some ⟨w4.heap.size,0,none⟩) 0 0) 0 [] (by rfl) (World.ownsRow_lit w4 #[] 0 (Nat.le_refl _) (by decide) rfl) none 0 0 [] (by rfl) rfl (fun j u hj=>by simp at hj) (fun y hy=>by cases hy) (by simp only [maxLen];omega) (by omega) (by simp) ?_;intro v2 W2 hown2 hg2;obtain ⟨a2,k2,rfl,_,_,_⟩:=ownsRow_form hown2;have HG2:=Bx.mk hg2;have HO2:=Bx.mk hown2;clear hg2 hown2)
    | (at_builtin;refine wpList_append_val rfl _ _ 30 rfl 9 (.string ByteArray.empty) 16 (by omega) Tryd.underlying30 (by kernel_rfl) rfl w4.heap.size (.slice a2 0 k2) [] rfl (by unfold Ownv;exact ownsRow_below HO2.out ((Below.refl _ _).alloc (Nat.le_refl _) _)) (.string (strOfNums r)) rfl ⟨W2.heap.size,0,none⟩ 1 rfl (cell_new _ _ _) (by decide) (by simp;have:=HG2.out.size;simp at this;omega) ?_;intro v3 W3 g1 g2 g3;have G1:=Bx.mk g1;have G2:=Bx.mk g2;clear g1 g2 g3))
   go_ret2
   have hb2:Below w4.heap.size w4 W2:=((Below.refl _ w4).alloc (Nat.le_refl _) _).grown HG2.out (by simp) fun q hq=>by injection hq with hq;exact Nat.le_of_eq hq
   have hb3:Below w4.heap.size w4 W3:=(hb2.alloc hb2.size _).grown G2.out (by simp;have:=hb2.size;omega) fun q hq=>(own_at HO2.out q hq).1
   exact ⟨er,_,L2,rfl,hp.out.1.later hb3,((Chg.ofBelow HB3.out _).trans hp.out.2 fun _ _ h=>h).trans (.ofBelow hb3 _) fun _ _ h=>h⟩
end
end
end Go.Proofs.YtajhkncolbgkbaaDoor
