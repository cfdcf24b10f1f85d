/- Jov, Jtx, Jra, Jrc: joined by program, for one claim. -/
import Derived.Test.YtajhkncolbgkbaaDoorM17
import Derived.Test.YtajhkncolbgkbaaDoorM21
import Derived.Test.YtajhkncolbgkbaaDoorM20
import Derived.BigQuiet
set_option linter.unusedVariables false
set_option linter.unusedSimpArgs false
namespace Go.Proofs.YtajhkncolbgkbaaDoor
section
open Go.RowKit Go.ChangeShapes Go.WideShapes
theorem cellsStp15 : Tryd.prog.cellsOf 35=4:=by kernel_rfl
theorem list4 {α:Type} {l:List α} (h:l.length=4) : ∃ a b c d,l=[a,b,c,d]:=by
 match l,h with
 | [a,b,c,d],_=>exact ⟨a,b,c,d,rfl⟩
section
variable {H:Type} {enc:TypeId × Value→H} {w:World} {base:Nat} {spare:Nat→Bool} {held:Bool} {fuel:Nat} {x:DataW H × List MemPlace}
theorem trod_struct4 {P:Program} {t:TypeId} {f0 f1 f2 f3:Field} {cs:List Value} (ht:P.underlying t=some (.struct #[f0,f1,f2,f3])) (h:DataW.trod enc P w base spare held fuel t cs=some x) :
 ∃ y0 y1 y2 y3 n, DataW.trod enc P w base spare held n f0.type ((cs.drop f0.offset).take (P.cellsOf f0.type)) = some y0 ∧ DataW.trod enc P w base spare held n f1.type ((cs.drop f1.offset).take (P.cellsOf f1.type)) = some y1 ∧
   DataW.trod enc P w base spare held n f2.type ((cs.drop f2.offset).take (P.cellsOf f2.type))=some y2∧DataW.trod enc P w base spare held n f3.type ((cs.drop f3.offset).take (P.cellsOf f3.type))=some y3:=by
 obtain ⟨xs,n,_,rfl,hl,hlen,hf⟩:=DataW.trod_struct ht h
 match xs,hlen with
 | [y0,y1,y2,y3],_=>exact ⟨y0,y1,y2,y3,n,by simpa using hf 0 f0 rfl,by simpa using hf 1 f1 rfl,by simpa using hf 2 f2 rfl,by simpa using hf 3 f3 rfl⟩
end
structure StB where
 kind:Int
 n:Int
 fill:Int
 sa:Option Addr
 sc:Nat
 sizes:List Int
def StB.cells (s:StB):List Value:=[.int .i64 s.kind,.int .i64 s.n,.int .u8 s.fill,.slice s.sa s.sizes.length s.sc]
def StB.agg (s:StB):Value:=.agg #[.int .i64 s.kind,.int .i64 s.n,.int .u8 s.fill,.slice s.sa s.sizes.length s.sc]
structure StB.Ok (w:World) (s:StB):Prop where
 kind : -9223372036854775808≤s.kind∧s.kind≤9223372036854775807
 n : -9223372036854775808≤s.n∧s.n≤9223372036854775807
 fill:0≤s.fill∧s.fill≤255
 sl:Sl w .i64 s.sa s.sizes
 i64 : ∀ x∈s.sizes,-9223372036854775808≤x∧x≤9223372036854775807
 len:s.sizes.length≤9223372036854775807
theorem StB.Ok.later {w w':World} {s:StB} (h:s.Ok w) (hb:Below w.heap.size w w'):s.Ok w':=⟨h.kind,h.n,h.fill,h.sl.below hb,h.i64,h.len⟩
def StsB (w:World) (a:Option Addr) (L:List StB):Prop := ∀ (i:Nat) (s:StB),L[i]? = some s → ∃ b off,a=some ⟨b,off,none⟩∧(∀ j u,s.cells[j]? = some u→w.cell? ⟨b,off+i * 4+j,none⟩=some u)∧s.Ok w
theorem StsB.later {w w':World} {a:Option Addr} {L:List StB} (h:StsB w a L) (hb:Below w.heap.size w w'):StsB w' a L:=fun i s hs=>by
 obtain ⟨b,off,e,hc,ho⟩:=h i s hs
 exact ⟨b,off,e,fun j u hu=>cell_later hb (hc j u hu),ho.later hb⟩
section
variable {H:Type} {enc:TypeId × Value→H} {w:World} {base:Nat} {held:Bool}
theorem trod_stp15 {fuel:Nat} {cs:List Value} {x:DataW H × List MemPlace} (hl:cs.length=4) (h:DataW.trod enc Tryd.prog w base (fun _=>true) held fuel 35 cs=some x) :
 ∃ s:StB,cs=s.cells∧s.Ok w:=by
 obtain ⟨c0,c1,c2,c3,rfl⟩:=list4 hl
 obtain ⟨y0,y1,y2,y3,n,h0,h1,h2,h3⟩:=trod_struct4 Tryd.underlying35 h
 have h0:DataW.trod enc Tryd.prog w base (fun _=>true) held n 3 [c0]=some y0:=by simpa [cellsI14] using h0
 have h1:DataW.trod enc Tryd.prog w base (fun _=>true) held n 3 [c1]=some y1:=by simpa [cellsI14] using h1
 have h2:DataW.trod enc Tryd.prog w base (fun _=>true) held n 5 [c2]=some y2:=by simpa [cellsU14] using h2
 have h3:DataW.trod enc Tryd.prog w base (fun _=>true) held n 33 [c3]=some y3:=by simpa [cellsL14] using h3
 obtain ⟨k,e0,w0⟩:=trod_int14 h0
 obtain ⟨m,e1,w1⟩:=trod_int14 h1
 obtain ⟨b,e2,w2⟩:=trod_u14 h2
 obtain ⟨sa,sc,ss,e3,hs,hc,hm,hw⟩:=trod_ints14 h3
 subst e0 e1 e2 e3
 exact ⟨⟨k,m,b,sa,sc,ss⟩,rfl,bounds_i64 w0,bounds_i64 w1,byte_wf w2,hs,hw,by simp only [maxLen] at hm;show ss.length≤_;omega⟩
set_option maxRecDepth 100000 in
theorem open_stps15 {r:Reach} {b0:Nat} {v:Value} {d:DataW H} {p:List MemPlace} (hv:Value.okWide Tryd.prog w r b0 22 v) (h:DataW.Trod enc Tryd.prog w base (fun _=>true) held 22 v d p) :
 ∃ ha hcp,∃ xs:List StB,v = .slice ha xs.length hcp∧StsB w ha xs∧xs.length≤9223372036854775807:=by
 obtain ⟨a,n,cap,rfl⟩:=okWide_slice Tryd.underlying22 hv
 obtain ⟨fuel,hf⟩:=h
 obtain ⟨ha,hcp,L,e,⟨h1,h2⟩,h3⟩:=open_rowsL StB.cells (StB.Ok w) Tryd.underlying22 cellsStp15 (by decide) ⟨0,0,0,none,0,[]⟩ (fun hl ht=>trod_stp15 hl ht) (by simpa [Value.cells] using hf)
 exact ⟨ha,hcp,L,e,h3,by simp only [maxLen] at h2;omega⟩
end
def textsB (fill:Int) (sizes:List Int):List (List Int):=(sizes.take 30).mapIdx fun i n=>textB (IntKind.u8.wrap (fill+IntKind.u8.wrap ((i:Nat):Int))) n.toNat
theorem textsB_len (fill:Int) (sizes:List Int):(textsB fill sizes).length=min 30 sizes.length:=by simp [textsB]
theorem textsB_at {fill:Int} {sizes:List Int} {i:Nat} {n:Int} (h30:i<30) (hn:sizes[i]? = some n):(textsB fill sizes)[i]? = some (textB (IntKind.u8.wrap (fill+IntKind.u8.wrap ((i:Nat):Int))) n.toNat):=by
 unfold textsB
 rw [List.getElem?_mapIdx,List.getElem?_take,if_pos h30,hn];rfl
theorem textsB_mem {fill:Int} {sizes:List Int} {r:List Int} (h:r∈textsB fill sizes):r.length≤8100∧Byts r:=by
 unfold textsB at h
 obtain ⟨i,hi,rfl⟩:=List.mem_mapIdx.1 h
 exact ⟨by rw [textB_len];omega,textB_byts _ _⟩
theorem strm_le {L:List (List Int)} {M:Nat} (h : ∀ r∈L,r.length≤M):(strmP L).length≤L.length * (M+2):=by
 induction L with
 | nil=>simp [strmP]
 | cons r L ih =>
   have e:strmP (r::L)=recS r++strmP L:=rfl
   have h1:=h r (List.mem_cons_self ..)
   have h2:=ih fun x hx=>h x (List.mem_cons_of_mem _ hx)
   rw [e,List.length_append,recS_len,List.length_cons,Nat.add_mul]
   omega
theorem textsB_small (fill:Int) (sizes:List Int):(strmP (textsB fill sizes)).length≤300000:=by
 have h1:=strm_le (L:=textsB fill sizes) (M:=8100) fun r hr=>(textsB_mem hr).1
 have h2:=textsB_len fill sizes
 have h3:(textsB fill sizes).length * (8100+2)≤30 * (8100+2):=Nat.mul_le_mul_right _ (by omega)
 omega
end
section
open Go.RowKit Go.Sort Go.Maps
set_option maxRecDepth 100000 in
set_option maxHeartbeats 2000000 in
theorem rtexts_any (w:World) (s:StB) (ho:s.Ok w) :
 Calls Tryd.prog 13 #[s.agg] w fun e w' => ∃ v,e = .returned v∧Below w.heap.size w w'∧MoR w.heap.size (strs (textsB s.fill s.sizes)) v w':=by
 obtain ⟨kind,nn,fill,sa,sc,sizes⟩:=s
 unfold StB.agg
 have HO:=Bx.mk ho
 have hfill:=ho.fill
 dsimp only at hfill ⊢
 obtain ⟨T,hT⟩ : ∃ T,T=textsB fill sizes:=⟨_,rfl⟩
 rw [←hT]
 have HT:=Bx.mk hT
 obtain ⟨ls,hls⟩ : ∃ ls,ls=sizes.length:=⟨_,rfl⟩
 have HLS:=Bx.mk hls
 rw [←hls]
 have hlen:ls≤9223372036854775807:=by rw [hls];exact ho.len
 have HTL:Bx (T.length=min 30 ls):=⟨by rw [hT,textsB_len,hls]⟩
 have HX:=Bx.mk fun (W':World) (hb:Below w.heap.size w W') (k:Nat) (hk:k<ls)=>(show ∃ b off n,sa=some ⟨b,off,none⟩∧W'.cell? ⟨b,off+k,none⟩=some (.int .i64 n)∧sizes[k]? = some n ∧ -9223372036854775808≤n∧n≤9223372036854775807 from by
  have h1:sizes[k]? = some sizes[k]:=List.getElem?_eq_getElem (by rw [←hls];exact hk)
  obtain ⟨b,off,e,hc⟩:=(ho.sl.below hb) k _ h1
  exact ⟨b,off,_,e,hc,h1,ho.i64 _ (List.getElem_mem _)⟩)
 clear ho hT hls
 go_enter Tryd.func13,Tryd.ntmps13
 go_upto_region 1 with fail
 generalize hW:World.alloc w _=W
 have hb:=bl1 hW
 have kb:Bk W w.heap.size #[.int .i64 kind,.int .i64 nn,.int .u8 fill,.slice sa ls sc] 35:=bk0 hW rfl
 obtain ⟨sbx,hsbx⟩ : ∃ sbx,sbx=w.heap.size:=⟨_,rfl⟩
 rw [←hsbx] at kb ⊢
 have HB:=Bx.mk hb
 have KB:=Bx.mk kb
 have HSX:=Bx.mk hsbx
 have HWL:Bx (sbx<W.heap.size):=⟨kb.lt⟩
 clear hW hb kb hsbx
 go_upto_region 3 with fail
 go_loopw [3,4] (fun v3 v4 wr => ∃ (k:Nat) (q:Value),k≤min 30 ls∧q=v3∧v4 = .int .i64 k∧Bx (Ownv wr W.heap.size 9 q (strs (T.take k)))∧Bx (Below W.heap.size W wr)) (fun _ i _=>ls - (intOf i).toNat)
 case atStart=>exact ⟨0,_,Nat.zero_le _,rfl,rfl,⟨Ownv.nil _ _ _⟩,⟨Below.refl _ _⟩⟩
 case round =>
  obtain ⟨k,q,hk,rfl,rfl,HI,HBW⟩:=hrel
  have kb:=KB.out.later HBW.out
  have c3:=kb.cell 3 rfl
  have HKB:=Bx.mk kb
  clear kb
  by_cases hlt:k<ls
  · have t0:decide ((k:Int)<(ls:Int))=true:=by simp;omega
    have t0b:decide (k<ls)=true:=by simpa using hlt
    by_cases h30:k<30
    · have t1:decide ((k:Int)<30)=true:=by simp;omega
      have t1b:decide (k<30)=true:=by simpa using h30
      obtain ⟨b,off,n,rfl,hc,hn,hn1,hn2⟩:=HX.out wr (HB.out.trans (HBW.out.mono HB.out.size)) k hlt
      obtain ⟨c,hcc⟩ : ∃ c,c=IntKind.u8.wrap (fill+IntKind.u8.wrap (k:Int)):=⟨_,rfl⟩
      have hc255:0≤c∧c≤255:=by rw [hcc,IntKind.wrap_u8];omega
      obtain ⟨r,hr⟩ : ∃ r,r=textB c n.toNat:=⟨_,rfl⟩
      have HTK:Bx (T[k]? = some r):=⟨by rw [HT.out,textsB_at h30 hn,hr,hcc]⟩
      have htx:=Bx.mk fun (wx:World)=>rtext_any c hc255 n ⟨hn1,hn2⟩ wx
      rw [←hr] at htx
      have ecc:IntKind.u8.wrap (fill+IntKind.u8.wrap (k:Int))=c:=hcc.symm
      have HCC:=Bx.mk fun (wx:World) (hb:Below wr.heap.size wr wx)=>cell_later hb hc
      have b1:(0:Int)≤(k:Int):=by omega
      have b2:(k:Int)<(ls:Int):=by omega
      have Hlt:=Bx.mk (And.intro hlt h30)
      clear hn hn1 hn2 hcc hr hc255 hlt h30 hc
      go_upto_region 5 with fail
      clear t0 t0b t1 t1b c3
      refine wp_region_relT 13 (fun ii v w'=>match ii with
       | 0=>v=q
       | 1=>v = .pointer (some ⟨sbx,2,none⟩)
       | 2=>v = .int .u8 fill
       | 3=>v = .int .i64 (k:Int)
       | 4=>v = .int .u8 (IntKind.u8.wrap (k:Int))
       | 5=>v = .int .u8 c
       | 6=>v = .pointer (some ⟨sbx,3,none⟩)
       | 7=>v = .slice (some ⟨b,off,none⟩) ls sc
       | 8=>v = .int .i64 (k:Int)
       | 9=>v = .pointer (some ⟨b,off+k,none⟩)
       | 10=>v = .int .i64 n
       | 11=>v = .string (strOfNums r)
       | _=>StR r v w') (by kernel_rfl) (by kernel_rfl) 31 (by kernel_rfl) (by rfl) ?_ ?_ ?_
      · intro ii hi v u1 u2 hb h
        match ii,hi with
        | 0,_=>exact h
        | 1,_=>exact h
        | 2,_=>exact h
        | 3,_=>exact h
        | 4,_=>exact h
        | 5,_=>exact h
        | 6,_=>exact h
        | 7,_=>exact h
        | 8,_=>exact h
        | 9,_=>exact h
        | 10,_=>exact h
        | 11,_=>exact h
        | 12,_=>exact h.later hb
      · intro ii o hi ho ρ wx hb hc1 hc2 hc3 hk
        match ii,hi with
        | 0, _ =>
          obtain rfl:=Option.some.inj ho
          have g0:ρ (.tmp 3)=q:=hk 3 (by simp [Op.operands,Call.operands])
          clear hk hb HI HCC htx HKB HX HO HT HTK
          go_simp
          exact Below.refl _ _
        | 1, _ =>
          obtain rfl:=Option.some.inj ho
          have g0:ρ (.tmp 1) = .pointer (some ⟨sbx,0,none⟩):=hk 1 (by simp [Op.operands,Call.operands])
          clear hk hb HI HCC htx HKB HX HO HT HTK
          go_simp
          exact Below.refl _ _
        | 2, _ =>
          obtain rfl:=Option.some.inj ho
          have g0:ρ (.tmp 17) = .pointer (some ⟨sbx,2,none⟩):=hk 17 (by simp [Op.operands,Call.operands])
          have zz:=(HKB.out.later hb).cell 2 rfl
          clear hk hb HI HCC htx HKB HX HO HT HTK
          go_simp
          exact Below.refl _ _
        | 3, _ =>
          obtain rfl:=Option.some.inj ho
          have g0:ρ (.tmp 4) = .int .i64 (k:Int):=hk 4 (by simp [Op.operands,Call.operands])
          clear hk hb HI HCC htx HKB HX HO HT HTK
          go_simp
          exact Below.refl _ _
        | 4, _ =>
          obtain rfl:=Option.some.inj ho
          have g0:ρ (.tmp 19) = .int .i64 (k:Int):=hk 19 (by simp [Op.operands,Call.operands])
          clear hk hb HI HCC htx HKB HX HO HT HTK
          go_simp
          exact Below.refl _ _
        | 5, _ =>
          obtain rfl:=Option.some.inj ho
          have g0:ρ (.tmp 18) = .int .u8 fill:=hk 18 (by simp [Op.operands,Call.operands])
          have g1:ρ (.tmp 20) = .int .u8 (IntKind.u8.wrap (k:Int)):=hk 20 (by simp [Op.operands,Call.operands])
          clear hk hb HI HCC htx HKB HX HO HT HTK
          go_simp
          exact Below.refl _ _
        | 6, _ =>
          obtain rfl:=Option.some.inj ho
          have g0:ρ (.tmp 1) = .pointer (some ⟨sbx,0,none⟩):=hk 1 (by simp [Op.operands,Call.operands])
          clear hk hb HI HCC htx HKB HX HO HT HTK
          go_simp
          exact Below.refl _ _
        | 7, _ =>
          obtain rfl:=Option.some.inj ho
          have g0:ρ (.tmp 22) = .pointer (some ⟨sbx,3,none⟩):=hk 22 (by simp [Op.operands,Call.operands])
          have zz:=(HKB.out.later hb).cell 3 rfl
          clear hk hb HI HCC htx HKB HX HO HT HTK
          go_simp
          exact Below.refl _ _
        | 8, _ =>
          obtain rfl:=Option.some.inj ho
          have g0:ρ (.tmp 4) = .int .i64 (k:Int):=hk 4 (by simp [Op.operands,Call.operands])
          clear hk hb HI HCC htx HKB HX HO HT HTK
          go_simp
          exact Below.refl _ _
        | 9, _ =>
          obtain rfl:=Option.some.inj ho
          have g0:ρ (.tmp 23) = .slice (some ⟨b,off,none⟩) ls sc:=hk 23 (by simp [Op.operands,Call.operands])
          have g1:ρ (.tmp 24) = .int .i64 (k:Int):=hk 24 (by simp [Op.operands,Call.operands])
          clear hk hb HI HCC htx HKB HX HO HT HTK
          go_simp
          exact Below.refl _ _
        | 10, _ =>
          obtain rfl:=Option.some.inj ho
          have g0:ρ (.tmp 25) = .pointer (some ⟨b,off+k,none⟩):=hk 25 (by simp [Op.operands,Call.operands])
          have zz:=HCC.out wx hb
          clear hk hb HI HCC htx HKB HX HO HT HTK
          go_simp
          exact Below.refl _ _
        | 11, _ =>
          obtain rfl:=Option.some.inj ho
          have g0:ρ (.tmp 21) = .int .u8 c:=hk 21 (by simp [Op.operands,Call.operands])
          have g1:ρ (.tmp 26) = .int .i64 n:=hk 26 (by simp [Op.operands,Call.operands])
          have h4:=htx.out wx
          have H4:=Bx.mk h4
          clear h4
          clear hk hb HI HCC htx HKB HX HO HT HTK
          go_simp
          all_goals exact H4.out
        | 12, _ =>
          obtain rfl:=Option.some.inj ho
          have g0:ρ (.tmp 27) = .string (strOfNums r):=hk 27 (by simp [Op.operands,Call.operands])
          have Hn2:Bx (StR r (.slice (some ⟨wx.heap.size,0,none⟩) 1 1) (wx.alloc (.cells #[.string (strOfNums r)] 9))):=⟨_,rfl,Bk.new _ _ _⟩
          clear hk hb HI HCC htx HKB HX HO HT HTK
          go_simp
          exact ⟨(Below.refl _ _).alloc (Nat.le_refl _) _,Hn2.out⟩
      · intro vs w3 hlen hb hR
        match vs,hlen with
        | [v0, v1, v2, v3, v4, v5, v6, v7, v8, v9, v10, v11, v12], _ =>
          have r0:v0=q:=hR 0 v0 rfl
          have r1:v1 = .pointer (some ⟨sbx,2,none⟩):=hR 1 v1 rfl
          have r2:v2 = .int .u8 fill:=hR 2 v2 rfl
          have r3:v3 = .int .i64 (k:Int):=hR 3 v3 rfl
          have r4:v4 = .int .u8 (IntKind.u8.wrap (k:Int)):=hR 4 v4 rfl
          have r5:v5 = .int .u8 c:=hR 5 v5 rfl
          have r6:v6 = .pointer (some ⟨sbx,3,none⟩):=hR 6 v6 rfl
          have r7:v7 = .slice (some ⟨b,off,none⟩) ls sc:=hR 7 v7 rfl
          have r8:v8 = .int .i64 (k:Int):=hR 8 v8 rfl
          have r9:v9 = .pointer (some ⟨b,off+k,none⟩):=hR 9 v9 rfl
          have r10:v10 = .int .i64 n:=hR 10 v10 rfl
          have r11:v11 = .string (strOfNums r):=hR 11 v11 rfl
          have r12:StR r v12 w3:=hR 12 v12 rfl
          clear hR
          subst r0 r1 r2 r3 r4 r5 r6 r7 r8 r9 r10 r11
          obtain ⟨hh,rfl,hbk⟩:=r12
          have hown:=HI.out.below hb
          have HB3:=Bx.mk (HBW.out.trans (hb.mono HBW.out.size))
          have hle3:W.heap.size≤w3.heap.size:=HB3.out.size
          have hlt3:(strs (T.take k)).length≤1000000000:=by rw [strs_length,List.length_take];omega
          have hcell:w3.cell? ⟨hh,0,none⟩=some (.string (strOfNums r)):=hbk.cell 0 rfl
          have HN:Bx (strs (T.take k)++[.string (strOfNums r)]=strs (T.take (k+1))):=⟨by
           obtain ⟨h1,h2⟩:=List.getElem?_eq_some_iff.1 HTK.out
           rw [List.take_succ_eq_append_getElem h1,h2,strs_snoc]⟩
          clear hb HI HCC htx HKB HBW hbk
          simp only [puts,List.take_succ_cons,List.take_zero,List.drop_succ_cons,List.drop_zero,List.map_cons,List.map_nil,List.zip_cons_cons,List.zip_nil_right,List.foldl_cons,List.foldl_nil]
          simp only [Act.put,List.setIfInBounds_toArray,List.set_cons_succ,List.set_cons_zero]
          at_builtin
          refine wpList_append_val rfl _ _ 30 rfl 9 (.string ByteArray.empty) 16 (by omega) Tryd.underlying30 (by kernel_rfl) rfl W.heap.size v0 (strs (T.take k)) rfl hown (.string (strOfNums r)) rfl ⟨hh,0,none⟩ 1 rfl hcell hlt3 hle3 ?_
          intro v' w6 g1 g2 _
          go_wp2_with fail
          rw [HN.out] at g1
          have HG1:=Bx.mk g1
          have HB6:=Bx.mk (HB3.out.grown g2 hle3 fun q hq=>(own_at hown q hq).1)
          clear g1 g2 hown hcell hle3 hlt3
          go_roundw
          case rel=>exact ⟨k+1,_,by have:=Hlt.out;omega,rfl,by go_num,HG1,HB6⟩
          case measure=>have:=Hlt.out;simp [intOf];omega
    · have t1:decide ((k:Int)<30)=false:=by simp;omega
      have t1b:decide (k<30)=false:=by simpa using h30
      have HF:Bx (T.take k=T):=⟨List.take_of_length_le (by rw [HTL.out];omega)⟩
      rw [HF.out] at HI
      clear h30 hlt
      go_wp2_with fail
      go_ret
      exact ⟨_,rfl,HB.out.trans (HBW.out.mono HB.out.size),Ownv.base HI.out HB.out.size⟩
  · have t0:decide ((k:Int)<(ls:Int))=false:=by simp;omega
    have t0b:decide (k<ls)=false:=by simpa using hlt
    have HF:Bx (T.take k=T):=⟨List.take_of_length_le (by rw [HTL.out];omega)⟩
    rw [HF.out] at HI
    clear hlt
    go_wp2_with fail
    go_ret
    exact ⟨_,rfl,HB.out.trans (HBW.out.mono HB.out.size),Ownv.base HI.out HB.out.size⟩
end
section
open Go.RowKit Go.Sort Go.Maps
structure RJ (W:World) (tb size:Nat) (ra:Option Addr) (rc:Nat) (L:List (List Int)):Prop where
 bk:Bk W tb #[.int .i64 (size:Int),.slice ra L.length rc] 32
 rd:Slv W ra (strs L)
 lt : ∀ b,ra=some b→b.block<W.heap.size
theorem RJ.chg {S:Nat→Prop} {W W':World} {tb size:Nat} {ra:Option Addr} {rc:Nat} {L:List (List Int)} (h:RJ W tb size ra rc L) (hc:Chg S W W') (ht : ¬S tb) (hr : ∀ b,ra=some b → ¬S b.block):RJ W' tb size ra rc L :=
 ⟨h.bk.chg hc ht,slv_chg h.rd hc hr,fun b hb=>Nat.lt_of_lt_of_le (h.lt b hb) hc.size⟩
theorem RJ.later {W W':World} {tb size:Nat} {ra:Option Addr} {rc:Nat} {L:List (List Int)} (h:RJ W tb size ra rc L) (hb:Below W.heap.size W W'):RJ W' tb size ra rc L :=
 h.chg (.ofBelow hb fun _=>False) (fun e=>e) (fun _ _ e=>e)
def RjPost (tb size:Nat) (L':List (List Int)) (W w':World):Prop := ∃ ra rc,RJ w' tb size ra rc L'∧Chg (· = tb) W w' ∧ ∀ b,ra=some b→W.heap.size≤b.block
set_option maxRecDepth 100000 in
set_option maxHeartbeats 2000000 in
theorem rjappend_any (W:World) (tb h:Nat) (ra:Option Addr) (rc:Nat) (L:List (List Int)) (hR:RJ W tb (h * 116) ra rc L) (hh:h≤1000) (hL:L.length≤10000) (hs:(strmP L).length≤1000000) (r:List Int) (hr:r.length≤60000) :
 Calls Tryd.prog 11 #[.pointer (some ⟨tb,0,none⟩),.string (strOfNums r)] W fun e w'=>e = .returned (.tuple #[.int .i64 (if apE h L r=0 then (L.length:Int) else 0),.int .i64 (apE h L r)])∧((apE h L r ≠ 0∧Below W.heap.size W w')∨(apE h L r=0∧RjPost tb (h * 116) (L++[r]) W w')):=by
 have HR:=Bx.mk hR
 obtain ⟨er,her⟩ : ∃ er,er=apE h L r:=⟨_,rfl⟩
 rw [←her]
 have HER:=Bx.mk her
 obtain ⟨n,hn⟩ : ∃ n,n=L.length:=⟨_,rfl⟩
 have HN:=Bx.mk hn
 rw [←hn]
 obtain ⟨rn,hrn⟩ : ∃ rn:Int,rn=if er=0 then (n:Int) else 0:=⟨_,rfl⟩
 rw [←hrn]
 have HRN:=Bx.mk hrn
 have HB:=Bx.mk (And.intro hh (And.intro hL (And.intro hs hr)))
 obtain ⟨rl,hrl⟩ : ∃ rl,rl=r.length:=⟨_,rfl⟩
 have z0:(strOfNums r).size=rl:=by rw [strOfNums_size,hrl]
 have HRL:=Bx.mk hrl
 have hrl6:rl≤60000:=by omega
 have c1:=hR.bk.cell 1 rfl
 rw [←hn] at c1
 have c0:=hR.bk.cell 0 rfl
 clear hR her hn hrn hh hL hs hr hrl
 by_cases h8:8000<rl
 · have t0:decide ((rl:Int) > 8000)=true:=by simp;omega
   have t1:decide ((8000:Int)<(rl:Int))=true:=by simp;omega
   have HE:Bx (er=2):=⟨by rw [HER.out];unfold apE;rw [←HRL.out,if_pos h8]⟩
   clear h8
   go_enter Tryd.func11,Tryd.ntmps11
   go_wp2_with fail
   go_ret2
   rw [HRN.out,HE.out]
   exact ⟨rfl,.inl ⟨by decide,Below.refl _ _⟩⟩
 · have t0:decide ((rl:Int) > 8000)=false:=by simp;omega
   have t1:decide ((8000:Int)<(rl:Int))=false:=by simp;omega
   have H8:=Bx.mk h8
   clear h8
   go_enter Tryd.func11,Tryd.ntmps11
   go_upto_region 3 with fail
   clear t0 t1 c1 c0
   have hnl:n≤10000:=by have:=HB.out.2.1;have:=HN.out;omega
   obtain ⟨iT,hi0,hz0,hz1,hz2⟩:=info_parts (show (Tryd.prog.info? 9).map (fun i=>(i.zero,i.size,i.bytes))=some (some (.string ByteArray.empty),1,16) by kernel_rfl)
   have HR1:=HR.out.later (W':=W.alloc (.cells #[] 9)) ((Below.refl _ _).alloc (Nat.le_refl _) _)
   have c1:(W.alloc (.cells #[] 9)).cell? ⟨tb,1,none⟩=some (.slice ra n rc):=by rw [HN.out];exact HR1.bk.cell 1 rfl
   have hslv : ∀ j u,(strs L)[j]? = some u → ∃ ad,ra=some ad∧(W.alloc (.cells #[] 9)).cell? (ad.add j)=some u:=fun j u hj=>by
    obtain ⟨b,off,e,hc⟩:=HR1.rd j u hj
    refine ⟨_,e,?_⟩
    rw [show (⟨b,off,none⟩:Addr).add j=⟨b,off+j,none⟩ by cases j <;> simp [Addr.add]]
    exact hc
   have hone : ∀ y∈strs L,y.oneCell'=true:=fun y hy=>by unfold strs at hy;obtain ⟨z,_,rfl⟩:=List.mem_map.1 hy;rfl
   go_upto_region 4 with (first
    | (at_builtin;refine wpList_append_src rfl _ _ 30 rfl W.heap.size 9 iT (.string ByteArray.empty) 1 16 Tryd.underlying30 hi0 hz0 hz1 hz2 rfl (by decide) (.slice (some ⟨W.heap.size,0,none⟩) 0 0) 0 [] (by rfl) (World.ownsRow_lit W #[] 0 (Nat.le_refl _) (by decide) rfl) ra n rc (strs L) (by rfl) (by rw [strs_length,Nat.mul_one];exact HN.out.symm) hslv hone (by simp only [maxLen];omega) (by omega) (by simp) ?_;intro v2 W2 hown2 hg2;obtain ⟨a2,k2,rfl,_,_,_⟩:=ownsRow_form hown2;rw [Nat.zero_add,List.nil_append] at hown2)
    | (at_builtin;refine wpList_append_val rfl _ _ 30 rfl 9 (.string ByteArray.empty) 16 (by omega) Tryd.underlying30 (by kernel_rfl) rfl W.heap.size (.slice a2 n k2) (strs L) rfl (by unfold Ownv;rw [strs_length,←HN.out];exact ownsRow_below hown2 ((Below.refl _ _).alloc (Nat.le_refl _) _)) (.string (strOfNums r)) rfl ⟨W2.heap.size,0,none⟩ 1 rfl (cell_new _ _ _) (by rw [strs_length,←HN.out];omega) (by simp;have:=hg2.size;simp at this;omega) ?_;intro v3 W3 g1 g2 g3;obtain ⟨a3,k3,rfl,hs3⟩:=Ownv.form g1;rw [show (strs L++[Value.string (strOfNums r)]).length=n+1 by rw [List.length_append,strs_length,HN.out];rfl] at g1 ⊢))
   have hb2:Below W.heap.size W W2:=((Below.refl _ W).alloc (Nat.le_refl _) _).grown hg2 (by simp) fun q hq=>by injection hq with hq;exact Nat.le_of_eq hq
   have hb3:Below W.heap.size W W3:=(hb2.alloc hb2.size _).grown g2 (by simp;have:=hb2.size;omega) fun q hq=>(own_at hown2 q hq).1
   have hL3:Slv W3 a3 (strs (L++[r])):=by rw [strs_snoc];exact hs3
   have h3l : ∀ b,a3=some b→W.heap.size≤b.block∧b.block<W3.heap.size:=fun b hb=>by
    obtain ⟨q1,q2,_⟩:=own_at g1 b.block (by rw [hb];rfl)
    exact ⟨q1,q2⟩
   have hk3:=HR.out.bk.later hb3
   have c0 : ∀ dk osk,(grow (redrawn W3 dk) osk).cell? ⟨tb,0,none⟩=some (.int .i64 ((h * 116:Nat):Int)):=cell_regrown (hk3.cell 0 rfl)
   obtain ⟨u,hu⟩ : ∃ u,u=(strmP (L++[r])).length:=⟨_,rfl⟩
   have hus:=fun dk osk=>rused_any a3 k3 (L++[r]) (grow (redrawn W3 dk) osk) (hL3.below (below_regrown W3 dk osk)) (by rw [List.length_append,←HN.out];simp;omega) (by rw [strmP_snoc,List.length_append,recS_len];have:=HB.out;omega)
   rw [←hu,show (L++[r]).length=n+1 by rw [List.length_append,HN.out];rfl] at hus
   have u0:=Bx.mk fun dk osk=>Calls.regrown_of ((hus dk osk).mono fun e w' h=>(show e = .returned (.int .i64 (u:Int))∧Below (grow (redrawn W3 dk) osk).heap.size (grow (redrawn W3 dk) osk) w' from ⟨h.1,h.2 ▸ Below.refl _ _⟩))
   have HU:=Bx.mk hu
   have HE:Bx (er=if h * 116<u then 21 else 0):=⟨by rw [HER.out,hu];unfold apE;rw [←HRL.out,if_neg H8.out]⟩
   have HB3:=Bx.mk hb3
   have HK3:=Bx.mk hk3
   have HL3:=Bx.mk hL3
   have H3L:=Bx.mk h3l
   obtain ⟨sz,hsz⟩ : ∃ sz,sz=h * 116:=⟨_,rfl⟩
   have HSZ:=Bx.mk hsz
   rw [←hsz] at c0 HE
   clear hb2 hb3 hL3 h3l hk3 hu hus hown2 hg2 g1 g2 g3 hs3 hslv hone HR1 hi0 hz0 hz1 hz2 hsz c1
   have t:(decide ((u:Int) > (sz:Int))=true∧er=21)∨(decide ((u:Int) > (sz:Int))=false∧er=0):=by
    have:=HE.out
    by_cases hx:sz<u
    · rw [if_pos hx] at this;exact .inl ⟨by simp;omega,this⟩
    · rw [if_neg hx] at this;exact .inr ⟨by simp;omega,this⟩
   have t2:decide ((u:Int) > (sz:Int))=decide (sz<u):=by simp
   have t3:decide ((sz:Int)<(u:Int))=decide (sz<u):=by simp
   rw [t2] at t
   have t4:=t2.symm
   clear t4
   refine wp_region_quiet_below (by kernel_rfl) (by kernel_rfl) ?_
   repeat (first | go_big_quiet_step ((first | with_reducible exact u0.out _ _)) | quiet_step (first | with_reducible exact u0.out _ _))
   refine wpQuiet_nil ?_
   rintro _ ⟨⟨dq,osq⟩,rfl⟩
   have hbq:=below_regrown W3 dq osq
   replace HB3:=Bx.mk (HB3.out.trans (hbq.mono HB3.out.size))
   replace HK3:=Bx.mk (HK3.out.later hbq)
   replace HL3:=Bx.mk (HL3.out.below hbq)
   replace H3L:Bx (∀ b,a3=some b→W.heap.size≤b.block∧b.block<(grow (redrawn W3 dq) osq).heap.size):=⟨fun b hb=>⟨(H3L.out b hb).1,Nat.lt_of_lt_of_le (H3L.out b hb).2 hbq.size⟩⟩
   clear c0 u0 hbq
   generalize grow (redrawn W3 dq) osq=W4 at *
   clear t2 t3
   generalize decide (sz<u)=bq at *
   rcases t with ⟨rfl,h21⟩ | ⟨rfl,h0⟩
   · have H21:=Bx.mk h21
     clear h21 HER HE
     go_wp2_with fail
     go_ret2
     rw [HRN.out,H21.out]
     exact ⟨rfl,.inl ⟨by decide,HB3.out⟩⟩
   · have H0:=Bx.mk h0
     clear h0 HER HE
     have f1:W4.frozen? ⟨tb,1,none⟩=false:=HK3.out.frozen 1
     have c1:W4.cell? ⟨tb,1,none⟩=some (.slice ra L.length rc):=HK3.out.cell 1 rfl
     have e1:IntKind.i64.wrap (((n+1:Nat):Int) - 1)=(n:Int):=by rw [IntWalk.i64_in _ (by omega)];omega
     have e2:IntKind.i64.wrap ((n:Int)+1 - 1)=(n:Int):=by rw [IntWalk.i64_in _ (by omega)];omega
     have HP:Bx (RjPost tb (h * 116) (L++[r]) W (W4.setCell ⟨tb,1,none⟩ (.slice a3 (n+1) k3))):=⟨by
      have htb:=HR.out.bk.lt
      refine ⟨a3,k3,⟨?_,slv_chg HL3.out (Chg.setCell (S:=(· = tb)) (Chg.refl _ _) (.inl rfl) _) fun b hb e=>?_,fun b hb=>?_⟩,(Chg.ofBelow HB3.out (· = tb)).setCell (S:=(· = tb)) (.inl rfl) _,fun b hb=>(H3L.out b hb).1⟩
      · have:=HK3.out.set 1 (.slice a3 (n+1) k3)
        rw [show (L++[r]).length=n+1 by rw [List.length_append,HN.out];rfl]
        simpa using this
      · have:=(H3L.out b hb).1;omega
      · rw [size_setCell];exact (H3L.out b hb).2⟩
     go_wp2_with fail
     go_ret2
     rw [HRN.out,H0.out]
     exact ⟨rfl,.inr ⟨rfl,HP.out⟩⟩
end
section
open Go.RowKit Go.Sort Go.Maps
set_option maxRecDepth 100000 in
set_option maxHeartbeats 2000000 in
theorem rcheck_any (W:World) (tb h:Nat) (ra:Option Addr) (rc:Nat) (L:List (List Int)) (hR:RJ W tb (h * 116) ra rc L) (hh:h≤1000) (a:Option Addr) (c:Nat) (L2:List (List Int)) (hs2:Slv W a (strs L2)) (hL2:L2.length≤100000) (ht2:(strmP L2).length≤10000000) :
 Calls Tryd.prog 36 #[.pointer (some ⟨tb,0,none⟩),.slice a L2.length c] W fun e w'=>e = .returned (.int .i64 (jchkV false h (strmP L2) L2))∧Below W.heap.size W w':=by
 have HR:=Bx.mk hR
 have HS:=Bx.mk hs2
 obtain ⟨er,her⟩ : ∃ er,er=jchkV false h (strmP L2) L2:=⟨_,rfl⟩
 rw [←her]
 have HER:=Bx.mk her
 obtain ⟨n,hn⟩ : ∃ n,n=L2.length:=⟨_,rfl⟩
 have Hn:=Bx.mk hn
 obtain ⟨u,hu⟩ : ∃ u,u=(strmP L2).length:=⟨_,rfl⟩
 have hus:=fun dk osk=>rused_any a c L2 (grow (redrawn W dk) osk) (hs2.below (below_regrown W dk osk)) hL2 ht2
 rw [←hu,←hn] at hus
 have u0:=Bx.mk fun dk osk=>Calls.regrown_of ((hus dk osk).mono fun e w' h=>(show e = .returned (.int .i64 (u:Int))∧Below (grow (redrawn W dk) osk).heap.size (grow (redrawn W dk) osk) w' from ⟨h.1,h.2 ▸ Below.refl _ _⟩))
 have c0 : ∀ dk osk,(grow (redrawn W dk) osk).cell? ⟨tb,0,none⟩=some (.int .i64 ((h * 116:Nat):Int)):=cell_regrown (hR.bk.cell 0 rfl)
 have HE:Bx (er=if longR L2=true then 2 else if h * 116<u then 21 else 0):=⟨by rw [her,hu];unfold jchkV;rw [if_neg (by decide)]⟩
 obtain ⟨sz,hsz⟩ : ∃ sz,sz=h * 116:=⟨_,rfl⟩
 rw [←hsz] at c0 HE
 have HC0:=Bx.mk c0
 rw [←hn] at hL2 ⊢
 clear hR hs2 her hn hh ht2 hu hus hsz c0
 go_enter Tryd.func36,Tryd.ntmps36
 go_upto_region 2 with fail
 go_loopw [5] (fun i wr => ∃ k:Nat,k≤n∧i = .int .i64 k∧wr=W∧Bx (longR (L2.take k)=false)) (fun i _=>n - (intOf i).toNat)
 case atStart=>exact ⟨0,Nat.zero_le _,rfl,rfl,⟨rfl⟩⟩
 case round =>
  obtain ⟨k,hk,rfl,hwr,HF⟩:=hrel
  have hw2:W=wr:=hwr.symm
  subst hw2
  by_cases hlt:k<n
  · have t0:decide ((k:Int)<(n:Int))=true:=by simp;omega
    obtain ⟨r,hr⟩ : ∃ r,L2[k]? = some r:=⟨_,List.getElem?_eq_getElem (by rw [←Hn.out];exact hlt)⟩
    obtain ⟨b,off,rfl,hc⟩:=HS.out k _ (strs_at hr)
    have hT:Bx (longR (L2.take (k+1))=decide (8000<r.length)):=⟨by
     obtain ⟨h1,h2⟩:=List.getElem?_eq_some_iff.1 hr
     have h3:=HF.out
     unfold longR at h3 ⊢
     rw [List.take_succ_eq_append_getElem h1,h2,List.any_append,h3]
     simp⟩
    have hM:=Bx.mk (List.mem_of_getElem? hr)
    obtain ⟨rl,hrl⟩ : ∃ rl,rl=r.length:=⟨_,rfl⟩
    have hsz:(strOfNums r).size=rl:=by rw [strOfNums_size,hrl]
    rw [←hrl] at hT
    have Hrl:=Bx.mk hrl
    have Hlt:=Bx.mk hlt
    have b1:(0:Int)≤(k:Int):=by omega
    have b2:(k:Int)<(n:Int):=by omega
    have tt:decide ((rl:Int) > 8000)=decide (8000<rl):=by
     by_cases hx:8000<rl
     · rw [decide_eq_true hx];simp;omega
     · rw [decide_eq_false hx];simp;omega
    have hbool:decide (8000<rl)=true∨decide (8000<rl)=false:=by cases decide (8000<rl) <;> simp
    generalize strOfNums r=S at *
    clear hr hlt hrl u0 HC0
    rcases hbool with hq | hq
    · have Hq:=Bx.mk (of_decide_eq_true hq)
      have t1:decide ((rl:Int) > 8000)=true:=by rw [tt];exact hq
      have t2:decide ((8000:Int)<(rl:Int))=true:=t1
      have HEE:Bx (er=2):=⟨by rw [HE.out,if_pos (show longR L2=true from List.any_eq_true.2 ⟨r,hM.out,by rw [←Hrl.out];exact decide_eq_true Hq.out⟩)]⟩
      clear hq tt HE HER
      go_wp2_with fail
      go_ret
      exact ⟨by rw [HEE.out];rfl,Below.refl _ _⟩
    · have Hq:=Bx.mk hq
      have t1:decide ((rl:Int) > 8000)=false:=by rw [tt];exact hq
      have t2:decide ((8000:Int)<(rl:Int))=false:=t1
      clear hq tt
      go_wp2_with fail
      go_roundw
      case rel=>exact ⟨k+1,by have:=Hlt.out;omega,by go_num,by first | rfl | trivial,⟨by rw [hT.out];exact Hq.out⟩⟩
      case measure=>have:=Hlt.out;simp [intOf];omega
  · obtain rfl:k=n:=by omega
    have t0:decide ((k:Int)<(k:Int))=false:=by simp
    have hF:longR L2=false:=by
     have:=HF.out
     rwa [List.take_of_length_le (by rw [←Hn.out];exact Nat.le_refl _)] at this
    have HEE:Bx (er=if sz<u then 21 else 0):=⟨by rw [HE.out,if_neg (by rw [hF];decide)]⟩
    have t:(decide (sz<u)=true∧er=21)∨(decide (sz<u)=false∧er=0):=by
     have:=HEE.out
     by_cases hx:sz<u
     · rw [if_pos hx] at this;exact .inl ⟨by simpa using hx,this⟩
     · rw [if_neg hx] at this;exact .inr ⟨by simpa using hx,this⟩
    clear hF HE HER HEE
    go_upto_region 6 with fail
    have c0:=HC0.out
    have t2:decide ((u:Int) > (sz:Int))=decide (sz<u):=by simp
    have t3:decide ((sz:Int)<(u:Int))=decide (sz<u):=by simp
    clear t0
    refine wp_region_quiet_below (by kernel_rfl) (by kernel_rfl) ?_
    repeat (first | go_big_quiet_step ((first | with_reducible exact u0.out _ _)) | quiet_step (first | with_reducible exact u0.out _ _))
    refine wpQuiet_nil ?_
    rintro _ ⟨⟨dq,osq⟩,rfl⟩
    have HB:=Bx.mk (below_regrown W dq osq)
    clear c0 u0 t2 t3 HC0
    generalize grow (redrawn W dq) osq=W4 at *
    generalize decide (sz<u)=bq at *
    rcases t with ⟨rfl,h21⟩ | ⟨rfl,h0⟩
    · have H21:=Bx.mk h21
      clear h21
      go_wp2_with fail
      go_ret
      exact ⟨by rw [H21.out];rfl,HB.out⟩
    · have H0:=Bx.mk h0
      clear h0
      go_wp2_with fail
      go_ret
      exact ⟨by rw [H0.out];rfl,HB.out⟩
set_option maxRecDepth 100000 in
set_option maxHeartbeats 2000000 in
theorem rjreplace_any (W:World) (tb h:Nat) (ra:Option Addr) (rc:Nat) (L:List (List Int)) (hR:RJ W tb (h * 116) ra rc L) (hh:h≤1000) (a:Option Addr) (c:Nat) (L2:List (List Int)) (hs2:Slv W a (strs L2)) (hL2:L2.length≤10000) (ht2:(strmP L2).length≤10000000) :
 Calls Tryd.prog 14 #[.pointer (some ⟨tb,0,none⟩),.slice a L2.length c] W fun e w'=>e = .returned (.int .i64 (jchkV false h (strmP L2) L2))∧((jchkV false h (strmP L2) L2 ≠ 0∧Below W.heap.size W w')∨(jchkV false h (strmP L2) L2=0∧RjPost tb (h * 116) L2 W w')):=by
 have hck:=Bx.mk (rcheck_any W tb h ra rc L hR hh a c L2 hs2 (by omega) ht2)
 have HR:=Bx.mk hR
 have HS:=Bx.mk hs2
 obtain ⟨er,her⟩ : ∃ er,er=jchkV false h (strmP L2) L2:=⟨_,rfl⟩
 rw [←her] at hck ⊢
 obtain ⟨n,hn⟩ : ∃ n,n=L2.length:=⟨_,rfl⟩
 have HN:=Bx.mk hn
 rw [←hn] at hck hL2 ⊢
 clear hR hs2 her hn hh ht2
 go_enter Tryd.func14,Tryd.ntmps14
 go_upto_region 2 with (go_at_call 36;refine hck.out.mono ?_;rintro _ W1 ⟨rfl,hb1⟩)
 have HB:=Bx.mk hb1
 clear hb1 hck
 by_cases h0:er=0
 · have H0:=Bx.mk h0
   have n1:(er != 0)=false:=by simp [h0]
   have n2:(er == 0)=true:=by simp [h0]
   clear h0
   go_upto_region 3 with fail
   clear n1 n2
   obtain ⟨iT,hi0,hz0,hz1,hz2⟩:=info_parts (show (Tryd.prog.info? 9).map (fun i=>(i.zero,i.size,i.bytes))=some (some (.string ByteArray.empty),1,16) by kernel_rfl)
   have hs1:=(HS.out.below HB.out).below ((Below.refl _ W1).alloc (Nat.le_refl _) (.cells #[] 9))
   have hslv : ∀ j u,(strs L2)[j]? = some u → ∃ ad,a=some ad∧(W1.alloc (.cells #[] 9)).cell? (ad.add j)=some u:=fun j u hj=>by
    obtain ⟨b,off,e,hc⟩:=hs1 j u hj
    refine ⟨_,e,?_⟩
    rw [show (⟨b,off,none⟩:Addr).add j=⟨b,off+j,none⟩ by cases j <;> simp [Addr.add]]
    exact hc
   have hone : ∀ y∈strs L2,y.oneCell'=true:=fun y hy=>by unfold strs at hy;obtain ⟨z,_,rfl⟩:=List.mem_map.1 hy;rfl
   have hkb:=HR.out.bk.later HB.out
   go_wp2_with (first
    | (at_builtin;refine wpList_append_src rfl _ _ 30 rfl W1.heap.size 9 iT (.string ByteArray.empty) 1 16 Tryd.underlying30 hi0 hz0 hz1 hz2 rfl (by decide) (.slice (some ⟨W1.heap.size,0,none⟩) 0 0) 0 [] (by rfl) (World.ownsRow_lit W1 #[] 0 (Nat.le_refl _) (by decide) rfl) a n c (strs L2) (by rfl) (by rw [strs_length,Nat.mul_one];exact HN.out.symm) hslv hone (by simp only [maxLen];omega) (by omega) (by simp) ?_;intro v2 W2 hown2 hg2;obtain ⟨a2,k2,rfl,_,hq2,hc2⟩:=ownsRow_form hown2;rw [Nat.zero_add,List.nil_append] at hown2;have hb2:Below W1.heap.size W1 W2:=((Below.refl _ W1).alloc (Nat.le_refl _) _).grown hg2 (by simp) (fun q hq=>by injection hq with hq;exact Nat.le_of_eq hq);have hk2:=hkb.later hb2;have f1:W2.frozen? ⟨tb,1,none⟩=false:=hk2.frozen 1;have c1:W2.cell? ⟨tb,1,none⟩=some (.slice ra L.length rc):=hk2.cell 1 rfl;have HG:=Bx.mk hg2;have HK2:=Bx.mk hk2;have HB2:=Bx.mk hb2;have HO2:=Bx.mk hown2;have HC2:=Bx.mk hc2;clear hg2 hk2 hb2 hown2 hc2 hq2))
   go_ret
   refine ⟨rfl,.inr ⟨H0.out,a2,k2,⟨?_,slv_chg (S:=(· = tb)) (W:=W2) ?_ (Chg.setCell (S:=(· = tb)) (Chg.refl _ _) (.inl rfl) _) fun b hb e=>?_,fun b hb=>?_⟩,((Chg.ofBelow HB.out (· = tb)).later HB2.out HB.out.size).setCell (S:=(· = tb)) (.inl rfl) _,fun b hb=>?_⟩⟩
   · rw [←HN.out]
     simpa using HK2.out.set 1 (.slice a2 n k2)
   · intro j u hj
     obtain ⟨g,e,hc⟩:=HC2.out j u (by simpa using hj)
     exact ⟨g,0,e,by rw [Nat.zero_add];exact hc⟩
   · obtain ⟨q1,_,_⟩:=own_at HO2.out b.block (by rw [hb];rfl)
     have:=HR.out.bk.lt;have:=HB.out.size
     change b.block=tb at e
     omega
   · rw [size_setCell];exact (own_at HO2.out b.block (by rw [hb];rfl)).2.1
   · obtain ⟨q1,_,_⟩:=own_at HO2.out b.block (by rw [hb];rfl)
     have:=HB.out.size
     omega
 · have H0:=Bx.mk h0
   have n1:(er != 0)=true:=by simpa using h0
   have n2:(er == 0)=false:=by simpa using h0
   clear h0
   go_wp2_with fail
   go_ret
   exact ⟨rfl,.inl ⟨H0.out,HB.out⟩⟩
end
end Go.Proofs.YtajhkncolbgkbaaDoor
