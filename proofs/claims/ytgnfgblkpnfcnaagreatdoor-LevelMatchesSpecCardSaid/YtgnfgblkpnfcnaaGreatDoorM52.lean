/- Lms, Lop, Lou: joined by program, for one claim. -/
import Derived.Test.YtgnfgblkpnfcnaaGreatDoorM51
import Derived.Laws.IdiomArrays
set_option maxHeartbeats 8000000
set_option maxRecDepth 100000
set_option linter.unusedVariables false
set_option linter.unusedSimpArgs false
namespace Go.Proofs.YtgnfgblkpnfcnaaGreatDoor
section
open Go.RowKit Go.Sort Go.Maps
open Oct
noncomputable def lvD (kc:List Int) (s:Int→Bool) (N:Nat) (f:Pt→Int):List (List Int):=(List.range (N+1)).map fun j=>zDY kc (trF (N - j) (zHT s f j))
theorem zGU (kc:List Int) (s:Int→Bool) (N:Nat) (f:Pt→Int):(lvD kc s N f).length=N+1:=by simp [lvD]
theorem zGT (kc:List Int) (s:Int→Bool) (N:Nat) (f:Pt→Int) {j:Nat} (hj:j<N+1):(lvD kc s N f)[j]? = some (zDY kc (trF (N - j) (zHT s f j))):=by
 unfold lvD;rw [List.getElem?_map,List.getElem?_range hj];rfl
theorem lvD_16 (kc:List Int) (s:Int→Bool) (N:Nat) (f:Pt→Int) : ∀ d∈lvD kc s N f,d.length=16:=fun d hd=>by
 obtain ⟨j,_,rfl⟩:=List.mem_map.1 hd;exact zDZ kc _
theorem zGj (ta:Option Addr) (tc:Nat) (L:List Mat) (hl:L.length≤1000000000) (N:Nat) (hN:N≤12) (f:Pt→Int) (hf:FnC N f) (ts:List Tr) (hG:Good ts) (hT:trF N f∈ts) (hlen:(lvS (zx L) N f ts N).length≤4000000) (sb:Nat) (most:Int) (j:Nat) (hj:j<N) (w:World) (Far:Nat→Prop)
 (st:StoreIs w Far sb most (lvS (zx L) N f ts N)) (lt : ∀ k,Far k→k<w.heap.size) (tb:SlM w ta L) (ft:L ≠ [] → ∀ b,ta.map (·.block)=some b→Far b) :
 Calls Tryz.prog 14 #[.pointer (some ⟨sb,0,none⟩),.slice ta L.length tc,.int .i64 (lvX (zx L) N f ts j),.int .i64 ((N:Int)+2 - j)] w fun e w'=>e=zLK (lvX (zx L) N f ts (j+1)) 0∧StoreIs w' Far sb most (lvS (zx L) N f ts N)∧Keeps Far w w':=by
 obtain ⟨n,hn⟩ : ∃ n,N - j=n+1:=⟨N - j - 1,by omega⟩
 have hn':N - (j+1)=n:=by omega
 have hm1:trF (n+1) (zHT (zx L) f j)∈lvS (zx L) N f ts N:=by rw [←hn];exact zGZ hT (by omega)
 have hm2:trF n (zHT (zx L) f (j+1))∈lvS (zx L) N f ts N:=by rw [←hn'];exact zGZ hT (by omega)
 have hadd:Tr.add (trF n (zT (zx L) (zHT (zx L) f j))) (lvS (zx L) N f ts N)=lvS (zx L) N f ts N:=Tr.add_same _ _ hm2;have h:=zGe w Far sb ta tc L hl most _ st lt tb ft (zGX hN hf hG N (Nat.le_refl N)) n (by omega) (zHT (zx L) f j) (zHY hf.range j) hm1 (by rw [hadd];exact hlen)
 rw [hadd] at h;rw [zGc hT (by omega:j≤N),zGc hT (by omega:j+1≤N),hn,hn',show (N:Int)+2 - (j:Int)=(n:Int)+3 by omega]
 exact h.mono fun e w' hd=>Done.fit (t:=trF n (zHT (zx L) f (j+1))) hd (.inl rfl)
structure MI (w w7:World) (Fb:Nat→Prop) (sb:Nat) (most:Int) (us:List Tr) (Ds:List (List Int)) (k:Nat) (v:Value) (wr:World):Prop where
 bel:Below w.heap.size w wr
 own:OwnD wr w7.heap.size v (Ds.take k)
 st:StoreIs wr (fun x=>Fb x∨v.ownBlock=some x) sb most us
 keeps:Keeps Fb w7 wr
theorem MI.later {w w7 wr w':World} {Fb:Nat→Prop} {sb:Nat} {most:Int} {us:List Tr} {Ds:List (List Int)} {k:Nat} {v:Value} (h:MI w w7 Fb sb most us Ds k v wr) (hb:Below wr.heap.size wr w'):MI w w7 Fb sb most us Ds k v w' :=
 ⟨h.bel.trans (hb.mono h.bel.size),h.own.below hb,h.st.later hb,h.keeps.trans (Keeps.below hb)⟩
theorem MI.app {w w7 wr w':World} {Fb:Nat→Prop} {sb:Nat} {most:Int} {us:List Tr} {Ds:List (List Int)} {k:Nat} {v v':Value} (h:MI w w7 Fb sb most us Ds k v wr) (hw:w.heap.size≤w7.heap.size) (hFb : ∀ x,Fb x→x<w7.heap.size) (ho:OwnD w' w7.heap.size v' (Ds.take (k+1))) (hg:wr.grownBy w' v.ownBlock) (hwh:v'.ownBlock=v.ownBlock∨v'.ownBlock=some wr.heap.size):MI w w7 Fb sb most us Ds (k+1) v' w':=by
 have hlt:=h.own.lt;refine ⟨h.bel.grown hg h.bel.size (fun g hg=>Nat.le_trans hw (hlt g hg).1),ho,?_,h.keeps.trans (Keeps.grown hg fun g e hf=>by have:=hFb g hf;have:=(hlt g e).1;omega)⟩
 have st1:StoreIs wr (fun x=>(Fb x∨v.ownBlock=some x)∨x=wr.heap.size) sb most us:=h.st.widen fun x hx=>hx.imp id fun e=>by omega
 refine (st1.grownR hg fun g e=>.inl (.inr e)).less fun x hx=>?_;rcases hx with hx | hx
 · exact .inl (.inl hx)
 · rcases hwh with e | e
   · exact .inl (.inr (e ▸ hx))
   · rw [e] at hx;injection hx with hx;exact .inr hx.symm
theorem MI.half {w w7 wr w':World} {Fb:Nat→Prop} {sb:Nat} {most:Int} {us:List Tr} {Ds:List (List Int)} {k:Nat} {v:Value} (h:MI w w7 Fb sb most us Ds k v wr) (hF : ∀ x,x<w.heap.size→Fb x) (st:StoreIs w' (fun x=>Fb x∨v.ownBlock=some x) sb most us) (hk:Keeps (fun x=>Fb x∨v.ownBlock=some x) wr w'):MI w w7 Fb sb most us Ds k v w' :=
 ⟨zC h.bel hk fun x hx=>.inl (hF x hx),h.own.far hk fun g e=>.inr e,st,h.keeps.trans (hk.less fun x hx=>.inl hx)⟩
theorem zHo (kc:List Int) (hk:kc.length=64) (a b c d e f:Int) (ha:Option Addr) (hcp:Nat) (xs:List Int) (hl:xs.length≤300) (N:Nat) (hN:N≤12) (HX:GoodG ⟨⟨a,b,c⟩,⟨d,e,f⟩⟩ xs hcp) (hE:zEP ⟨⟨a,b,c⟩,⟨d,e,f⟩⟩ xs ((N:Int)+2)=0) (hV:zAB ⟨⟨a,b,c⟩,⟨d,e,f⟩⟩ xs=true) (hC:zN ⟨⟨a,b,c⟩,⟨d,e,f⟩⟩=true∨zJ ⟨⟨0,0,0⟩,⟨2 ^ (N+2),2 ^ (N+2),2 ^ (N+2)⟩⟩ ⟨⟨a,b,c⟩,⟨d,e,f⟩⟩=true)
 (ta:Option Addr) (tc:Nat) (L:List Mat) (hL:L.length≤300) (kk px py pz:Int) (hp3:W64 px∧W64 py∧W64 pz) (w:World) (hsl:Sl w .i64 ha xs) (hT:SlM w ta L) (hK:zAX w 1 kc) (hKr:zAX w 0 kc) :
 Calls Tryz.prog 3 #[.agg #[a,b,c,d,e,f,.slice ha xs.length hcp],.int .i64 ((N:Int)+2),.slice ta L.length tc,kk,.agg #[px,py,pz]] w fun E w'=>E = .returned (.bool true)∧Below w.heap.size w w':=by
 have hf:=zEp HX hC;have hfew:=zA3 HX hN;have hbd:=zGW (s:=zx L) hN hf hfew;have hG0:=zA4 hN hf zEm;have hmem:trF N (zF ⟨⟨a,b,c⟩,⟨d,e,f⟩⟩ xs)∈zA2 N (zF ⟨⟨a,b,c⟩,⟨d,e,f⟩⟩ xs) []:=zA5 _ _ _;have HS:=Bx.mk fun W (hb:Below w.heap.size w W)=>zLu kc hk W (zc hK hb);have hbu:=Bx.mk fun W (h:Sl W .i64 ha xs)=>zBt 100000 (by omega) a b c d e f ha hcp xs hl N hN HX hE hV hC W h
 have hrf:=Bx.mk fun W (h:Sl W .i64 ha xs)=>zHc a b c d e f ha hcp xs hl N hN HX hE W h;have hwa:=Bx.mk fun W (h:SlM W ta L)=>zHR ta tc L (by omega) N hN (zF ⟨⟨a,b,c⟩,⟨d,e,f⟩⟩ xs) hf.range W h
 have hpy:=Bx.mk fun W Far sb most st lt tb ft=>zGi W Far sb ta tc L (by omega) most (zA2 N (zF ⟨⟨a,b,c⟩,⟨d,e,f⟩⟩ xs) []) st lt tb ft hG0 N hN (zF ⟨⟨a,b,c⟩,⟨d,e,f⟩⟩ xs) hf hmem (by omega)
 have hag:=Bx.mk fun sb most j hj W Far st lt tb ft=>zGj ta tc L (by omega) N hN (zF ⟨⟨a,b,c⟩,⟨d,e,f⟩⟩ xs) hf _ hG0 hmem (by omega) sb most j hj W Far st lt tb ft
 have hrd:Bx (∀ j,j<N+1 → ∀ W,Below w.heap.size w W→Calls Tryz.prog 13 #[.string (lvT (zx L) N (zF ⟨⟨a,b,c⟩,⟨d,e,f⟩⟩ xs) j)] W (zA W (zDY kc (trF (N - j) (zHT (zx L) (zF ⟨⟨a,b,c⟩,⟨d,e,f⟩⟩ xs) j))))):=⟨fun j hj W hb =>
  zKF kc hk _ (zAD (zHY hf.range j) _ _ (by omega)) (zDy (by omega) (zHY hf.range j)) W (zc hKr hb)⟩
 have hdg:Bx (∀ sb most Far W,Below w.heap.size w W→StoreIs W Far sb most (lvS (zx L) N (zF ⟨⟨a,b,c⟩,⟨d,e,f⟩⟩ xs) (zA2 N (zF ⟨⟨a,b,c⟩,⟨d,e,f⟩⟩ xs) []) N) → ∀ (k:Nat) id dd,((List.range (N+1)).map (lvX (zx L) N (zF ⟨⟨a,b,c⟩,⟨d,e,f⟩⟩ xs) (zA2 N (zF ⟨⟨a,b,c⟩,⟨d,e,f⟩⟩ xs) [])))[k]? = some id→(lvD kc (zx L) N (zF ⟨⟨a,b,c⟩,⟨d,e,f⟩⟩ xs))[k]? = some dd →
  Calls Tryz.prog 39 #[.pointer (some ⟨sb,0,none⟩),id] W (zA W dd)):=⟨fun sb most Far W hb st k id dd hi hd=>by
  have hkN:k<N+1:=by have:=(List.getElem?_eq_some_iff.1 hd).1;rwa [zGU] at this
  rw [List.getElem?_map,List.getElem?_range hkN] at hi;obtain rfl:=Option.some.inj hi;rw [zGT _ _ _ _ hkN] at hd;obtain rfl:=Option.some.inj hd;rw [zGc hmem (by omega)]
  exact zDb kc hk Far sb most _ (zGX hN hf hG0 N (Nat.le_refl N)) (by omega) _ (zAD (zHY hf.range k) _ _ (by omega)) (zGZ hmem (by omega)) W (zc hK hb) st⟩
 have hce:=Bx.mk fun sb most Far A cp W st hs=>zGd (zx L) N hN (zF ⟨⟨a,b,c⟩,⟨d,e,f⟩⟩ xs) hf sb most Far (zA2 N (zF ⟨⟨a,b,c⟩,⟨d,e,f⟩⟩ xs) []) hG0 hmem (by omega) A cp kk px py pz hp3.1 hp3.2.1 hp3.2.2 W st hs
 have hrc:=Bx.mk fun A cp W hs=>zHA (zx L) N hN (zF ⟨⟨a,b,c⟩,⟨d,e,f⟩⟩ xs) hf A cp kk px py pz W hs;have hfits:Bx (∀ r:Nat,100000≤r→Tr.Fits (((zA2 N (zF ⟨⟨a,b,c⟩,⟨d,e,f⟩⟩ xs) []).length:Int)+(r:Int)) (zA2 N (zF ⟨⟨a,b,c⟩,⟨d,e,f⟩⟩ xs) []) (lvS (zx L) N (zF ⟨⟨a,b,c⟩,⟨d,e,f⟩⟩ xs) (zA2 N (zF ⟨⟨a,b,c⟩,⟨d,e,f⟩⟩ xs) []) N)):=⟨fun r hr=>.inr (by omega)⟩
 have hid0:Bx (idn (zA2 N (zF ⟨⟨a,b,c⟩,⟨d,e,f⟩⟩ xs) []) N (zF ⟨⟨a,b,c⟩,⟨d,e,f⟩⟩ xs)=lvX (zx L) N (zF ⟨⟨a,b,c⟩,⟨d,e,f⟩⟩ xs) (zA2 N (zF ⟨⟨a,b,c⟩,⟨d,e,f⟩⟩ xs) []) 0):=⟨rfl⟩;have hSL:=Bx.mk hsl;have HT:=Bx.mk hT
 have hlt:L ≠ [] → ∀ b,ta.map (·.block)=some b→b<w.heap.size:=fun hx b hb=>by
  obtain ⟨m,r,rfl⟩:=List.exists_cons_of_ne_nil hx;obtain ⟨b',off,h1,h2⟩:=hT 0 m rfl;rw [h1] at hb;simp only [Option.map_some,Option.some.injEq] at hb;rw [←hb];exact World.block_lt_of_cell? w _ (h2 0 _ rfl)
 have Hlt:=Bx.mk hlt;have t0:decide (((L.length:Nat):Int) > 300)=false:=by simp;omega
 clear hK hKr hsl hT hlt HX hE hV hC hl hmem hG0 hbd hfew hf hp3;generalize zF ⟨⟨a,b,c⟩,⟨d,e,f⟩⟩ xs=F at *;generalize xs.length=nl at *;go_enter Tryz.func3,Tryz.ntmps3;go_upto_region 1 with fail;generalize hW:World.alloc (World.alloc w _) _=W;have hB:=bl2 hW;have kg:Bk W w.heap.size #[a,b,c,d,e,f,.slice ha nl hcp] 28:=bk1 hW;have kp:Bk W (w.heap.size+1) #[px,py,pz] 23:=bk0 hW;clear hW;go_wp2_with fail;refine (HS.out _ hB).mono ?_;rintro _ w1 ⟨rfl,hb⟩;have HB1:=Bx.mk (hB.trans (hb.mono hB.size));have KG1:=Bx.mk (kg.later hb);have KP1:=Bx.mk (kp.later hb);clear hb HS hB kg kp;obtain ⟨c0,c1,c2,c3,c4,c5,c6⟩:=KG1.out.c7;go_wp2_with fail;refine (hbu.out _ (hSL.out.below HB1.out)).mono ?_;rintro _ w2 ⟨sb,rfl,st2,hb2⟩;have HB2:=Bx.mk (HB1.out.trans (hb2.mono HB1.out.size));have KG2:=Bx.mk (KG1.out.later hb2);have KP2:=Bx.mk (KP1.out.later hb2);have ST2:=Bx.mk st2;have h12:=Bx.mk hb2.size;have hk1:=Bx.mk KP1.out.lt;clear hb2 st2 hbu c0 c1 c2 c3 c4 c5 c6 KG1 KP1;obtain ⟨c0,c1,c2,c3,c4,c5,c6⟩:=KG2.out.c7;go_wp2_with fail;refine (hrf.out _ (hSL.out.below HB2.out)).mono ?_;rintro _ w3 ⟨rfl,hb3⟩;have HC3:=Bx.mk hb3;clear hb3 hrf c0 c1 c2 c3 c4 c5 c6 KG2 t0;go_wp2_with fail;refine (hwa.out _ (HT.out.below (HB2.out.trans (HC3.out.mono HB2.out.size)))).mono ?_;rintro _ w4 ⟨vw,rfl,own4,hb4⟩;have HC4:=Bx.mk (HC3.out.trans (hb4.mono HC3.out.size));have HW4:=Bx.mk own4.lt;obtain ⟨gw,cw,rfl,hsw,-⟩:=own4.form1 (by rw [zNj];omega)
 have HSW:=Bx.mk hsw;rw [zNj] at *;have hgw:w3.heap.size≤gw∧gw<w4.heap.size:=HW4.out gw rfl;have hgw2:=Bx.mk (show w2.heap.size≤gw∧gw<w4.heap.size by have:=HC3.out.size;omega)
 clear own4 hb4 hwa HC3 hsw hgw HW4;obtain ⟨F4,hF4⟩ : ∃ F4:Nat→Prop,F4=fun x=>x<w1.heap.size∨(w2.heap.size≤x∧x<w4.heap.size):=⟨_,rfl⟩;have st4:StoreIs w4 F4 sb _ (zA2 N F []):=(ST2.out.widen (Far':=F4) fun x hx=>by rw [hF4] at hx;exact hx.imp id fun h=>h.1).later HC4.out
 have HB4:=Bx.mk (HB2.out.trans (HC4.out.mono HB2.out.size));have lt4 : ∀ x,F4 x→x<w4.heap.size:=fun x hx=>by rw [hF4] at hx;have:=HC4.out.size;have:=h12.out;omega
 have hp:=Bx.mk (hpy.out w4 F4 sb _ st4 lt4 (HT.out.below HB4.out) (fun h b hb=>by rw [hF4];exact .inl (Nat.lt_of_lt_of_le (Hlt.out h b hb) HB1.out.size)))
 have hF0:Bx (∀ x,x<w1.heap.size→F4 x):=⟨fun x hx=>by rw [hF4];exact .inl hx⟩
 have hFw:Bx (F4 gw):=⟨by rw [hF4];exact .inr hgw2.out⟩
 have LT4:=Bx.mk lt4;have K4:=Bx.mk (KP2.out.later HC4.out);clear st4 hF4 hpy ST2 hgw2 lt4 KP2 HC4 h12;rw [hid0.out];unfold idn at hp;go_wp2_with fail;refine hp.out.mono ?_;rintro _ w7 ⟨hk7,(⟨-,v7,rfl,own7,st7⟩ | ⟨hft,-⟩)⟩
 · have HB7:=Bx.mk (zC HB4.out hk7 fun x hx=>hF0.out x (Nat.lt_of_lt_of_le hx HB1.out.size));obtain ⟨g7,cap7,rfl,hg7,hg7l,hcl7,-,-⟩:=own7.at (by simp)
   have hlen7:((List.range (N+1)).map (lvX (zx L) N F (zA2 N F []))).length=N+1:=by simp
   rw [hlen7] at own7 st7 ⊢;have hF7 : ∃ Fb:Nat→Prop,Fb=fun x=>F4 x∨x=g7:=⟨_,rfl⟩;obtain ⟨Fb,hFb⟩:=hF7;have HFb:=Bx.mk hFb;have hb7s:w4.heap.size≤w7.heap.size:=hk7.size
   have hI0:MI w w7 Fb sb _ (lvS (zx L) N F (zA2 N F []) N) (lvD kc (zx L) N F) 0 (.slice none 0 0) w7:=⟨HB7.out,by rw [List.take_zero];exact OwnD.nil _ _,st7.less (fun x hx=>by
    rw [hFb] at hx;rcases hx with (hx | hx) | hx
    · exact .inl hx
    · exact .inr (by rw [hx];rfl)
    · cases hx),Keeps.refl _ _⟩
   have HI0:=Bx.mk hI0
   have HFlt:Bx (∀ x,Fb x→x<w7.heap.size):=⟨fun x hx=>by
    rw [hFb] at hx;rcases hx with hx | hx
    · have:=LT4.out x hx;omega
    · omega⟩
   have HFw:Bx (∀ x,x<w1.heap.size→Fb x):=⟨fun x hx=>by rw [hFb];exact .inl (hF0.out x hx)⟩
   have HFg:Bx (Fb g7):=⟨by rw [hFb];exact .inr rfl⟩
   have HCx:Bx (∀ j,j<N+1→w7.cell? ⟨g7,j,none⟩=some (.int .i64 (lvX (zx L) N F (zA2 N F []) j))):=⟨fun j hj=>hcl7 j _ (by rw [List.getElem?_map,List.getElem?_range hj];rfl)⟩
   have HCw:Bx (∀ j,j<N+1→w7.cell? ⟨gw,j,none⟩=some (.string (lvT (zx L) N F j))):=⟨fun j hj=>by
    obtain ⟨b0,off0,he,hc⟩:=HSW.out j _ (zNi _ hj);simp only [Option.some.injEq,Addr.mk.injEq,and_true] at he;obtain ⟨rfl,rfl⟩:=he;rw [Nat.zero_add] at hc;exact zG hk7 hFw.out hc⟩
   have HFgw:Bx (Fb gw):=⟨by rw [hFb];exact .inl hFw.out⟩
   have Hkp:Bx (w.heap.size+1<w1.heap.size):=hk1;have HP7:=Bx.mk (K4.out.far hk7 (hF0.out _ hk1.out));have Hww:=Bx.mk (HB7.out.size);have HT7:Bx (∀ W,Below w.heap.size w W→SlM W ta L):=⟨fun W hb=>HT.out.below hb⟩;have h16:=Bx.mk zMA;have hz16:=Bx.mk zOa;have HDl:=Bx.mk (zGU kc (zx L) N F);have HD16:=Bx.mk (lvD_16 kc (zx L) N F);have HDat:Bx (∀ j,j<N+1→(lvD kc (zx L) N F)[j]? = some (zDY kc (trF (N - j) (zHT (zx L) F j)))):=⟨fun j hj=>zGT kc (zx L) N F hj⟩;obtain ⟨us,hus⟩ : ∃ us,us=lvS (zx L) N F (zA2 N F []) N:=⟨_,rfl⟩;rw [←hus] at HI0 hag hdg hce;obtain ⟨Ds,hDs⟩ : ∃ Ds,Ds=lvD kc (zx L) N F:=⟨_,rfl⟩;rw [←hDs] at HI0 hdg HDl HD16 HDat
   obtain ⟨X,hX⟩ : ∃ X,X=lvX (zx L) N F (zA2 N F []):=⟨_,rfl⟩;rw [←hX] at HCx hag hdg hce;obtain ⟨mo,hmo⟩ : ∃ m:Int,m=((zA2 N F []).length:Int)+((100000:Nat):Int):=⟨_,rfl⟩;rw [←hmo] at HI0;have hN13:N+1≤13:=by omega
   clear own7 st7 hcl7 hlen7 hI0 hFb HFb hk7 hp LT4 hF0 hFw HSW hus hDs hX hmo hfits hid0 K4 HB4 hg7 hg7l hb7s;obtain ⟨D,hD⟩ : ∃ D:Int,D=(N:Int)+2:=⟨_,rfl⟩;rw [←hD] at hag ⊢;have HD:=Bx.mk hD;have hD1:Bx (IntKind.i64.wrap (D+1)=D+1):=⟨by rw [hD];exact IntWalk.i64_in _ (by omega)⟩
   clear hD;go_upto_region 12 with fail
   go_loopw [20,21] (fun v20 v21 wr => ∃ k:Nat,k≤N+1∧v21 = .int .i64 k∧Bx (MI w w7 Fb sb mo us Ds k v20 wr)) (fun _ i _=>N+1 - (intOf i).toNat)
   case atStart=>exact ⟨0,Nat.zero_le _,rfl,HI0⟩
   case round =>
    clear HI0;obtain ⟨k,hk2,rfl,HI⟩:=hrel;by_cases hlt:k<N+1
    · have t0:decide ((k:Int)<((N+1:Nat):Int))=true:=by simp;omega
      have t0b:decide ((k:Int)<(N:Int)+1)=true:=by simp;omega
      have t0c:decide (k<N+1)=true:=by simpa using hlt
      have c0:=zG HI.out.keeps HFgw.out (HCw.out k hlt);have b1:(0:Int)≤(k:Int)∧(k:Int)<((N+1:Nat):Int):=by omega
      have b1b:(0:Int)≤(k:Int)∧(k:Int)<(N:Int)+1:=by omega
      have hd:=Bx.mk (hrd.out k hlt wr HI.out.bel);have hat:=Bx.mk (HDat.out k hlt);generalize lvT (zx L) N F k=S at *;generalize zDY kc (trF (N - k) (zHT (zx L) F k))=d at *;have hd16:Bx (d.length=16):=⟨HD16.out d (List.mem_of_getElem? hat.out)⟩;have hkD:k<Ds.length:=by rw [HDl.out];exact hlt
      have hcat:Bx (Ds.take k++[d]=Ds.take (k+1)):=⟨by rw [List.take_succ_eq_append_getElem hkD];have:=hat.out;rw [List.getElem?_eq_getElem hkD] at this;rw [Option.some.inj this]⟩
      have hln:Bx ((Ds.take k).length≤1000):=⟨by rw [List.length_take,HDl.out];omega⟩
      have Hlt2:=Bx.mk hlt;clear hlt hkD;go_wp2_with fail;refine hd.out.mono ?_;rintro _ w8 ⟨rfl,hb8⟩;obtain ⟨AL,hAL⟩ : ∃ AL,AL=d.map (Value.int .u8):=⟨_,rfl⟩;have HAL:=Bx.mk hAL;have hal:Bx (AL.length=16):=⟨by rw [hAL,List.length_map];exact hd16.out⟩
      unfold zBP;rw [←hAL];have HI8:=Bx.mk (HI.out.later hb8);clear hd c0 hb8 hAL HI;have hle:w7.heap.size≤w8.heap.size:=HI8.out.keeps.size
      go_upto_region 15 with (first
       | (refine zON rfl _ 43 _ rfl AL rfl Tryz.underlying41 (by rw [hal.out];exact h16.out) hz16.out (by rw [hal.out];decide) (by rw [hal.out];decide) ?_)
       | (at_builtin
          refine zOK rfl _ _ rfl w7.heap.size _ (Ds.take k) rfl (HI8.out.own.below ((Below.refl _ _).alloc (Nat.le_refl _) (.cells AL.toArray 43))) w8.heap.size 1 d hd16.out rfl (by rw [HAL.out];exact zD _ _ _ rfl) hln.out (Nat.le_trans hle (by simp)) ?_
          intro v9 w9 hown9 hg9 hwh9;rw [hcat.out] at hown9;have HI9:=Bx.mk ((HI8.out.later ((Below.refl _ _).alloc (Nat.le_refl _) (.cells AL.toArray 43))).app Hww.out HFlt.out hown9 hg9 hwh9);clear hown9 hg9 hwh9))
      clear HI8 hle hcat
      rcases Nat.eq_zero_or_pos k with hk0 | hk0
      · subst hk0;have t5:(((0:Nat):Int) == 0)=true:=by decide
        go_wp2_with fail;have hlt:=Hlt2.out
        go_roundw
        case rel=>exact ⟨0+1,by omega,by first | rfl | go_num,HI9⟩
        case measure=>simp [intOf]
      · have t5:((k:Int) == 0)=false:=by simp;omega
        obtain ⟨j,hj⟩ : ∃ j,k=j+1:=⟨k - 1,by omega⟩
        have Hj:=Bx.mk hj;have hjN:j<N:=by have:=Hlt2.out;omega
        have e1:IntKind.i64.wrap ((k:Int) - 1)=(j:Int):=by rw [show (k:Int) - 1=(j:Int) by omega];exact IntWalk.i64_in _ (by omega)
        have b2:(0:Int)≤(j:Int)∧(j:Int)<((N+1:Nat):Int):=by omega
        have b2b:(0:Int)≤(j:Int)∧(j:Int)<(N:Int)+1:=by omega
        obtain ⟨D2,hD2⟩ : ∃ D2:Int,D2=D - (j:Int):=⟨_,rfl⟩;have e2:IntKind.i64.wrap (D+1)=D+1:=hD1.out;have e3:IntKind.i64.wrap (D+1 - (k:Int))=D2:=by rw [hD2,show D+1 - (k:Int)=D - (j:Int) by omega];have:=HD.out;exact IntWalk.i64_in _ (by omega)
        have c1:=zG HI9.out.keeps HFg.out (HCx.out j (by omega))
        have hlt9 : ∀ x,(Fb x∨Value.ownBlock v9=some x)→x<w9.heap.size:=fun x hx=>by
         have:=HI9.out.keeps.size;rcases hx with hx | hx
         · have:=HFlt.out x hx;omega
         · exact (HI9.out.own.lt x hx).2
        have hh:=Bx.mk (hag.out sb mo j hjN w9 _ HI9.out.st hlt9 (HT7.out w9 HI9.out.bel) (fun h b hb=>.inl (HFw.out b (Nat.lt_of_lt_of_le (Hlt.out h b hb) HB1.out.size))));have hXk:Bx (X (j+1)=X k):=⟨by rw [hj]⟩
        rw [hXk.out,←hD2] at hh;have HD2:=Bx.mk hD2;obtain ⟨xj,hxj⟩ : ∃ x,x=X j:=⟨_,rfl⟩;rw [←hxj] at c1 hh;have Hck:=Bx.mk (HCx.out k Hlt2.out);obtain ⟨xk,hxk⟩ : ∃ x,x=X k:=⟨_,rfl⟩;rw [←hxk] at hh Hck;clear hj hjN hD2 hlt9 hxj hxk hXk;go_wp2_with fail;refine hh.out.mono ?_;rintro _ w10 ⟨rfl,st10,hk10⟩;have HI10:=Bx.mk (HI9.out.half (fun x hx=>HFw.out x (Nat.lt_of_lt_of_le hx HB1.out.size)) st10 hk10);have c2:=zG HI10.out.keeps HFg.out Hck.out;clear st10 hk10 hh c1 HI9 Hck e1 e2 e3;go_wp2_with fail;have hlt:=Hlt2.out
        go_roundw
        case rel=>exact ⟨k+1,by omega,by go_num,HI10⟩
        case measure=>simp [intOf];omega
    · obtain rfl:k=N+1:=by omega
      have t0:decide (((N+1:Nat):Int)<((N+1:Nat):Int))=false:=by simp
      have t0b:decide (((N+1:Nat):Int)<(N:Int)+1)=false:=by simp
      have t0c:decide (N+1<N+1)=false:=by simp
      have hown:=HI.out.own;rw [List.take_of_length_le (Nat.le_of_eq HDl.out)] at hown;obtain ⟨aR,cR,rfl,-,hsR⟩:=hown.form;rw [HDl.out]
      have hsl7 : ∀ W,Below wr.heap.size wr W→Sl W .i64 (some ⟨g7,0,none⟩) ((List.range (N+1)).map X):=fun W hb i x hx=>by
       have hi:i<N+1:=by have:=(List.getElem?_eq_some_iff.1 hx).1;simpa using this
       rw [List.getElem?_map,List.getElem?_range hi] at hx;obtain rfl:=Option.some.inj hx;refine ⟨g7,0,rfl,?_⟩;rw [Nat.zero_add];exact cell_later hb (zG HI.out.keeps HFg.out (HCx.out i hi))
      have hslw : ∀ W,Below wr.heap.size wr W→Slv W (some ⟨gw,0,none⟩) (zNh (fun j=>strOfNums (Tr.enc (trF (N - j) (zHT (zx L) F j)))) (N+1)):=fun W hb i x hx=>by
       have hi:i<N+1:=by have:=(List.getElem?_eq_some_iff.1 hx).1;simpa [zNj] using this
       rw [zNi _ hi] at hx;obtain rfl:=Option.some.inj hx;refine ⟨gw,0,rfl,?_⟩;rw [Nat.zero_add];exact cell_later hb (zG HI.out.keeps HFgw.out (HCw.out i hi))
      have hro:=Bx.mk (zHL sb (some ⟨g7,0,none⟩) cap7 ((List.range (N+1)).map X) Ds wr (hsl7 wr (Below.refl _ _)) (by rw [HDl.out];simp) (by rw [HDl.out];omega) HD16.out ⟨fun W hb k id dd hi hd=>hdg.out sb mo _ W (HI.out.bel.trans (hb.mono HI.out.bel.size)) (HI.out.st.later hb) k id dd hi hd⟩)
      have hl7:((List.range (N+1)).map X).length=N+1:=by simp
      rw [hl7] at hro;have HSL7:=Bx.mk hsl7;have HSLw:=Bx.mk hslw;have HsR:=Bx.mk hsR;have hkp:=Bx.mk (HP7.out.far HI.out.keeps (HFw.out _ Hkp.out));have hd1000:Bx (Ds.length≤1000):=⟨by rw [HDl.out];omega⟩
      clear hown hsl7 hslw hsR hl7 hlt hk2;go_wp2_with fail;refine hro.out.mono ?_;rintro _ w11 ⟨v11,rfl,own11,hb11⟩;obtain ⟨aS,cS,rfl,-,hsS⟩:=own11.form;have hsd:=Bx.mk (zHP aS aR cS cR Ds hd1000.out w11 hsS (HsR.out.below hb11));rw [HDl.out] at hsd ⊢;have HC11:=Bx.mk hb11;clear own11 hsS hb11 hro HsR;go_wp2_with fail;refine hsd.out.mono ?_;rintro _ w12 ⟨rfl,hb12⟩;have HC12:=Bx.mk (HC11.out.trans (hb12.mono HC11.out.size));have kp12:=hkp.out.later HC12.out;have hB12:=fun W (hb:Below w12.heap.size w12 W)=>HC12.out.trans (hb.mono HC12.out.size);have q0:=Bx.mk fun dk osk=>Calls.regrown_of (hce.out sb mo _ (some ⟨g7,0,none⟩) cap7 (grow (redrawn w12 dk) osk) (HI.out.st.later (hB12 _ (below_regrown w12 dk osk))) (HSL7.out _ (hB12 _ (below_regrown w12 dk osk))));have q1:=Bx.mk fun dk osk=>Calls.regrown_of (hrc.out (some ⟨gw,0,none⟩) cw (grow (redrawn w12 dk) osk) (HSLw.out _ (hB12 _ (below_regrown w12 dk osk))));have q2:=Bx.mk fun dk osk=>Calls.regrown_of ((zG5 D (grow (redrawn w12 dk) osk)).mono fun e w' h=>(⟨h.1,h.2 ▸ Below.refl _ _⟩:e = .returned (.int .i64 (lvV D))∧Below _ _ w'));have hv:lvV D=((N+1:Nat):Int):=by unfold lvV;rw [if_pos (by rw [HD.out];omega),HD.out];omega
      rw [hv] at q2;have q3:=Bx.mk fun dk osk=>Calls.regrown_of ((zG5 kk (grow (redrawn w12 dk) osk)).mono fun e w' h=>(⟨h.1,h.2 ▸ Below.refl _ _⟩:e = .returned (.int .i64 (lvV kk))∧Below _ _ w'));have q4:=Bx.mk fun dk osk=>Calls.regrown_of ((zHK kk (grow (redrawn w12 dk) osk)).mono fun e w' h=>(⟨h.1,h.2 ▸ Below.refl _ _⟩:e = .returned (.int .i64 (lvV kk))∧Below _ _ w'));have q5:=Bx.mk fun dk osk=>Calls.regrown_of ((zHQ kk (grow (redrawn w12 dk) osk)).mono fun e w' h=>(⟨h.1,h.2 ▸ Below.refl _ _⟩:e = .returned (.int .i64 (zMB kk))∧Below _ _ w'));have q6:=Bx.mk fun dk osk=>Calls.regrown_of ((zHO kk (grow (redrawn w12 dk) osk)).mono fun e w' h=>(⟨h.1,h.2 ▸ Below.refl _ _⟩:e = .returned (.int .i64 (zMB kk))∧Below _ _ w'));obtain ⟨p0,p1,p2⟩:=kp12.r3;have HBw:=Bx.mk (HI.out.bel.trans (HC12.out.mono HI.out.bel.size));generalize zCH (zx L) N F kk ⟨px,py,pz⟩=cv at *;generalize lvV kk=lv at *;generalize zMB kk=sv at *;clear hb12 kp12 hB12 hv hsd hkp HC11 HC12 HSL7 HSLw hdg hce hrc hag hrd HI HCx HCw;go_upto_region 20 with fail;refine wp_region_quiet_below (by kernel_rfl) (by kernel_rfl) ?_
      repeat (first
       | go_big_quiet_step (first | with_reducible exact q0.out _ _ | with_reducible exact q1.out _ _ | with_reducible exact q2.out _ _ | with_reducible exact q3.out _ _ | with_reducible exact q4.out _ _ | with_reducible exact q5.out _ _ | with_reducible exact q6.out _ _)
       | quiet_step (first | with_reducible exact q0.out _ _ | with_reducible exact q1.out _ _ | with_reducible exact q2.out _ _ | with_reducible exact q3.out _ _ | with_reducible exact q4.out _ _ | with_reducible exact q5.out _ _ | with_reducible exact q6.out _ _))
      refine wpQuiet_nil ?_;rintro _ ⟨⟨dq,osq⟩,rfl⟩;have hbq:=Bx.mk (HBw.out.trans ((below_regrown w12 dq osq).mono HBw.out.size));clear p0 p1 p2 q0 q1 q2 q3 q4 q5 q6;generalize grow (redrawn w12 dq) osq=w13 at *;go_wp2_with fail;go_ret;exact ⟨by simp,hbq.out⟩
 · exact absurd (hfits.out 100000 (Nat.le_refl _)) hft
theorem zHp (kc:List Int) (hk:kc.length=64) (a b c d e f dd kk px py pz:Int) (ha:Option Addr) (hcp:Nat) (xs:List Int) (hcap:xs.length≤hcp) (ta:Option Addr) (tc:Nat) (L:List Mat) (_hL:L.length≤9223372036854775807) (w:World) (hsl:Sl w .i64 ha xs) (hT:SlM w ta L) (hK:zAX w 0 kc∧zAX w 1 kc) (hp:W64 px∧W64 py∧W64 pz) :
 Calls Tryz.prog 3 #[.agg #[a,b,c,d,e,f,.slice ha xs.length hcp],dd,.slice ta L.length tc,kk,.agg #[px,py,pz]] w fun E w'=>E = .returned (.bool true)∧Below w.heap.size w w':=by
 have hb:=fun bi hbi=>zBq a b c d e f dd 100000 ha hcp xs hcap (by omega) w hsl bi hbi
 by_cases h:xs.length≤300∧zEP ⟨⟨a,b,c⟩,⟨d,e,f⟩⟩ xs dd=0
 · by_cases h3:L.length≤300
   · obtain ⟨h1,h2⟩:=h;obtain ⟨n,hn,rfl,hV,hC⟩:=zEQ h2;exact zHo kc hk a b c d e f ha hcp xs h1 n hn (zEi hV h1 hcap) h2 hV hC ta tc L h3 kk px py pz hp w hsl hT hK.2 hK.1
   · exact zGS kc hk a b c d e f dd ha hcp xs.length ta L.length tc kk px py pz w hK.2 true (hb true (decide_eq_true h).symm) (.inr ⟨rfl,by omega⟩)
 · exact zGS kc hk a b c d e f dd ha hcp xs.length ta L.length tc kk px py pz w hK.2 false (hb false (decide_eq_false h).symm) (.inl rfl)
end
section
open Go.RowKit Go.ChangeShapes Go.WideShapes
open Oct
theorem list8 {α:Type} {l:List α} (h:l.length=8) : ∃ a b c d e f g i,l=[a,b,c,d,e,f,g,i]:=by
 match l,h with
 | [a,b,c,d,e,f,g,i],_=>exact ⟨a,b,c,d,e,f,g,i,rfl⟩
section
variable {H:Type} {enc:TypeId × Value→H} {w:World} {base:Nat} {held:Bool}
theorem zIt {S:Type} {t e:TypeId} {k:Nat} (f:S→List Value) (Pk:S→Prop) (ht : Tryz.prog.underlying t=some (.slice e)) (hk : Tryz.prog.cellsOf e=k) (hpos:0<k) (s0:S)
 (R : ∀ {n:Nat} {cs:List Value} {y:DataW H × List MemPlace},cs.length=k→DataW.trod enc Tryz.prog w base (fun _=>true) held n e cs=some y → ∃ s:S,cs=f s∧Pk s)
 {fuel:Nat} {x:DataW H × List MemPlace} {v:Value} (h:DataW.trod enc Tryz.prog w base (fun _=>true) held fuel t [v]=some x) :
 ∃ ha hcp,∃ L:List S,v = .slice ha L.length hcp∧(L.length≤hcp∧hcp≤maxLen) ∧ ∀ (i:Nat) (s:S),L[i]? = some s → ∃ b off,ha=some ⟨b,off,none⟩∧(∀ j u,(f s)[j]? = some u→w.cell? ⟨b,off+i * k+j,none⟩=some u)∧Pk s:=by
 rcases Go.Deep.open_slice ht h with ⟨h1,_⟩ | ⟨a,len,cap,m,n,D,Pl,h1,_,hl,hcm,hm,_,hi⟩
 · simp only [List.cons.injEq,and_true] at h1;exact ⟨none,0,[],h1,⟨Nat.le_refl _,Nat.zero_le _⟩,fun i s h=>by simp at h⟩
 · simp only [List.cons.injEq,and_true] at h1;simp only [if_true] at hm;subst hm
   have key : ∀ i,i<len → ∃ s:S,(f s).length=k∧(∀ j u,(f s)[j]? = some u→w.cell? (a.add (i * k+j))=some u)∧Pk s:=by
    intro i hil;obtain ⟨cs,hcs,ht'⟩:=hi i (by omega)
    rw [hk] at hcs;obtain ⟨_,hlen,hat⟩:=World.cells?_some hcs;obtain ⟨s,rfl,hP⟩:=R hlen ht';refine ⟨s,hlen,fun j u hu=>?_,hP⟩;have hj:=(List.getElem?_eq_some_iff.1 hu).1;have:=hat j (by omega)
    rw [Go.Deep.add_add] at this;rw [this];simpa [List.getD] using hu
   have hf : ∃ g:Nat→S,∀ i,i<len→(f (g i)).length=k∧(∀ j u,(f (g i))[j]? = some u→w.cell? (a.add (i * k+j))=some u)∧Pk (g i) :=
    ⟨fun i=>if h:i<len then (key i h).choose else s0,fun i h=>by simp only [dif_pos h];exact (key i h).choose_spec⟩
   obtain ⟨g,hf⟩:=hf;refine ⟨some a,m,(List.range len).map g,by simpa using h1,⟨by simpa using hl,hcm⟩,fun i s he=>?_⟩
   rw [List.getElem?_map] at he
   have hil:i<len:=by
    rcases Nat.lt_or_ge i len with h | h
    · exact h
    · rw [List.getElem?_eq_none (by simpa using h)] at he;cases he
   rw [List.getElem?_range hil] at he;simp only [Option.map_some,Option.some.injEq] at he;subst he;obtain ⟨hlen,hc,hP⟩:=hf i hil;obtain ⟨b,off,spot⟩:=a
   have hspot:spot=none:=by
    obtain ⟨hlen0,hc0,-⟩:=hf 0 (by omega)
    have h0:=hc0 0 _ (List.getElem?_eq_getElem (by omega))
    have h1:=World.cell?_spot h0;rw [Nat.zero_mul] at h1;exact h1
   subst hspot;have ha : ∀ j,(⟨b,off,none⟩:Addr).add j=⟨b,off+j,none⟩:=fun j=>by unfold Addr.add;split <;> simp_all
   refine ⟨b,off,rfl,fun j u hu=>?_,hP⟩;have:=hc j u hu;rw [ha] at this;rw [Nat.add_assoc];exact this
theorem zNY {P:Program} {spare:Nat→Bool} {t:TypeId} {f0 f1 f2 f3 f4 f5:Field} {fuel:Nat} {cs:List Value} {x:DataW H × List MemPlace} (ht:P.underlying t=some (.struct #[f0,f1,f2,f3,f4,f5])) (h:DataW.trod enc P w base spare held fuel t cs=some x) :
 ∃ y0 y1 y2 y3 y4 y5 n, DataW.trod enc P w base spare held n f0.type ((cs.drop f0.offset).take (P.cellsOf f0.type)) = some y0 ∧ DataW.trod enc P w base spare held n f1.type ((cs.drop f1.offset).take (P.cellsOf f1.type)) = some y1 ∧
   DataW.trod enc P w base spare held n f2.type ((cs.drop f2.offset).take (P.cellsOf f2.type))=some y2∧DataW.trod enc P w base spare held n f3.type ((cs.drop f3.offset).take (P.cellsOf f3.type))=some y3 ∧
   DataW.trod enc P w base spare held n f4.type ((cs.drop f4.offset).take (P.cellsOf f4.type))=some y4∧DataW.trod enc P w base spare held n f5.type ((cs.drop f5.offset).take (P.cellsOf f5.type))=some y5:=by
 obtain ⟨xs,n,_,rfl,hl,hlen,hf⟩:=DataW.trod_struct ht h
 match xs,hlen with
 | [y0,y1,y2,y3,y4,y5],_=>exact ⟨y0,y1,y2,y3,y4,y5,n,by simpa using hf 0 f0 rfl,by simpa using hf 1 f1 rfl,by simpa using hf 2 f2 rfl,by simpa using hf 3 f3 rfl,by simpa using hf 4 f4 rfl,by simpa using hf 5 f5 rfl⟩
theorem zNQ {spare:Nat→Bool} {fuel:Nat} {x:DataW H × List MemPlace} {v:Value} (h:DataW.trod enc Tryz.prog w base spare held fuel 4 [v]=some x) : ∃ b,v = .bool b:=by
 obtain ⟨b,h1,_⟩:=DataW.trod_bool Tryz.underlying4 h;simp only [List.cons.injEq,and_true] at h1;exact ⟨b,h1⟩
theorem zNX {spare:Nat→Bool} {fuel:Nat} {x:DataW H × List MemPlace} {v:Value} (h:DataW.trod enc Tryz.prog w base spare held fuel 9 [v]=some x) : ∃ s,v = .string s:=by
 obtain ⟨s,h1,_⟩:=DataW.trod_string Tryz.underlying9 h;simp only [List.cons.injEq,and_true] at h1;exact ⟨s,h1⟩
theorem zNT {spare:Nat→Bool} {fuel:Nat} {x:DataW H × List MemPlace} {v:Value} (h:DataW.trod enc Tryz.prog w base spare held fuel 3 [v]=some x) : ∃ n:Int,v = .int .i64 n:=by
 obtain ⟨n,h1,_⟩:=DataW.trod_int Tryz.underlying3 h;simp only [List.cons.injEq,and_true] at h1;exact ⟨n,h1⟩
theorem zCQ : Tryz.prog.cellsOf 3=1:=by kernel_rfl
theorem zNV {fuel:Nat} {x:DataW H × List MemPlace} {cs:List Value} (hl:cs.length=8) (h:DataW.trod enc Tryz.prog w base (fun _=>true) held fuel 95 cs=some x) : ∃ m:Mat,cs=m.cells∧True:=by
 obtain ⟨a0,a1,a2,a3,a4,a5,a6,a7,rfl⟩:=list8 hl;obtain ⟨y0,y1,y2,y3,y4,y5,n,h0,h1,h2,h3,h4,h5⟩:=zNY Tryz.underlying95 h;have h0:DataW.trod enc Tryz.prog w base (fun _=>true) held n 9 [a0]=some y0:=by simpa [zCY] using h0
 have h1:DataW.trod enc Tryz.prog w base (fun _=>true) held n 4 [a1]=some y1:=by simpa [zCJ] using h1
 have h2:DataW.trod enc Tryz.prog w base (fun _=>true) held n 4 [a2]=some y2:=by simpa [zCJ] using h2
 have h3:DataW.trod enc Tryz.prog w base (fun _=>true) held n 4 [a3]=some y3:=by simpa [zCJ] using h3
 have h4:DataW.trod enc Tryz.prog w base (fun _=>true) held n 3 [a4]=some y4:=by simpa [zCQ] using h4
 have h5:DataW.trod enc Tryz.prog w base (fun _=>true) held n 93 [a5,a6,a7]=some y5:=by simpa [zCL] using h5
 obtain ⟨s,rfl⟩:=zNX h0;obtain ⟨b1,rfl⟩:=zNQ h1;obtain ⟨b2,rfl⟩:=zNQ h2;obtain ⟨b3,rfl⟩:=zNQ h3;obtain ⟨fd,rfl⟩:=zNT h4;obtain ⟨z0,z1,z2,m,-,g0,g1,g2⟩:=trod_array3 Tryz.underlying93 zCQ h5;obtain ⟨e0,rfl⟩:=zNT g0;obtain ⟨e1,rfl⟩:=zNT g1;obtain ⟨e2,rfl⟩:=zNT g2;exact ⟨⟨s,b1,b2,b3,fd,e0,e1,e2⟩,rfl,trivial⟩
theorem zIr {r:Reach} {b0:Nat} {v:Value} {d:DataW H} {p:List MemPlace} (hv:Value.okWide Tryz.prog w r b0 29 v) (h:DataW.Trod enc Tryz.prog w base (fun _=>true) held 29 v d p) :
 ∃ ha hcp,∃ L:List Mat,v = .slice ha L.length hcp∧SlM w ha L∧L.length≤hcp∧hcp≤maxLen:=by
 obtain ⟨a,n,cap,rfl⟩:=okWide_slice Tryz.underlying29 hv;obtain ⟨fuel,hf⟩:=h;obtain ⟨ha,hcp,L,e1,e2,e3⟩:=zIt (S:=Mat) Mat.cells (fun _=>True) Tryz.underlying29 zCT (by omega) ⟨ByteArray.empty,false,false,false,0,0,0,0⟩ (fun hl hy=>zNV hl hy) (by simpa [Value.cells] using hf)
 refine ⟨ha,hcp,L,e1,fun i m hm=>?_,e2⟩;obtain ⟨b,off,rfl,hj,-⟩:=e3 i m hm;exact ⟨b,off,rfl,hj⟩
end
theorem zN5 {n:Int} (h:(Lit.int .i64 n).wf=true):W64 n:=by
 simp [Lit.wf,IntKind.min,IntKind.max,IntKind.bits,IntKind.signed] at h;unfold W64;omega
section
variable {H:Type} {enc:TypeId × Value→H} {w:World} {base:Nat} {held:Bool}
theorem len_le {n m:Nat} (h:n≤m∧m≤maxLen):n≤9223372036854775807:=by unfold maxLen at h;omega
theorem wf3 {x y z:Int} (hx:W64 x) (hy:W64 y) (hz:W64 z):W64 x∧W64 y∧W64 z:=⟨hx,hy,hz⟩
theorem zIs {r:Reach} {b0:Nat} {v:Value} {d:DataW H} {p:List MemPlace} (hv:Value.okWide Tryz.prog w r b0 23 v) (h:DataW.Trod enc Tryz.prog w base (fun _=>true) held 23 v d p) :
 ∃ x y z:Int,v = .agg #[x,y,z]∧W64 x∧W64 y∧W64 z:=by
 obtain ⟨cs,rfl,hsz⟩:=okWide_struct Tryz.underlying23 hv;obtain ⟨l⟩:=cs;have hl:l.length=3:=by rw [zCX] at hsz;exact hsz
 obtain ⟨fuel,hf⟩:=h;have hf:DataW.trod enc Tryz.prog w base (fun _=>true) held fuel 23 l=some (d,p):=by simpa [Value.cells] using hf
 match l,hl with
 | [c0, c1, c2], _ =>
   obtain ⟨y0,y1,y2,m,_,_,h0,h1,h2⟩:=Go.Deep.trod_struct3 Tryz.underlying23 hf;have h0:DataW.trod enc Tryz.prog w base (fun _=>true) held m 3 [c0]=some y0:=by simpa [zCR] using h0
   have h1:DataW.trod enc Tryz.prog w base (fun _=>true) held m 3 [c1]=some y1:=by simpa [zCR] using h1
   have h2:DataW.trod enc Tryz.prog w base (fun _=>true) held m 3 [c2]=some y2:=by simpa [zCR] using h2
   obtain ⟨x,e0,_,w0⟩:=DataW.trod_int Tryz.underlying3 h0;obtain ⟨y,e1,_,w1⟩:=DataW.trod_int Tryz.underlying3 h1;obtain ⟨z,e2,_,w2⟩:=DataW.trod_int Tryz.underlying3 h2;simp only [List.cons.injEq,and_true] at e0 e1 e2;subst e0 e1 e2;exact ⟨x,y,z,rfl,zN5 w0,zN5 w1,zN5 w2⟩
end
end
end Go.Proofs.YtgnfgblkpnfcnaaGreatDoor
