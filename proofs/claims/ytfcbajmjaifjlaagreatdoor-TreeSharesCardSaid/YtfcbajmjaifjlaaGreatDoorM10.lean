/- Paste, Lines, Geo, Crop, Crop2: joined by program, for one claim. -/
import Derived.Test.YtfcbajmjaifjlaaGreatDoorM9
import Derived.Lib.SliceRun
set_option maxHeartbeats 2000000
set_option maxRecDepth 100000
set_option linter.unusedVariables false
set_option linter.unusedSimpArgs false
namespace Go.Proofs.YtfcbajmjaifjlaaGreatDoor
section
open Go.RowKit Go.Sort
theorem zCu (a:Option Addr) (cap:Nat) (xs:List Int) (w:World) (hl:xs.length≤100000000) (h:Sl w .i64 a xs) :
 Calls Tryz.prog 137 #[.slice a xs.length cap] w fun e w' => ∃ v,e = .returned v∧Own w' w.heap.size 3 .i64 v xs∧Below w.heap.size w w':=by
 have heq:=fun (W:World)=>Lib.run_eql_slice_nil (P:=Tryz.prog) W 26 3 a xs.length cap 0 0 Tryz.underlying26;generalize hn:xs.length=n at *;have Hn:=Bx.mk hn;cases a with
 | none =>
   have hnil:xs=[]:=by
    cases xs with
    | nil=>rfl
    | cons x l=>obtain ⟨b,off,h0,_⟩:=h 0 x rfl;cases h0
   have Hnil:=Bx.mk hnil;clear hnil hn h;go_enter Tryz.func137,Tryz.ntmps137;go_wp2;go_ret;exact ⟨_,rfl,by rw [Hnil.out];exact Own.nil _ _ _ _,Below.refl _ _⟩
 | some ad =>
   clear hn;have h0:Own (w.alloc (.cells #[] 3)) w.heap.size 3 .i64 (.slice (some ⟨w.heap.size,0,none⟩) 0 0) []:=Own.lit w _ _ _ #[] [] 0 (Nat.le_refl _) (by simp [maxLen]) rfl rfl
   have h1:=h.below ((Below.refl w.heap.size w).alloc (Nat.le_refl _) (.cells #[] 3));go_enter Tryz.func137,Tryz.ntmps137
   go_wp2_with (first
    | (at_builtin
       refine zAx rfl _ _ 26 rfl 3 .i64 (.int .i64 0) 8 (by omega) Tryz.underlying26 (by kernel_rfl) rfl w.heap.size _ [] rfl h0 xs _ _ cap rfl Hn.out.symm h1 (by have:=Hn.out;simp;omega) (zb (Nat.le_refl _) _) ?_
       intro v5 w5 hown5 hg5 _))
   go_ret;exact ⟨_,rfl,by simpa using hown5,((Below.refl _ _).alloc (Nat.le_refl _) _).grown hg5 (zb (Nat.le_refl _) _) (fun g hg=>(h0.lt g hg).1)⟩
theorem Own.raw {w:World} {B g n cap:Nat} {e:TypeId} {k:IntKind} {xs:List Int} (h:Own w B e k (.slice (some ⟨g,0,none⟩) n cap) xs) :
 ∃ cur:List Value,w.heap[g]? = some (.cells cur.toArray e (0,0))∧cur.length=cap∧cur.take n=xs.map (Value.int k)∧n≤cap∧cap≤maxLen∧B≤g∧n=xs.length:=by
 obtain ⟨hl,h⟩:=h;rcases h with ⟨h,_⟩ | ⟨g',cap',cur,h1,h2,h3,h4,h5,h6,h7⟩
 · cases h
 · injection h1 with e1 e2 e3;injection e1 with e1;injection e1 with e1;subst e1 e2 e3;refine ⟨cur.toList,by simpa using h3,by simpa using h6,by simpa using h7,h4,h5,h2,rfl⟩
theorem Own.mk' {w:World} {B g n cap:Nat} {e:TypeId} {k:IntKind} {xs:List Int} {cur:List Value} (h1:w.heap[g]? = some (.cells cur.toArray e (0,0))) (h2:cur.length=cap) (h3:cur.take n=xs.map (Value.int k)) (h4:n≤cap) (h5:cap≤maxLen) (h6:B≤g) (h7:n=xs.length) :
 Own w B e k (.slice (some ⟨g,0,none⟩) n cap) xs:=by
 subst h7;exact ⟨by simp,.inr ⟨g,cap,cur.toArray,rfl,h6,h1,h4,h5,by simp [h2],by simpa using h3⟩⟩
def over (ys:List Int) (k:Nat) (cs:List Int):List Int:=splice ys k cs
theorem zBG {ys cs:List Int} {k:Nat} (h:k+cs.length≤ys.length):(over ys k cs).length=ys.length:=length_splice ys k cs h
theorem zHo (cur:List Value) (n:Nat) (ys cs:List Int) (k:Nat) (h:cur.take n=ys.map (Value.int .i64)) (hn:n=ys.length) (hk:k+cs.length≤n) :
 (splice cur k (cs.map (Value.int .i64))).take n=(over ys k cs).map (Value.int .i64):=by
 have hcl:n≤cur.length:=by
  have:=congrArg List.length h;rw [List.length_take,List.length_map] at this;omega
 have hc:cur=ys.map (Value.int .i64)++cur.drop n:=by rw [←h,List.take_append_drop]
 have hyl:(ys.map (Value.int .i64)).length=n:=by simp [hn]
 unfold over splice;apply List.ext_getElem?;intro i;by_cases hi:i<n
 · rw [List.getElem?_take,if_pos hi];simp only [List.map_append,List.map_take,List.map_drop,List.getElem?_append,List.length_take,List.length_map,List.getElem?_take,List.getElem?_drop]
   have e1 : ∀ j,j<n→cur[j]? = (ys.map (Value.int .i64))[j]? := fun j hj=>by
    rw [←h,List.getElem?_take,if_pos hj]
   have m1:min k cur.length=k:=by omega
   have m2:min k ys.length=k:=by omega
   rw [m1,m2];split
   · exact e1 i hi
   · split
     · rfl
     · rw [e1 _ (by omega)]
 · rw [List.getElem?_take,if_neg hi];symm;rw [List.getElem?_eq_none];simp;omega
theorem zEX {P:Program} {ops:Array Oper} {o:Oper} {a:Act} {w:World} {K:Act→World→Prop} {Q:Exit→Act→World→Prop} {E:Prop} (hgd:o.guard=none) (d s:Operand) (dT sT:TypeId)
 (ho:o.op = .call { callee:=.builtin .copy,args:=#[d,s],argTypes:=#[dT,sT] }) (elem:TypeId) (hu:P.underlying dT=some (.slice elem)) (hsz:(P.info? elem).map (·.size)=some 1)
 (g off dLen dCap:Nat) (ad:Addr) (sLen sCap:Nat) (hd:a.eval d = .slice (some ⟨g,off,none⟩) dLen dCap) (hs:a.eval s = .slice (some ad) sLen sCap)
 (cur:List Value) (t:TypeId) (hg:w.heap[g]? = some (.cells cur.toArray t (0,0))) (cs:List Value) (hn:cs.length=Nat.min sLen dLen)
 (hsrc : ∀ j v,cs[j]? = some v→w.cell? (ad.add j)=some v) (hfit:off+cs.length≤cur.length) (h1 : ∀ v∈cs,v.oneCell'=true)
 (h : ∀ w',Hid (w'.heap[g]? = some (.cells (splice cur off cs).toArray t (0,0)))→Hid (w.grownBy w' (some g))→K (a.put o.dst (goInt cs.length)) w') :
 if Region.wanted o (yielded ops a.tmps)=true then Oper.wp P o a w K Q else E:=by
 have hw:Region.wanted o (yielded ops a.tmps)=true:=by simp [Region.wanted,hgd]
 rw [if_pos hw];have hrun:=run_copy_row (P:=P) w dT sT o.type elem g off dLen dCap ad sLen sCap cur.toArray t cs hu hsz hg hn hsrc (by simpa using hfit) h1
 unfold Oper.wp;simp [execOp,ho,resolve,invoke,builtin,hd,hs,hrun,Result.andThen];exact h _ (show _=_ by simpa [splice] using setRow_heap w g _ _ t _ hg) ⟨rfl,rfl,rfl,by simp [World.setRow],fun k hk hne=>setRow_other w g k _ (fun e=>hne (by rw [e]))⟩
theorem zND {xs:List Int} {from_ n k:Nat} (hle:from_+n≤xs.length):(((xs.drop from_).take n).map (Value.int .i64)).length=Nat.min (((from_:Int)+(n:Int)).toNat - from_) (((k:Int)+(n:Int)).toNat - k):=by
 have e1:((from_:Int)+(n:Int)).toNat - from_=n:=by omega
 have e2:((k:Int)+(n:Int)).toNat - k=n:=by omega
 rw [e1,e2];simp only [List.length_map,List.length_take,List.length_drop,Nat.min_def];split <;> split <;> omega
theorem zNA {w:World} {b off from_ n j:Nat} {v:Value} {xs:List Int} (h:Sl w .i64 (some ⟨b,off,none⟩) xs) (hj:(((xs.drop from_).take n).map (Value.int .i64))[j]? = some v):w.cell? ((⟨b,off+from_,none⟩:Addr).add j)=some v:=by
 rw [List.getElem?_map,Option.map_eq_some_iff] at hj;obtain ⟨x,hx,rfl⟩:=hj;rw [List.getElem?_take] at hx;split at hx
 · rw [List.getElem?_drop] at hx;obtain ⟨b',off',h1,h2⟩:=h _ _ hx;injection h1 with h1;injection h1 with e1 e2;subst e1 e2;have e:(⟨b,off+from_,none⟩:Addr).add j=⟨b,off+(from_+j),none⟩:=by unfold Addr.add;split <;> simp_all [Nat.add_assoc]
   rw [e];exact h2
 · cases hx
theorem zNE {xs:List Int} {from_ n k N cap:Nat} {cur:List Value} (_hle:from_+n≤xs.length) (h:cur.length=cap) (hk:k+n≤N) (hN:N≤cap):k+(((xs.drop from_).take n).map (Value.int .i64)).length≤cur.length:=by
 simp only [List.length_map,List.length_take,List.length_drop];omega
theorem zNB {w:World} {B g N cap k n from_:Nat} {cur:List Value} {ys xs:List Int} (h:Hid (w.heap[g]? = some (.cells (splice cur k (((xs.drop from_).take n).map (Value.int .i64))).toArray 3 (0,0)))) (h2:Bx (cur.length=cap))
 (h3:Bx (cur.take N=ys.map (Value.int .i64))) (h4:Bx (N≤cap)) (h5:cap≤maxLen) (h6:B≤g) (h7:N=ys.length) (hle:from_+n≤xs.length) (hkn:k+n≤N) :
 Own w B 3 .i64 (.slice (some ⟨g,0,none⟩) N cap) (over ys k ((xs.drop from_).take n)):=by
 have hn:((xs.drop from_).take n).length=n:=by simp only [List.length_take,List.length_drop];omega
 have:=h4.out;refine Own.mk' h ?_ (zHo cur N ys _ k h3.out h7 (by omega)) h4.out h5 h6 (by rw [zBG (by omega)];exact h7)
 rw [length_splice _ _ _ (by rw [List.length_map,h2.out];omega),h2.out]
theorem zJM {w w1 w2:World} {g:Nat} (hB:Below w.heap.size w w1) (h:w1.drew.grownBy w2 (some g)):w.grownBy w2 (some g) :=
 ⟨h.os.trans hB.os,h.tape.trans hB.tape,h.output.trans hB.output,Nat.le_trans hB.size h.size,fun k hk hne=>(h.block k (Nat.lt_of_lt_of_le hk hB.size) hne).trans (hB.block k hk)⟩
theorem zNC {xs:List Int} : ∀ v∈xs.map (Value.int .i64),v.oneCell'=true:=by
 intro v hv;obtain ⟨x,_,rfl⟩:=List.mem_map.1 hv;rfl
theorem zLH (ph pb g k n N cap:Nat) (px py pz a b c d e f:Int) (ha:Option Addr) (hcp:Nat) (xs ys:List Int) (hS:Small ⟨⟨a,b,c⟩,⟨d,e,f⟩⟩ 1048575) (B from_:Nat) (w:World)
 (hfrom:zT ⟨⟨a,b,c⟩,⟨d,e,f⟩⟩ ⟨px,py,pz⟩=(from_:Int)) (hn:1≤n) (hle:from_+n≤xs.length) (hkn:k+n≤N) (hN:N≤4194304) (hxl:xs.length≤4194304) (hcap:xs.length≤hcp)
 (kh:Bk w ph #[a,b,c,d,e,f,.slice ha xs.length hcp] 28)
 (kb:Bk w pb #[.slice (some ⟨g,0,none⟩) N cap] 26) (hx:Sl w .i64 ha xs) (ho:Own w B 3 .i64 (.slice (some ⟨g,0,none⟩) N cap) ys) (_hgh:g ≠ ph) (_hgb:g ≠ pb) :
 Calls Tryz.prog 127 #[(k:Int),.agg #[px,py,pz],(n:Int),.pointer (some ⟨ph,0,none⟩),.pointer (some ⟨pb,0,none⟩)] w fun e w' =>
  e = .returned (.tuple #[])∧Own w' B 3 .i64 (.slice (some ⟨g,0,none⟩) N cap) (over ys k ((xs.drop from_).take n))∧w.grownBy w' (some g):=by
 have hind:=Bx.mk fun W=>zCH a b c d e f px py pz hS W;rw [hfrom] at hind;clear hfrom hS;have kh1:=kh.alloc (t:=28) (.cells #[px,py,pz] 23);obtain ⟨ch0,ch1,ch2,ch3,ch4,ch5,ch6⟩:=kh1.c7;go_enter Tryz.func127,Tryz.ntmps127;go_wp2_with fail;generalize hW:World.alloc w _=W;have hB:=bl1 hW;clear hW kh1 ch0 ch1 ch2 ch3 ch4 ch5 ch6;refine (hind.out _).mono ?_;rintro e' w1 ⟨rfl,hb⟩;replace hB:=hB.trans (hb.mono hB.size);clear hb hind;have kh2:=kh.later hB;have kb2:=kb.later hB;have ho2:=ho.below hB;have hx2:=hx.below hB;clear kh kb ho hx;obtain ⟨cur,r1,r2,r3,r4,r5,r6,r7⟩:=ho2.raw
 obtain ⟨hb0,ho0,rfl⟩ : ∃ hb0 ho0,ha=some ⟨hb0,ho0,none⟩:=by
  obtain ⟨b,off,h0,_⟩:=hx2 0 (xs[0]'(by omega)) (by simp)
  exact ⟨b,off,h0⟩
 obtain ⟨ch0,ch1,ch2,ch3,ch4,ch5,ch6⟩:=kh2.c7;have cb0:=kb2.cell 0 rfl;have Kh:=Bx.mk kh2;have Kb:=Bx.mk kb2;have Ho:=Bx.mk ho2;have Hx:=Bx.mk hx2;clear kh2 kb2 ho2 hx2;have i1:(0:Int)≤(k:Int):=by omega
 have i5:=IntWalk.i64_in ((k:Int)+(n:Int)) (by omega)
 have i6:=IntWalk.i64_in ((from_:Int)+(n:Int)) (by omega)
 have i2:(k:Int)≤(k:Int)+(n:Int):=by omega
 have i3:(k:Int)+(n:Int)≤(cap:Int):=by omega
 have j1:(0:Int)≤(from_:Int):=by omega
 have j2:(from_:Int)≤(from_:Int)+(n:Int):=by omega
 have j3:(from_:Int)+(n:Int)≤(hcp:Int):=by omega
 have hc1 : ¬cap=k:=by omega
 have hc2 : ¬hcp=from_:=by omega
 have R1:=Bx.mk r1;have R2:=Bx.mk r2;have R3:=Bx.mk r3;have R4:=Bx.mk r4;clear r1 r2 r3 r4;go_wp2_with fail
 go_region_law ((refine zEX rfl (.tmp 18) (.tmp 25) 26 26 rfl 3 Tryz.underlying26 (by kernel_rfl) g k (((k:Int)+(n:Int)).toNat - k) (cap - k) ⟨hb0,ho0+from_,none⟩ (((from_:Int)+(n:Int)).toNat - from_) (hcp - from_) (by simp [Act.eval,Act.put]) (by simp [Act.eval,Act.put]) cur 3 R1.out (((xs.drop from_).take n).map (Value.int .i64)) (zND hle) (fun j v hj=>zNA Hx.out hj) (zNE hle R2.out hkn R4.out) zNC ?_;intro w2 hg2 hb2))
 all_goals (go_wp2_with fail;go_end0;exact ⟨rfl,zNB hg2 R2 R3 R4 r5 r6 r7 hle hkn,zJM hB hb2.out⟩)
theorem Bk.grown {w w':World} {b g:Nat} {vs:Array Value} {t:TypeId} (h:Bk w b vs t) (hg:w.grownBy w' (some g)) (hne:b ≠ g):Bk w' b vs t:=by
 have hlt:b<w.heap.size:=(Array.getElem?_eq_some_iff.1 h).1;exact (hg.block b hlt (fun e=>hne (by injection e))).trans h
theorem zBL {w w1 w2:World} {g:Nat} (h:w.grownBy w1 (some g)) (hb:Below w1.heap.size w1 w2):w.grownBy w2 (some g) :=
 ⟨hb.os.trans h.os,hb.tape.trans h.tape,hb.output.trans h.output,Nat.le_trans h.size hb.size,fun k hk hne=>(hb.block k (Nat.lt_of_lt_of_le hk h.size)).trans (h.block k hk hne)⟩
theorem zBK {w w1 w2:World} {g:Nat} (h:w.grownBy w1 (some g)) (hb:w1.grownBy w2 (some g)):w.grownBy w2 (some g) :=
 ⟨hb.os.trans h.os,hb.tape.trans h.tape,hb.output.trans h.output,Nat.le_trans h.size hb.size,fun k hk hne=>(hb.block k (Nat.lt_of_lt_of_le hk h.size) hne).trans (h.block k hk hne)⟩
theorem zHv (ph pb g:Nat) (a b c d e f a2 b2 c2 d2 e2 f2 la lb lc ld le lf:Int) (cs:Value) (hS:Small ⟨⟨a,b,c⟩,⟨d,e,f⟩⟩ 1048575)
 (hM:zD ⟨⟨a,b,c⟩,⟨d,e,f⟩⟩ ⟨⟨a2,b2,c2⟩,⟨d2,e2,f2⟩⟩=⟨⟨la,lb,lc⟩,⟨ld,le,lf⟩⟩) (hbd : -1048576≤la ∧ -1048576≤lb ∧ -1048576≤lc∧ld≤1048576∧le≤1048576∧lf≤1048576∧la≤ld∧lb≤le∧lc≤lf)
 (I:Int→Int→World→Prop) (w:World) (hg:g<w.heap.size) (hI : ∀ z y W W',I z y W→Below W.heap.size W W'→I z y W') (h0:I lc lb w)
 (hcall : ∀ z y W,lc≤z→z<lf→lb≤y→y<le→I z y W→w.grownBy W (some g)→Calls Tryz.prog 127 #[.int .i64 (zT ⟨⟨a,b,c⟩,⟨d,e,f⟩⟩ ⟨la,y,z⟩),.agg #[la,y,z],.int .i64 (ld - la),.pointer (some ⟨ph,0,none⟩),.pointer (some ⟨pb,0,none⟩)] W fun e' W'=>e' = .returned (.tuple #[])∧I z (y+1) W'∧W.grownBy W' (some g))
 (hnext : ∀ z W,lc≤z→z<lf→I z le W→I (z+1) lb W) :
 Calls Tryz.prog 114 #[.agg #[a,b,c,d,e,f,cs],.agg #[a2,b2,c2,d2,e2,f2],.func (.func 127) #[] #[.pointer (some ⟨ph,0,none⟩),.pointer (some ⟨pb,0,none⟩)]] w fun e' w'=>e' = .returned (.tuple #[])∧I lf lb w'∧w.grownBy w' (some g):=by
 have HI:=Bx.mk hI;have H0:=Bx.mk h0;have Hc:=Bx.mk hcall;have Hn:=Bx.mk hnext;have hmeet:=Bx.mk fun W=>zA1 a b c d e f a2 b2 c2 d2 e2 f2 W;rw [hM] at hmeet;have hind:=Bx.mk fun y z W=>zCH a b c d e f la y z hS W;clear hI h0 hcall hnext hM hS;go_enter Tryz.func114,Tryz.ntmps114;go_wp2_with fail;generalize hW:World.alloc (World.alloc w _) _=W;have hSz:=sz2 hW;have hB:=bl2 hW;have kg:Bk W (w.heap.size) #[a,b,c,d,e,f,cs] 28:=bk1 hW;have kb:Bk W (w.heap.size+1) #[a2,b2,c2,d2,e2,f2] 25:=bk0 hW;clear hW;obtain ⟨cg0,cg1,cg2,cg3,cg4,cg5,cg6⟩:=kg.c7;obtain ⟨cb0,cb1,cb2,cb3,cb4,cb5⟩:=kb.c6;go_wp2_with fail;refine (hmeet.out _).mono ?_;rintro e' w1 ⟨rfl,hb⟩;clear hmeet;clear cg0 cg1 cg2 cg3 cg4 cg5 cg6 cb0 cb1 cb2 cb3 cb4 cb5;replace hB:=hB.trans (hb.mono hB.size);replace kg:=kg.later hb;replace kb:=kb.later hb;replace hSz:=Nat.le_trans hSz hb.size;clear hb;obtain ⟨gm,hgm⟩ : ∃ gm,gm=w1.heap.size:=⟨_,rfl⟩;clear kb;have b1:=hbd.1;go_wp2_with fail;generalize hW2:World.alloc w1 _=W2;have km:Bk W2 gm #[la,lb,lc,ld,le,lf] 25:=by rw [hgm,←hW2];exact zI _ _ _ rfl
 have hb:=bl1 hW2;rw [←hgm];have hgg:g<gm:=by omega
 replace hB:=hB.trans (hb.mono hB.size);replace kg:=kg.later hb;have hG:w.grownBy W2 (some g):=⟨hB.os,hB.tape,hB.output,hB.size,fun k hk _=>hB.block k hk⟩;have hJ:=HI.out _ _ _ _ H0.out hB;clear hW2 hb hB H0 hSz hgm;have Hbd:=Bx.mk hbd;clear hbd b1
 go_loopw [7] (fun i wr => ∃ z:Int,lc≤z∧z≤lf∧i = .int .i64 z∧Bk wr w.heap.size #[a,b,c,d,e,f,cs] 28∧Bk wr gm #[la,lb,lc,ld,le,lf] 25∧I z lb wr∧w.grownBy wr (some g)) (fun i _=>(lf - intOf i).toNat)
 case atStart=>exact ⟨lc,by omega,Hbd.out.2.2.2.2.2.2.2.2,rfl,kg,km,hJ,hG⟩
 case round =>
  clear kg km hJ hG;obtain ⟨z,z1,z2,rfl,kg,km,hJ,hG⟩:=hrel;have hJ':=Bx.mk hJ;have hG':=Bx.mk hG;clear hJ hG;obtain ⟨cm0,cm1,cm2,cm3,cm4,cm5⟩:=km.c6;by_cases hz:z<lf
  · go_wp2_with fail;clear cm0 cm1 cm2 cm3 cm4 cm5;obtain ⟨wo,hwo⟩ : ∃ wo:World,wo=wr:=⟨_,rfl⟩;rw [←hwo] at kg km hJ' hG';have Kgo:=Bx.mk kg;have Kmo:=Bx.mk km;clear kg km
    go_loopw [8] (fun i wr => ∃ y:Int,lb≤y∧y≤le∧i = .int .i64 y∧Bk wr w.heap.size #[a,b,c,d,e,f,cs] 28∧Bk wr gm #[la,lb,lc,ld,le,lf] 25∧I z y wr∧w.grownBy wr (some g)) (fun i _=>(le - intOf i).toNat)
    case atStart=>subst hwo;exact ⟨lb,by omega,Hbd.out.2.2.2.2.2.2.2.1,rfl,Kgo.out,Kmo.out,hJ'.out,hG'.out⟩
    case round =>
     clear Kgo Kmo hJ' hG' hwo;obtain ⟨y,y1,y2,rfl,kg,km,hJ,hG⟩:=hrel;by_cases hy:y<le
     · have hB:=Below.refl wr.heap.size wr;have hSz:=Nat.le_refl wr.heap.size;have hgw:w.heap.size≤wr.heap.size:=hG.size;have hJ':=Bx.mk hJ;have hG':=Bx.mk hG;clear hJ hG;obtain ⟨cm0,cm1,cm2,cm3,cm4,cm5⟩:=km.c6;go_wp2_with fail;generalize hW:World.alloc wr _=W;have hb:=bl1 hW;have kp:Bk W wr.heap.size #[la,y,z] 23:=bk0 hW rfl;clear hW hSz cm0 cm1 cm2 cm3 cm4 cm5;replace hB:=hb;replace kg:=kg.later hb;replace km:=km.later hb;have hSz:=hb.size;have i1:=IntWalk.i64_in (ld - la) (by have:=Hbd.out;omega)
       obtain ⟨cg0,cg1,cg2,cg3,cg4,cg5,cg6⟩:=kg.r7;obtain ⟨cm0,cm1,cm2,cm3,cm4,cm5⟩:=km.r6;obtain ⟨cp0,cp1,cp2⟩:=kp.r3;have q0:=Bx.mk fun dk osk=>Calls.regrown_of (hind.out y z (grow (redrawn W dk) osk));refine zm 13 (by kernel_rfl) (by kernel_rfl) ?_
       simp only [List.take_succ_cons,List.take_zero,List.drop_succ_cons,List.drop_zero]
       repeat (first | go_big_quiet_step ((first | with_reducible exact q0.out _ _)) | quiet_step (first | with_reducible exact q0.out _ _))
       refine wpQuiet_nil ?_;rintro _ ⟨⟨dq,osq⟩,rfl⟩;have hb:=below_regrown W dq osq;replace hB:=hB.trans (hb.mono hB.size);clear cg0 cg1 cg2 cg3 cg4 cg5 cg6;clear cm0 cm1 cm2 cm3 cm4 cm5;clear cp0 cp1 cp2;clear q0;replace kg:=kg.later hb;replace km:=km.later hb;replace kp:=kp.later hb;replace hSz:=Nat.le_trans hSz hb.size;clear hb;generalize grow (redrawn W dq) osq=W1 at *;go_wp2_with fail;refine (Hc.out z y W1 z1 hz y1 hy (HI.out _ _ _ _ hJ'.out hB) (zBL hG'.out hB)).mono ?_;rintro e' w3 ⟨rfl,hJ,hb⟩;replace kg:=kg.grown hb (by omega)
       replace km:=km.grown hb (by omega)
       have hG:=zBK (zBL hG'.out hB) hb;have hJ':=Bx.mk hJ;have Kg:=Bx.mk kg;have Km:=Bx.mk km;have HG:=Bx.mk hG;clear hJ hG kg km hb hG' hB kp;have i2:=IntWalk.i64_in (y+1) (by have:=Hbd.out;omega)
       go_wp2_with fail
       go_roundw
       case rel=>exact ⟨y+1,by omega,by omega,rfl,Kg.out,Km.out,hJ'.out,HG.out⟩
       case measure=>simp [intOf];omega
     · obtain rfl:y=le:=by omega
       have hN:=HI.out _ _ _ _ (Hn.out z wr z1 hz hJ) (Below.refl _ _);have Kg:=Bx.mk kg;have Km:=Bx.mk km;have HN:=Bx.mk hN;have HG:=Bx.mk hG;clear hJ hG kg km hN;have cm:=Km.out;obtain ⟨cm0,cm1,cm2,cm3,cm4,cm5⟩:=cm.c6;clear cm;have i2:=IntWalk.i64_in (z+1) (by have:=Hbd.out;omega)
       go_wp2_with fail
       go_roundw
       case rel=>exact ⟨z+1,by omega,by omega,rfl,Kg.out,Km.out,HN.out,HG.out⟩
       case measure=>simp [intOf];omega
  · obtain rfl:z=lf:=by omega
    go_wp2_with fail
    go_end0
    exact ⟨rfl,hJ'.out,hG'.out⟩
end
section
open Go.Sort
theorem zDG {p:Pt} {b:Box} (h:inB p b=true):atB b (zT b p)=p:=by
 have he:=zt h;have hb:=ze h;have h':=zX.1 h;unfold atB;rw [if_pos hb]
 have hi:zT b p=((p.z - b.lo.z) * (b.hi.y - b.lo.y)+(p.y - b.lo.y)) * (b.hi.x - b.lo.x)+(p.x - b.lo.x):=by
  unfold zT;rw [if_pos h,zc he];rfl
 rw [hi,zc he];simp only [Pt.sub];obtain ⟨px,py,pz⟩:=p;simp only at *
 have e1 : ∀ t sx dx:Int,0≤dx→dx<sx→(t * sx+dx) % sx=dx∧(t * sx+dx) / sx=t:=by
  intro t sx dx h1 h2;constructor
  · rw [Int.add_comm,Int.add_mul_emod_self_right,Int.emod_eq_of_lt h1 h2]
  · rw [Int.add_comm,Int.add_mul_ediv_right _ _ (by omega),Int.ediv_eq_zero_of_lt h1 h2];omega
 have f1:=e1 ((pz - b.lo.z) * (b.hi.y - b.lo.y)+(py - b.lo.y)) (b.hi.x - b.lo.x) (px - b.lo.x) (by omega) (by omega)
 have f2:=e1 (pz - b.lo.z) (b.hi.y - b.lo.y) (py - b.lo.y) (by omega) (by omega)
 rw [f1.1,f1.2,f2.1,f2.2];simp;omega
theorem zFl {b:Box} {x y z j:Int} (h:inB ⟨x,y,z⟩ b=true) (h':inB ⟨x+j,y,z⟩ b=true):zT b ⟨x+j,y,z⟩=zT b ⟨x,y,z⟩+j:=by
 unfold zT;rw [if_pos h,if_pos h'];simp only;omega
theorem zGd {p:Pt} {a b:Box}:inB p (zBQ a b)=true ↔ inB p a=true∧inB p b=true:=by
 simp only [zX,zBQ];omega
theorem zCk {p:Pt} {a b:Box} (h:inB p a=true) (h':inB p b=true):inB p (zD a b)=true∧zD a b=zBQ a b:=by
 have hj:=zGd.2 ⟨h,h'⟩
 have e:zD a b=zBQ a b:=by
  unfold zD;rw [if_neg (by rw [zt hj];decide)]
 exact ⟨by rw [e];exact hj,e⟩
theorem zFh {a b:Box} (h:zG (zD a b)=false):zD a b=zBQ a b:=by
 unfold zD at h ⊢;split
 · rename_i he;rw [if_pos he] at h;exact absurd h (by decide)
 · rfl
def zF (b:Box) (xs:List Int) (p:Pt):Int:=if inB p b=true then xs.getD (zT b p).toNat 0 else 0
def zM (b:Box) (f:Pt→Int):List Int:=(List.range (zU b).toNat).map fun i:Nat=>f (atB b (i:Int))
theorem zP (b:Box) (f:Pt→Int):(zM b f).length=(zU b).toNat:=by simp [zM]
theorem zAF {b:Box} {f:Pt→Int} {i:Nat} (h:i<(zU b).toNat):(zM b f)[i]? = some (f (atB b i)):=by
 unfold zM;rw [List.getElem?_map,List.getElem?_range h];rfl
theorem zHR {b:Box} {i:Nat} (h:i<(zU b).toNat):inB (atB b i) b=true∧zT b (atB b i)=i:=zMs (by omega) (by omega)
theorem zCN {b:Box} {f:Pt→Int} {p:Pt} (h:inB p b=true):zF b (zM b f) p=f p:=by
 have hb:=ze h;unfold zF;rw [if_pos h,List.getD_eq_getElem?_getD,zAF (by omega),Int.toNat_of_nonneg hb.1,zDG h];rfl
theorem zE1 {b:Box} {xs:List Int} (h:xs.length=(zU b).toNat):zM b (zF b xs)=xs:=by
 apply List.ext_getElem?;intro i;by_cases hi:i<(zU b).toNat
 · rw [zAF hi];obtain ⟨h1,h2⟩:=zHR hi;unfold zF;rw [if_pos h1,h2,Int.toNat_natCast,List.getD_eq_getElem?_getD,List.getElem?_eq_getElem (by omega)];rfl
 · rw [List.getElem?_eq_none (by rw [zP];omega),List.getElem?_eq_none (by omega)]
theorem zf {b:Box} {f g:Pt→Int} (h : ∀ p,inB p b=true→f p=g p):zM b f=zM b g:=by
 unfold zM;apply List.map_congr_left;intro i hi;exact h _ (zHR (List.mem_range.1 hi)).1
def zAc (A B:Box) (xs ys:List Int):List Int:=zM A fun p=>if inB p B=true then zF B ys p else zF A xs p
def zBn (A B:Box) (xs ys:List Int) (z y:Int):List Int:=zM A fun p=>if inB p B=true∧(p.z<z∨(p.z=z∧p.y<y)) then zF B ys p else zF A xs p
theorem zDW {A B:Box} {xs ys:List Int} (h:xs.length=(zU A).toNat):zBn A B xs ys (zD A B).lo.z (zD A B).lo.y=xs:=by
 refine Eq.trans (zf fun p hp=>?_) (zE1 h);refine if_neg fun ⟨h1,h2⟩=>?_;have:=zX.1 (zCk hp h1).1;omega
theorem zFU {A B:Box} {xs ys:List Int}:zBn A B xs ys (zD A B).hi.z (zD A B).lo.y=zAc A B xs ys:=by
 refine zf fun p hp=>?_;by_cases h1:inB p B=true
 · have:=zX.1 (zCk hp h1).1;rw [if_pos h1,if_pos ⟨h1,by omega⟩]
 · rw [if_neg h1,if_neg (fun h=>h1 h.1)]
theorem zEH {A B:Box} {xs ys:List Int} {z:Int}:zBn A B xs ys z (zD A B).hi.y=zBn A B xs ys (z+1) (zD A B).lo.y:=by
 refine zf fun p hp=>?_;by_cases h1:inB p B=true
 · have:=zX.1 (zCk hp h1).1;have e:(p.z<z∨p.z=z∧p.y<(zD A B).hi.y) ↔ (p.z<z+1∨p.z=z+1∧p.y<(zD A B).lo.y):=by omega
   simp only [e]
 · rw [if_neg (fun h=>h1 h.1),if_neg (fun h=>h1 h.1)]
theorem zJL {A B:Box} {la lb lc ld le lf z y:Int} (hM:zD A B=⟨⟨la,lb,lc⟩,⟨ld,le,lf⟩⟩) (hz:lc≤z∧z<lf) (hy:lb≤y∧y<le):la<ld ∧ ∀ j,0≤j→j<ld - la→inB ⟨la+j,y,z⟩ A=true∧inB ⟨la+j,y,z⟩ B=true:=by
 have hlt:la<ld:=by
  unfold zD at hM;split at hM
  · simp [Box.zero,Pt.zero] at hM;omega
  · rename_i he;have:=za.1 (by simpa using he)
    rw [hM] at this;exact this.1
 refine ⟨hlt,fun j h1 h2=>?_⟩;have hne:zG (zD A B)=false:=by rw [hM,za];simp only;omega
 rw [zFh hne] at hM;refine zGd.1 ?_;rw [hM,zX];simp only;omega
theorem zFT {A B:Box} {xs ys:List Int} {la lb lc ld le lf z y:Int} {k from_ n:Nat} (hM:zD A B=⟨⟨la,lb,lc⟩,⟨ld,le,lf⟩⟩) (hz:lc≤z∧z<lf) (hy:lb≤y∧y<le)
 (hk:zT A ⟨la,y,z⟩=(k:Int)) (hf:zT B ⟨la,y,z⟩=(from_:Int)) (hn:ld - la=(n:Int)) (hyl:ys.length=(zU B).toNat) :
 1≤n∧from_+n≤ys.length∧k+n≤(zU A).toNat∧over (zBn A B xs ys z y) k ((ys.drop from_).take n)=zBn A B xs ys z (y+1):=by
 obtain ⟨hlt,hrow⟩:=zJL hM hz hy;have hr0:=hrow 0 (by omega) (by omega)
 rw [Int.add_zero] at hr0
 have ka : ∀ j,0≤j→j<(n:Int)→zT A ⟨la+j,y,z⟩=(k:Int)+j:=fun j h1 h2=>by
  rw [zFl hr0.1 (hrow j h1 (by omega)).1,hk]
 have kb : ∀ j,0≤j→j<(n:Int)→zT B ⟨la+j,y,z⟩=(from_:Int)+j:=fun j h1 h2=>by
  rw [zFl hr0.2 (hrow j h1 (by omega)).2,hf]
 have e1:=ze (hrow ((n:Int) - 1) (by omega) (by omega)).1
 have e2:=ze (hrow ((n:Int) - 1) (by omega) (by omega)).2
 rw [ka _ (by omega) (by omega)] at e1
 rw [kb _ (by omega) (by omega)] at e2
 have hfn:from_+n≤ys.length:=by omega
 have hkn:k+n≤(zU A).toNat:=by omega
 refine ⟨by omega,hfn,hkn,?_⟩
 have hcl:((ys.drop from_).take n).length=n:=by simp only [List.length_take,List.length_drop];omega
 have hpl:(zBn A B xs ys z y).length=(zU A).toNat:=zP _ _;apply List.ext_getElem?;intro i;by_cases hi:i<(zU A).toNat
 · obtain ⟨a1,a2⟩:=zHR hi;have hrhs:(zBn A B xs ys z (y+1))[i]? = _:=zAF hi;have hlhs:(zBn A B xs ys z y)[i]? = _:=zAF hi;rw [hrhs];unfold over splice;by_cases hin:k≤i∧i<k+n
   · -- in the row
     have hp:atB A i=⟨la+((i:Int) - k),y,z⟩:=by
      have:=zDG (hrow ((i:Int) - k) (by omega) (by omega)).1
      rw [ka _ (by omega) (by omega)] at this
      rw [show (k:Int)+((i:Int) - k)=i by omega] at this
      exact this
     have hB:=(hrow ((i:Int) - k) (by omega) (by omega)).2
     rw [hp,if_pos ⟨hB,Or.inr ⟨rfl,show y<y+1 by omega⟩⟩]
     unfold zF;rw [if_pos hB,kb _ (by omega) (by omega)]
     have hmin:(List.take k (zBn A B xs ys z y)).length=k:=by rw [List.length_take];omega
     have hik:i - k<((ys.drop from_).take n).length:=by omega
     rw [List.getElem?_append_right (by omega),hmin,List.getElem?_append_left hik,List.getElem?_take,if_pos (by omega),List.getElem?_drop]
     rw [show from_+(i - k)=((from_:Int)+((i:Int) - k)).toNat by omega,List.getD_eq_getElem?_getD,List.getElem?_eq_getElem (by omega)]
     rfl
   · have hl:(List.take k (zBn A B xs ys z y)++(List.take n (List.drop from_ ys)++List.drop (k+(List.take n (List.drop from_ ys)).length) (zBn A B xs ys z y)))[i]? = (zBn A B xs ys z y)[i]? := by
      rw [hcl];by_cases hik:i<k
      · rw [List.getElem?_append_left (by rw [List.length_take];omega),List.getElem?_take,if_pos hik]
      · rw [List.getElem?_append_right (by rw [List.length_take];omega),List.length_take,List.getElem?_append_right (by omega),List.getElem?_drop,hcl]
        congr 1;omega
     rw [hl,hlhs]
     congr 1
     by_cases hB:inB (atB A i) B=true
     · have hm:=zX.1 (zCk a1 hB).1;rw [hM] at hm;simp only at hm
       have hno : ¬((atB A i).z=z∧(atB A i).y=y):=by
        rintro ⟨h1,h2⟩
        have hp:atB A i=⟨la+((atB A i).x - la),y,z⟩:=by
         rw [←h1,←h2,show la+((atB A i).x - la)=(atB A i).x by omega]
        have:=ka ((atB A i).x - la) (by omega) (by omega)
        rw [←hp,a2] at this;omega
       have e:((atB A i).z<z∨(atB A i).z=z∧(atB A i).y<y) ↔ ((atB A i).z<z∨(atB A i).z=z∧(atB A i).y<y+1):=by omega
       simp only [e]
     · rw [if_neg (fun h=>hB h.1),if_neg (fun h=>hB h.1)]
 · rw [List.getElem?_eq_none (by rw [zBG (by omega)];omega),List.getElem?_eq_none (by rw [show (zBn A B xs ys z (y+1)).length=_ from zP _ _];omega)]
end
section
open Go.RowKit Go.Sort
theorem Sl.grown {w w':World} {k:IntKind} {b off g:Nat} {xs:List Int} (h:Sl w k (some ⟨b,off,none⟩) xs) (hg:w.grownBy w' (some g)) (hne:b ≠ g):Sl w' k (some ⟨b,off,none⟩) xs:=by
 intro i x hx;obtain ⟨b',off',e,hc⟩:=h i x hx;refine ⟨b',off',e,?_⟩;injection e with e;injection e with e1 e2;subst e1 e2;have hlt:b<w.heap.size:=World.block_lt_of_cell? _ _ hc;exact (World.cell?_of_block (hg.block b hlt (fun e=>hne (by injection e)))).trans hc
theorem zJo {A B:Box} {la lb lc ld le lf:Int} (h:Small A 1048575) (hM:zD A B=⟨⟨la,lb,lc⟩,⟨ld,le,lf⟩⟩) :
 -1048576≤la ∧ -1048576≤lb ∧ -1048576≤lc∧ld≤1048576∧le≤1048576∧lf≤1048576∧la≤ld∧lb≤le∧lc≤lf:=by
 obtain ⟨s1,s2,s3,s4,s5,s6⟩:=h;unfold zD at hM;split at hM
 · simp [Box.zero,Pt.zero] at hM;omega
 · rename_i he;have he:=za.1 (by simpa using he)
   rw [hM] at he;simp only [zBQ,Box.mk.injEq,Pt.mk.injEq] at hM;simp only at he;omega
theorem Sl.any {w:World} {k:IntKind} {a a':Option Addr} (_h:Sl w k a []):Sl w k a' []:=Sl.nil _ _ _
theorem zJX (pg ph g N cap Bd:Nat) (a b c d e f a2 b2 c2 d2 e2 f2:Int) (gc:Value) (ha:Option Addr) (hcp:Nat) (xs ys:List Int) (w:World) (hSA:Small ⟨⟨a,b,c⟩,⟨d,e,f⟩⟩ 1048575) (hSB:Small ⟨⟨a2,b2,c2⟩,⟨d2,e2,f2⟩⟩ 1048575)
 (hxl:xs.length=(zU ⟨⟨a,b,c⟩,⟨d,e,f⟩⟩).toNat) (hyl:ys.length=(zU ⟨⟨a2,b2,c2⟩,⟨d2,e2,f2⟩⟩).toNat) (hN:N≤4194304) (hY:ys.length≤4194304) (hcap:ys.length≤hcp) (hag:0<ys.length → ∀ b off,ha=some ⟨b,off,none⟩→b ≠ g)
 (kg:Bk w pg #[a,b,c,d,e,f,gc] 28) (kh:Bk w ph #[a2,b2,c2,d2,e2,f2,.slice ha ys.length hcp] 28) (hx:Sl w .i64 ha ys) (ho:Own w Bd 3 .i64 (.slice (some ⟨g,0,none⟩) N cap) xs) (_hgp:g ≠ pg) (hgh:g ≠ ph) :
 Calls Tryz.prog 126 #[.slice (some ⟨g,0,none⟩) N cap,.pointer (some ⟨pg,0,none⟩),.pointer (some ⟨ph,0,none⟩)] w fun e' w'=>e' = .returned (.tuple #[])∧Own w' Bd 3 .i64 (.slice (some ⟨g,0,none⟩) N cap) (zAc ⟨⟨a,b,c⟩,⟨d,e,f⟩⟩ ⟨⟨a2,b2,c2⟩,⟨d2,e2,f2⟩⟩ xs ys)∧w.grownBy w' (some g):=by
 obtain ⟨⟨⟨la,lb,lc⟩,⟨ld,le,lf⟩⟩,hM⟩ : ∃ M,zD ⟨⟨a,b,c⟩,⟨d,e,f⟩⟩ ⟨⟨a2,b2,c2⟩,⟨d2,e2,f2⟩⟩=M:=⟨_,rfl⟩;have hgl:=(ho.lt g rfl).2;have hNl:xs.length=N:=ho.raw.choose_spec.2.2.2.2.2.2.symm;have hsz:=kg.lt;have hsz2:=kh.lt;have cg:=fun (j:Nat) v (h:(#[a,b,c,d,e,f,gc]:Array Value)[j]? = some v)=>(kg.alloc (.cells #[.slice (some ⟨g,0,none⟩) N cap] 26)).cell j h;have ch:=fun (j:Nat) v (h:(#[a2,b2,c2,d2,e2,f2,.slice ha ys.length hcp]:Array Value)[j]? = some v)=>(kh.alloc (.cells #[.slice (some ⟨g,0,none⟩) N cap] 26)).cell j h;have cg0:=cg 0 _ rfl;have ch0:=ch 0 _ rfl;have cg1:=cg 1 _ rfl;have ch1:=ch 1 _ rfl;have cg2:=cg 2 _ rfl;have ch2:=ch 2 _ rfl;have cg3:=cg 3 _ rfl;have ch3:=ch 3 _ rfl;have cg4:=cg 4 _ rfl;have ch4:=ch 4 _ rfl;have cg5:=cg 5 _ rfl;have ch5:=ch 5 _ rfl;have cg6:=cg 6 _ rfl;have ch6:=ch 6 _ rfl;clear cg ch;go_enter Tryz.func126,Tryz.ntmps126;go_wp2_with fail;generalize hW:World.alloc w _=W;have hb:=bl1 hW;have kb:Bk W w.heap.size #[.slice (some ⟨g,0,none⟩) N cap] 26:=bk0 hW rfl;clear hW cg0 ch0 cg1 ch1 cg2 ch2 cg3 ch3 cg4 ch4 cg5 ch5 cg6 ch6;have kh1:=kh.later hb;have ho1:=ho.below hb;have hx1:=hx.below hb;have hSz:=hb.size;have hSA':=hSA;obtain ⟨s1,s2,s3,s4,s5,s6⟩:=hSA';have hJ:=hM
 refine (zHv ph w.heap.size g a b c d e f a2 b2 c2 d2 e2 f2 la lb lc ld le lf gc hSA hM ?_
  (fun z y W'=>Own W' Bd 3 .i64 (.slice (some ⟨g,0,none⟩) N cap) (zBn ⟨⟨a,b,c⟩,⟨d,e,f⟩⟩ ⟨⟨a2,b2,c2⟩,⟨d2,e2,f2⟩⟩ xs ys z y)∧Bk W' ph #[a2,b2,c2,d2,e2,f2,.slice ha ys.length hcp] 28∧Bk W' w.heap.size #[.slice (some ⟨g,0,none⟩) N cap] 26∧Sl W' .i64 ha ys) W (by omega) ?_ ?_ ?_ ?_).mono ?_
 · exact zJo hSA hM
 · rintro z y W1 W2 ⟨h1,h2,h3,h4⟩ hb;exact ⟨h1.below hb,h2.later hb,h3.later hb,h4.below hb⟩
 · refine ⟨?_,kh1,kb,hx1⟩;have:=zDW (A:=⟨⟨a,b,c⟩,⟨d,e,f⟩⟩) (B:=⟨⟨a2,b2,c2⟩,⟨d2,e2,f2⟩⟩) (ys:=ys) hxl;rw [hM] at this;rw [this];exact ho1
 · rintro z y W1 z1 z2 y1 y2 ⟨h1,h2,h3,h4⟩ hgr;obtain ⟨hlt,hrow⟩:=zJL hM ⟨z1,z2⟩ ⟨y1,y2⟩;have hr0:=hrow 0 (by omega) (by omega)
   rw [Int.add_zero] at hr0;obtain ⟨k,hk⟩ : ∃ k:Nat,zT ⟨⟨a,b,c⟩,⟨d,e,f⟩⟩ ⟨la,y,z⟩=(k:Int):=⟨_,(Int.toNat_of_nonneg (ze hr0.1).1).symm⟩;obtain ⟨from_,hf⟩ : ∃ k:Nat,zT ⟨⟨a2,b2,c2⟩,⟨d2,e2,f2⟩⟩ ⟨la,y,z⟩=(k:Int):=⟨_,(Int.toNat_of_nonneg (ze hr0.2).1).symm⟩;obtain ⟨n,hn⟩ : ∃ n:Nat,ld - la=(n:Int):=⟨(ld - la).toNat,by omega⟩
   obtain ⟨p1,p2,p3,p4⟩:=zFT (xs:=xs) hM ⟨z1,z2⟩ ⟨y1,y2⟩ hk hf hn hyl;rw [hk,hn];refine (zLH ph w.heap.size g k n N cap la y z a2 b2 c2 d2 e2 f2 ha hcp ys _ hSB Bd from_ W1 hf p1 p2 (by omega) hN hY hcap h2 h3 h4 h1 hgh (by omega)).mono ?_
   rintro e' w3 ⟨rfl,h5,h6⟩;rw [p4] at h5;refine ⟨rfl,⟨h5,h2.grown h6 (Ne.symm hgh),h3.grown h6 (by omega),?_⟩,h6⟩
   obtain ⟨bb,oo,e,_⟩:=h4 from_ (ys[from_]'(by omega)) (by simp)
   subst e;exact h4.grown h6 (hag (by omega) _ _ rfl)
 · rintro z W1 z1 z2 ⟨h1,h2,h3,h4⟩;have:=zEH (A:=⟨⟨a,b,c⟩,⟨d,e,f⟩⟩) (B:=⟨⟨a2,b2,c2⟩,⟨d2,e2,f2⟩⟩) (xs:=xs) (ys:=ys) (z:=z);rw [hM] at this;rw [this] at h1;exact ⟨h1,h2,h3,h4⟩
 · rintro e' w2 ⟨rfl,⟨h1,h2,h3,h4⟩,h5⟩;have:=zFU (A:=⟨⟨a,b,c⟩,⟨d,e,f⟩⟩) (B:=⟨⟨a2,b2,c2⟩,⟨d2,e2,f2⟩⟩) (xs:=xs) (ys:=ys);rw [hM] at this;rw [this] at h1;go_wp2_with fail
   go_end0
   exact ⟨rfl,h1,(zBK ⟨hb.os,hb.tape,hb.output,hb.size,fun k hk _=>hb.block k hk⟩ h5)⟩
theorem zEz (pg ph:Nat) (a b c d e f a2 b2 c2 d2 e2 f2:Int) (ga ha:Option Addr) (gcap hcp:Nat) (xs ys:List Int) (w:World) (hSA:Small ⟨⟨a,b,c⟩,⟨d,e,f⟩⟩ 1048575) (hSB:Small ⟨⟨a2,b2,c2⟩,⟨d2,e2,f2⟩⟩ 1048575)
 (hxl:xs.length=(zU ⟨⟨a,b,c⟩,⟨d,e,f⟩⟩).toNat) (hyl:ys.length=(zU ⟨⟨a2,b2,c2⟩,⟨d2,e2,f2⟩⟩).toNat) (hX1:1≤xs.length) (hN:xs.length≤4194304) (hY:ys.length≤4194304) (hcap:ys.length≤hcp)
 (kg:Bk w pg #[a,b,c,d,e,f,.slice ga xs.length gcap] 28) (kh:Bk w ph #[a2,b2,c2,d2,e2,f2,.slice ha ys.length hcp] 28) (hx:Sl w .i64 ha ys) (hg:Sl w .i64 ga xs) :
 Calls Tryz.prog 97 #[.agg #[a,b,c,d,e,f,.slice ga xs.length gcap],.func (.func 126) #[] #[.pointer (some ⟨pg,0,none⟩),.pointer (some ⟨ph,0,none⟩)]] w
  fun e' w' => ∃ v,e' = .returned (.agg #[a,b,c,d,e,f,v])∧Own w' w.heap.size 3 .i64 v (zAc ⟨⟨a,b,c⟩,⟨d,e,f⟩⟩ ⟨⟨a2,b2,c2⟩,⟨d2,e2,f2⟩⟩ xs ys)∧Below w.heap.size w w':=by
 have hpg:=kg.lt;have hph:=kh.lt;have hcl:=Bx.mk fun W h=>zCu ga gcap xs W (by omega) h
 have hclo:=Bx.mk fun Bd g N cap W h1 h2 h3 h4 h5 h6 h7 h8=>zJX pg ph g N cap Bd a b c d e f a2 b2 c2 d2 e2 f2 (.slice ga xs.length gcap) ha hcp xs ys W hSA hSB hxl hyl h8 hY hcap h1 h2 h3 h4 h5 h6 h7
 have hab:0<ys.length → ∀ b off,ha=some ⟨b,off,none⟩→b<w.heap.size:=fun h b off e=>by
  subst e;obtain ⟨b',off',e,hc⟩:=hx 0 (ys[0]'h) (by simp)
  injection e with e;injection e with e1 e2;subst e1 e2;exact World.block_lt_of_cell? _ _ hc
 have Hab:=Bx.mk hab;have Hx:=Bx.mk hx;have Hg:=Bx.mk hg;have Kg:=Bx.mk kg;have Kh:=Bx.mk kh;clear hab hx hg kg kh hSA hSB hxl hyl hY hcap;go_enter Tryz.func97,Tryz.ntmps97;go_wp2_with fail;generalize hW:World.alloc (World.alloc w _) _=W;have hSz:=sz2 hW;have hB:=bl2 hW;have kr:Bk W (w.heap.size) #[a,b,c,d,e,f,.slice ga xs.length gcap] 28:=bk1 hW;have kq:Bk W (w.heap.size+1) #[(0:Int),(0:Int),(0:Int),(0:Int),(0:Int),(0:Int),.slice none 0 0] 28:=bk0 hW;clear hW;obtain ⟨cr0,cr1,cr2,cr3,cr4,cr5,cr6⟩:=kr.c7;go_wp2_with fail;refine (hcl.out _ (Hg.out.below hB)).mono ?_;rintro e' w1 ⟨v,rfl,ho,hb⟩;clear hcl;obtain ⟨Bd,hBd⟩ : ∃ Bd,Bd=W.heap.size:=⟨_,rfl⟩;rw [←hBd] at ho hb;have hSd:w.heap.size+2≤Bd:=by omega
 replace hb:Below W.heap.size W w1:=hBd ▸ hb;clear cr0 cr1 cr2 cr3 cr4 cr5 cr6;replace hB:=hB.trans (hb.mono hB.size);replace kr:=kr.later hb;replace kq:=kq.later hb;replace hSz:=Nat.le_trans hSz hb.size;clear hb;obtain ⟨g,cap,rfl,hg1,hg2,-,-,-⟩:=ho.at (by omega)
 go_wp2_with fail;refine (hclo.out Bd g xs.length cap w1 (fun h b off e=>by have:=Hab.out h b off e;omega) (Kg.out.later hB) (Kh.out.later hB) (Hx.out.below hB) ho (by omega) (by omega) hN).mono ?_
 rintro e' w3 ⟨rfl,h1,hgr⟩;clear hclo;replace hB:=hB.grown hgr hB.size (fun k hk=>by injection hk;omega)
 replace kr:=kr.grown hgr (by omega)
 replace kq:=kq.grown hgr (by omega)
 have H1:=Bx.mk h1;clear h1 hgr ho hg1 hg2 Hg Hx Kg Kh Hab;obtain ⟨cr0,cr1,cr2,cr3,cr4,cr5,cr6⟩:=kr.c7;obtain ⟨cq0,cq1,cq2,cq3,cq4,cq5,cq6⟩:=kq.c7;obtain ⟨fq0,fq1,fq2,fq3,fq4,fq5,fq6⟩:=kq.f7;go_wp2_with fail;replace kq:=kq.put7 (.int .i64 a) (.int .i64 b) (.int .i64 c) (.int .i64 d) (.int .i64 e) (.int .i64 f) (.slice (some ⟨g,0,none⟩) xs.length cap);exact bodyPost_ret (v:=.agg #[a,b,c,d,e,f,.slice (some ⟨g,0,none⟩) xs.length cap]) (results_cell_row rfl _ _ _ 28 #[a,b,c,d,e,f,.slice (some ⟨g,0,none⟩) xs.length cap] (0,0) _ rfl kq Tryz.underlying28 rfl (by kernel_rfl)) rfl ⟨_,rfl,(((((((H1.out.setBelow (by simp;omega) _).setBelow (by simp;omega) _).setBelow (by simp;omega) _).setBelow (by simp;omega) _).setBelow (by simp;omega) _).setBelow (by simp;omega) _).setBelow (by simp;omega) _).base (by omega),zKb hB (by omega) _ _ _ _ _ _ _⟩
def zIq (a b c d e f:Int) (n:Nat) (zs:List Int) (w:World) (E:Ending) (w':World):Prop :=
 ∃ pa pc,E = .returned (.agg #[a,b,c,d,e,f,.slice pa n pc])∧n=zs.length∧Own w' w.heap.size 3 .i64 (.slice pa n pc) zs∧Below w.heap.size w w'
theorem zAh (A B:Box) (xs ys:List Int):(zAc A B xs ys).length=(zU A).toNat:=zP _ _
theorem zFR (a b c d e f a2 b2 c2 d2 e2 f2:Int) (ga ha:Option Addr) (gcap hcp:Nat) (xs ys:List Int) (w:World) (hSA:Small ⟨⟨a,b,c⟩,⟨d,e,f⟩⟩ 1048575) (hSB:Small ⟨⟨a2,b2,c2⟩,⟨d2,e2,f2⟩⟩ 1048575)
 (hxl:xs.length=(zU ⟨⟨a,b,c⟩,⟨d,e,f⟩⟩).toNat) (hyl:ys.length=(zU ⟨⟨a2,b2,c2⟩,⟨d2,e2,f2⟩⟩).toNat) (hX1:1≤xs.length) (hN:xs.length≤4194304) (hY:ys.length≤4194304) (hcap:ys.length≤hcp)
 (hx:Sl w .i64 ha ys) (hg:Sl w .i64 ga xs) :
 Calls Tryz.prog 83 #[.agg #[a,b,c,d,e,f,.slice ga xs.length gcap],.agg #[a2,b2,c2,d2,e2,f2,.slice ha ys.length hcp]] w (zIq a b c d e f xs.length (zAc ⟨⟨a,b,c⟩,⟨d,e,f⟩⟩ ⟨⟨a2,b2,c2⟩,⟨d2,e2,f2⟩⟩ xs ys) w):=by
 have hch:=Bx.mk fun pg ph W h1 h2 h3 h4=>zEz pg ph a b c d e f a2 b2 c2 d2 e2 f2 ga ha gcap hcp xs ys W hSA hSB hxl hyl hX1 hN hY hcap h1 h2 h3 h4;have hlen:=Bx.mk (hxl.trans (zAh ⟨⟨a,b,c⟩,⟨d,e,f⟩⟩ ⟨⟨a2,b2,c2⟩,⟨d2,e2,f2⟩⟩ xs ys).symm);have Hx:=Bx.mk hx;have Hg:=Bx.mk hg;clear hSA hSB hxl hyl hY hcap hX1 hN hx hg;go_enter Tryz.func83,Tryz.ntmps83;go_wp2_with fail;generalize hW:World.alloc (World.alloc (World.alloc w _) _) _=W;have hSz:=sz3 hW;have hB:=bl3 hW;have kg:Bk W (w.heap.size) #[a,b,c,d,e,f,.slice ga xs.length gcap] 28:=bk2 hW;have kh:Bk W (w.heap.size+1) #[a2,b2,c2,d2,e2,f2,.slice ha ys.length hcp] 28:=bk1 hW;have kr:Bk W (w.heap.size+1+1) #[(0:Int),(0:Int),(0:Int),(0:Int),(0:Int),(0:Int),.slice none 0 0] 28:=bk0 hW;clear hW;obtain ⟨cg0,cg1,cg2,cg3,cg4,cg5,cg6⟩:=kg.c7;go_wp2_with fail;refine (hch.out _ _ _ kg kh (Hx.out.below hB) (Hg.out.below hB)).mono ?_;rintro e' w1 ⟨v,rfl,ho,hb⟩;obtain ⟨Bd,hBd⟩ : ∃ Bd,Bd=W.heap.size:=⟨_,rfl⟩;rw [←hBd] at ho hb;have hSd:w.heap.size+3≤Bd:=by omega
 replace hb:Below W.heap.size W w1:=hBd ▸ hb;clear hch Hx Hg;clear cg0 cg1 cg2 cg3 cg4 cg5 cg6;replace hB:=hB.trans (hb.mono hB.size);replace kg:=kg.later hb;replace kh:=kh.later hb;replace kr:=kr.later hb;replace hSz:=Nat.le_trans hSz hb.size;clear hb;obtain ⟨pa,pc,rfl,-⟩:=ho.form;rw [←hlen.out] at ho;rw [←hlen.out];have Ho:=Bx.mk ho;clear ho;obtain ⟨cr0,cr1,cr2,cr3,cr4,cr5,cr6⟩:=kr.c7;obtain ⟨fr0,fr1,fr2,fr3,fr4,fr5,fr6⟩:=kr.f7;go_wp2_with fail;replace kr:=kr.put7 (.int .i64 a) (.int .i64 b) (.int .i64 c) (.int .i64 d) (.int .i64 e) (.int .i64 f) (.slice pa xs.length pc);exact bodyPost_ret (v:=.agg #[a,b,c,d,e,f,.slice pa xs.length pc]) (results_cell_row rfl _ _ _ 28 #[a,b,c,d,e,f,.slice pa xs.length pc] (0,0) _ rfl kr Tryz.underlying28 rfl (by kernel_rfl)) rfl ⟨_,_,rfl,hlen.out,(((((((Ho.out.setBelow (by simp;omega) _).setBelow (by simp;omega) _).setBelow (by simp;omega) _).setBelow (by simp;omega) _).setBelow (by simp;omega) _).setBelow (by simp;omega) _).setBelow (by simp;omega) _).base (by omega),zKb hB (by omega) _ _ _ _ _ _ _⟩
theorem zMA {A B:Box} {ys:List Int} {n:Nat} (_hn:(zU A).toNat=n):zAc A B (List.replicate n 0) ys=zM A (zF B ys):=by
 refine zf fun p hp=>?_;split
 · rfl
 · rename_i h;have e:zF B ys p=0:=by unfold zF;rw [if_neg h]
   rw [e];unfold zF;rw [if_pos hp,List.getD_eq_getElem?_getD,List.getElem?_replicate];split <;> rfl
theorem zFv (a b c d e f a2 b2 c2 d2 e2 f2:Int) (ha:Option Addr) (hcp n:Nat) (ys:List Int) (h0:zJk ⟨⟨a,b,c⟩,⟨d,e,f⟩⟩ 0=0) (hem:zG ⟨⟨a,b,c⟩,⟨d,e,f⟩⟩=false) (hn:zU ⟨⟨a,b,c⟩,⟨d,e,f⟩⟩=(n:Int)) (hSB:Small ⟨⟨a2,b2,c2⟩,⟨d2,e2,f2⟩⟩ 1048575)
 (hyl:ys.length=(zU ⟨⟨a2,b2,c2⟩,⟨d2,e2,f2⟩⟩).toNat) (hY:ys.length≤4194304) (hcap:ys.length≤hcp) (w:World) (hx:Sl w .i64 ha ys) :
 Calls Tryz.prog 78 #[.agg #[a2,b2,c2,d2,e2,f2,.slice ha ys.length hcp],.agg #[a,b,c,d,e,f]] w (RetG a b c d e f (zM ⟨⟨a,b,c⟩,⟨d,e,f⟩⟩ (zF ⟨⟨a2,b2,c2⟩,⟨d2,e2,f2⟩⟩ ys)) 0 w):=by
 have hok:okB ⟨⟨a,b,c⟩,⟨d,e,f⟩⟩=true∧zU ⟨⟨a,b,c⟩,⟨d,e,f⟩⟩≤2097152:=by
  unfold zJk at h0;split at h0
  · cases h0
  · rename_i h1;split at h0
    · cases h0
    · exact ⟨by cases h:okB ⟨⟨a,b,c⟩,⟨d,e,f⟩⟩ <;> simp_all,by omega⟩
 have hnn:(zU ⟨⟨a,b,c⟩,⟨d,e,f⟩⟩).toNat=n:=by omega
 have hpos:=zB4 hem;have hc:=Bx.mk fun W=>zLe a b c d e f 0 h0 hem n hn W;have hp:=Bx.mk fun pa pc W h1 h2=>zFR a b c d e f a2 b2 c2 d2 e2 f2 pa ha pc hcp (List.replicate n 0) ys W (zAS hok.1) hSB (by rw [List.length_replicate,hnn]) hyl (by rw [List.length_replicate];omega) (by rw [List.length_replicate];omega) hY hcap h1 h2
 rw [zMA hnn,List.length_replicate] at hp;have hz:=Bx.mk ((zP ⟨⟨a,b,c⟩,⟨d,e,f⟩⟩ (zF ⟨⟨a2,b2,c2⟩,⟨d2,e2,f2⟩⟩ ys)).trans hnn);have Hx:=Bx.mk hx;clear h0 hem hn hSB hyl hY hcap hx hok hpos hnn;generalize zM ⟨⟨a,b,c⟩,⟨d,e,f⟩⟩ (zF ⟨⟨a2,b2,c2⟩,⟨d2,e2,f2⟩⟩ ys)=zs at *;go_enter Tryz.func78,Tryz.ntmps78;go_wp2_with fail;generalize hW:World.alloc (World.alloc (World.alloc w _) _) _=W;have hSz:=sz3 hW;have hB:=bl3 hW;have kh:Bk W (w.heap.size) #[a2,b2,c2,d2,e2,f2,.slice ha ys.length hcp] 28:=bk2 hW;have kb:Bk W (w.heap.size+1) #[a,b,c,d,e,f] 25:=bk1 hW;have kr:Bk W (w.heap.size+1+1) #[(0:Int),(0:Int),(0:Int),(0:Int),(0:Int),(0:Int),.slice none 0 0] 28:=bk0 hW;clear hW;obtain ⟨cb0,cb1,cb2,cb3,cb4,cb5⟩:=kb.c6;go_wp2_with fail;refine (hc.out _).mono ?_;rintro e' w1 ⟨pa,pc,rfl,ho,hb1⟩;rw [List.length_replicate] at ho ⊢;have hx1:=(Hx.out.below hB).below hb1;obtain ⟨Bd,hBd⟩ : ∃ Bd,Bd=W.heap.size:=⟨_,rfl⟩;rw [←hBd] at ho;have hSd:w.heap.size+3≤Bd:=by omega
 clear hc Hx hBd;clear cb0 cb1 cb2 cb3 cb4 cb5;replace hB:=hB.trans (hb1.mono hB.size);replace kh:=kh.later hb1;replace kb:=kb.later hb1;replace kr:=kr.later hb1;replace hSz:=Nat.le_trans hSz hb1.size;clear hb1;go_upto_region 2 with fail;obtain ⟨go,hgo⟩ : ∃ go,go=w1.heap.size:=⟨_,rfl⟩;generalize hW2:World.alloc w1 _=W2;have hb2:=bl1 hW2;have ko:Bk W2 go #[a,b,c,d,e,f,.slice pa n pc] 28:=by rw [hgo,←hW2];exact zI _ _ _ rfl
 have hx2:=hx1.below hb2;have ho2:=ho.sl.below hb2;rw [←hgo];have hgl:w.heap.size≤go:=by omega
 clear hW2 ho hx1;replace hB:=hB.trans (hb2.mono hB.size);replace kh:=kh.later hb2;replace kb:=kb.later hb2;replace kr:=kr.later hb2;replace hSz:=Nat.le_trans hSz hb2.size;clear hb2;obtain ⟨ch0,ch1,ch2,ch3,ch4,ch5,ch6⟩:=kh.c7;obtain ⟨co0,co1,co2,co3,co4,co5,co6⟩:=ko.c7;clear hgo;have Hx:=Bx.mk hx2;have Ho:=Bx.mk ho2;clear hx2 ho2;go_wp2_with fail;refine (hp.out pa pc _ Hx.out Ho.out).mono ?_;rintro e' w3 ⟨qa,qc,rfl,-,hown,hb3⟩;obtain ⟨Be,hBe⟩ : ∃ Be,Be=W2.heap.size:=⟨_,rfl⟩;rw [←hBe] at hown;have hSe:w.heap.size+3≤Be:=by omega
 have Ho2:=Bx.mk hown;clear hown hBe hp Hx Ho;clear ch0 ch1 ch2 ch3 ch4 ch5 ch6 co0 co1 co2 co3 co4 co5 co6;replace hB:=hB.trans (hb3.mono hB.size);replace kh:=kh.later hb3;replace kb:=kb.later hb3;replace kr:=kr.later hb3;replace hSz:=Nat.le_trans hSz hb3.size;clear hb3;obtain ⟨cr0,cr1,cr2,cr3,cr4,cr5,cr6⟩:=kr.c7;obtain ⟨fr0,fr1,fr2,fr3,fr4,fr5,fr6⟩:=kr.f7;go_wp2_with fail;replace kr:=kr.put7 (.int .i64 a) (.int .i64 b) (.int .i64 c) (.int .i64 d) (.int .i64 e) (.int .i64 f) (.slice qa n qc);obtain ⟨z0,z1,z2,z3,z4,z5,z6⟩:=kr.c7
 exact bodyPost_ret (v:=.tuple #[.agg #[a,b,c,d,e,f,.slice qa n qc],(0:Int)]) (by simp [results,Tryz.results78,go_sem,z0,z1,z2,z3,z4,z5,z6]) rfl ⟨qa,qc,by rw [hz.out],by
  rw [hz.out];exact (((((((Ho2.out.setBelow (by simp;omega) _).setBelow (by simp;omega) _).setBelow (by simp;omega) _).setBelow (by simp;omega) _).setBelow (by simp;omega) _).setBelow (by simp;omega) _).setBelow (by simp;omega) _).base (by omega),zKb hB (by omega) _ _ _ _ _ _ _⟩
end
end Go.Proofs.YtfcbajmjaifjlaaGreatDoor
