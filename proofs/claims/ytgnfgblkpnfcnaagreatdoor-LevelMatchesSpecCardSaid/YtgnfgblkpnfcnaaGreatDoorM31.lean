/- Lrh, Lch, Lrn, Gp9, Gq: joined by program, for one claim. -/
import Derived.Test.YtgnfgblkpnfcnaaGreatDoorM30
set_option maxHeartbeats 2000000
set_option maxRecDepth 100000
set_option linter.unusedVariables false
set_option linter.unusedSimpArgs false
namespace Go.Proofs.YtgnfgblkpnfcnaaGreatDoor
section
open Go.RowKit Go.Sort Go.Maps
open Oct
theorem zHJ (ta:Option Addr) (nl tc:Nat) (S:ByteArray) (dd:Int) (w:World) (hi0 : ∀ W:World,(Instr.index 9 (.string S) (.int .i64 0)).run Tryz.prog W = .ok (.int .u8 117) W) :
 Calls Tryz.prog 42 #[.slice ta nl tc,.string S,dd] w fun e w'=>e = .returned (.string S)∧Below w.heap.size w w':=by
 go_enter Tryz.func42,Tryz.ntmps42;go_wp2_with fail;go_ret;exact ⟨rfl,Below.refl _ _⟩
theorem zHG (ta:Option Addr) (nl tc:Nat) (S S':ByteArray) (x0:Int) (G:Nat→Nat→Int) (g:Nat→Int) (w:World) (hi0 : ∀ W:World,(Instr.index 9 (.string S) (.int .i64 0)).run Tryz.prog W = .ok (.int .u8 x0) W) (hx:(x0 == 117)=false)
 (HCb:Bx (∀ W,Calls Tryz.prog 100 #[(4:Int)] W fun e w'=>e = .returned (.agg #[(0:Int),(0:Int),(0:Int),(4:Int),(4:Int),(4:Int)])∧Below W.heap.size W w'))
 (HAt:Bx (∀ W (i:Nat),i<64→Calls Tryz.prog 99 #[.agg #[(0:Int),(0:Int),(0:Int),(4:Int),(4:Int),(4:Int)],(i:Int)] W fun e w'=>e = .returned (.tuple #[.agg #[.int .i64 ((i:Int) % 4),.int .i64 ((i:Int) / 4 % 4),.int .i64 ((i:Int) / 16)],.bool true])∧Below W.heap.size W w'))
 (HE:Bx (∀ W,Below w.heap.size w W → ∀ i:Nat,i<64→Calls Tryz.prog 101 #[.string S,.agg #[.int .i64 ((i:Int) % 4),.int .i64 ((i:Int) / 4 % 4),.int .i64 ((i:Int) / 16)]] W fun e w'=>e = .returned (.agg ((e8 (G i) 8).map (Value.int .i64)).toArray)∧Below W.heap.size W w'))
 (HP:Bx (∀ W,Below w.heap.size w W → ∀ i:Nat,i<64→Calls Tryz.prog 25 #[.slice ta nl tc,.agg ((e8 (G i) 8).map (Value.int .i64)).toArray] W fun e w'=>e = .returned (.int .i64 (g i))∧Below W.heap.size W w'))
 (HBr:Bx (∀ W a cap,Below w.heap.size w W→Sl W .i64 a ((List.range 64).map g)→Calls Tryz.prog 96 #[.slice a 64 cap] W fun e w'=>e = .returned (.string S')∧Below W.heap.size W w')) :
 Calls Tryz.prog 42 #[.slice ta nl tc,.string S,(3:Int)] w fun e w'=>e = .returned (.string S')∧Below w.heap.size w w':=by
 obtain ⟨C,hCC⟩ : ∃ C,C=(List.range 64).map g:=⟨_,rfl⟩;rw [←hCC] at HBr;have HCat:Bx (∀ i,i<64→C.take i++[g i]=C.take (i+1)):=⟨fun i hi=>(zAA (k:=i) (xs:=C) (by rw [hCC,List.getElem?_map,List.getElem?_range hi];rfl)).symm⟩
 have HCl:Bx (C.length=64):=⟨by rw [hCC];simp⟩
 clear hCC;go_enter Tryz.func42,Tryz.ntmps42;go_wp2_with fail;clear hi0
 go_loopw [7,8] (fun v7 v8 wr => ∃ i:Nat,i≤64∧v8 = .int .i64 i∧Bx (Below w.heap.size w wr)∧Bx (Own wr w.heap.size 3 .i64 v7 (C.take i))) (fun _ i _=>64 - (intOf i).toNat)
 case atStart=>exact ⟨0,Nat.zero_le _,rfl,⟨Below.refl _ _⟩,⟨Own.nil _ _ _ _⟩⟩
 case round =>
  obtain ⟨i,hi,rfl,HI,HO⟩:=hrel;by_cases hlt:i<64
  · have t0:decide ((i:Int)<64)=true:=by simp;omega
    have HAi:=Bx.mk fun W=>HAt.out W i hlt;have HEi:=Bx.mk fun W hb=>HE.out W hb i hlt;have HPi:=Bx.mk fun W hb=>HP.out W hb i hlt;have Hn:=Bx.mk (HCat.out i hlt);obtain ⟨px,hpx⟩ : ∃ x:Int,x=(i:Int) % 4:=⟨_,rfl⟩;obtain ⟨py,hpy⟩ : ∃ x:Int,x=(i:Int) / 4 % 4:=⟨_,rfl⟩;obtain ⟨pz,hpz⟩ : ∃ x:Int,x=(i:Int) / 16:=⟨_,rfl⟩;rw [←hpx,←hpy,←hpz] at HAi HEi;clear hpx hpy hpz;obtain ⟨EE,hEE⟩ : ∃ E,E=((e8 (G i) 8).map (Value.int .i64)).toArray:=⟨_,rfl⟩;rw [←hEE] at HEi HPi;clear hEE;generalize g i=gi at *;go_wp2_with fail;refine (HCb.out _).mono ?_;rintro _ w1 ⟨rfl,hb1⟩;go_wp2_with fail;refine (HAi.out _).mono ?_;rintro _ w2 ⟨rfl,hb2⟩;have HB2:=Bx.mk (HI.out.trans ((hb1.trans (hb2.mono hb1.size)).mono HI.out.size));have HO2:=Bx.mk (HO.out.below (hb1.trans (hb2.mono hb1.size)));clear hb1 hb2 HI HO;go_upto_region 9 with fail;generalize hW3:World.alloc w2 _=W3;have HB3:Bx (Below w.heap.size w W3):=⟨by rw [←hW3];exact HB2.out.alloc HB2.out.size _⟩
    have HO3:Bx (Own W3 w.heap.size 3 .i64 u7 (C.take i)):=⟨by rw [←hW3];exact HO2.out.alloc _⟩
    have KQ:=Bx.mk (show Bk W3 w2.heap.size #[px,py,pz] 23 by rw [←hW3];exact zD _ _ _ rfl)
    clear hW3 HB2 HO2;generalize w2.heap.size=pb at *;obtain ⟨q0,q1,q2⟩:=KQ.out.c3;go_wp2_with fail;refine (HEi.out _ HB3.out).mono ?_;rintro _ W4 ⟨rfl,hb4⟩;have HB4:=Bx.mk (HB3.out.trans (hb4.mono HB3.out.size));have HO4:=Bx.mk (HO3.out.below hb4);clear q0 q1 q2 KQ hb4 HB3 HO3;go_wp2_with fail;refine (HPi.out _ HB4.out).mono ?_;rintro _ W5 ⟨rfl,hb5⟩;have hB5:=HB4.out.trans (hb5.mono HB4.out.size);have hown:=HO4.out.below hb5;clear hb5 HB4 HO4 HPi HEi HAi;have hln:(C.take i).length≤1000000000:=by have:=HCl.out;rw [List.length_take];omega
    have hle:=hB5.size
    go_wp2_with (first
     | (at_builtin
        refine zAF rfl _ _ 26 rfl 3 .i64 (.int .i64 0) 8 (by omega) Tryz.underlying26 (by kernel_rfl) rfl w.heap.size _ (C.take i) rfl (hown.alloc _) gi ⟨W5.heap.size,0,none⟩ 1 rfl (zH _ _ _) hln (ze hle _) ?_
        intro v1 w1 hown1 hg1 _))
    rw [Hn.out] at hown1;have HO6:=Bx.mk hown1;have HI6:=Bx.mk ((hB5.alloc hle _).grown hg1 (ze hle _) (fun g hg=>(hown.lt g hg).1));clear hown1 hg1 hown hB5 hln hle
    go_roundw
    case rel=>exact ⟨i+1,by omega,by go_num,HI6,HO6⟩
    case measure=>simp [intOf];omega
  · obtain rfl:i=64:=by omega
    have t0:decide (((64:Nat):Int)<64)=false:=by decide
    have hO:=HO.out;rw [List.take_of_length_le (by rw [HCl.out];omega)] at hO
    obtain ⟨a,cap,rfl,hsl⟩:=hO.form;rw [HCl.out];have Hsl:=Bx.mk hsl;clear hO hsl HO;go_wp2_with fail;refine (HBr.out _ a cap HI.out Hsl.out).mono ?_;rintro _ w9 ⟨rfl,hb9⟩;have HB9:=Bx.mk (HI.out.trans (hb9.mono HI.out.size));clear hb9;go_wp2_with fail;go_ret;exact ⟨rfl,HB9.out⟩
end
section
open Go.RowKit
open Oct
theorem zKS (d:Nat) (ch:Fin 8→Tr) (h:Tr.WF (.node d ch)) (hl:(Tr.enc (.node d ch)).length≤1000000000000000) (w:World) :
 Calls Tryz.prog 52 #[.string (strOfNums (Tr.enc (.node d ch)))] w fun e w' => ∃ g pc,e = .returned (.slice (some ⟨g,0,none⟩) 8 pc)∧Ownv w' w.heap.size 9 (.slice (some ⟨g,0,none⟩) 8 pc) (zy (za ch))∧Below w.heap.size w w':=by
 have hby:Byt (Tr.enc (.node d ch)):=Tr.enc_byt _ h
 have hkid:=Bx.mk (fun (k:Nat) (hk:k<8) (n:Nat) (hn:(Tr.enc (.node d ch)).length=n)=>show
  (∃ r',Byt r'∧(Tr.enc (ch ⟨k,hk⟩)++r').length≤1000000000000000∧(strOfNums (Tr.enc (.node d ch))).extract (Tr.pos ch k) n=strOfNums (Tr.enc (ch ⟨k,hk⟩)++r')
   ∧ (strOfNums (Tr.enc (.node d ch))).extract (Tr.pos ch k) (Tr.pos ch k+(Tr.enc (ch ⟨k,hk⟩)).length)=strOfNums (Tr.enc (ch ⟨k,hk⟩))) from by
   have hd:=Tr.drop_pos d ch [] hk;rw [List.append_nil] at hd;rw [zD7 hn,zMs,Nat.add_sub_cancel_left,hd];refine ⟨_,?_,?_,rfl,?_⟩
   · have:=Byt.drop hby (Tr.pos ch k);rw [hd] at this;exact fun x hx=>this x (List.mem_append_right _ hx)
   · rw [←hd,List.length_drop];omega
   · rw [List.take_left'] ; rfl)
 have hple:=Bx.mk (fun k (hk:k≤8)=>Tr.pos_le d ch hk);have hps:=Bx.mk (fun k (hk:k<8)=>Tr.pos_succ ch hk);have Hp0:=Bx.mk (Tr.pos_zero ch);have Hw:=Bx.mk (show ∀ i,Tr.WF (ch i) from h.2);have hsz:(strOfNums (Tr.enc (.node d ch))).size=(Tr.enc (.node d ch)).length:=strOfNums_size _;generalize strOfNums (Tr.enc (.node d ch))=S at *;generalize (Tr.enc (.node d ch)).length=n at *;clear hby h;go_enter Tryz.func52,Tryz.ntmps52;go_wp2_with fail
 go_loopw [3,4,5] (fun v3 v4 v5 wr => ∃ k:Nat,k≤8∧v5 = .int .i64 k∧v4 = .int .i64 (Tr.pos ch k)∧Bx (Ownv wr w.heap.size 9 v3 (zy ((za ch).take k)))∧Bx (Below w.heap.size w wr)) (fun _ _ i _=>8 - (intOf i).toNat)
 case atStart=>exact ⟨0,Nat.zero_le _,rfl,by rw [Hp0.out];rfl,⟨Ownv.nil _ _ _⟩,⟨Below.refl _ _⟩⟩
 case round =>
  obtain ⟨k,hk,rfl,rfl,hown,hbw⟩:=hrel;by_cases hlt:k<8
  · have t0:decide ((k:Int)<8)=true:=by simp;omega
    obtain ⟨r',hr',hl',hex,hex2⟩:=hkid.out k hlt n rfl;have hc:=Bx.mk fun W=>zKX (ch ⟨k,hlt⟩) (Hw.out _) r' hr' hl' W;have hple1:=hple.out (k+1) (by omega)
    have hple0:=hple.out k (by omega)
    have hs:=hps.out k hlt;have hnext:=Bx.mk (show zy ((za ch).take (k+1))=zy ((za ch).take k)++[.string (strOfNums (Tr.enc (ch ⟨k,hlt⟩)))] by rw [zF8 ch hlt,zMz])
    have Htl:=Bx.mk (show (zy ((za ch).take k)).length≤1000000000 by rw [zz,List.length_take];omega)
    generalize hS2:strOfNums (Tr.enc (ch ⟨k,hlt⟩)++r')=S2 at *;generalize strOfNums (Tr.enc (ch ⟨k,hlt⟩))=S3 at *;have Hs:=Bx.mk (show ((Tr.pos ch (k+1):Nat):Int)=(Tr.pos ch k:Int)+((Tr.enc (ch ⟨k,hlt⟩)).length:Int) by omega)
    generalize (Tr.enc (ch ⟨k,hlt⟩)).length=m at *;generalize Tr.pos ch k=p at *;generalize hq:Tr.pos ch (k+1)=q at *;have b1:(0:Int)≤(p:Int):=by omega
    have b2:(p:Int)≤(n:Int):=by omega
    have b3:(p:Int)+(m:Int)≤(n:Int):=by omega
    have hz:((p:Int)+(m:Int)).toNat=p+m:=by omega
    have Hq:=Bx.mk hq;have hle:=hbw.out.size;clear hS2 hr' hl' hs hple0 hple1 hq
    go_wp2_with (first
     | (go_at_call 110;refine (hc.out _).mono ?_;rintro e w' ⟨rfl,rfl⟩)
     | (at_builtin
        refine zAH rfl _ _ 37 rfl 9 (.string ByteArray.empty) 16 (by omega) Tryz.underlying37 (by kernel_rfl) rfl w.heap.size _ (zy ((za ch).take k)) rfl (hown.out.alloc _) (.string S3) rfl ⟨wr.heap.size,0,none⟩ 1 rfl (zH _ _ _) Htl.out (ze hle _) ?_
        intro v1 w1 hown1 hg1 _))
    have hown2:=Bx.mk hown1;rw [←hnext.out] at hown2;have hbw2:=Bx.mk ((hbw.out.alloc hle (.cells #[.string S3] 9)).grown hg1 (ze hle _) (fun g hg=>(hown.out.lt g hg).1));clear hown1 hg1;go_wp2_with fail
    go_roundw
    case rel=>exact ⟨k+1,by omega,by go_num,by rw [Hq.out,Hs.out],hown2,hbw2⟩
    case measure=>simp [intOf];omega
  · obtain rfl:k=8:=by omega
    have t0:decide (((8:Nat):Int)<8)=false:=by decide
    have hown2:=hown.out;rw [List.take_of_length_le (by rw [zb];exact Nat.le_refl _)] at hown2
    obtain ⟨g,pc,rfl,hsl,hlt2⟩:=hown2.form1 (by rw [zz,zb];decide)
    have Hl:=Bx.mk (show (zy (za ch)).length=8 by rw [zz,zb])
    rw [Hl.out] at hown2;have Hsl:=Bx.mk hown2;clear hsl hown2 hown hlt2;go_wp2_with fail;go_ret;exact ⟨g,pc,by rw [Hl.out];rfl,Hsl.out,hbw.out⟩
end
section
open Go.RowKit Go.Sort Go.Maps
open Oct
def zHy (K H:Nat→ByteArray) (k:Nat):List Value:=(List.range 8).map fun j=>.string (if j<k then H j else K j)
theorem zHz (K H:Nat→ByteArray) {k j:Nat} (hj:j<8):(zHy K H k)[j]? = some (.string (if j<k then H j else K j)):=by
 unfold zHy;rw [List.getElem?_map,List.getElem?_range hj];rfl
theorem zH0 (K H:Nat→ByteArray) (k:Nat):(zHy K H k).length=8:=by simp [zHy]
theorem zH1 (K H:Nat→ByteArray) {k:Nat} (hk:k<8):(zHy K H k).set k (.string (H k))=zHy K H (k+1):=by
 apply List.ext_getElem?;intro j;rw [List.getElem?_set,zH0];by_cases hj:j<8
 · rw [zHz K H hj,zHz K H hj];by_cases e:k=j
   · subst e;rw [if_pos rfl,if_pos hk,if_pos (by omega)]
   · rw [if_neg e];by_cases h:j<k
     · rw [if_pos h,if_pos (by omega)]
     · rw [if_neg h,if_neg (by omega)]
 · rw [if_neg (by omega),List.getElem?_eq_none (by rw [zH0];omega),List.getElem?_eq_none (by rw [zH0];omega)]
theorem zJF {w:World} {B:Nat} {e:TypeId} {g n c:Nat} {vs:List Value} (h:Ownv w B e (.slice (some ⟨g,0,none⟩) n c) vs) (hn:n=vs.length) (i:Nat) (v:Value):Ownv (w.setCell ⟨g,i,none⟩ v) B e (.slice (some ⟨g,0,none⟩) n c) (vs.set i v):=by
 subst hn;have:=World.ownsRow.stored h i v;unfold Ownv;rw [List.length_set];exact this.1
theorem zJE {w:World} {B:Nat} {e:TypeId} {g n c:Nat} {vs:List Value} (h:Ownv w B e (.slice (some ⟨g,0,none⟩) n c) vs) (hn:n=vs.length) (i:Nat):w.frozen? ⟨g,i,none⟩=false:=by
 subst hn;exact World.ownsRow.frozenAt h i
theorem zHI (ta:Option Addr) (nl tc:Nat) (S S':ByteArray) (x0 dd:Int) (K H:Nat→ByteArray) (w:World) (hi0 : ∀ W:World,(Instr.index 9 (.string S) (.int .i64 0)).run Tryz.prog W = .ok (.int .u8 x0) W) (hx:(x0 == 117)=false) (hd:3<dd∧dd≤100)
 (HCh:Bx (∀ W,Calls Tryz.prog 52 #[.string S] W fun e w' => ∃ g pc,e = .returned (.slice (some ⟨g,0,none⟩) 8 pc)∧Ownv w' W.heap.size 9 (.slice (some ⟨g,0,none⟩) 8 pc) (zHy K H 0)∧Below W.heap.size W w'))
 (HR:Bx (∀ W,Below w.heap.size w W → ∀ k:Nat,k<8→Calls Tryz.prog 42 #[.slice ta nl tc,.string (K k),.int .i64 (dd - 1)] W fun e w'=>e = .returned (.string (H k))∧Below W.heap.size W w'))
 (HIn:Bx (∀ W g pc,Below w.heap.size w W→Slv W (some ⟨g,0,none⟩) (zHy K H 8)→Calls Tryz.prog 98 #[.int .i64 (dd - 1),.slice (some ⟨g,0,none⟩) 8 pc] W fun e w'=>e = .returned (.string S')∧Below W.heap.size W w')) :
 Calls Tryz.prog 42 #[.slice ta nl tc,.string S,dd] w fun e w'=>e = .returned (.string S')∧Below w.heap.size w w':=by
 have h3:(dd == 3)=false:=by simp;omega
 have hs:IntKind.i64.wrap (dd - 1)=dd - 1:=IntWalk.i64_in _ (by omega)
 clear hd;go_enter Tryz.func42,Tryz.ntmps42;go_wp2_with fail;refine (HCh.out _).mono ?_;rintro _ w1 ⟨g,pc,rfl,ho,hb⟩;have HI:=Bx.mk hb;have HO:=Bx.mk ho;have Hg:=Bx.mk (ho.lt g rfl).1;clear hi0 hx h3 ho hb;go_wp2_with fail
 go_loopw [12] (fun v12 wr => ∃ k:Nat,k≤8∧v12 = .int .i64 k∧Bx (Below w.heap.size w wr)∧Bx (Ownv wr w.heap.size 9 (.slice (some ⟨g,0,none⟩) 8 pc) (zHy K H k))) (fun k _=>8 - (intOf k).toNat)
 case atStart=>exact ⟨0,Nat.zero_le _,rfl,HI,HO⟩
 case round =>
  clear HI HO;obtain ⟨k,hk,rfl,HI,HO⟩:=hrel;by_cases hlt:k<8
  · have t0:decide ((k:Int)<8)=true:=by simp;omega
    have b1:(0:Int)≤(k:Int)∧(k:Int)<8:=by omega
    have hc:wr.cell? ⟨g,k,none⟩=some (.string (K k)):=by
     obtain ⟨b,off,he,h⟩:=HO.out.sl k _ (zHz K H hlt);rw [if_neg (Nat.lt_irrefl _)] at h;injection he with he;injection he with h1 h2;subst h1 h2;rwa [Nat.zero_add] at h
    have HRk:=Bx.mk fun W hb=>HR.out W hb k hlt;have Hst:=Bx.mk (zH1 K H hlt);have Hat:=Bx.mk (zHz K H (k:=k) hlt);generalize K k=Kk at *;generalize H k=Hk at *;go_wp2_with fail;refine (HRk.out _ HI.out).mono ?_;rintro _ w2 ⟨rfl,hb⟩;have HI2:=Bx.mk (HI.out.trans (hb.mono HI.out.size));have HO2:=Bx.mk (HO.out.below hb);clear hb HI HO HRk hc
    have c0 : ∃ u,w2.cell? ⟨g,k,none⟩=some u:=by
     obtain ⟨b,off,he,h⟩:=HO2.out.sl k _ Hat.out;injection he with he;injection he with h1 h2;subst h1 h2;rw [Nat.zero_add] at h;exact ⟨_,h⟩
    obtain ⟨u,c0⟩:=c0;have f0:w2.frozen? ⟨g,k,none⟩=false:=zJE HO2.out (zH0 _ _ _).symm k;go_wp2_with fail;have HI3:=Bx.mk (show Below w.heap.size w (w2.setCell ⟨g,k,none⟩ (.string Hk)) from HI2.out.setCell Hg.out _);have HO3:=Bx.mk (zJF HO2.out (zH0 _ _ _).symm k (.string Hk));rw [Hst.out] at HO3;clear c0 f0 HI2 HO2 Hat
    go_roundw
    case rel=>exact ⟨k+1,by omega,by go_num,HI3,HO3⟩
    case measure=>simp [intOf];omega
  · obtain rfl:k=8:=by omega
    have t0:decide (((8:Nat):Int)<8)=false:=by decide
    have Hsl:=Bx.mk HO.out.sl;clear HO;go_wp2_with fail;refine (HIn.out _ g pc HI.out Hsl.out).mono ?_;rintro _ w9 ⟨rfl,hb9⟩;have HB9:=Bx.mk (HI.out.trans (hb9.mono HI.out.size));clear hb9;go_wp2_with fail;go_ret;exact ⟨rfl,HB9.out⟩
theorem zB6 (f:Pt→Int) (n:Nat) (a:Pt):(∃ c,Tr.can f n a = .uni c)∨(n=0 ∧ ∃ l,Tr.can f n a = .brick l∧l.length=64) ∨ ∃ m ch,n=m+1∧Tr.can f n a = .node (m+3) ch ∧ ∀ i:Fin 8,ch i=Tr.can f m (Tr.cor a m i.val):=by
 cases n with
 | zero =>
   unfold Tr.can Tr.mkBrick;split
   · exact .inl ⟨_,rfl⟩
   · exact .inr (.inl ⟨rfl,_,rfl,by simp⟩)
 | succ m =>
   have hc:Tr.can f (m+1) a=Tr.mkInner (m+3) fun i=>Tr.can f m (Tr.cor a m i.val):=rfl;rw [hc];unfold Tr.mkInner;split
   · rename_i h;obtain ⟨c,hc⟩:=h.1;exact .inl ⟨c,hc⟩
   · exact .inr (.inr ⟨m,_,rfl,rfl,fun _=>rfl⟩)
def ChOf (ch:Fin 8→Tr) (v:Value) (w:World):Prop := ∃ g pc,v = .slice (some ⟨g,0,none⟩) 8 pc∧Slv w (some ⟨g,0,none⟩) (zy (za ch))
def PtrS (o:Nat) (S:ByteArray) (v:Value) (w:World):Prop := ∃ g,v = .pointer (some ⟨g,o,none⟩)∧w.cell? ⟨g,o,none⟩=some (.string S)
theorem pts2 {w W:World} {ax ay az px py pz:Int} (h:W=(w.alloc (.cells #[ax,ay,az] 23)).alloc (.cells #[px,py,pz] 23)) :
 Below w.heap.size w W∧Bk W (w.heap.size) #[ax,ay,az] 23∧Bk W (w.heap.size+1) #[px,py,pz] 23:=by
 rw [h];exact ⟨((Below.refl _ _).alloc (Nat.le_refl _) _).alloc (by simp) _,zE (zD _ _ _ (by simp)),zD _ _ _ (by simp)⟩
theorem zEd (c:Int) (hc:0≤c∧c≤255) (ax ay az px py pz dd:Int) (w:World) :
 Calls Tryz.prog 111 #[.string (strOfNums (Tr.enc (.uni c))),.agg #[ax,ay,az],dd,.agg #[px,py,pz]] w fun e w'=>e = .returned (.int .i64 c)∧Below w.heap.size w w':=by
 have hby:Byt (Tr.enc (.uni c)):=Tr.enc_byt _ hc;have hi0:=fun W:World=>zW (P:=Tryz.prog) 9 Tryz.underlying9 hby (k:=0) (x:=117) (by simp [Tr.enc]) W
 rw [show ((0:Nat):Int)=0 from rfl] at hi0;have hi1:=fun W:World=>zW (P:=Tryz.prog) 9 Tryz.underlying9 hby (k:=1) (x:=c) (by simp [Tr.enc]) W
 rw [show ((1:Nat):Int)=1 from rfl] at hi1;have hwrap:IntKind.i64.wrap c=c:=IntWalk.i64_in _ (by omega)
 generalize strOfNums (Tr.enc (.uni c))=S at *;clear hby;go_enter Tryz.func111,Tryz.ntmps111;go_wp2_with fail;go_ret;exact ⟨rfl,((Below.refl _ _).alloc (Nat.le_refl _) _).alloc (by simp) _⟩
theorem zEb (l:List Int) (hl:l.length=64) (hbl:Byt l) (k:Nat) (hk:k<64) (ax ay az px py pz dd:Int) (hix : ∀ W,Calls Tryz.prog 148 #[.agg #[ax,ay,az],.agg #[px,py,pz]] W fun e w'=>e = .returned (.int .i64 (k:Int))∧Below W.heap.size W w') (w:World) :
 Calls Tryz.prog 111 #[.string (strOfNums (Tr.enc (.brick l))),.agg #[ax,ay,az],dd,.agg #[px,py,pz]] w fun e w'=>e = .returned (.int .i64 (l.getD k 0))∧Below w.heap.size w w':=by
 have hby:Byt (Tr.enc (.brick l)):=Tr.enc_byt (.brick l) ⟨hl,hbl⟩;obtain ⟨x,hx⟩ : ∃ x,l[k]? = some x:=⟨_,List.getElem?_eq_getElem (by omega)⟩
 have hg:l.getD k 0=x:=by rw [List.getD_eq_getElem?_getD,hx];rfl
 have hxb:=hbl x (List.mem_of_getElem? hx);rw [hg];have hi0:=fun W:World=>zW (P:=Tryz.prog) 9 Tryz.underlying9 hby (k:=0) (x:=98) (by simp [Tr.enc]) W
 rw [show ((0:Nat):Int)=0 from rfl] at hi0;have hik:=fun W:World=>zW (P:=Tryz.prog) 9 Tryz.underlying9 hby (k:=k+1) (x:=x) (by simp [Tr.enc,hx]) W
 rw [show ((k+1:Nat):Int)=1+(k:Int) by omega] at hik
 have hwrap:IntKind.i64.wrap x=x:=IntWalk.i64_in _ (by omega)
 have hix:=Bx.mk hix;have b0:(0:Int)≤(k:Int):=by omega
 have b1:(k:Int)<64:=by omega
 generalize strOfNums (Tr.enc (.brick l))=S at *;clear hby hg hx hl hbl;go_enter Tryz.func111,Tryz.ntmps111;go_upto_region 1 with fail;generalize hW:World.alloc (World.alloc w _) _=W;have HP:=Bx.mk (pts2 hW.symm);clear hW;obtain ⟨ca0,ca1,ca2⟩:=HP.out.2.1.c3;obtain ⟨cp0,cp1,cp2⟩:=HP.out.2.2.c3;go_wp2_with fail;refine (hix.out _).mono ?_;rintro _ w1 ⟨rfl,hb1⟩;have HB:=Bx.mk (HP.out.1.trans (hb1.mono HP.out.1.size));clear hb1 HP ca0 ca1 ca2 cp0 cp1 cp2 hix;go_wp2_with fail;go_ret;exact ⟨rfl,HB.out⟩
theorem zEc (m:Nat) (hm:m≤11) (ch:Fin 8→Tr) (h:Tr.WF (.node (m+3) ch)) (hl:(Tr.enc (.node (m+3) ch)).length≤1000000000000000) (k:Nat) (hk:k<8) (ax ay az px py pz x y z r:Int)
 (hoc : ∀ W,Calls Tryz.prog 149 #[.agg #[ax,ay,az],.int .i64 ((m:Int)+3),.agg #[px,py,pz]] W fun e w'=>e = .returned (.int .i64 (k:Int))∧Below W.heap.size W w')
 (hcor : ∀ W,Calls Tryz.prog 97 #[.agg #[ax,ay,az],.int .i64 ((m:Int)+3),(k:Int)] W fun e w'=>e = .returned (.agg #[x,y,z])∧Below W.heap.size W w')
 (hih : ∀ W,Calls Tryz.prog 111 #[.string (strOfNums (Tr.enc (ch ⟨k,hk⟩))),.agg #[x,y,z],.int .i64 ((m:Int)+2),.agg #[px,py,pz]] W fun e w'=>e = .returned (.int .i64 r)∧Below W.heap.size W w') (w:World) :
 Calls Tryz.prog 111 #[.string (strOfNums (Tr.enc (.node (m+3) ch))),.agg #[ax,ay,az],.int .i64 ((m:Int)+3),.agg #[px,py,pz]] w fun e w'=>e = .returned (.int .i64 r)∧Below w.heap.size w w':=by
 have hby:=Tr.enc_byt _ h;have hi0:=fun W:World=>zW (P:=Tryz.prog) 9 Tryz.underlying9 hby (k:=0) (x:=110) (by simp [Tr.enc]) W
 rw [show ((0:Nat):Int)=0 from rfl] at hi0;have hch:=Bx.mk (zKR (m+3) ch h hl);have hkat:=Bx.mk (zMy (zF7 ch hk));have hoc:=Bx.mk hoc;have hcor:=Bx.mk hcor;have hih:=Bx.mk hih;have hsub:IntKind.i64.wrap ((m:Int)+3 - 1)=(m:Int)+2:=by rw [show (m:Int)+3 - 1=(m:Int)+2 by omega];exact IntWalk.i64_in _ (by omega)
 generalize strOfNums (Tr.enc (.node (m+3) ch))=S at *;generalize strOfNums (Tr.enc (ch ⟨k,hk⟩))=Sk at *;have b0:(0:Int)≤(k:Int):=by omega
 have b1:(k:Int)<8:=by omega
 clear hby h hl;go_enter Tryz.func111,Tryz.ntmps111;go_upto_region 1 with fail;generalize hW:World.alloc (World.alloc w _) _=W;have HP:=Bx.mk (pts2 hW.symm);clear hW;obtain ⟨ca0,ca1,ca2⟩:=HP.out.2.1.c3;obtain ⟨cp0,cp1,cp2⟩:=HP.out.2.2.c3;go_wp2_with fail;refine (hoc.out _).mono ?_;rintro _ w1 ⟨rfl,hb1⟩;have HP1:Bx (Below w.heap.size w w1∧Bk w1 (w.heap.size) #[ax,ay,az] 23∧Bk w1 (w.heap.size+1) #[px,py,pz] 23):=⟨HP.out.1.trans (hb1.mono HP.out.1.size),HP.out.2.1.later hb1,HP.out.2.2.later hb1⟩;clear hb1 HP ca0 ca1 ca2 cp0 cp1 cp2 hoc;go_upto_region 6 with fail
 refine zOU 13 (fun i v w'=>match i with
  | 0=>v = .string S
  | 1=>ChOf ch v w'
  | 2=>v = .int .i64 (k:Int)
  | 3=>PtrS k Sk v w'
  | 4=>v = .string Sk
  | 5=>v = .agg #[ax,ay,az]
  | 6=>v = .int .i64 ((m:Int)+3)
  | 7=>v = .int .i64 (k:Int)
  | 8=>v = .agg #[x,y,z]
  | 9=>v = .int .i64 ((m:Int)+3)
  | 10=>v = .int .i64 ((m:Int)+2)
  | 11=>v = .agg #[px,py,pz]
  | _=>v = .int .i64 r) (by kernel_rfl) (by kernel_rfl) 43 (by kernel_rfl) (by rfl) ?_ ?_ ?_
 · intro i hi v u1 u2 hb h
   match i,hi with
   | 0,_=>exact h
   | 1,_=>obtain ⟨g,pc,h1,h2⟩:=h;exact ⟨g,pc,h1,h2.below hb⟩
   | 2,_=>exact h
   | 3,_=>obtain ⟨g,h1,h2⟩:=h;exact ⟨g,h1,cell_later hb h2⟩
   | 4,_=>exact h
   | 5,_=>exact h
   | 6,_=>exact h
   | 7,_=>exact h
   | 8,_=>exact h
   | 9,_=>exact h
   | 10,_=>exact h
   | 11,_=>exact h
   | 12,_=>exact h
 · intro i o hi ho ρ w2 hb hc1 hc2 hc3 hk
   match i,hi with
   | 0, _ =>
     obtain rfl:=Option.some.inj ho;have h2:ρ (.tmp 0) = .string S:=hk 0 (by simp [Op.operands])
     clear hk hb;go_simp;exact Below.refl _ _
   | 1, _ =>
     obtain rfl:=Option.some.inj ho;have h2:ρ (.tmp 30) = .string S:=hk 30 (by simp [Op.operands,Call.operands])
     have h4:=(hch.out w2).mono (R':=fun e w'' => ∃ v,e = .returned v∧Below w2.heap.size w2 w''∧ChOf ch v w'') (fun e w'' ⟨g,pc,x,y,_,z⟩=>⟨_,x,z,g,pc,rfl,y⟩);have H4:=Bx.mk h4;clear hk hb h4;go_simp
     all_goals exact H4.out
   | 2, _ =>
     obtain rfl:=Option.some.inj ho;have h2:ρ (.tmp 9) = .int .i64 (k:Int):=hk 9 (by simp [Op.operands])
     clear hk hb;go_simp;exact Below.refl _ _
   | 3, _ =>
     obtain rfl:=Option.some.inj ho;obtain ⟨g,pc,h2,h3⟩:ChOf ch (ρ (.tmp 31)) w2:=hk 31 (by simp [Op.operands])
     have h5:ρ (.tmp 32) = .int .i64 (k:Int):=hk 32 (by simp [Op.operands])
     obtain ⟨b',off,he,hck⟩:=h3 k _ hkat.out;simp only [Option.some.injEq,Addr.mk.injEq,and_true] at he;obtain ⟨rfl,rfl⟩:=he;rw [Nat.zero_add] at hck;have hck:=Bx.mk hck;clear hk hb h3;go_simp;exact ⟨Below.refl _ _,_,rfl,hck.out⟩
   | 4, _ =>
     obtain rfl:=Option.some.inj ho;obtain ⟨g,h2,h3⟩:PtrS k Sk (ρ (.tmp 33)) w2:=hk 33 (by simp [Op.operands])
     clear hk hb;go_simp;exact Below.refl _ _
   | 5, _ =>
     obtain rfl:=Option.some.inj ho;have h2:ρ (.tmp 5) = .pointer (some ⟨w.heap.size,0,none⟩):=hk 5 (by simp [Op.operands])
     have kk:=HP1.out.2.1.later hb;obtain ⟨c0,c1,c2⟩:=kk.c3;clear hk hb kk;go_simp;exact Below.refl _ _
   | 6, _ =>
     obtain rfl:=Option.some.inj ho;have h2:ρ (.tmp 2) = .int .i64 ((m:Int)+3):=hk 2 (by simp [Op.operands])
     clear hk hb;go_simp;exact Below.refl _ _
   | 7, _ =>
     obtain rfl:=Option.some.inj ho;have h2:ρ (.tmp 9) = .int .i64 (k:Int):=hk 9 (by simp [Op.operands])
     clear hk hb;go_simp;exact Below.refl _ _
   | 8, _ =>
     obtain rfl:=Option.some.inj ho;have h2:ρ (.tmp 35) = .agg #[ax,ay,az]:=hk 35 (by simp [Op.operands,Call.operands])
     have h3:ρ (.tmp 36) = .int .i64 ((m:Int)+3):=hk 36 (by simp [Op.operands,Call.operands])
     have h5:ρ (.tmp 37) = .int .i64 (k:Int):=hk 37 (by simp [Op.operands,Call.operands])
     have h4:=(hcor.out w2).mono (R':=fun e w'' => ∃ v,e = .returned v∧Below w2.heap.size w2 w''∧v = .agg #[x,y,z]) (fun e w'' ⟨x,y⟩=>⟨_,x,y,rfl⟩);have H4:=Bx.mk h4;clear hk hb h4;go_simp
     all_goals exact H4.out
   | 9, _ =>
     obtain rfl:=Option.some.inj ho;have h2:ρ (.tmp 2) = .int .i64 ((m:Int)+3):=hk 2 (by simp [Op.operands])
     clear hk hb;go_simp;exact Below.refl _ _
   | 10, _ =>
     obtain rfl:=Option.some.inj ho;have h2:ρ (.tmp 39) = .int .i64 ((m:Int)+3):=hk 39 (by simp [Op.operands])
     clear hk hb;go_simp;exact Below.refl _ _
   | 11, _ =>
     obtain rfl:=Option.some.inj ho;have h2:ρ (.tmp 7) = .pointer (some ⟨w.heap.size+1,0,none⟩):=hk 7 (by simp [Op.operands])
     have kk:=HP1.out.2.2.later hb;obtain ⟨c0,c1,c2⟩:=kk.c3;clear hk hb kk;go_simp;exact Below.refl _ _
   | 12, _ =>
     obtain rfl:=Option.some.inj ho;have h2:ρ (.tmp 34) = .string Sk:=hk 34 (by simp [Op.operands,Call.operands])
     have h3:ρ (.tmp 38) = .agg #[x,y,z]:=hk 38 (by simp [Op.operands,Call.operands])
     have h5:ρ (.tmp 40) = .int .i64 ((m:Int)+2):=hk 40 (by simp [Op.operands,Call.operands])
     have h6:ρ (.tmp 41) = .agg #[px,py,pz]:=hk 41 (by simp [Op.operands,Call.operands])
     have h4:=(hih.out w2).mono (R':=fun e w'' => ∃ v,e = .returned v∧Below w2.heap.size w2 w''∧v = .int .i64 r) (fun e w'' ⟨x,y⟩=>⟨_,x,y,rfl⟩);have H4:=Bx.mk h4;clear hk hb h4;go_simp
     all_goals exact H4.out
 · intro vs W1 hlen hb hR
   match vs,hlen with
   | [v0, v1, v2, v3, v4, v5, v6, v7, v8, v9, v10, v11, v12], _ =>
     have r0:v0 = .string S:=hR 0 v0 rfl;obtain ⟨g1,pc1,r1,-⟩:ChOf ch v1 W1:=hR 1 v1 rfl;have r2:v2 = .int .i64 (k:Int):=hR 2 v2 rfl;obtain ⟨g3,r3,-⟩:PtrS k Sk v3 W1:=hR 3 v3 rfl;have r4:v4 = .string Sk:=hR 4 v4 rfl;have r5:v5 = .agg #[ax,ay,az]:=hR 5 v5 rfl;have r6:v6 = .int .i64 ((m:Int)+3):=hR 6 v6 rfl;have r7:v7 = .int .i64 (k:Int):=hR 7 v7 rfl;have r8:v8 = .agg #[x,y,z]:=hR 8 v8 rfl;have r9:v9 = .int .i64 ((m:Int)+3):=hR 9 v9 rfl;have r10:v10 = .int .i64 ((m:Int)+2):=hR 10 v10 rfl;have r11:v11 = .agg #[px,py,pz]:=hR 11 v11 rfl;have r12:v12 = .int .i64 r:=hR 12 v12 rfl;subst r0 r1 r2 r3 r4 r5 r6 r7 r8 r9 r10 r11 r12;clear hR;have HB:=Bx.mk (HP1.out.1.trans (hb.mono HP1.out.1.size));clear hb HP1 hch hcor hih hkat
     simp only [zKA,List.take_succ_cons,List.take_zero,List.drop_succ_cons,List.drop_zero,List.map_cons,List.map_nil,List.zip_cons_cons,List.zip_nil_right,List.foldl_cons,List.foldl_nil];go_wp2_with fail;go_ret;exact ⟨rfl,HB.out⟩
theorem zEa (f:Pt→Int) (hf : ∀ p,0≤f p∧f p≤255) (px py pz:Int) : ∀ (n:Nat),n≤12 → ∀ (ax ay az:Int),Tr.Al n ⟨ax,ay,az⟩→Tr.InC n ⟨ax,ay,az⟩ ⟨px,py,pz⟩→(0≤ax∧ax+2 ^ (n+2)≤16384)→(0≤ay∧ay+2 ^ (n+2)≤16384)→(0≤az∧az+2 ^ (n+2)≤16384) → ∀ (w:World),
 Calls Tryz.prog 111 #[.string (strOfNums (Tr.enc (Tr.can f n ⟨ax,ay,az⟩))),.agg #[ax,ay,az],.int .i64 ((n:Int)+2),.agg #[px,py,pz]] w fun e w'=>e = .returned (.int .i64 (f ⟨px,py,pz⟩))∧Below w.heap.size w w':=by
 intro n
 induction n using Nat.strongRecOn with
 | _ n ih =>
   intro hn ax ay az hal hin hx hy hz w;have hp:=zn (show n+2≤14 by omega)
   have hw:=zAD hf n ⟨ax,ay,az⟩ (by omega)
   have hs:=zCF hf hn ⟨ax,ay,az⟩;have hget:=Tr.get_can f n ⟨ax,ay,az⟩ ⟨px,py,pz⟩ hal hin;rcases zB6 f n ⟨ax,ay,az⟩ with ⟨c,hc⟩ | ⟨rfl,l,hc,hl⟩ | ⟨m,ch,rfl,hc,hch⟩
   · rw [hc] at hw hget ⊢;rw [show f ⟨px,py,pz⟩=c from hget.symm];exact zEd c hw ax ay az px py pz _ w
   · rw [hc] at hw hget ⊢;have hb:=zFN (m:=4) (by decide) hal hin
     have e4:(2:Int) ^ (0+2)=4:=by decide
     rw [e4] at hx hy hz;have hix:=fun W=>zFS ax ay az px py pz (by omega) (by omega) (by omega) W
     rw [idx_eq hal hin] at hix;rw [show f ⟨px,py,pz⟩=l.getD (Tr.idx ⟨px,py,pz⟩) 0 from hget.symm];exact zEb l hl hw.2 _ (Tr.idx_lt _) ax ay az px py pz _ hix w
   · rw [hc] at hw hs ⊢;have hps:=Tr.pow_succ2 m;have h3:(((m+1:Nat):Int)+2)=(m:Int)+3:=by omega
     rw [h3];have hk:=Tr.octN_lt m ⟨px,py,pz⟩;have hb:=zCd hk (show (0:Int)≤2 ^ (m+2) by have:=Tr.pow_pos2 m;omega)
     have hco:=zCv ax ay az m (Tr.octN m ⟨px,py,pz⟩);have h1:=Tr.al_cor hal (Tr.octN m ⟨px,py,pz⟩);have h2:Tr.InC m (Tr.cor ⟨ax,ay,az⟩ m (Tr.octN m ⟨px,py,pz⟩)) ⟨px,py,pz⟩:=Tr.inC_step hal hin;have hp0:=Tr.pow_pos2 m;rw [hco] at h1 h2;have hcor:=fun W=>zCw (m+2) (by omega) ax ay az _ hk (by omega) (by omega) (by omega) W
     rw [show ((m+2:Nat):Int)+1=(m:Int)+3 by omega] at hcor
     refine zEc m (by omega) ch hw (by omega) _ hk ax ay az px py pz _ _ _ _ (fun W=>zIc m (by omega) ax ay az px py pz hal hin (by omega) (by omega) (by omega) W) hcor (fun W=>?_) w
     have:=ih m (by omega) (by omega) _ _ _ h1 h2 (by omega) (by omega) (by omega) W
     rw [←hco,←hch ⟨_,hk⟩] at this;exact this
theorem zAT (n:Nat) (hn:n≤12) (f:Pt→Int) (hf : ∀ p,0≤f p∧f p≤255) (px py pz:Int) (hI:inB ⟨px,py,pz⟩ (zL (2 ^ (n+2)))=true) (w:World) :
 Calls Tryz.prog 56 #[.string (strOfNums (Tr.enc (trF n f))),.int .i64 ((n:Int)+2),.agg #[px,py,pz]] w fun e w'=>e = .returned (.int .i64 (f ⟨px,py,pz⟩))∧Below w.heap.size w w':=by
 have hp:=zn (show n+2≤14 by omega)
 have hcub:=fun W=>zDB (n+2) (by omega) W
 have hrin:=fun W=>zKk px py pz 0 0 0 (2 ^ (n+2)) (2 ^ (n+2)) (2 ^ (n+2)) W;rw [show ((n+2:Nat):Int)=(n:Int)+2 by omega] at hcub
 have hcub:=Bx.mk hcub;have hset:=Bx.mk fun W=>zEa f hf px py pz n hn 0 0 0 (zA7 n) (zFK hI) (by omega) (by omega) (by omega) W
 rw [show inB ⟨px,py,pz⟩ ⟨⟨0,0,0⟩,⟨2 ^ (n+2),2 ^ (n+2),2 ^ (n+2)⟩⟩=true from hI] at hrin;have hrin:=Bx.mk hrin;clear hI hp;unfold trF;generalize strOfNums (Tr.enc (Tr.can f n ⟨0,0,0⟩))=S at *;generalize f ⟨px,py,pz⟩=r at *;generalize (2:Int) ^ (n+2)=m at *;go_enter Tryz.func56,Tryz.ntmps56;go_upto_region 1 with fail;generalize hW:World.alloc w _=W;have hB:=bl1 hW;have kp:Bk W (w.heap.size) #[px,py,pz] 23:=bk0 hW;clear hW;obtain ⟨cp0,cp1,cp2⟩:=kp.r3;have q0:=Bx.mk fun dk osk=>Calls.regrown_of (hcub.out (grow (redrawn W dk) osk));have q1:=Bx.mk fun dk osk=>Calls.regrown_of (hrin.out (grow (redrawn W dk) osk));refine wp_region_quiet_below (by kernel_rfl) (by kernel_rfl) ?_
 repeat (first | go_big_quiet_step ((first | with_reducible exact q0.out _ _ | with_reducible exact q1.out _ _)) | quiet_step (first | with_reducible exact q0.out _ _ | with_reducible exact q1.out _ _))
 refine wpQuiet_nil ?_;rintro _ ⟨⟨dq,osq⟩,rfl⟩;have hb0:=below_regrown W dq osq;replace hB:=hB.trans (hb0.mono hB.size);replace kp:=kp.later hb0;clear q0 q1 cp0 cp1 cp2 hb0 hcub hrin;generalize grow (redrawn W dq) osq=w1 at *;obtain ⟨cp0,cp1,cp2⟩:=kp.c3;go_wp2_with fail;refine (hset.out _).mono ?_;rintro _ w2 ⟨rfl,hb2⟩;replace hB:=hB.trans (hb2.mono hB.size);clear hb2 cp0 cp1 cp2;go_wp2_with fail;go_ret;exact ⟨rfl,hB⟩
theorem zAU (n:Nat) (hn:n≤12) (f:Pt→Int) (px py pz:Int) (hI:inB ⟨px,py,pz⟩ (zL (2 ^ (n+2)))=false) (w:World) :
 Calls Tryz.prog 56 #[.string (strOfNums (Tr.enc (trF n f))),.int .i64 ((n:Int)+2),.agg #[px,py,pz]] w fun e w'=>e = .returned (.int .i64 (0))∧Below w.heap.size w w':=by
 have hp:=zn (show n+2≤14 by omega)
 have hcub:=fun W=>zDB (n+2) (by omega) W
 have hrin:=fun W=>zKk px py pz 0 0 0 (2 ^ (n+2)) (2 ^ (n+2)) (2 ^ (n+2)) W;rw [show ((n+2:Nat):Int)=(n:Int)+2 by omega] at hcub
 have hcub:=Bx.mk hcub;rw [show inB ⟨px,py,pz⟩ ⟨⟨0,0,0⟩,⟨2 ^ (n+2),2 ^ (n+2),2 ^ (n+2)⟩⟩=false from hI] at hrin;have hrin:=Bx.mk hrin;clear hI hp;generalize strOfNums (Tr.enc (trF n f))=S at *;generalize (2:Int) ^ (n+2)=m at *;go_enter Tryz.func56,Tryz.ntmps56;go_upto_region 1 with fail;generalize hW:World.alloc w _=W;have hB:=bl1 hW;have kp:Bk W (w.heap.size) #[px,py,pz] 23:=bk0 hW;clear hW;obtain ⟨cp0,cp1,cp2⟩:=kp.r3;have q0:=Bx.mk fun dk osk=>Calls.regrown_of (hcub.out (grow (redrawn W dk) osk));have q1:=Bx.mk fun dk osk=>Calls.regrown_of (hrin.out (grow (redrawn W dk) osk));refine wp_region_quiet_below (by kernel_rfl) (by kernel_rfl) ?_
 repeat (first | go_big_quiet_step ((first | with_reducible exact q0.out _ _ | with_reducible exact q1.out _ _)) | quiet_step (first | with_reducible exact q0.out _ _ | with_reducible exact q1.out _ _))
 refine wpQuiet_nil ?_;rintro _ ⟨⟨dq,osq⟩,rfl⟩;have hb0:=below_regrown W dq osq;replace hB:=hB.trans (hb0.mono hB.size);replace kp:=kp.later hb0;clear q0 q1 cp0 cp1 cp2 hb0 hcub hrin;generalize grow (redrawn W dq) osq=w1 at *;obtain ⟨cp0,cp1,cp2⟩:=kp.c3;go_wp2_with fail;go_ret;exact ⟨rfl,hB⟩
theorem zAS (n:Nat) (hn:n≤12) (f:Pt→Int) (hf:FnC n f) (px py pz:Int) (w:World) :
 Calls Tryz.prog 56 #[.string (strOfNums (Tr.enc (trF n f))),.int .i64 ((n:Int)+2),.agg #[px,py,pz]] w fun e w'=>e = .returned (.int .i64 (f ⟨px,py,pz⟩))∧Below w.heap.size w w':=by
 cases hI:inB ⟨px,py,pz⟩ (zL (2 ^ (n+2))) with
 | true=>exact zAT n hn f hf.range px py pz hI w
 | false=>rw [hf.out _ hI];exact zAU n hn f px py pz hI w
end
end Go.Proofs.YtgnfgblkpnfcnaaGreatDoor
