/- Sum, Rpd, Wir: joined by program, for one claim. -/
import Derived.Test.YtgnfgblkpnfcnaaGreatDoorM38
import Derived.Lib.AppendStr
set_option maxHeartbeats 1000000
set_option maxRecDepth 100000
set_option linter.unusedVariables false
set_option linter.unusedSimpArgs false
namespace Go.Proofs.YtgnfgblkpnfcnaaGreatDoor
section
open Go.RowKit Go.Sort
theorem zIp (st:W8) (bl:List Int) (n:Nat):(zMj st bl n).toArray.all (·.oneCell')=true:=by
 rw [Array.all_eq_true_iff_forall_mem];intro v hv;rw [List.mem_toArray] at hv;unfold zMj at hv;rw [List.mem_append,List.mem_append,List.mem_map,List.mem_map,List.mem_singleton] at hv;rcases hv with (⟨x,-,rfl⟩ | ⟨x,-,rfl⟩) | rfl <;> rfl
theorem zFY (cs:Array Value) (h:cs.size=73):(Tryz.prog.info? 158).map (·.size)=some cs.size:=by rw [h];kernel_rfl
def z64:List Int:=List.replicate 64 0
def z32:List Int:=List.replicate 32 0
theorem zBX (w:World):Calls Tryz.prog 134 #[] w fun e w'=>e = .returned (zMq iv z64 0)∧Below w.heap.size w w':=by
 have hsz:Bx ((zMj iv z64 0).toArray.size=73):=⟨rfl⟩;have hone:=Bx.mk (zIp iv z64 0);have hs2:Bx (Tryz.zeroCells158.size=(zMj iv z64 0).toArray.size):=⟨by rw [hsz.out];kernel_rfl⟩
 have hu:=Tryz.underlying158;have hcs:zMj iv z64 0=(zMj iv z64 0):=rfl;go_enter Tryz.func134,Tryz.ntmps134;go_upto_region 1 with fail;go_wp2_with (refine zAJ rfl _ _ _ rfl w.heap.size rfl _ (zMj iv z64 0).toArray rfl _ (heap_alloc_new _ _) (zFY _ hsz.out) hs2.out hone.out ?_);refine bodyPost_ret (v:=zMq iv z64 0) (results_cell_row rfl _ _ w.heap.size 158 _ (0,0) _ rfl (setRow_heap _ _ _ _ _ (0,0) (heap_alloc_new _ _)) hu rfl (zFY _ hsz.out)) rfl ⟨rfl,below_setRow ((Below.refl _ _).alloc (Nat.le_refl _) _) (Nat.le_refl _) _⟩
theorem zMu (kc:List Int):StreamOf kc [] iv z64:=zMw kc
structure SumI (w:World) (st:W8) (bl:List Int) (n:Nat) (v:Value) (xs:List Int) (wr:World):Prop where
 bel:Below w.heap.size w wr
 kb:Bk wr w.heap.size (zMj st bl n).toArray 158
 kr:Bl wr (w.heap.size+1) .u8 z32 162
 own:Own wr (w.heap.size+2) 5 .u8 v xs
theorem SumI.add {w:World} {st:W8} {bl:List Int} {n:Nat} {v v':Value} {xs:List Int} {x:Int} {w1 w4:World} (h:SumI w st bl n v xs w1) {o:Obj} (ho:Own w4 (w.heap.size+2) 5 .u8 v' (xs++[x])) (hg:(w1.alloc o).grownBy w4 v.ownBlock):SumI w st bl n v' (xs++[x]) w4:=by
 have hne : ∀ k,k<w.heap.size+2→v.ownBlock ≠ some k:=fun k hk e=>by have:=(h.own.lt k e).1;omega
 have hz:(w1.alloc o).heap.size=w1.heap.size+1:=by simp
 have hb:=h.kb.lt;have hr:=h.kr.lt;have hb2:Below (w.heap.size+2) (w1.alloc o) w4:=⟨hg.os,hg.tape,hg.output,hg.size,fun k hk=>hg.block k (by omega) (fun e=>hne k hk e.symm)⟩
 have hb1:Below w1.heap.size w1 (w1.alloc o):=(Below.refl _ _).alloc (Nat.le_refl _) _;refine ⟨(h.bel.trans (hb1.mono h.bel.size)).trans (hb2.mono (by omega)),?_,?_,ho⟩
 · have:=h.kb.later hb1;unfold Bk at *;rw [hb2.block _ (by omega)];exact this
 · have:=h.kr.later hb1;unfold Bl Bk at *;rw [hb2.block _ (by omega)];exact this
structure OutI (w:World) (o:Nat) (s:W8) (cs:List Value) (i:Nat) (wr:World):Prop where
 bel:Below w.heap.size w wr
 kb:Bk wr w.heap.size cs.toArray 158
 kr:Bl wr (w.heap.size+1) .u8 z32 162
 ko:Bl wr o .u8 ((List.range i).map (zI4 s)++List.replicate (32 - i) 0) 162
 ap:w.heap.size+1<o
theorem OutI.put {w wr:World} {o:Nat} {s:W8} {cs:List Value} {i:Nat} (h:OutI w o s cs i wr) (hi:i<32):OutI w o s cs (i+1) (wr.setCell ⟨o,i,none⟩ (.int .u8 (zI4 s i))):=by
 have ha:=h.ap;refine ⟨h.bel.setCell (by show w.heap.size≤o;omega) _,h.kb.other _ _ (by show w.heap.size ≠ o;omega),h.kr.other _ _ (by show w.heap.size+1 ≠ o;omega),?_,ha⟩
 have:=h.ko.put i (zI4 s i);rw [show 32 - i=(32 - (i+1))+1 by omega,List.replicate_succ,List.set_append_right _ _ (by rw [List.length_map,List.length_range];omega),List.length_map,List.length_range,Nat.sub_self,List.set_cons_zero] at this
 rw [List.range_succ,List.map_append,List.append_assoc];exact this
theorem OutI.at_ {w wr:World} {o:Nat} {s:W8} {cs:List Value} {i:Nat} (h:OutI w o s cs i wr) (hi:i<32):wr.cell? ⟨o,i,none⟩=some (.int .u8 0) :=
 h.ko.cell (by rw [List.getElem?_append_right (by rw [List.length_map,List.length_range];omega),List.length_map,List.length_range,Nat.sub_self,show 32 - i=(32 - (i+1))+1 by omega,List.replicate_succ];rfl)
theorem zN1 (s:W8) {q:Nat} (h:q<8):s.list[q]? = some (s.list.getD q 0):=by
 rw [List.getD_eq_getElem?_getD,List.getElem?_eq_getElem (show q<s.list.length from h)];rfl
def zAd (w:World) (kc m:List Int) (e:Ending) (w':World):Prop:=e = .returned (zBP .u8 (sha kc m))∧Below w.heap.size w w'
theorem zM3 (kc m:List Int) (hk:kc.length=64) (hm:m.length≤500000000) (st:W8) (bl:List Int) (h:StreamOf kc m st bl) (w:World) (hK:zAX w 1 kc) :
 Calls Tryz.prog 137 #[zMq st bl m.length] w (zAd w kc m):=by
 have hK:=Bx.mk hK;have hso:=Bx.mk h;have hbl:=h.len;unfold zMq;clear h;go_enter Tryz.func137,Tryz.ntmps137;go_upto_region 1 with fail;generalize hW:World.alloc (World.alloc w _) _=W
 have HJ:Bx (Below w.heap.size w W∧Bk W w.heap.size (zMj st bl m.length).toArray 158∧Bl W (w.heap.size+1) .u8 z32 162):=by
  rw [←hW];exact ⟨⟨((Below.refl _ _).alloc (Nat.le_refl _) _).alloc (by simp) _,zE (zD _ _ _ (by simp)),(zD _ _ _ (by simp):Bk _ _ _ _)⟩⟩
 clear hW
 have hc72 : ∀ W',Bk W' w.heap.size (zMj st bl m.length).toArray 158→W'.cell? ⟨w.heap.size,72,none⟩=some (.int .u64 (m.length:Int)):=fun W' h=>h.cell 72 (by
  rw [List.getElem?_toArray];unfold zMj;rw [List.getElem?_append_right (by rw [List.length_append,List.length_map,List.length_map,hbl];show 8+64≤72;omega),List.length_append,List.length_map,List.length_map,hbl];rfl)
 have hc72:=Bx.mk hc72;have c72:=hc72.out W HJ.out.2.1;generalize hn:m.length=n at *;have hn:=Bx.mk hn;go_upto_region 3 with fail;generalize hW:World.alloc W _=W1
 have HI:Bx (SumI w st bl n (.slice (some ⟨W.heap.size,0,none⟩) 1 1) (128::List.replicate 0 0) W1):=by
  rw [←hW];have hz:w.heap.size+2≤W.heap.size:=HJ.out.2.2.lt;exact ⟨⟨HJ.out.1.alloc HJ.out.1.size _,zE HJ.out.2.1,zE HJ.out.2.2,Own.lit _ _ _ _ _ _ _ hz (by decide) rfl rfl⟩⟩
 clear hW HJ c72
 go_loopw [4] (fun v4 wr => ∃ (j:Nat) (a:Option Addr) (c:Nat),j≤zJK n∧v4 = .slice a (1+j) c∧Bx (SumI w st bl n (.slice a (1+j) c) (128::List.replicate j 0) wr)) (fun v4 _=>match v4 with | .slice _ x _=>1+zJK n - x | _=>0)
 case atStart=>exact ⟨0,_,_,Nat.zero_le _,rfl,HI⟩
 case round =>
  clear HI;obtain ⟨j,a,c,hj,rfl,HI⟩:=hrel;have c72:=hc72.out wr HI.out.kb;have hpt:=zJL n j hj;have hpz:zJK n<64:=by unfold zJK;omega
  have q0:(0:Int)≤(n:Int):=by omega
  have q1:(n:Int)+(1+(j:Int))≤600000000:=by omega
  by_cases hlt:j<zJK n
  · have t0:(((n:Int)+(1+(j:Int))) % 64 != 56)=true:=by simp;omega
    clear hpt;have hlen:Bx ((128::List.replicate j (0:Int)).length≤1000000000):=⟨by rw [List.length_cons,List.length_replicate];omega⟩
    have hbs:Bx (w.heap.size+2≤wr.heap.size):=⟨HI.out.kr.lt⟩;go_wp2_with (at_builtin;refine zAF rfl _ _ 84 rfl 5 .u8 (.int .u8 0) 1 (by omega) Tryz.underlying84 (by kernel_rfl) rfl (w.heap.size+2) _ (128::List.replicate j 0) rfl (HI.out.own.alloc _) 0 ⟨wr.heap.size,0,none⟩ 1 rfl (zH _ _ _) hlen.out (ze hbs.out _) ?_)
    intro v' w4 ho hg _;have HI2:=HI.out.add ho hg;have e:128::List.replicate j (0:Int)++[0]=128::List.replicate (j+1) 0:=by rw [List.cons_append,←List.replicate_succ']
    rw [e] at HI2;obtain ⟨a',c',rfl,-⟩:=HI2.own.form;have e2:(128::List.replicate (j+1) (0:Int)).length=1+(j+1):=by rw [List.length_cons,List.length_replicate];omega
    rw [e2] at HI2 ⊢;replace HI2:=Bx.mk HI2;clear e e2 ho hg HI c72;go_wp2_with fail
    go_roundw
    case rel=>exact ⟨j+1,a',c',by omega,rfl,HI2⟩
    case measure=>show 1+zJK n - (1+(j+1))<1+zJK n - (1+j);omega
  · have t0:(((n:Int)+(1+(j:Int))) % 64 != 56)=false:=by simp;omega
    obtain rfl:j=zJK n:=by omega
    clear hpt;have HI0:Bx (∃ v,v = .slice a (1+zJK n) c∧SumI w st bl n v (128::List.replicate (zJK n) 0++(List.range 0).map (be8 n)) wr):=⟨_,rfl,by rw [List.range_zero,List.map_nil,List.append_nil];exact HI.out⟩
    have hpz2:Bx ((128::List.replicate (zJK n) (0:Int)).length=1+zJK n):=⟨by rw [List.length_cons,List.length_replicate];omega⟩
    generalize hxs:128::List.replicate (zJK n) (0:Int)=xs at *;replace hxs:=Bx.mk hxs;go_wp2_with fail;clear c72 t0 HI
    go_loopw [4,23] (fun v4 v23 wr => ∃ i:Nat,i≤8∧v23 = .int .i64 i∧Bx (SumI w st bl n v4 (xs++(List.range i).map (be8 n)) wr)) (fun _ v23 _=>8 - (intOf v23).toNat)
    case atStart =>
     obtain ⟨v,rfl,h⟩:=HI0.out;exact ⟨0,Nat.zero_le _,rfl,⟨h⟩⟩
    case round =>
     clear HI0;obtain ⟨i,hi,rfl,HI⟩:=hrel;by_cases hlt8:i<8
     · have t0:decide ((i:Int)<8)=true:=by simp;omega
       have e1:(56 - 8 * (i:Int)).toNat=56 - 8 * i:=by omega
       have q2:(0:Int)≤56 - 8 * (i:Int):=by omega
       have q3:(0:Int)≤(i:Int):=by omega
       have q4:(8:Int) * (i:Int)≤56:=by omega
       have hlen:Bx ((xs++(List.range i).map (be8 n)).length≤1000000000):=⟨by rw [List.length_append,List.length_map,List.length_range,hpz2.out];omega⟩
       have hbs:Bx (w.heap.size+2≤wr.heap.size):=⟨HI.out.kr.lt⟩;go_wp2_with (at_builtin;refine zAF rfl _ _ 84 rfl 5 .u8 (.int .u8 0) 1 (by omega) Tryz.underlying84 (by kernel_rfl) rfl (w.heap.size+2) _ (xs++(List.range i).map (be8 n)) rfl (HI.out.own.alloc _) (8 * (n:Int) / 2 ^ (56 - 8 * i) % 256) ⟨wr.heap.size,0,none⟩ 1 rfl (zH _ _ _) hlen.out (ze hbs.out _) ?_)
       intro v' w4 ho hg _;rw [←List.append_assoc] at ho;have HI2:=HI.out.add ho hg
       have e:xs++(List.range i).map (be8 n)++[8 * (n:Int) / 2 ^ (56 - 8 * i) % 256]=xs++(List.range (i+1)).map (be8 n):=by
        rw [List.range_succ,List.map_append,List.append_assoc];rfl
       rw [e] at HI2;replace HI2:=Bx.mk HI2;clear e ho hg HI hlen hbs;go_wp2_with fail
       go_roundw
       case rel=>exact ⟨i+1,by omega,by go_num,HI2⟩
       case measure=>simp [intOf];omega
     · have t0:decide ((i:Int)<8)=false:=by simp;omega
       obtain rfl:i=8:=by omega
       have hpd:Bx (xs++(List.range 8).map (be8 n)=pad n):=⟨by rw [←hxs.out];rfl⟩
       rw [hpd.out] at HI;obtain ⟨a4,c4,rfl,hs4⟩:=HI.out.own.form;have hpl:=zJH n;have hcv:=zK (P:=Tryz.prog) (w:=wr) 84 5 9 Tryz.underlying84 Tryz.underlying5 Tryz.underlying9 hs4 (9+zJK n) c4 hpl.symm;rw [hpl];have hK1:Bx (zAX wr 1 kc):=⟨fun i v hv=>cell_later HI.out.bel (hK.out i v hv)⟩;have hadd:=zMb kc m (pad n) hk (by have:=hn.out;omega) (zB0 n) st bl hso.out wr hK1.out
       rw [hn.out] at hadd;replace hadd:=Bx.mk hadd;have hkb:=Bx.mk HI.out.kb;have hsz:Bx ((zMj st bl n).toArray.size=73):=⟨by rw [List.size_toArray,zMl _ hbl]⟩
       clear hpz2 hxs hs4;generalize hP:pad n=pd at *;replace hP:=Bx.mk hP;go_upto_region 10 with fail
       go_wp2_with (first
        | refine zAI rfl _ _ rfl w.heap.size rfl _ _ hkb.out _ Tryz.underlying158 rfl (zFY _ hsz.out) ?_
        | fail)
       have hadd:=hadd.out;clear hcv;refine hadd.mono ?_;rintro _ w5 ⟨s5,b5,rfl,hso5,hb5⟩;have hso5:=Bx.mk hso5;have hb5:=Bx.mk hb5;clear hpl;generalize hN:(m++pd).length=N at *;replace hN:=Bx.mk hN;have hsz5:Bx ((zMj s5 b5 N).toArray.size=73):=⟨by rw [List.size_toArray,zMl _ hso5.out.len]⟩
       have hone:=Bx.mk (zIp s5 b5 N);have hkb5:=Bx.mk (HI.out.kb.later hb5.out);have hkr5:=Bx.mk (HI.out.kr.later hb5.out);have hbel5:=Bx.mk (HI.out.bel.trans (hb5.out.mono HI.out.bel.size));have hss:Bx ((zMj st bl n).toArray.size=(zMj s5 b5 N).toArray.size):=⟨by rw [hsz.out,hsz5.out]⟩
       clear hadd HI hb5 hkb;unfold zMq;go_wp2_with (refine zAJ rfl _ _ _ rfl w.heap.size rfl _ _ rfl _ hkb5.out (zFY _ hsz5.out) hss.out hone.out ?_);generalize hW:World.alloc (World.setRow w5 _ _) _=W6;have hsr:(w5.setRow w.heap.size (zMj s5 b5 N).toArray).heap.size=w5.heap.size:=by simp [World.setRow]
       have HO:Bx (OutI w w5.heap.size s5 (zMj s5 b5 N) 0 W6):=by
        rw [←hW];have hlt:=hkr5.out.lt;refine ⟨⟨(below_setRow hbel5.out (Nat.le_refl _) _).alloc (by rw [hsr];exact hbel5.out.size) _,?_,?_,?_,hlt⟩⟩
        · exact zE (setRow_heap _ _ _ _ _ (0,0) hkb5.out)
        · have h:=hkr5.out;unfold Bl Bk at *;refine zE ?_;rw [setRow_other _ _ _ _ (by omega)];exact h
        · exact (zD _ _ _ hsr.symm:Bk _ _ _ _)
       try rw [hsr]
       clear hW hsr hkb5 hkr5 hbel5 hss hsz
       go_loopw [40] (fun v40 wr => ∃ i:Nat,i≤32∧v40 = .int .i64 i∧Bx (OutI w w5.heap.size s5 (zMj s5 b5 N) i wr)) (fun v40 _=>32 - (intOf v40).toNat)
       case atStart=>exact ⟨0,Nat.zero_le _,rfl,HO⟩
       case round =>
        clear HO;obtain ⟨i,hi,rfl,HO⟩:=hrel;by_cases hlt32:i<32
        · have t0:decide ((i:Int)<32)=true:=by simp;omega
          obtain ⟨q,hq⟩ : ∃ q,q=i / 4:=⟨_,rfl⟩;obtain ⟨r,hr⟩ : ∃ r,r=i % 4:=⟨_,rfl⟩;have e1:(i:Int) / 4=(q:Int):=by omega
          have e2:(i:Int) % 4=(r:Int):=by omega
          have e3:(24 - 8 * (r:Int)).toNat=24 - 8 * r:=by omega
          have q2:(0:Int)≤24 - 8 * (r:Int):=by omega
          have q3:(0:Int)≤(i:Int):=by omega
          have q4:(0:Int)≤(q:Int):=by omega
          have q5:(q:Int)<8:=by omega
          have q6:(i:Int)<32:=by omega
          have q7:(8:Int) * (r:Int)≤24:=by omega
          have hob:Bx (zI4 s5 i=s5.list.getD q 0 / 2 ^ (24 - 8 * r) % 256):=⟨by unfold zI4;rw [hq,hr]⟩
          have cq:wr.cell? ⟨w.heap.size,q,none⟩=some (.int .u32 (s5.list.getD q 0)):=HO.out.kb.cell q (by
           rw [List.getElem?_toArray];unfold zMj;rw [List.append_assoc,List.getElem?_append_left (by rw [List.length_map];show q<8;omega),List.getElem?_map,zN1 s5 (by omega)];rfl)
          have co:=HO.out.at_ hlt32;have fo:=HO.out.ko.frozen i;have HO2:=HO.out.put hlt32;rw [hob.out] at HO2;replace HO2:=Bx.mk HO2;replace hq:=Bx.mk hq;replace hr:=Bx.mk hr;generalize s5.list.getD q 0=xq at *;go_wp2_with fail
          go_roundw
          case rel=>exact ⟨i+1,by omega,by go_num,HO2⟩
          case measure=>simp [intOf];omega
        · have t0:decide ((i:Int)<32)=false:=by simp;omega
          obtain rfl:i=32:=by omega
          have hko:Bx (Bl wr w5.heap.size .u8 (out s5) 162):=⟨by have:=HO.out.ko;rw [Nat.sub_self,List.replicate_zero,List.append_nil] at this;exact this⟩
          have hkr:=Bx.mk HO.out.kr;have hsz:Bx ((((out s5)).map (Value.int .u8)).toArray.size=32):=⟨by rw [List.size_toArray,List.length_map,zI6]⟩
          have hs2:Bx (((z32.map (Value.int .u8)).toArray).size=(((out s5)).map (Value.int .u8)).toArray.size):=⟨by rw [hsz.out];rfl⟩
          have hone:=Bx.mk (zl .u8 (out s5));have H1:=Bx.mk (show ∀ cs:Array Value,cs.size=32→(Tryz.prog.info? 162).map (·.size)=some cs.size from fun cs h=>by rw [h];kernel_rfl)
          have hsha:Bx (out s5=sha kc m):=⟨by
           unfold sha;rw [hn.out,hP.out,hso5.out.st_]⟩
          generalize hO:out s5=os at *;go_upto_region 17 with fail
          go_wp2_with (first
           | refine zAI rfl _ _ rfl w5.heap.size rfl _ _ hko.out _ Tryz.underlying162 rfl (H1.out _ hsz.out) ?_
           | refine zAJ rfl _ _ _ rfl (w.heap.size+1) rfl _ _ rfl _ hkr.out (H1.out _ hsz.out) hs2.out hone.out ?_)
          refine bodyPost_ret (v:=zBP .u8 os) (results_cell_row rfl _ _ (w.heap.size+1) 162 _ (0,0) _ rfl (hkr.out.whole _) Tryz.underlying162 rfl (H1.out _ hsz.out)) rfl ⟨by rw [hsha.out],below_setRow HO.out.bel (by omega) _⟩
structure PadI (w:World) (v:Value) (xs:List Int) (wr:World):Prop where
 own:Own wr w.heap.size 5 .u8 v xs
 bel:Below w.heap.size w wr
theorem PadI.add {w:World} {v v':Value} {xs:List Int} {x:Int} {w1 w4:World} (h:PadI w v xs w1) {o:Obj} (ho:Own w4 w.heap.size 5 .u8 v' (xs++[x])) (hg:(w1.alloc o).grownBy w4 v.ownBlock):PadI w v' (xs++[x]) w4:=by
 have hne : ∀ k,k<w.heap.size→v.ownBlock ≠ some k:=fun k hk e=>by have:=(h.own.lt k e).1;omega
 have hs:=h.bel.size;have hz:(w1.alloc o).heap.size=w1.heap.size+1:=by simp
 have hb2:Below w.heap.size (w1.alloc o) w4:=⟨hg.os,hg.tape,hg.output,hg.size,fun k hk=>hg.block k (by omega) (fun e=>hne k hk e.symm)⟩
 have hb1:Below w1.heap.size w1 (w1.alloc o):=(Below.refl _ _).alloc (Nat.le_refl _) _;exact ⟨ho,(h.bel.trans (hb1.mono h.bel.size)).trans hb2⟩
def zAY (w:World) (m:List Int) (e:Ending) (w':World):Prop := ∃ v,e = .returned v∧PadI w v (m++pad m.length) w'
theorem zJI (m:List Int) (hm:m.length≤500000000) (a:Option Addr) (cap:Nat) (w:World) (hs:Sl w .u8 a m) :
 Calls Tryz.prog 172 #[.slice a m.length cap] w (zAY w m):=by
 have hs:=Bx.mk hs;generalize hn:m.length=n at *;have hn:=Bx.mk hn;go_enter Tryz.func172,Tryz.ntmps172;go_upto_region 1 with fail;have ho0:Bx (Own (w.alloc (.cells #[] 5)) w.heap.size 5 .u8 (.slice (some ⟨w.heap.size,0,none⟩) 0 0) []):=⟨Own.lit _ _ _ _ _ _ _ (Nat.le_refl _) (by decide) rfl rfl⟩
 have hsa:Bx (Sl (w.alloc (.cells #[] 5)) .u8 a m):=⟨hs.out.below ((Below.refl _ _).alloc (Nat.le_refl _) _)⟩;have hl0:Bx (([]:List Int).length+m.length≤1000000000):=⟨by rw [hn.out];simp;omega⟩
 go_upto_region 2 with (at_builtin;refine zAG rfl _ _ 84 rfl 5 .u8 (.int .u8 0) 1 (by omega) Tryz.underlying84 (by kernel_rfl) rfl w.heap.size _ [] rfl ho0.out m _ _ cap rfl hn.out.symm hsa.out hl0.out (ze (Nat.le_refl _) _) ?_)
 intro v1 w1 ho1 hg1 _
 have HI1:Bx (PadI w v1 m w1):=⟨ho1,((Below.refl w.heap.size w).alloc (Nat.le_refl _) _).trans ⟨hg1.os,hg1.tape,hg1.output,hg1.size,fun k hk=>hg1.block k (by simp;omega) (fun e=>by
  have e:some w.heap.size=some k:=e.symm;injection e with e;omega)⟩⟩
 clear ho0 hsa hl0 ho1 hg1;have hl1:Bx (m.length≤1000000000):=⟨by rw [hn.out];omega⟩
 go_upto_region 3 with (at_builtin;refine zAF rfl _ _ 84 rfl 5 .u8 (.int .u8 0) 1 (by omega) Tryz.underlying84 (by kernel_rfl) rfl w.heap.size _ m rfl (HI1.out.own.alloc _) 128 ⟨w1.heap.size,0,none⟩ 1 rfl (zH _ _ _) hl1.out (ze HI1.out.bel.size _) ?_)
 intro v2 w2 ho2 hg2 _;have HI2:=HI1.out.add ho2 hg2;obtain ⟨a2,c2,rfl,-⟩:=HI2.own.form;have e2:(m++[(128:Int)]).length=n+1:=by rw [List.length_append,hn.out];rfl
 have HI:Bx (PadI w (.slice a2 (n+(1+0)) c2) (m++128::List.replicate 0 0) w2):=⟨by rw [e2] at HI2;exact HI2⟩
 rw [e2];clear HI1 ho2 hg2 HI2 e2 hl1;go_wp2_with fail
 go_loopw [3] (fun v3 wr => ∃ (j:Nat) (a:Option Addr) (c:Nat),j≤zJK n∧v3 = .slice a (n+(1+j)) c∧Bx (PadI w (.slice a (n+(1+j)) c) (m++128::List.replicate j 0) wr)) (fun v3 _=>match v3 with | .slice _ x _=>n+(1+zJK n) - x | _=>0)
 case atStart=>exact ⟨0,_,_,Nat.zero_le _,rfl,HI⟩
 case round =>
  clear HI;obtain ⟨j,a3,c3,hj,rfl,HI⟩:=hrel;have hpt:=zJL n j hj;have hpz:zJK n<64:=by unfold zJK;omega
  have q0:(0:Int)≤(n:Int):=by omega
  have q1:(n:Int)+(1+(j:Int))≤600000000:=by omega
  by_cases hlt:j<zJK n
  · have t0:(((n:Int)+(1+(j:Int))) % 64 != 56)=true:=by simp;omega
    clear hpt;have hlen:Bx ((m++128::List.replicate j (0:Int)).length≤1000000000):=⟨by rw [List.length_append,hn.out,List.length_cons,List.length_replicate];omega⟩
    go_wp2_with (at_builtin;refine zAF rfl _ _ 84 rfl 5 .u8 (.int .u8 0) 1 (by omega) Tryz.underlying84 (by kernel_rfl) rfl w.heap.size _ (m++128::List.replicate j 0) rfl (HI.out.own.alloc _) 0 ⟨wr.heap.size,0,none⟩ 1 rfl (zH _ _ _) hlen.out (ze HI.out.bel.size _) ?_)
    intro v' w4 ho hg _;have e:m++128::List.replicate j (0:Int)++[0]=m++128::List.replicate (j+1) 0:=by rw [List.append_assoc,List.cons_append,←List.replicate_succ']
    have ho:Own w4 w.heap.size 5 .u8 v' (m++128::List.replicate j (0:Int)++[0]):=by simpa using ho
    have HI2:=HI.out.add ho hg;rw [e] at HI2;obtain ⟨a',c',rfl,-⟩:=HI2.own.form;have e2:(m++128::List.replicate (j+1) (0:Int)).length=n+(1+(j+1)):=by rw [List.length_append,hn.out,List.length_cons,List.length_replicate];omega
    rw [e2] at HI2 ⊢;replace HI2:=Bx.mk HI2;clear e e2 ho hg HI;go_wp2_with fail
    go_roundw
    case rel=>exact ⟨j+1,a',c',by omega,rfl,HI2⟩
    case measure=>show n+(1+zJK n) - (n+(1+(j+1)))<n+(1+zJK n) - (n+(1+j));omega
  · have t0:(((n:Int)+(1+(j:Int))) % 64 != 56)=false:=by simp;omega
    obtain rfl:j=zJK n:=by omega
    clear hpt;have HI0:Bx (∃ v,v = .slice a3 (n+(1+zJK n)) c3∧PadI w v (m++128::List.replicate (zJK n) 0++(List.range 0).map (be8 n)) wr):=⟨_,rfl,by rw [List.range_zero,List.map_nil,List.append_nil];exact HI.out⟩
    have hpz2:Bx ((m++128::List.replicate (zJK n) (0:Int)).length=n+(1+zJK n)):=⟨by rw [List.length_append,hn.out,List.length_cons,List.length_replicate];omega⟩
    have hend:Bx (m++128::List.replicate (zJK n) (0:Int)++(List.range 8).map (be8 n)=m++pad n):=⟨by rw [List.append_assoc];rfl⟩
    generalize m++128::List.replicate (zJK n) (0:Int)=xs at *;go_wp2_with fail;clear t0 HI
    go_loopw [3,5] (fun v3 v5 wr => ∃ i:Nat,i≤8∧v5 = .int .i64 i∧Bx (PadI w v3 (xs++(List.range i).map (be8 n)) wr)) (fun _ v5 _=>8 - (intOf v5).toNat)
    case atStart =>
     obtain ⟨v,rfl,h⟩:=HI0.out;exact ⟨0,Nat.zero_le _,rfl,⟨h⟩⟩
    case round =>
     clear HI0;obtain ⟨i,hi,rfl,HI⟩:=hrel;by_cases hlt8:i<8
     · have t0:decide ((i:Int)<8)=true:=by simp;omega
       have e1:(56 - 8 * (i:Int)).toNat=56 - 8 * i:=by omega
       have q2:(0:Int)≤56 - 8 * (i:Int):=by omega
       have q3:(0:Int)≤(i:Int):=by omega
       have q4:(8:Int) * (i:Int)≤56:=by omega
       have hlen:Bx ((xs++(List.range i).map (be8 n)).length≤1000000000):=⟨by rw [List.length_append,List.length_map,List.length_range,hpz2.out];omega⟩
       go_wp2_with (at_builtin;refine zAF rfl _ _ 84 rfl 5 .u8 (.int .u8 0) 1 (by omega) Tryz.underlying84 (by kernel_rfl) rfl w.heap.size _ (xs++(List.range i).map (be8 n)) rfl (HI.out.own.alloc _) (8 * (n:Int) / 2 ^ (56 - 8 * i) % 256) ⟨wr.heap.size,0,none⟩ 1 rfl (zH _ _ _) hlen.out (ze HI.out.bel.size _) ?_)
       intro v' w4 ho hg _;rw [←List.append_assoc] at ho;have HI2:=HI.out.add ho hg
       have e:xs++(List.range i).map (be8 n)++[8 * (n:Int) / 2 ^ (56 - 8 * i) % 256]=xs++(List.range (i+1)).map (be8 n):=by
        rw [List.range_succ,List.map_append,List.append_assoc];rfl
       rw [e] at HI2;replace HI2:=Bx.mk HI2;clear e ho hg HI hlen;go_wp2_with fail
       go_roundw
       case rel=>exact ⟨i+1,by omega,by go_num,HI2⟩
       case measure=>simp [intOf];omega
     · have t0:decide ((i:Int)<8)=false:=by simp;omega
       obtain rfl:i=8:=by omega
       rw [hend.out] at HI;go_wp2_with fail;go_ret;exact ⟨_,rfl,by rw [hn.out];exact HI.out⟩
def vi (z:Nat):List Int:=if h:z<128 then [(z:Int)] else ((z % 128+128:Nat):Int)::vi (z / 128)
theorem zNx {z:Nat} (h:z<128):vi z=[(z:Int)]:=by rw [vi,dif_pos h]
theorem zNu {z:Nat} (h : ¬z<128):vi z=((z % 128+128:Nat):Int)::vi (z / 128):=by rw [vi,dif_neg h]
theorem zB1 (z:Nat):Byt (vi z):=by
 induction z using Nat.strongRecOn with
 | _ z ih =>
   by_cases h:z<128
   · rw [zNx h];intro x hx;rw [List.mem_singleton] at hx;omega
   · rw [zNu h];intro x hx;rcases List.mem_cons.1 hx with rfl | hx
     · omega
     · exact ih (z / 128) (by omega) x hx
theorem zNw (k:Nat) : ∀ z:Nat,z<128 ^ (k+1)→(vi z).length≤k+1:=by
 induction k with
 | zero=>intro z h;rw [zNx (by omega)];simp
 | succ k ih =>
   intro z h;by_cases hz:z<128
   · rw [zNx hz];simp
   · rw [zNu hz,List.length_cons];have:=ih (z / 128) (by rw [Nat.pow_succ] at h;omega)
     omega
theorem or128 : ∀ x:Fin 256,bits .or .u8 (x.val:Int) 128=((x.val % 128+128:Nat):Int):=by decide +kernel
theorem or_128 (z:Nat):bits .or .u8 ((z:Int) % 256) 128=((z % 128+128:Nat):Int):=by
 have:=or128 ⟨z % 256,by omega⟩
 simp only at this;rw [show (z:Int) % 256=((z % 256:Nat):Int) by omega,this]
 omega
theorem zOZ (z:Nat) (h:z<9223372036854775808):bits .xor .u64 (z:Int) 0=(z:Int):=by
 have e:bits .xor .u64 (z:Int) ((0:Nat):Int)=IntKind.u64.wrap ((z % 2 ^ 64 ^^^ 0 % 2 ^ 64:Nat):Int):=by
  simp only [bits,BitVec.ofInt_natCast,BitVec.toNat_xor,BitVec.toNat_ofNat];rfl
 have e2:z % 2 ^ 64=z:=Nat.mod_eq_of_lt (by have:(2:Nat) ^ 64=18446744073709551616:=(by decide);omega)
 rw [e2,Nat.zero_mod,Nat.xor_zero] at e;rw [show (0:Int)=((0:Nat):Int) from rfl,e,IntKind.wrap_u64];omega
def zAP (w:World) (xs:List Int) (e:Ending) (w':World):Prop := ∃ v,e = .returned v∧PadI w v xs w'
structure ViI (w:World) (z0 z:Nat) (out:List Int) (v:Value) (wr:World):Prop where
 eq:out++vi z=vi z0
 pad:PadI w v out wr
 few:out.length≤20
theorem ViI.start (w:World) (z0:Nat):ViI w z0 z0 [] (.slice none 0 0) w:=⟨rfl,⟨Own.nil _ _ _ _,Below.refl _ _⟩,by simp⟩
theorem ViI.len {w wr:World} {z0 z:Nat} {out:List Int} {v:Value} (h:ViI w z0 z out v wr) (hz:z0≤2000000000000):out.length≤6:=by
 have h1:=zNw 6 z0 (by have:128 ^ (6+1)=562949953421312:=(by decide);omega)
 have h2:=congrArg List.length h.eq;rw [List.length_append] at h2
 have h3:1≤(vi z).length:=by
  by_cases hz:z<128
  · rw [zNx hz];simp
  · rw [zNu hz];simp
 omega
theorem ViI.step {w w1 w4:World} {z0 z:Nat} {out:List Int} {v v':Value} (h:ViI w z0 z out v w1) (hz0:z0≤2000000000000) (hz : ¬z<128) {o:Obj} (ho:Own w4 w.heap.size 5 .u8 v' (out++[((z % 128+128:Nat):Int)])) (hg:(w1.alloc o).grownBy w4 v.ownBlock) :
 ViI w z0 (z / 128) (out++[((z % 128+128:Nat):Int)]) v' w4 :=
 ⟨by rw [List.append_assoc,List.singleton_append,←zNu hz];exact h.eq,h.pad.add ho hg,by have:=h.len hz0;rw [List.length_append,List.length_singleton];omega⟩
theorem zFk (n:Nat) (hn:n≤1000000000000) (w:World):Calls Tryz.prog 88 #[(n:Int)] w (zAP w (vi (2 * n))):=by
 obtain ⟨z0,hzn⟩ : ∃ z0,z0=2 * n:=⟨_,rfl⟩
 have x0:bits .xor .u64 ((n:Int) * 2) ((n:Int) / 9223372036854775808)=(z0:Int):=by
  rw [show (n:Int) / 9223372036854775808=0 by omega,show (n:Int) * 2=(z0:Int) by omega]
  exact zOZ z0 (by omega)
 have hz0:z0≤2000000000000:=by omega
 rw [←hzn];replace hzn:=Bx.mk hzn;go_enter Tryz.func88,Tryz.ntmps88;go_upto_region 2 with fail
 try rw [x0]
 clear x0;have HI:=Bx.mk (ViI.start w z0);go_wp2_with fail
 go_loopw [3,4] (fun v3 v4 wr => ∃ (z:Nat) (out:List Int),z≤z0∧v3 = .int .u64 z∧Bx (ViI w z0 z out v4 wr)) (fun v3 _ _=>(intOf v3).toNat)
 case atStart=>exact ⟨z0,[],Nat.le_refl _,rfl,HI⟩
 case round =>
  clear HI;obtain ⟨z,out,hz,rfl,HI⟩:=hrel;have hlen:=HI.out.len hz0;have hlen2:Bx (out.length≤1000000000):=⟨by omega⟩
  have q0:(0:Int)≤(z:Int):=by omega
  have q1:(z:Int)≤2000000000000:=by omega
  by_cases hlt:128≤z
  · have t0:decide (127<(z:Int))=true:=by simp;omega
    obtain ⟨z',hz'⟩ : ∃ z',z'=z / 128:=⟨_,rfl⟩;obtain ⟨dg,hdg⟩ : ∃ dg,dg=z % 128+128:=⟨_,rfl⟩;have hc:=Bx.mk (show bits .or .u8 ((z:Int) % 256) 128=(dg:Int) by rw [or_128,←hdg])
    have e2:(z:Int) / 128=(z':Int):=by omega
    have q4:(0:Int)≤(dg:Int):=by omega
    have q5:(dg:Int)<256:=by omega
    have hz'2:z'<z:=by omega
    replace hz':=Bx.mk hz';replace hdg:=Bx.mk hdg;go_wp2_with (at_builtin;refine zAF rfl _ _ 84 rfl 5 .u8 (.int .u8 0) 1 (by omega) Tryz.underlying84 (by kernel_rfl) rfl w.heap.size _ out rfl (HI.out.pad.own.alloc _) (bits .or .u8 ((z:Int) % 256) 128) ⟨wr.heap.size,0,none⟩ 1 rfl (zH _ _ _) hlen2.out (ze HI.out.pad.bel.size _) ?_)
    intro v' w4 ho hg _
    have HI2:Bx (ViI w z0 z' (out++[(dg:Int)]) v' w4):=by
     rw [hz'.out,hdg.out];rw [hc.out,hdg.out] at ho;exact ⟨HI.out.step hz0 (by omega) ho hg⟩
    clear ho hg HI hc;go_wp2_with fail
    go_roundw
    case rel=>exact ⟨z',_,by omega,rfl,HI2⟩
    case measure=>simp [intOf];omega
  · have t0:decide (127<(z:Int))=false:=by simp;omega
    have e1:(z:Int) % 256=(z:Int):=by omega
    have heq:Bx (out++[(z:Int)]=vi z0):=⟨by rw [←zNx (by omega)];exact HI.out.eq⟩
    go_wp2_with (at_builtin;refine zAF rfl _ _ 84 rfl 5 .u8 (.int .u8 0) 1 (by omega) Tryz.underlying84 (by kernel_rfl) rfl w.heap.size _ out rfl (HI.out.pad.own.alloc _) (z:Int) ⟨wr.heap.size,0,none⟩ 1 rfl (zH _ _ _) hlen2.out (ze HI.out.pad.bel.size _) ?_)
    intro v' w4 ho hg _;have HI2:=Bx.mk (HI.out.pad.add ho hg);rw [heq.out] at HI2;clear ho hg HI;go_wp2_with fail;go_ret;exact ⟨_,rfl,HI2.out⟩
theorem zK7 (n:Nat) (hn:n≤1000000000000) (w:World):Calls Tryz.prog 48 #[(n:Int)] w (zAP w (vi (2 * n))):=by
 obtain ⟨z0,hzn⟩ : ∃ z0,z0=2 * n:=⟨_,rfl⟩;have x0:(n:Int) * 2=(z0:Int):=by omega
 have hz0:z0≤2000000000000:=by omega
 rw [←hzn];replace hzn:=Bx.mk hzn;have t1:decide ((n:Int)<0)=false:=by simp
 go_enter Tryz.func48,Tryz.ntmps48;go_upto_region 4 with fail
 try rw [x0]
 clear x0;have HI:=Bx.mk (ViI.start w z0);go_wp2_with fail
 go_loopw [3,4] (fun v3 v4 wr => ∃ (z:Nat) (out:List Int),z≤z0∧v3 = .int .u64 z∧Bx (ViI w z0 z out v4 wr)) (fun v3 _ _=>(intOf v3).toNat)
 case atStart=>exact ⟨z0,[],Nat.le_refl _,rfl,HI⟩
 case round =>
  clear HI;obtain ⟨z,out,hz,rfl,HI⟩:=hrel;have hlen:=HI.out.len hz0;have hlen2:Bx (out.length≤1000000000):=⟨by omega⟩
  have q0:(0:Int)≤(z:Int):=by omega
  have q1:(z:Int)≤2000000000000:=by omega
  by_cases hlt:128≤z
  · have t0:decide (128≤(z:Int))=true:=by simp;omega
    obtain ⟨z',hz'⟩ : ∃ z',z'=z / 128:=⟨_,rfl⟩;obtain ⟨dg,hdg⟩ : ∃ dg,dg=z % 128+128:=⟨_,rfl⟩;have hc:=Bx.mk (show (z:Int) % 128+128=(dg:Int) by omega)
    have e2:(z:Int) / 128=(z':Int):=by omega
    have q4:(0:Int)≤(dg:Int):=by omega
    have q5:(dg:Int)<256:=by omega
    have hz'2:z'<z:=by omega
    replace hz':=Bx.mk hz';replace hdg:=Bx.mk hdg;go_wp2_with (at_builtin;refine zAF rfl _ _ 84 rfl 5 .u8 (.int .u8 0) 1 (by omega) Tryz.underlying84 (by kernel_rfl) rfl w.heap.size _ out rfl (HI.out.pad.own.alloc _) ((z:Int) % 128+128) ⟨wr.heap.size,0,none⟩ 1 rfl (zH _ _ _) hlen2.out (ze HI.out.pad.bel.size _) ?_)
    intro v' w4 ho hg _
    have HI2:Bx (ViI w z0 z' (out++[(dg:Int)]) v' w4):=by
     rw [hz'.out,hdg.out];rw [hc.out,hdg.out] at ho;exact ⟨HI.out.step hz0 (by omega) ho hg⟩
    clear ho hg HI hc;go_wp2_with fail
    go_roundw
    case rel=>exact ⟨z',_,by omega,rfl,HI2⟩
    case measure=>simp [intOf];omega
  · have t0:decide (128≤(z:Int))=false:=by simp;omega
    have e1:(z:Int) % 256=(z:Int):=by omega
    have heq:Bx (out++[(z:Int)]=vi z0):=⟨by rw [←zNx (by omega)];exact HI.out.eq⟩
    go_wp2_with (at_builtin;refine zAF rfl _ _ 84 rfl 5 .u8 (.int .u8 0) 1 (by omega) Tryz.underlying84 (by kernel_rfl) rfl w.heap.size _ out rfl (HI.out.pad.own.alloc _) (z:Int) ⟨wr.heap.size,0,none⟩ 1 rfl (zH _ _ _) hlen2.out (ze HI.out.pad.bel.size _) ?_)
    intro v' w4 ho hg _;have HI2:=Bx.mk (HI.out.pad.add ho hg);rw [heq.out] at HI2;clear ho hg HI;go_wp2_with fail;go_ret;exact ⟨_,rfl,HI2.out⟩
end
end Go.Proofs.YtgnfgblkpnfcnaaGreatDoor
