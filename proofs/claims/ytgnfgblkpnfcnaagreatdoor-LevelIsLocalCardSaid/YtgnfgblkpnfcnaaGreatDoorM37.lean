/- Sum, Rpd, Wir: joined by program, for one claim. -/
import Derived.Test.YtgnfgblkpnfcnaaGreatDoorM36
import Derived.Lib.AppendStr
set_option linter.unusedVariables false
set_option linter.unusedSimpArgs false
namespace Go.Proofs.YtgnfgblkpnfcnaaGreatDoor
section
open Go.RowKit Go.Sort
theorem one_strC (st:W8) (bl:List Int) (n:Nat):(strC st bl n).toArray.all (·.oneCell')=true:=by
 rw [Array.all_eq_true_iff_forall_mem]
 intro v hv
 rw [List.mem_toArray] at hv
 unfold strC at hv
 rw [List.mem_append,List.mem_append,List.mem_map,List.mem_map,List.mem_singleton] at hv
 rcases hv with (⟨x,-,rfl⟩ | ⟨x,-,rfl⟩) | rfl <;> rfl
theorem infoStr (cs:Array Value) (h:cs.size=73):(Tryz.prog.info? 158).map (·.size)=some cs.size:=by rw [h];kernel_rfl
def z64:List Int:=List.replicate 64 0
def z32:List Int:=List.replicate 32 0
set_option maxRecDepth 100000 in
theorem begin_any (w:World):Calls Tryz.prog 134 #[] w fun e w'=>e = .returned (strV iv z64 0)∧Below w.heap.size w w':=by
 have hsz:Bx ((strC iv z64 0).toArray.size=73):=⟨rfl⟩
 have hone:=Bx.mk (one_strC iv z64 0)
 have hs2:Bx (Tryz.zeroCells158.size=(strC iv z64 0).toArray.size):=⟨by rw [hsz.out];kernel_rfl⟩
 have hu:=Tryz.underlying158
 have hcs:strC iv z64 0=(strC iv z64 0):=rfl
 go_enter Tryz.func134,Tryz.ntmps134
 go_upto_region 1 with fail
 go_wp2_with (refine wpList_store_whole rfl _ _ _ rfl w.heap.size rfl _ (strC iv z64 0).toArray rfl _ (heap_alloc_new _ _) (infoStr _ hsz.out) hs2.out hone.out ?_)
 refine bodyPost_ret (v:=strV iv z64 0) (results_cell_row rfl _ _ w.heap.size 158 _ (0,0) _ rfl (setRow_heap _ _ _ _ _ (0,0) (heap_alloc_new _ _)) hu rfl (infoStr _ hsz.out)) rfl ⟨rfl,below_setRow ((Below.refl _ _).alloc (Nat.le_refl _) _) (Nat.le_refl _) _⟩
theorem stream_begin (kc:List Int):StreamOf kc [] iv z64:=stream_nil kc
structure SumI (w:World) (st:W8) (bl:List Int) (n:Nat) (v:Value) (xs:List Int) (wr:World):Prop where
 bel:Below w.heap.size w wr
 kb:Bk wr w.heap.size (strC st bl n).toArray 158
 kr:Bl wr (w.heap.size+1) .u8 z32 162
 own:Own wr (w.heap.size+2) 5 .u8 v xs
theorem SumI.add {w:World} {st:W8} {bl:List Int} {n:Nat} {v v':Value} {xs:List Int} {x:Int} {w1 w4:World} (h:SumI w st bl n v xs w1) {o:Obj} (ho:Own w4 (w.heap.size+2) 5 .u8 v' (xs++[x])) (hg:(w1.alloc o).grownBy w4 v.ownBlock):SumI w st bl n v' (xs++[x]) w4:=by
 have hne : ∀ k,k<w.heap.size+2→v.ownBlock ≠ some k:=fun k hk e=>by have:=(h.own.lt k e).1;omega
 have hz:(w1.alloc o).heap.size=w1.heap.size+1:=by simp
 have hb:=h.kb.lt
 have hr:=h.kr.lt
 have hb2:Below (w.heap.size+2) (w1.alloc o) w4:=⟨hg.os,hg.tape,hg.output,hg.size,fun k hk=>hg.block k (by omega) (fun e=>hne k hk e.symm)⟩
 have hb1:Below w1.heap.size w1 (w1.alloc o):=(Below.refl _ _).alloc (Nat.le_refl _) _
 refine ⟨(h.bel.trans (hb1.mono h.bel.size)).trans (hb2.mono (by omega)),?_,?_,ho⟩
 · have:=h.kb.later hb1
   unfold Bk at *
   rw [hb2.block _ (by omega)];exact this
 · have:=h.kr.later hb1
   unfold Bl Bk at *
   rw [hb2.block _ (by omega)];exact this
structure OutI (w:World) (o:Nat) (s:W8) (cs:List Value) (i:Nat) (wr:World):Prop where
 bel:Below w.heap.size w wr
 kb:Bk wr w.heap.size cs.toArray 158
 kr:Bl wr (w.heap.size+1) .u8 z32 162
 ko:Bl wr o .u8 ((List.range i).map (outB s)++List.replicate (32 - i) 0) 162
 ap:w.heap.size+1<o
theorem OutI.put {w wr:World} {o:Nat} {s:W8} {cs:List Value} {i:Nat} (h:OutI w o s cs i wr) (hi:i<32):OutI w o s cs (i+1) (wr.setCell ⟨o,i,none⟩ (.int .u8 (outB s i))):=by
 have ha:=h.ap
 refine ⟨h.bel.setCell (by show w.heap.size≤o;omega) _,h.kb.other _ _ (by show w.heap.size ≠ o;omega),h.kr.other _ _ (by show w.heap.size+1 ≠ o;omega),?_,ha⟩
 have:=h.ko.put i (outB s i)
 rw [show 32 - i=(32 - (i+1))+1 by omega,List.replicate_succ,List.set_append_right _ _ (by rw [List.length_map,List.length_range];omega),List.length_map,List.length_range,Nat.sub_self,List.set_cons_zero] at this
 rw [List.range_succ,List.map_append,List.append_assoc]
 exact this
theorem OutI.at_ {w wr:World} {o:Nat} {s:W8} {cs:List Value} {i:Nat} (h:OutI w o s cs i wr) (hi:i<32):wr.cell? ⟨o,i,none⟩=some (.int .u8 0) :=
 h.ko.cell (by rw [List.getElem?_append_right (by rw [List.length_map,List.length_range];omega),List.length_map,List.length_range,Nat.sub_self,show 32 - i=(32 - (i+1))+1 by omega,List.replicate_succ];rfl)
theorem w8_get (s:W8) {q:Nat} (h:q<8):s.list[q]? = some (s.list.getD q 0):=by
 rw [List.getD_eq_getElem?_getD,List.getElem?_eq_getElem (show q<s.list.length from h)];rfl
def SumPost (w:World) (kc m:List Int) (e:Ending) (w':World):Prop:=e = .returned (arrV .u8 (sha kc m))∧Below w.heap.size w w'
set_option maxRecDepth 100000 in
set_option maxHeartbeats 1000000 in
theorem sum_any (kc m:List Int) (hk:kc.length=64) (hm:m.length≤500000000) (st:W8) (bl:List Int) (h:StreamOf kc m st bl) (w:World) (hK:Krow w 1 kc) :
 Calls Tryz.prog 137 #[strV st bl m.length] w (SumPost w kc m):=by
 have hK:=Bx.mk hK
 have hso:=Bx.mk h
 have hbl:=h.len
 unfold strV
 clear h
 go_enter Tryz.func137,Tryz.ntmps137
 go_upto_region 1 with fail
 generalize hW:World.alloc (World.alloc w _) _=W
 have HJ:Bx (Below w.heap.size w W∧Bk W w.heap.size (strC st bl m.length).toArray 158∧Bl W (w.heap.size+1) .u8 z32 162):=by
  rw [←hW]
  exact ⟨⟨((Below.refl _ _).alloc (Nat.le_refl _) _).alloc (by simp) _,blk_old (blk_new _ _ _ (by simp)),(blk_new _ _ _ (by simp):Bk _ _ _ _)⟩⟩
 clear hW
 have hc72 : ∀ W',Bk W' w.heap.size (strC st bl m.length).toArray 158→W'.cell? ⟨w.heap.size,72,none⟩=some (.int .u64 (m.length:Int)):=fun W' h=>h.cell 72 (by
  rw [List.getElem?_toArray]
  unfold strC
  rw [List.getElem?_append_right (by rw [List.length_append,List.length_map,List.length_map,hbl];show 8+64≤72;omega),List.length_append,List.length_map,List.length_map,hbl];rfl)
 have hc72:=Bx.mk hc72
 have c72:=hc72.out W HJ.out.2.1
 generalize hn:m.length=n at *
 have hn:=Bx.mk hn
 go_upto_region 3 with fail
 generalize hW:World.alloc W _=W1
 have HI:Bx (SumI w st bl n (.slice (some ⟨W.heap.size,0,none⟩) 1 1) (128::List.replicate 0 0) W1):=by
  rw [←hW]
  have hz:w.heap.size+2≤W.heap.size:=HJ.out.2.2.lt
  exact ⟨⟨HJ.out.1.alloc HJ.out.1.size _,blk_old HJ.out.2.1,blk_old HJ.out.2.2,Own.lit _ _ _ _ _ _ _ hz (by decide) rfl rfl⟩⟩
 clear hW HJ c72
 go_loopw [4] (fun v4 wr => ∃ (j:Nat) (a:Option Addr) (c:Nat),j≤padz n∧v4 = .slice a (1+j) c∧Bx (SumI w st bl n (.slice a (1+j) c) (128::List.replicate j 0) wr)) (fun v4 _=>match v4 with | .slice _ x _=>1+padz n - x | _=>0)
 case atStart=>exact ⟨0,_,_,Nat.zero_le _,rfl,HI⟩
 case round =>
  clear HI
  obtain ⟨j,a,c,hj,rfl,HI⟩:=hrel
  have c72:=hc72.out wr HI.out.kb
  have hpt:=padz_test n j hj
  have hpz:padz n<64:=by unfold padz;omega
  have q0:(0:Int)≤(n:Int):=by omega
  have q1:(n:Int)+(1+(j:Int))≤600000000:=by omega
  by_cases hlt:j<padz n
  · have t0:(((n:Int)+(1+(j:Int))) % 64 != 56)=true:=by simp;omega
    clear hpt
    have hlen:Bx ((128::List.replicate j (0:Int)).length≤1000000000):=⟨by rw [List.length_cons,List.length_replicate];omega⟩
    have hbs:Bx (w.heap.size+2≤wr.heap.size):=⟨HI.out.kr.lt⟩
    go_wp2_with (at_builtin;refine wpList_append_int rfl _ _ 84 rfl 5 .u8 (.int .u8 0) 1 (by omega) Tryz.underlying84 (by kernel_rfl) rfl (w.heap.size+2) _ (128::List.replicate j 0) rfl (HI.out.own.alloc _) 0 ⟨wr.heap.size,0,none⟩ 1 rfl (cell_new _ _ _) hlen.out (le_alloc hbs.out _) ?_)
    intro v' w4 ho hg _
    have HI2:=HI.out.add ho hg
    have e:128::List.replicate j (0:Int)++[0]=128::List.replicate (j+1) 0:=by rw [List.cons_append,←List.replicate_succ']
    rw [e] at HI2
    obtain ⟨a',c',rfl,-⟩:=HI2.own.form
    have e2:(128::List.replicate (j+1) (0:Int)).length=1+(j+1):=by rw [List.length_cons,List.length_replicate];omega
    rw [e2] at HI2 ⊢
    replace HI2:=Bx.mk HI2
    clear e e2 ho hg HI c72
    go_wp2_with fail
    go_roundw
    case rel=>exact ⟨j+1,a',c',by omega,rfl,HI2⟩
    case measure=>show 1+padz n - (1+(j+1))<1+padz n - (1+j);omega
  · have t0:(((n:Int)+(1+(j:Int))) % 64 != 56)=false:=by simp;omega
    obtain rfl:j=padz n:=by omega
    clear hpt
    have HI0:Bx (∃ v,v = .slice a (1+padz n) c∧SumI w st bl n v (128::List.replicate (padz n) 0++(List.range 0).map (be8 n)) wr):=⟨_,rfl,by rw [List.range_zero,List.map_nil,List.append_nil];exact HI.out⟩
    have hpz2:Bx ((128::List.replicate (padz n) (0:Int)).length=1+padz n):=⟨by rw [List.length_cons,List.length_replicate];omega⟩
    generalize hxs:128::List.replicate (padz n) (0:Int)=xs at *
    replace hxs:=Bx.mk hxs
    go_wp2_with fail
    clear c72 t0 HI
    go_loopw [4,23] (fun v4 v23 wr => ∃ i:Nat,i≤8∧v23 = .int .i64 i∧Bx (SumI w st bl n v4 (xs++(List.range i).map (be8 n)) wr)) (fun _ v23 _=>8 - (intOf v23).toNat)
    case atStart =>
     obtain ⟨v,rfl,h⟩:=HI0.out
     exact ⟨0,Nat.zero_le _,rfl,⟨h⟩⟩
    case round =>
     clear HI0
     obtain ⟨i,hi,rfl,HI⟩:=hrel
     by_cases hlt8:i<8
     · have t0:decide ((i:Int)<8)=true:=by simp;omega
       have e1:(56 - 8 * (i:Int)).toNat=56 - 8 * i:=by omega
       have q2:(0:Int)≤56 - 8 * (i:Int):=by omega
       have q3:(0:Int)≤(i:Int):=by omega
       have q4:(8:Int) * (i:Int)≤56:=by omega
       have hlen:Bx ((xs++(List.range i).map (be8 n)).length≤1000000000):=⟨by rw [List.length_append,List.length_map,List.length_range,hpz2.out];omega⟩
       have hbs:Bx (w.heap.size+2≤wr.heap.size):=⟨HI.out.kr.lt⟩
       go_wp2_with (at_builtin;refine wpList_append_int rfl _ _ 84 rfl 5 .u8 (.int .u8 0) 1 (by omega) Tryz.underlying84 (by kernel_rfl) rfl (w.heap.size+2) _ (xs++(List.range i).map (be8 n)) rfl (HI.out.own.alloc _) (8 * (n:Int) / 2 ^ (56 - 8 * i) % 256) ⟨wr.heap.size,0,none⟩ 1 rfl (cell_new _ _ _) hlen.out (le_alloc hbs.out _) ?_)
       intro v' w4 ho hg _
       rw [←List.append_assoc] at ho
       have HI2:=HI.out.add ho hg
       have e:xs++(List.range i).map (be8 n)++[8 * (n:Int) / 2 ^ (56 - 8 * i) % 256]=xs++(List.range (i+1)).map (be8 n):=by
        rw [List.range_succ,List.map_append,List.append_assoc];rfl
       rw [e] at HI2
       replace HI2:=Bx.mk HI2
       clear e ho hg HI hlen hbs
       go_wp2_with fail
       go_roundw
       case rel=>exact ⟨i+1,by omega,by go_num,HI2⟩
       case measure=>simp [intOf];omega
     · have t0:decide ((i:Int)<8)=false:=by simp;omega
       obtain rfl:i=8:=by omega
       have hpd:Bx (xs++(List.range 8).map (be8 n)=pad n):=⟨by rw [←hxs.out];rfl⟩
       rw [hpd.out] at HI
       obtain ⟨a4,c4,rfl,hs4⟩:=HI.out.own.form
       have hpl:=pad_len n
       have hcv:=conv_str (P:=Tryz.prog) (w:=wr) 84 5 9 Tryz.underlying84 Tryz.underlying5 Tryz.underlying9 hs4 (9+padz n) c4 hpl.symm
       rw [hpl]
       have hK1:Bx (Krow wr 1 kc):=⟨fun i v hv=>cell_later HI.out.bel (hK.out i v hv)⟩
       have hadd:=stm_any kc m (pad n) hk (by have:=hn.out;omega) (byt_pad n) st bl hso.out wr hK1.out
       rw [hn.out] at hadd
       replace hadd:=Bx.mk hadd
       have hkb:=Bx.mk HI.out.kb
       have hsz:Bx ((strC st bl n).toArray.size=73):=⟨by rw [List.size_toArray,strC_len _ hbl]⟩
       clear hpz2 hxs hs4
       generalize hP:pad n=pd at *
       replace hP:=Bx.mk hP
       go_upto_region 10 with fail
       go_wp2_with (first
        | refine wpList_load_whole rfl _ _ rfl w.heap.size rfl _ _ hkb.out _ Tryz.underlying158 rfl (infoStr _ hsz.out) ?_
        | fail)
       have hadd:=hadd.out
       clear hcv
       refine hadd.mono ?_
       rintro _ w5 ⟨s5,b5,rfl,hso5,hb5⟩
       have hso5:=Bx.mk hso5
       have hb5:=Bx.mk hb5
       clear hpl
       generalize hN:(m++pd).length=N at *
       replace hN:=Bx.mk hN
       have hsz5:Bx ((strC s5 b5 N).toArray.size=73):=⟨by rw [List.size_toArray,strC_len _ hso5.out.len]⟩
       have hone:=Bx.mk (one_strC s5 b5 N)
       have hkb5:=Bx.mk (HI.out.kb.later hb5.out)
       have hkr5:=Bx.mk (HI.out.kr.later hb5.out)
       have hbel5:=Bx.mk (HI.out.bel.trans (hb5.out.mono HI.out.bel.size))
       have hss:Bx ((strC st bl n).toArray.size=(strC s5 b5 N).toArray.size):=⟨by rw [hsz.out,hsz5.out]⟩
       clear hadd HI hb5 hkb
       unfold strV
       go_wp2_with (refine wpList_store_whole rfl _ _ _ rfl w.heap.size rfl _ _ rfl _ hkb5.out (infoStr _ hsz5.out) hss.out hone.out ?_)
       generalize hW:World.alloc (World.setRow w5 _ _) _=W6
       have hsr:(w5.setRow w.heap.size (strC s5 b5 N).toArray).heap.size=w5.heap.size:=by simp [World.setRow]
       have HO:Bx (OutI w w5.heap.size s5 (strC s5 b5 N) 0 W6):=by
        rw [←hW]
        have hlt:=hkr5.out.lt
        refine ⟨⟨(below_setRow hbel5.out (Nat.le_refl _) _).alloc (by rw [hsr];exact hbel5.out.size) _,?_,?_,?_,hlt⟩⟩
        · exact blk_old (setRow_heap _ _ _ _ _ (0,0) hkb5.out)
        · have h:=hkr5.out
          unfold Bl Bk at *
          refine blk_old ?_
          rw [setRow_other _ _ _ _ (by omega)];exact h
        · exact (blk_new _ _ _ hsr.symm:Bk _ _ _ _)
       try rw [hsr]
       clear hW hsr hkb5 hkr5 hbel5 hss hsz
       go_loopw [40] (fun v40 wr => ∃ i:Nat,i≤32∧v40 = .int .i64 i∧Bx (OutI w w5.heap.size s5 (strC s5 b5 N) i wr)) (fun v40 _=>32 - (intOf v40).toNat)
       case atStart=>exact ⟨0,Nat.zero_le _,rfl,HO⟩
       case round =>
        clear HO
        obtain ⟨i,hi,rfl,HO⟩:=hrel
        by_cases hlt32:i<32
        · have t0:decide ((i:Int)<32)=true:=by simp;omega
          obtain ⟨q,hq⟩ : ∃ q,q=i / 4:=⟨_,rfl⟩
          obtain ⟨r,hr⟩ : ∃ r,r=i % 4:=⟨_,rfl⟩
          have e1:(i:Int) / 4=(q:Int):=by omega
          have e2:(i:Int) % 4=(r:Int):=by omega
          have e3:(24 - 8 * (r:Int)).toNat=24 - 8 * r:=by omega
          have q2:(0:Int)≤24 - 8 * (r:Int):=by omega
          have q3:(0:Int)≤(i:Int):=by omega
          have q4:(0:Int)≤(q:Int):=by omega
          have q5:(q:Int)<8:=by omega
          have q6:(i:Int)<32:=by omega
          have q7:(8:Int) * (r:Int)≤24:=by omega
          have hob:Bx (outB s5 i=s5.list.getD q 0 / 2 ^ (24 - 8 * r) % 256):=⟨by unfold outB;rw [hq,hr]⟩
          have cq:wr.cell? ⟨w.heap.size,q,none⟩=some (.int .u32 (s5.list.getD q 0)):=HO.out.kb.cell q (by
           rw [List.getElem?_toArray]
           unfold strC
           rw [List.append_assoc,List.getElem?_append_left (by rw [List.length_map];show q<8;omega),List.getElem?_map,w8_get s5 (by omega)];rfl)
          have co:=HO.out.at_ hlt32
          have fo:=HO.out.ko.frozen i
          have HO2:=HO.out.put hlt32
          rw [hob.out] at HO2
          replace HO2:=Bx.mk HO2
          replace hq:=Bx.mk hq
          replace hr:=Bx.mk hr
          generalize s5.list.getD q 0=xq at *
          go_wp2_with fail
          go_roundw
          case rel=>exact ⟨i+1,by omega,by go_num,HO2⟩
          case measure=>simp [intOf];omega
        · have t0:decide ((i:Int)<32)=false:=by simp;omega
          obtain rfl:i=32:=by omega
          have hko:Bx (Bl wr w5.heap.size .u8 (out s5) 162):=⟨by have:=HO.out.ko;rw [Nat.sub_self,List.replicate_zero,List.append_nil] at this;exact this⟩
          have hkr:=Bx.mk HO.out.kr
          have hsz:Bx ((((out s5)).map (Value.int .u8)).toArray.size=32):=⟨by rw [List.size_toArray,List.length_map,out_len]⟩
          have hs2:Bx (((z32.map (Value.int .u8)).toArray).size=(((out s5)).map (Value.int .u8)).toArray.size):=⟨by rw [hsz.out];rfl⟩
          have hone:=Bx.mk (one_ints .u8 (out s5))
          have H1:=Bx.mk (show ∀ cs:Array Value,cs.size=32→(Tryz.prog.info? 162).map (·.size)=some cs.size from fun cs h=>by rw [h];kernel_rfl)
          have hsha:Bx (out s5=sha kc m):=⟨by
           unfold sha
           rw [hn.out,hP.out,hso5.out.st_]⟩
          generalize hO:out s5=os at *
          go_upto_region 17 with fail
          go_wp2_with (first
           | refine wpList_load_whole rfl _ _ rfl w5.heap.size rfl _ _ hko.out _ Tryz.underlying162 rfl (H1.out _ hsz.out) ?_
           | refine wpList_store_whole rfl _ _ _ rfl (w.heap.size+1) rfl _ _ rfl _ hkr.out (H1.out _ hsz.out) hs2.out hone.out ?_)
          refine bodyPost_ret (v:=arrV .u8 os) (results_cell_row rfl _ _ (w.heap.size+1) 162 _ (0,0) _ rfl (hkr.out.whole _) Tryz.underlying162 rfl (H1.out _ hsz.out)) rfl ⟨by rw [hsha.out],below_setRow HO.out.bel (by omega) _⟩
end
section
open Go.RowKit Go.Sort
structure PadI (w:World) (v:Value) (xs:List Int) (wr:World):Prop where
 own:Own wr w.heap.size 5 .u8 v xs
 bel:Below w.heap.size w wr
theorem PadI.add {w:World} {v v':Value} {xs:List Int} {x:Int} {w1 w4:World} (h:PadI w v xs w1) {o:Obj} (ho:Own w4 w.heap.size 5 .u8 v' (xs++[x])) (hg:(w1.alloc o).grownBy w4 v.ownBlock):PadI w v' (xs++[x]) w4:=by
 have hne : ∀ k,k<w.heap.size→v.ownBlock ≠ some k:=fun k hk e=>by have:=(h.own.lt k e).1;omega
 have hs:=h.bel.size
 have hz:(w1.alloc o).heap.size=w1.heap.size+1:=by simp
 have hb2:Below w.heap.size (w1.alloc o) w4:=⟨hg.os,hg.tape,hg.output,hg.size,fun k hk=>hg.block k (by omega) (fun e=>hne k hk e.symm)⟩
 have hb1:Below w1.heap.size w1 (w1.alloc o):=(Below.refl _ _).alloc (Nat.le_refl _) _
 exact ⟨ho,(h.bel.trans (hb1.mono h.bel.size)).trans hb2⟩
end
section
open Go.RowKit Go.Sort
def vi (z:Nat):List Int:=if h:z<128 then [(z:Int)] else ((z % 128+128:Nat):Int)::vi (z / 128)
theorem vi_small {z:Nat} (h:z<128):vi z=[(z:Int)]:=by rw [vi,dif_pos h]
theorem vi_big {z:Nat} (h : ¬z<128):vi z=((z % 128+128:Nat):Int)::vi (z / 128):=by rw [vi,dif_neg h]
theorem byt_vi (z:Nat):Byt (vi z):=by
 induction z using Nat.strongRecOn with
 | _ z ih =>
   by_cases h:z<128
   · rw [vi_small h]
     intro x hx
     rw [List.mem_singleton] at hx
     omega
   · rw [vi_big h]
     intro x hx
     rcases List.mem_cons.1 hx with rfl | hx
     · omega
     · exact ih (z / 128) (by omega) x hx
theorem vi_len (k:Nat) : ∀ z:Nat,z<128 ^ (k+1)→(vi z).length≤k+1:=by
 induction k with
 | zero=>intro z h;rw [vi_small (by omega)];simp
 | succ k ih =>
   intro z h
   by_cases hz:z<128
   · rw [vi_small hz];simp
   · rw [vi_big hz,List.length_cons]
     have:=ih (z / 128) (by rw [Nat.pow_succ] at h;omega)
     omega
theorem or128 : ∀ x:Fin 256,bits .or .u8 (x.val:Int) 128=((x.val % 128+128:Nat):Int):=by decide +kernel
theorem or_128 (z:Nat):bits .or .u8 ((z:Int) % 256) 128=((z % 128+128:Nat):Int):=by
 have:=or128 ⟨z % 256,by omega⟩
 simp only at this
 rw [show (z:Int) % 256=((z % 256:Nat):Int) by omega,this]
 omega
theorem xor_zero64 (z:Nat) (h:z<9223372036854775808):bits .xor .u64 (z:Int) 0=(z:Int):=by
 have e:bits .xor .u64 (z:Int) ((0:Nat):Int)=IntKind.u64.wrap ((z % 2 ^ 64 ^^^ 0 % 2 ^ 64:Nat):Int):=by
  simp only [bits,BitVec.ofInt_natCast,BitVec.toNat_xor,BitVec.toNat_ofNat]
  rfl
 have e2:z % 2 ^ 64=z:=Nat.mod_eq_of_lt (by have:(2:Nat) ^ 64=18446744073709551616:=(by decide);omega)
 rw [e2,Nat.zero_mod,Nat.xor_zero] at e
 rw [show (0:Int)=((0:Nat):Int) from rfl,e,IntKind.wrap_u64]
 omega
def BytesPost (w:World) (xs:List Int) (e:Ending) (w':World):Prop := ∃ v,e = .returned v∧PadI w v xs w'
structure ViI (w:World) (z0 z:Nat) (out:List Int) (v:Value) (wr:World):Prop where
 eq:out++vi z=vi z0
 pad:PadI w v out wr
 few:out.length≤20
theorem ViI.start (w:World) (z0:Nat):ViI w z0 z0 [] (.slice none 0 0) w:=⟨rfl,⟨Own.nil _ _ _ _,Below.refl _ _⟩,by simp⟩
theorem ViI.len {w wr:World} {z0 z:Nat} {out:List Int} {v:Value} (h:ViI w z0 z out v wr) (hz:z0≤2000000000000):out.length≤6:=by
 have h1:=vi_len 6 z0 (by have:128 ^ (6+1)=562949953421312:=(by decide);omega)
 have h2:=congrArg List.length h.eq
 rw [List.length_append] at h2
 have h3:1≤(vi z).length:=by
  by_cases hz:z<128
  · rw [vi_small hz];simp
  · rw [vi_big hz];simp
 omega
theorem ViI.step {w w1 w4:World} {z0 z:Nat} {out:List Int} {v v':Value} (h:ViI w z0 z out v w1) (hz0:z0≤2000000000000) (hz : ¬z<128) {o:Obj} (ho:Own w4 w.heap.size 5 .u8 v' (out++[((z % 128+128:Nat):Int)])) (hg:(w1.alloc o).grownBy w4 v.ownBlock) :
 ViI w z0 (z / 128) (out++[((z % 128+128:Nat):Int)]) v' w4 :=
 ⟨by rw [List.append_assoc,List.singleton_append,←vi_big hz];exact h.eq,h.pad.add ho hg,by have:=h.len hz0;rw [List.length_append,List.length_singleton];omega⟩
set_option maxRecDepth 100000 in
theorem int_any (n:Nat) (hn:n≤1000000000000) (w:World):Calls Tryz.prog 88 #[(n:Int)] w (BytesPost w (vi (2 * n))):=by
 obtain ⟨z0,hzn⟩ : ∃ z0,z0=2 * n:=⟨_,rfl⟩
 have x0:bits .xor .u64 ((n:Int) * 2) ((n:Int) / 9223372036854775808)=(z0:Int):=by
  rw [show (n:Int) / 9223372036854775808=0 by omega,show (n:Int) * 2=(z0:Int) by omega]
  exact xor_zero64 z0 (by omega)
 have hz0:z0≤2000000000000:=by omega
 rw [←hzn]
 replace hzn:=Bx.mk hzn
 go_enter Tryz.func88,Tryz.ntmps88
 go_upto_region 2 with fail
 try rw [x0]
 clear x0
 have HI:=Bx.mk (ViI.start w z0)
 go_wp2_with fail
 go_loopw [3,4] (fun v3 v4 wr => ∃ (z:Nat) (out:List Int),z≤z0∧v3 = .int .u64 z∧Bx (ViI w z0 z out v4 wr)) (fun v3 _ _=>(intOf v3).toNat)
 case atStart=>exact ⟨z0,[],Nat.le_refl _,rfl,HI⟩
 case round =>
  clear HI
  obtain ⟨z,out,hz,rfl,HI⟩:=hrel
  have hlen:=HI.out.len hz0
  have hlen2:Bx (out.length≤1000000000):=⟨by omega⟩
  have q0:(0:Int)≤(z:Int):=by omega
  have q1:(z:Int)≤2000000000000:=by omega
  by_cases hlt:128≤z
  · have t0:decide (127<(z:Int))=true:=by simp;omega
    obtain ⟨z',hz'⟩ : ∃ z',z'=z / 128:=⟨_,rfl⟩
    obtain ⟨dg,hdg⟩ : ∃ dg,dg=z % 128+128:=⟨_,rfl⟩
    have hc:=Bx.mk (show bits .or .u8 ((z:Int) % 256) 128=(dg:Int) by rw [or_128,←hdg])
    have e2:(z:Int) / 128=(z':Int):=by omega
    have q4:(0:Int)≤(dg:Int):=by omega
    have q5:(dg:Int)<256:=by omega
    have hz'2:z'<z:=by omega
    replace hz':=Bx.mk hz'
    replace hdg:=Bx.mk hdg
    go_wp2_with (at_builtin;refine wpList_append_int rfl _ _ 84 rfl 5 .u8 (.int .u8 0) 1 (by omega) Tryz.underlying84 (by kernel_rfl) rfl w.heap.size _ out rfl (HI.out.pad.own.alloc _) (bits .or .u8 ((z:Int) % 256) 128) ⟨wr.heap.size,0,none⟩ 1 rfl (cell_new _ _ _) hlen2.out (le_alloc HI.out.pad.bel.size _) ?_)
    intro v' w4 ho hg _
    have HI2:Bx (ViI w z0 z' (out++[(dg:Int)]) v' w4):=by
     rw [hz'.out,hdg.out]
     rw [hc.out,hdg.out] at ho
     exact ⟨HI.out.step hz0 (by omega) ho hg⟩
    clear ho hg HI hc
    go_wp2_with fail
    go_roundw
    case rel=>exact ⟨z',_,by omega,rfl,HI2⟩
    case measure=>simp [intOf];omega
  · have t0:decide (127<(z:Int))=false:=by simp;omega
    have e1:(z:Int) % 256=(z:Int):=by omega
    have heq:Bx (out++[(z:Int)]=vi z0):=⟨by rw [←vi_small (by omega)];exact HI.out.eq⟩
    go_wp2_with (at_builtin;refine wpList_append_int rfl _ _ 84 rfl 5 .u8 (.int .u8 0) 1 (by omega) Tryz.underlying84 (by kernel_rfl) rfl w.heap.size _ out rfl (HI.out.pad.own.alloc _) (z:Int) ⟨wr.heap.size,0,none⟩ 1 rfl (cell_new _ _ _) hlen2.out (le_alloc HI.out.pad.bel.size _) ?_)
    intro v' w4 ho hg _
    have HI2:=Bx.mk (HI.out.pad.add ho hg)
    rw [heq.out] at HI2
    clear ho hg HI
    go_wp2_with fail
    go_ret
    exact ⟨_,rfl,HI2.out⟩
end
end Go.Proofs.YtgnfgblkpnfcnaaGreatDoor
