/- Hof: joined by program, for one claim. -/
import Derived.Test.YtgnfgblkpnfcnaaGreatDoorM43
set_option maxHeartbeats 4000000
set_option maxRecDepth 100000
set_option linter.unusedVariables false
set_option linter.unusedSimpArgs false
section
namespace Go.Proofs.YtgnfgblkpnfcnaaGreatDoor
open Go.RowKit Go.Sort
theorem zBM (b o c:Nat) (W:World):(Instr.arrayAt 43 (.slice (some ⟨b,o,none⟩) 16 c)).run Tryz.prog W = .ok (.pointer (some ⟨b,o,none⟩)) W:=by
 unfold Instr.arrayAt;simp [Sem.run_bind,run_underlying Tryz.underlying43 W]
structure OfI (w:World) (g:Nat) (kc m:List Int) (wr:World):Prop where
 bel:Below w.heap.size w wr
 kr:Bl wr w.heap.size .u8 z16 43
 ks : ∃ st bl,StreamOf kc m st bl∧Bk wr g (zMj st bl m.length).toArray 158
 ap:w.heap.size<g
theorem OfI.later {w wr w':World} {g:Nat} {kc m:List Int} (h:OfI w g kc m wr) (hb:Below wr.heap.size wr w'):OfI w g kc m w':=by
 obtain ⟨st,bl,h1,h2⟩:=h.ks;exact ⟨h.bel.trans (hb.mono h.bel.size),h.kr.later hb,⟨st,bl,h1,h2.later hb⟩,h.ap⟩
theorem zLm {W:World} {g:Nat} {cs:Array Value} (hk:Bk W g cs 158) (hs:cs.size=73) (ρ:Operand→Value) (x:Operand) (hx:ρ x = .pointer (some ⟨g,0,none⟩)) (dst:Option Tmp) (ty:TypeId) (pos:String) (af:Array Edge) (gd:Option (Tmp × Bool)):(execOp ρ ⟨dst,.load 158 x,ty,pos,af,gd⟩).run Tryz.prog W = .ok (.value (.agg cs)) W:=by
 unfold execOp;simp only [hx,Instr.loadAt,Instr.sureAddr,Sem.run_bind,Sem.run_pure,Result.andThen_ok,run_loadVar_row W g 158 158 cs (0,0) _ hk Tryz.underlying158 rfl (zFY cs hs)]
def SlOf (xs:List Int) (v:Value) (w:World):Prop := ∃ a c,v = .slice a xs.length c∧Sl w .u8 a xs
def StrOf (kc m:List Int) (v:Value):Prop := ∃ st bl,v=zMq st bl m.length∧StreamOf kc m st bl
theorem zIg (kc:List Int) (hk:kc.length=64) (tag:Int) (a:Option Addr) (cap:Nat) (ps:List (List Int)) (hp:Parts ps) (w:World) (hs:Slv w a (zy ps)) (hK:zAX w 1 kc) :
 Calls Tryz.prog 87 #[tag,.slice a ps.length cap] w (zA w (dig kc tag ps)):=by
 have hs:=Bx.mk hs;have hK:=Bx.mk hK;have hP:=Bx.mk hp;have hBe:=Bx.mk zBX;have hfew:=hp.few;clear hp;have hkk:=Bx.mk hk;unfold dig;generalize hpn:ps.length=pn at *;replace hpn:=Bx.mk hpn;go_enter Tryz.func87,Tryz.ntmps87;go_upto_region 1 with fail;generalize hW:World.alloc w _=w1
 have HJ:Bx (Below w.heap.size w w1∧Bl w1 w.heap.size .u8 z16 43):=by
  rw [←hW];exact ⟨⟨(Below.refl _ _).alloc (Nat.le_refl _) _,(zD _ _ _ rfl:Bk _ _ _ _)⟩⟩
 clear hW
 go_cut [5] from 9 to 14 (fun v5 wx => ∃ g,v5 = .pointer (some ⟨g,0,none⟩)∧Bx (OfI w g kc (zDf tag (ps.take 0)) wx))
 case first =>
  refine zOU 7 (fun i v w'=>match i with
   | 0=>v=zMq iv z64 0
   | 1=>v = .int .i64 tag
   | 2=>v = .int .u8 (tag % 256)
   | 3 => ∃ g,v = .slice (some ⟨g,0,none⟩) 1 1∧w'.cell? ⟨g,0,none⟩=some (.int .u8 (tag % 256))
   | 4=>v = .string (strOfNums [tag % 256])
   | 5 => ∃ st bl,v=zMq st bl 1∧StreamOf kc [tag % 256] st bl
   | _ => ∃ g,v = .pointer (some ⟨g,0,none⟩)∧w1.heap.size≤g∧Bk w' g Tryz.zeroCells158 158) (by kernel_rfl) (by kernel_rfl) 32 (by kernel_rfl) (by rfl) ?_ ?_ ?_
  · intro i hi v u1 u2 hb h
    match i,hi with
    | 0,_=>exact h
    | 1,_=>exact h
    | 2,_=>exact h
    | 3,_=>obtain ⟨g,h1,h2⟩:=h;exact ⟨g,h1,cell_later hb h2⟩
    | 4,_=>exact h
    | 5,_=>exact h
    | 6,_=>obtain ⟨g,h1,h2,h3⟩:=h;exact ⟨g,h1,h2,h3.later hb⟩
  · intro i o hi ho ρ w2 hb hc1 hc2 hc3 hk
    match i,hi with
    | 0, _ =>
      obtain rfl:=Option.some.inj ho;have H4:=Bx.mk (hBe.out w2);clear hk hb;go_simp;exact H4.out
    | 1, _ =>
      obtain rfl:=Option.some.inj ho;have h2:ρ (.tmp 0) = .int .i64 tag:=hk 0 (by simp [Op.operands])
      clear hk hb;go_simp;exact Below.refl _ _
    | 2, _ =>
      obtain rfl:=Option.some.inj ho;have h2:ρ (.tmp 10) = .int .i64 tag:=hk 10 (by simp [Op.operands])
      clear hk hb;go_simp;exact ⟨Below.refl _ _,IntKind.wrap_u8 tag⟩
    | 3, _ =>
      obtain rfl:=Option.some.inj ho;have h2:ρ (.tmp 11) = .int .u8 (tag % 256):=hk 11 (by simp [Op.operands])
      clear hk hb;go_simp;exact (Below.refl _ _).alloc (Nat.le_refl _) _
    | 4, _ =>
      obtain rfl:=Option.some.inj ho;obtain ⟨g,h2,h3⟩ : ∃ g,ρ (.tmp 12) = .slice (some ⟨g,0,none⟩) 1 1∧w2.cell? ⟨g,0,none⟩=some (.int .u8 (tag % 256)):=hk 12 (by simp [Op.operands])
      have hcv:=zK (P:=Tryz.prog) (w:=w2) 84 5 9 Tryz.underlying84 Tryz.underlying5 Tryz.underlying9 (a:=some ⟨g,0,none⟩) (xs:=[tag % 256]) (fun i x hx=>⟨g,0,rfl,by
       match i with
       | 0=>simp at hx;subst hx;exact h3
       | i+1=>simp at hx⟩) 1 1 rfl
      clear hk hb;go_simp;exact Below.refl _ _
    | 5, _ =>
      obtain rfl:=Option.some.inj ho;have h2:ρ (.tmp 9)=zMq iv z64 0:=hk 9 (by simp [Op.operands,Call.operands])
      have h3:ρ (.tmp 13) = .string (strOfNums [tag % 256]):=hk 13 (by simp [Op.operands,Call.operands])
      have h4:=(zMb kc [] [tag % 256] hkk.out (by simp) (fun x hx=>by rw [List.mem_singleton] at hx;omega) iv z64 (zMu kc) w2 (fun i v hv=>cell_later (HJ.out.1.trans (hb.mono HJ.out.1.size)) (hK.out i v hv))).mono (R':=fun e w'' => ∃ v,e = .returned v∧Below w2.heap.size w2 w'' ∧ ∃ st bl,v=zMq st bl 1∧StreamOf kc [tag % 256] st bl) (fun e w'' ⟨st,bl,x,y,z⟩=>⟨_,x,z,st,bl,rfl,y⟩)
      have H4:=Bx.mk h4;clear hk hb h4;go_simp;exact H4.out
    | 6, _ =>
      obtain rfl:=Option.some.inj ho;have hbs:=hb.size;have hkn:Bk (w2.alloc (.cells Tryz.zeroCells158 158)) w2.heap.size Tryz.zeroCells158 158:=zD _ _ _ rfl;clear hk hb;go_simp;exact (Below.refl _ _).alloc (Nat.le_refl _) _
  · intro vs W1 hlen hb hR
    match vs,hlen with
    | [v0, v1, v2, v3, v4, v5, v6], _ =>
      have r0:v0=zMq iv z64 0:=hR 0 v0 rfl;have r1:v1 = .int .i64 tag:=hR 1 v1 rfl;have r2:v2 = .int .u8 (tag % 256):=hR 2 v2 rfl;obtain ⟨g3,r3,_⟩ : ∃ g,v3 = .slice (some ⟨g,0,none⟩) 1 1∧W1.cell? ⟨g,0,none⟩=some (.int .u8 (tag % 256)):=hR 3 v3 rfl;have r4:v4 = .string (strOfNums [tag % 256]):=hR 4 v4 rfl;obtain ⟨st,bl,r5,hso⟩ : ∃ st bl,v5=zMq st bl 1∧StreamOf kc [tag % 256] st bl:=hR 5 v5 rfl;obtain ⟨g,r6,hg,hkg⟩ : ∃ g,v6 = .pointer (some ⟨g,0,none⟩)∧w1.heap.size≤g∧Bk W1 g Tryz.zeroCells158 158:=hR 6 v6 rfl;subst r0 r1 r2 r3 r4 r5 r6;clear hR;have hsz:Bx ((zMj st bl 1).toArray.size=73):=⟨by rw [List.size_toArray,zMl _ hso.len]⟩
      have hone:=Bx.mk (zIp st bl 1);have hs2:Bx (Tryz.zeroCells158.size=(zMj st bl 1).toArray.size):=⟨by rw [hsz.out];kernel_rfl⟩
      have hlw:=HJ.out.2.lt;have HJ2:Bx (Below w.heap.size w W1∧Bl W1 w.heap.size .u8 z16 43):=⟨HJ.out.1.trans (hb.mono HJ.out.1.size),HJ.out.2.later hb⟩;have hkg:=Bx.mk hkg;have hso:=Bx.mk hso;clear hb;simp only [zKA,List.take_succ_cons,List.take_zero,List.drop_succ_cons,List.drop_zero,List.map_cons,List.map_nil,List.zip_cons_cons,List.zip_nil_right,List.foldl_cons,List.foldl_nil];unfold zMq;refine zAJ rfl _ _ _ rfl g rfl _ (zMj st bl 1).toArray rfl _ hkg.out (zFY _ hsz.out) hs2.out hone.out ?_;generalize hW:World.setRow W1 _ _=W2
      have HI:Bx (OfI w g kc (zDf tag (ps.take 0)) W2):=by
       rw [←hW,List.take_zero];refine ⟨⟨below_setRow HJ2.out.1 (by omega) _,HJ2.out.2.apart _ (by omega),⟨st,bl,hso.out,setRow_heap _ _ _ _ _ (0,0) hkg.out⟩,by omega⟩⟩
      clear hW HJ2 hkg hso HJ;simp only [Act.put];go_wp2_with fail;simp only [List.setIfInBounds_toArray,List.set_cons_succ,List.set_cons_zero]
      go_meet
      exact ⟨g,rfl,HI⟩
 case rest =>
 obtain ⟨g,rfl,HI⟩:=hcut;clear HJ hBe;go_wp2_with fail
 go_loopw [17] (fun v17 wr => ∃ k:Nat,k≤pn∧v17 = .int .i64 k∧Bx (OfI w g kc (zDf tag (ps.take k)) wr)) (fun v17 _=>pn - (intOf v17).toNat)
 case atStart=>exact ⟨0,Nat.zero_le _,rfl,HI⟩
 case round =>
  clear HI;obtain ⟨k,hk9,rfl,HI⟩:=hrel;by_cases hlt:k<pn
  · have t0:decide ((k:Int)<(pn:Int))=true:=by simp;omega
    obtain ⟨p,hp⟩ : ∃ p,ps[k]? = some p:=⟨_,List.getElem?_eq_getElem (by have:=hpn.out;omega)⟩
    have hpm:=Bx.mk (List.mem_of_getElem? hp);obtain ⟨b,o,rfl,hc⟩:=(hs.out.below HI.out.bel) k _ (zMy hp);have hsn:Bx (zDf tag (ps.take (k+1))=zDf tag (ps.take k)++wb p):=⟨by rw [←zDh];congr 1;obtain ⟨h1,rfl⟩:=List.getElem?_eq_some_iff.1 hp;exact List.take_succ_eq_append_getElem h1⟩
    have hln:Bx ((zDf tag (ps.take k)).length+(wb p).length≤1000000000):=⟨by
     have h1:=zDg tag 20 (ps:=ps.take k) (fun q hq=>hP.out.len q (List.mem_of_mem_take hq)) (by rw [List.length_take];omega)
     have h2:=zN4 p (by have:=hP.out.len p hpm.out;omega)
     have h3:=hP.out.len p hpm.out;omega⟩
    have q0:(0:Int)≤(k:Int):=by omega
    have q1:(k:Int)<(pn:Int):=by omega
    clear hp;obtain ⟨st,bl,hso,hkg⟩:=HI.out.ks;have hbp:=Bx.mk (hP.out.byt p hpm.out);have hlp:=Bx.mk (hP.out.len p hpm.out);generalize zDf tag (ps.take k)=m at *;have hsz0:Bx ((zMj st bl m.length).toArray.size=73):=⟨by rw [List.size_toArray,zMl _ hso.len]⟩
    have hso:=Bx.mk hso;have hkg:=Bx.mk hkg;have hKr:Bx (zAX wr 1 kc):=⟨fun i v hv=>cell_later HI.out.bel (hK.out i v hv)⟩;have hbw:Bx (Byt (wb p)):=⟨zB2 hbp.out⟩;go_upto_region 5 with fail
    refine zOU 5 (fun i v w'=>match i with
     | 0=>v=zMq st bl m.length
     | 1=>v = .string (strOfNums p)
     | 2=>SlOf (wb p) v w'
     | 3=>v = .string (strOfNums (wb p))
     | _=>StrOf kc (m++wb p) v) (by kernel_rfl) (by kernel_rfl) 32 (by kernel_rfl) (by rfl) ?_ ?_ ?_
    · intro i hi v u1 u2 hb h
      match i,hi with
      | 0,_=>exact h
      | 1,_=>exact h
      | 2,_=>obtain ⟨a,c,h1,h2⟩:=h;exact ⟨a,c,h1,h2.below hb⟩
      | 3,_=>exact h
      | 4,_=>exact h
    · intro i o hi ho ρ w2 hb hc1 hc2 hc3 hk
      match i,hi with
      | 0, _ =>
        obtain rfl:=Option.some.inj ho;have h2:ρ (.tmp 5) = .pointer (some ⟨g,0,none⟩):=hk 5 (by simp [Op.operands])
        rw [zLm (hkg.out.later hb) hsz0.out ρ _ h2];exact ⟨Below.refl _ _,rfl⟩
      | 1, _ =>
        obtain rfl:=Option.some.inj ho;have h2:ρ (.tmp 7) = .string (strOfNums p):=hk 7 (by simp [Op.operands])
        clear hk hb;go_simp;exact Below.refl _ _
      | 2, _ =>
        obtain rfl:=Option.some.inj ho;have h2:ρ (.tmp 22) = .string (strOfNums p):=hk 22 (by simp [Op.operands,Call.operands])
        have h4:=(zB3 p hbp.out (by have:=hlp.out;omega) w2).mono (R':=fun e w'' => ∃ v,e = .returned v∧Below w2.heap.size w2 w''∧SlOf (wb p) v w'') (fun e w'' ⟨v,x,y⟩=>by
         obtain ⟨a,c,h5,h6⟩:=y.own.form;exact ⟨v,x,y.bel,a,c,h5,h6⟩)
        have H4:=Bx.mk h4;clear hk hb h4;go_simp;exact H4.out
      | 3, _ =>
        obtain rfl:=Option.some.inj ho;obtain ⟨a,c,h2,h3⟩ : ∃ a c,ρ (.tmp 23) = .slice a (wb p).length c∧Sl w2 .u8 a (wb p):=hk 23 (by simp [Op.operands])
        have hcv:=zK (P:=Tryz.prog) (w:=w2) 84 5 9 Tryz.underlying84 Tryz.underlying5 Tryz.underlying9 h3 (wb p).length c rfl;clear hk hb;go_simp;exact Below.refl _ _
      | 4, _ =>
        obtain rfl:=Option.some.inj ho;have h2:ρ (.tmp 21)=zMq st bl m.length:=hk 21 (by simp [Op.operands,Call.operands])
        have h3:ρ (.tmp 24) = .string (strOfNums (wb p)):=hk 24 (by simp [Op.operands,Call.operands])
        have h4:=(zMb kc m (wb p) hkk.out hln.out hbw.out st bl hso.out w2 (fun i v hv=>cell_later hb (hKr.out i v hv))).mono (R':=fun e w'' => ∃ v,e = .returned v∧Below w2.heap.size w2 w''∧StrOf kc (m++wb p) v) (fun e w'' ⟨st,bl,x,y,z⟩=>⟨_,x,z,st,bl,rfl,y⟩);have H4:=Bx.mk h4;clear hk hb h4;go_simp;exact H4.out
    · intro vs W1 hlen hb hR
      match vs,hlen with
      | [v0, v1, v2, v3, v4], _ =>
        have r0:v0=zMq st bl m.length:=hR 0 v0 rfl;have r1:v1 = .string (strOfNums p):=hR 1 v1 rfl;obtain ⟨a2,c2,r2,-⟩ : ∃ a c,v2 = .slice a (wb p).length c∧Sl W1 .u8 a (wb p):=hR 2 v2 rfl;have r3:v3 = .string (strOfNums (wb p)):=hR 3 v3 rfl;obtain ⟨s2,b2,r4,hso2⟩ : ∃ st bl,v4=zMq st bl (m++wb p).length∧StreamOf kc (m++wb p) st bl:=hR 4 v4 rfl;subst r0 r1 r2 r3 r4;clear hR;have hsz:Bx ((zMj s2 b2 (m++wb p).length).toArray.size=73):=⟨by rw [List.size_toArray,zMl _ hso2.len]⟩
        have hone:=Bx.mk (zIp s2 b2 (m++wb p).length);have hs2:Bx ((zMj st bl m.length).toArray.size=(zMj s2 b2 (m++wb p).length).toArray.size):=⟨by rw [hsz.out,hsz0.out]⟩
        have hkg2:=Bx.mk (hkg.out.later hb);have HI2:=Bx.mk (HI.out.later hb);have hso2:=Bx.mk hso2;clear hb hkg HI hso hKr;simp only [zKA,List.take_succ_cons,List.take_zero,List.drop_succ_cons,List.drop_zero,List.map_cons,List.map_nil,List.zip_cons_cons,List.zip_nil_right,List.foldl_cons,List.foldl_nil];unfold zMq;refine zAJ rfl _ _ _ rfl g rfl _ (zMj s2 b2 (m++wb p).length).toArray rfl _ hkg2.out (zFY _ hsz.out) hs2.out hone.out ?_;generalize hW:World.setRow W1 _ _=W2
        have HI:Bx (OfI w g kc (m++wb p) W2):=by
         rw [←hW];have hap:=HI2.out.ap;exact ⟨⟨below_setRow HI2.out.bel (by omega) _,HI2.out.kr.apart _ (by omega),⟨s2,b2,hso2.out,setRow_heap _ _ _ _ _ (0,0) hkg2.out⟩,hap⟩⟩
        rw [←hsn.out] at HI;clear hW HI2 hkg2 hso2 hsn;simp only [Act.put];go_wp2_with fail
        go_roundw
        case rel=>exact ⟨k+1,by omega,by go_num,HI⟩
        case measure=>simp [intOf];omega
  · have t0:decide ((k:Int)<(pn:Int))=false:=by simp;omega
    obtain rfl:k=pn:=by omega
    rw [List.take_of_length_le (by rw [hpn.out];omega)] at HI
    obtain ⟨st,bl,hso,hkg⟩:=HI.out.ks;have hml:Bx ((zDf tag ps).length≤500000000):=⟨by have:=zDg tag 20 hP.out.len hP.out.few;omega⟩
    generalize zDf tag ps=m at *;have hsz0:Bx ((zMj st bl m.length).toArray.size=73):=⟨by rw [List.size_toArray,zMl _ hso.len]⟩
    have hsum:=(zM3 kc m hkk.out hml.out st bl hso wr (fun i v hv=>cell_later HI.out.bel (hK.out i v hv))).mono (R':=fun e w'=>e = .returned (zBP .u8 (sha kc m))∧Below wr.heap.size wr w') (fun _ _ h=>h);have hkg:=Bx.mk hkg;have hl32:(sha kc m).length=32:=zI6 _;clear hso;generalize sha kc m=os at *;replace hsum:=Bx.mk hsum;have hsz:Bx ((os.map (Value.int .u8)).toArray.size=32):=⟨by rw [List.size_toArray,List.length_map,hl32]⟩
    have hsz16:Bx (((os.take 16).map (Value.int .u8)).toArray.size=16):=⟨by rw [List.size_toArray,List.length_map,List.length_take,hl32];rfl⟩
    have hzz:Bx (32=(os.map (Value.int .u8)).toArray.size):=⟨by rw [hsz.out]⟩
    have hz6:Bx (((z16.map (Value.int .u8)).toArray).size=((os.take 16).map (Value.int .u8)).toArray.size):=⟨by rw [hsz16.out];rfl⟩
    have hone:=Bx.mk (zl .u8 os);have hone16:=Bx.mk (zl .u8 (os.take 16));have H1:=Bx.mk (show ∀ cs:Array Value,cs.size=32→(Tryz.prog.info? 162).map (·.size)=some cs.size from fun cs h=>by rw [h];kernel_rfl)
    have H2:=Bx.mk (show ∀ cs:Array Value,cs.size=16→(Tryz.prog.info? 43).map (·.size)=some cs.size from fun cs h=>by rw [h];kernel_rfl)
    have hl32:=Bx.mk hl32;go_upto_region 7 with fail
    go_wp2_with (first
     | refine zAI rfl _ _ rfl g rfl _ _ hkg.out _ Tryz.underlying158 rfl (zFY _ hsz0.out) ?_
     | fail)
    refine hsum.out.mono ?_;rintro _ w3 ⟨rfl,hb3⟩;have HJ3:Bx (Below w.heap.size w w3∧Bl w3 w.heap.size .u8 z16 43∧w.heap.size<w3.heap.size):=⟨HI.out.bel.trans (hb3.mono HI.out.bel.size),HI.out.kr.later hb3,Nat.lt_of_lt_of_le HI.out.kr.lt hb3.size⟩;clear hsum HI hkg hb3;unfold zBP
    go_upto_region 8 with (first
     | refine zAJ rfl _ _ _ rfl w3.heap.size rfl _ _ rfl _ (heap_alloc_new _ _) (H1.out _ hsz.out) hzz.out hone.out ?_
     | fail)
    generalize hW:World.setRow (World.alloc w3 _) _ _=W6
    have HJ6:Bx (Below w.heap.size w W6∧Bl W6 w.heap.size .u8 z16 43∧W6.rangeAt w3.heap.size 0 ((os.take 16).map (Value.int .u8))):=by
     have hlt:=HJ3.out.2.2;have hsr:(w3.alloc (.cells (List.replicate 32 (Value.int .u8 0)).toArray 162)).heap.size=w3.heap.size+1:=by simp
     rw [←hW];refine ⟨⟨below_setRow (HJ3.out.1.alloc HJ3.out.1.size _) (by omega) _,(HJ3.out.2.1.alloc _).apart _ (by omega),?_⟩⟩
     intro j v hv;have hk:Bk ((w3.alloc (.cells (List.replicate 32 (Value.int .u8 0)).toArray 162)).setRow w3.heap.size (os.map (Value.int .u8)).toArray) w3.heap.size (os.map (Value.int .u8)).toArray 162:=setRow_heap _ _ _ _ _ (0,0) (heap_alloc_new _ _);refine hk.cell (0+j) ?_;rw [List.getElem?_toArray,Nat.zero_add];rw [List.map_take,List.getElem?_take] at hv;split at hv
     · exact hv
     · cases hv
    clear hW HJ3;have hA:=zBM w3.heap.size 0 32 W6;have hkr:=Bx.mk HJ6.out.2.1;have hrg:=Bx.mk HJ6.out.2.2;have hle:Bx (((os.take 16).map (Value.int .u8)).length=16):=⟨by have:=hsz16.out;rwa [List.size_toArray] at this⟩
    have H3:=Bx.mk (show ∀ cs:List Value,cs.length=16→(Tryz.prog.info? 43).map (·.size)=some cs.length from fun cs h=>by rw [h];kernel_rfl)
    go_wp2_with (first
     | refine wpList_load_mid rfl _ _ rfl w3.heap.size 0 rfl _ _ hrg.out Tryz.underlying43 rfl (H3.out _ hle.out) ?_
     | refine zAJ rfl _ _ _ rfl w.heap.size rfl _ _ rfl _ hkr.out (H2.out _ hsz16.out) hz6.out hone16.out ?_)
    refine bodyPost_ret (v:=zBP .u8 (os.take 16)) (results_cell_row rfl _ _ w.heap.size 43 _ (0,0) _ rfl (hkr.out.whole _) Tryz.underlying43 rfl (H2.out _ hsz16.out)) rfl ⟨rfl,below_setRow HJ6.out.1 (Nat.le_refl _) _⟩
end Go.Proofs.YtgnfgblkpnfcnaaGreatDoor
end
