/- M51, M52: joined by program. -/
import Derived.Test.YtfcbajmjaifjlaaGreatM16
set_option maxHeartbeats 8000000
set_option maxRecDepth 100000
set_option linter.all false
attribute [local simp] Go.Op.operands Go.Call.operands
namespace Go.Proofs.YtfcbajmjaifjlaaGreat
section
open Go.RowKit Go.Sort Go.Maps
open Oct
theorem zHr {N:Nat} (hN:N≤12) {n:Nat} {a:Pt} (hin:InT N n a):Small ⟨⟨a.x,a.y,a.z⟩,⟨a.x+2 ^ (n+2),a.y+2 ^ (n+2),a.z+2 ^ (n+2)⟩⟩ 1048575:=by
 have hp:=zt (show N+2≤14 by omega)
 have h1:=hin.x;have h2:=hin.y;have h3:=hin.z;exact ⟨by simp only;omega,by simp only;omega,by simp only;omega,by simp only;omega,by simp only;omega,by simp only;omega⟩
theorem zGA {L:List (Pt × Nat × Tr)} {b:Box} {cs:List Int} {k:Nat} {x:Pt × Nat × Tr} (hx:L[k]? = some x) (h:(L.take k).any (zF9 b cs)=false) (hr:zF9 b cs x=false):(L.take (k+1)).any (zF9 b cs)=false:=by
 rw [List.take_add_one,hx,List.any_append,h];simp [hr]
theorem zF5 {N:Nat} (hN:N≤12) (S:ByteArray) (H b0 b1 b2 b3 b4 b5:Int) (L:List (Pt × Nat × Tr)) (hL : ∀ x∈L,InT N x.2.1 x.1∧zAT x) (hl:L.length≤1000000000000) (ca:Option Addr) (cc:Nat) (cs:List Int) (LZ:cs.length≤1000000000) (w:World) (Lr:Sl w .i64 ca cs)
 (PC : ∀ W,Calls Tryz.prog 26 #[.string S,H] W fun e w' => ∃ v,e = .returned v∧w'.ownsRow W.heap.size 64 5 v L.length (zHV L)∧Below W.heap.size W w') :
 Calls Tryz.prog 22 #[.string S,H,.agg #[b0,b1,b2,b3,b4,b5],.slice ca cs.length cc] w fun e w'=>e = .returned (.bool (L.any (zF9 ⟨⟨b0,b1,b2⟩,⟨b3,b4,b5⟩⟩ cs)))∧Below w.heap.size w w':=by
 have HL:=Bx.mk hL;have HV:=Bx.mk PC;have HN:=Bx.mk hN;have AW:=Bx.mk Lr;have Cv:=Bx.mk fun (d:Int) W (h:Sl W .i64 ca cs)=>zGS ca cc cs d W LZ h;obtain ⟨cn,Le⟩ : ∃ cn,cn=cs.length:=⟨_,rfl⟩;rw [←Le] at Cv ⊢;clear hL PC hN Lr LZ Le;go_enter Tryz.func22,Tryz.ntmps22;go_upto_region 1 with fail;generalize hW0:w.alloc _=W0;have A2:=Bx.mk (show Below w.heap.size w W0 by rw [←hW0];exact bf)
 have KB:=Bx.mk (show Bk W0 w.heap.size #[b0,b1,b2,b3,b4,b5] 25 by rw [←hW0];exact zC _ _ _ rfl)
 clear hW0;go_wp2_with fail;refine (HV.o _).mono ?_;rintro _ W ⟨v,rfl,ho,hb⟩;obtain ⟨a,cp,rfl,Rn⟩:=zH2 ho;have HB:=Bx.mk (tr A2.o hb);have Dw:=Bx.mk (KB.o.la hb);have HS:=Bx.mk Rn;have AX:=Bx.mk (AW.o.below HB.o);obtain ⟨n,hn⟩ : ∃ n,n=L.length:=⟨_,rfl⟩;rw [←hn] at hl ⊢;have Hn:=Bx.mk hn;clear ho hb Rn HV hn KB AW A2;go_wp2_with fail
 go_loopw [10] (fun v10 wr => ∃ k:Nat,k≤n∧v10 = .int .i64 k∧Bx (Below W.heap.size W wr∧(L.take k).any (zF9 ⟨⟨b0,b1,b2⟩,⟨b3,b4,b5⟩⟩ cs)=false)) (fun i _=>n - (intOf i).toNat)
 case atStart=>exact ⟨0,Nat.zero_le _,rfl,⟨br,rfl⟩⟩
 case round =>
  obtain ⟨k,hk,rfl,HW⟩:=hrel;by_cases hlt:k<n
  · have t0:decide ((k:Int)<(n:Int))=true:=by simp;omega
    obtain ⟨x,hx⟩ : ∃ x,L[k]? = some x:=⟨_,lge (by rw [←Hn.o];exact hlt)⟩
    obtain ⟨g,rfl,hg⟩:=HS.o.la HW.o.1 k x hx;obtain ⟨Nt,QE⟩:=HL.o x (List.mem_of_getElem? hx);have HG:=Bx.mk hg;have HX:=Bx.mk hx;have A4:=Bx.mk (show (k:Int)<(n:Int) by omega)
    obtain ⟨q,lv,t⟩:=x;simp only [] at Nt QE HG;have Ca:=Bx.mk (show cb q (lv+2)=⟨⟨q.x,q.y,q.z⟩,⟨q.x+2 ^ (lv+2),q.y+2 ^ (lv+2),q.z+2 ^ (lv+2)⟩⟩ from rfl);have Lv:=Bx.mk fun W=>zD0 HN.o Nt W;have Dc:=Bx.mk (zHr HN.o Nt);have PY:=Bx.mk fun W=>zLD q.x q.y q.z (q.x+2 ^ (lv+2)) (q.y+2 ^ (lv+2)) (q.z+2 ^ (lv+2)) b0 b1 b2 b3 b4 b5 W;have MV:=Bx.mk fun W=>zK4 (zn ⟨⟨q.x,q.y,q.z⟩,⟨q.x+2 ^ (lv+2),q.y+2 ^ (lv+2),q.z+2 ^ (lv+2)⟩⟩ ⟨⟨b0,b1,b2⟩,⟨b3,b4,b5⟩⟩).lo.x (zn ⟨⟨q.x,q.y,q.z⟩,⟨q.x+2 ^ (lv+2),q.y+2 ^ (lv+2),q.z+2 ^ (lv+2)⟩⟩ ⟨⟨b0,b1,b2⟩,⟨b3,b4,b5⟩⟩).lo.y (zn ⟨⟨q.x,q.y,q.z⟩,⟨q.x+2 ^ (lv+2),q.y+2 ^ (lv+2),q.z+2 ^ (lv+2)⟩⟩ ⟨⟨b0,b1,b2⟩,⟨b3,b4,b5⟩⟩).lo.z (zn ⟨⟨q.x,q.y,q.z⟩,⟨q.x+2 ^ (lv+2),q.y+2 ^ (lv+2),q.z+2 ^ (lv+2)⟩⟩ ⟨⟨b0,b1,b2⟩,⟨b3,b4,b5⟩⟩).hi.x (zn ⟨⟨q.x,q.y,q.z⟩,⟨q.x+2 ^ (lv+2),q.y+2 ^ (lv+2),q.z+2 ^ (lv+2)⟩⟩ ⟨⟨b0,b1,b2⟩,⟨b3,b4,b5⟩⟩).hi.y (zn ⟨⟨q.x,q.y,q.z⟩,⟨q.x+2 ^ (lv+2),q.y+2 ^ (lv+2),q.z+2 ^ (lv+2)⟩⟩ ⟨⟨b0,b1,b2⟩,⟨b3,b4,b5⟩⟩).hi.z W;have CT:=Bx.mk fun (i:Nat) (h:(0:Int)≤(i:Int)∧(i:Int)<zAE ⟨⟨q.x,q.y,q.z⟩,⟨q.x+2 ^ (lv+2),q.y+2 ^ (lv+2),q.z+2 ^ (lv+2)⟩⟩) W=>zK0 q.x q.y q.z (q.x+2 ^ (lv+2)) (q.y+2 ^ (lv+2)) (q.z+2 ^ (lv+2)) (i:Int) Dc.o h W;have Dj:=Bx.mk (show lv=0→zAE ⟨⟨q.x,q.y,q.z⟩,⟨q.x+2 ^ (lv+2),q.y+2 ^ (lv+2),q.z+2 ^ (lv+2)⟩⟩=64 from fun h=>by subst h;exact (zDm q.x q.y q.z).2.2)
    have MS:zS ⟨⟨(zn ⟨⟨q.x,q.y,q.z⟩,⟨q.x+2 ^ (lv+2),q.y+2 ^ (lv+2),q.z+2 ^ (lv+2)⟩⟩ ⟨⟨b0,b1,b2⟩,⟨b3,b4,b5⟩⟩).lo.x,(zn ⟨⟨q.x,q.y,q.z⟩,⟨q.x+2 ^ (lv+2),q.y+2 ^ (lv+2),q.z+2 ^ (lv+2)⟩⟩ ⟨⟨b0,b1,b2⟩,⟨b3,b4,b5⟩⟩).lo.y,(zn ⟨⟨q.x,q.y,q.z⟩,⟨q.x+2 ^ (lv+2),q.y+2 ^ (lv+2),q.z+2 ^ (lv+2)⟩⟩ ⟨⟨b0,b1,b2⟩,⟨b3,b4,b5⟩⟩).lo.z⟩,⟨(zn ⟨⟨q.x,q.y,q.z⟩,⟨q.x+2 ^ (lv+2),q.y+2 ^ (lv+2),q.z+2 ^ (lv+2)⟩⟩ ⟨⟨b0,b1,b2⟩,⟨b3,b4,b5⟩⟩).hi.x,(zn ⟨⟨q.x,q.y,q.z⟩,⟨q.x+2 ^ (lv+2),q.y+2 ^ (lv+2),q.z+2 ^ (lv+2)⟩⟩ ⟨⟨b0,b1,b2⟩,⟨b3,b4,b5⟩⟩).hi.y,(zn ⟨⟨q.x,q.y,q.z⟩,⟨q.x+2 ^ (lv+2),q.y+2 ^ (lv+2),q.z+2 ^ (lv+2)⟩⟩ ⟨⟨b0,b1,b2⟩,⟨b3,b4,b5⟩⟩).hi.z⟩⟩=zS (zn (cb q (lv+2)) ⟨⟨b0,b1,b2⟩,⟨b3,b4,b5⟩⟩):=rfl;rw [MS] at MV;have Bo:Bx (zF9 ⟨⟨b0,b1,b2⟩,⟨b3,b4,b5⟩⟩ cs (q,lv,t)=zF9 ⟨⟨b0,b1,b2⟩,⟨b3,b4,b5⟩⟩ cs (q,lv,t)):=⟨rfl⟩;clear MS;generalize zn ⟨⟨q.x,q.y,q.z⟩,⟨q.x+2 ^ (lv+2),q.y+2 ^ (lv+2),q.z+2 ^ (lv+2)⟩⟩ ⟨⟨b0,b1,b2⟩,⟨b3,b4,b5⟩⟩=M at *;generalize MS:zS (zn (cb q (lv+2)) ⟨⟨b0,b1,b2⟩,⟨b3,b4,b5⟩⟩)=ee at *;have Ad:=Bx.mk MS;generalize L6:q.x+2 ^ (lv+2)=c3 at *;generalize hc4:q.y+2 ^ (lv+2)=c4 at *;generalize L9:q.z+2 ^ (lv+2)=c5 at *;have AO:=Bx.mk (And.intro L6 (And.intro hc4 L9));have BU:=Bx.mk QE;clear hx hg Nt MS L6 hc4 L9 QE Bo;go_upto_region 5 with fail
    refine zAL 14 (fun i v w'=>match i with
     | 0=>v = .slice (some ⟨g,0,none⟩) n cp
     | 1=>v = .int .i64 (k:Int)
     | 2=>v = .pointer (some ⟨g,k * 5,none⟩)
     | 3=>v = .pointer (some ⟨g,k * 5,none⟩)
     | 4=>v = .pointer (some ⟨g,k * 5,none⟩)
     | 5=>v = .agg #[q.x,q.y,q.z]
     | 6=>v = .slice (some ⟨g,0,none⟩) n cp
     | 7=>v = .int .i64 (k:Int)
     | 8=>v = .pointer (some ⟨g,k * 5,none⟩)
     | 9=>v = .pointer (some ⟨g,k * 5,none⟩)
     | 10=>v = .pointer (some ⟨g,k * 5+3,none⟩)
     | 11=>v = .int .i64 ((lv:Int)+2)
     | 12=>v = .agg #[q.x,q.y,q.z,c3,c4,c5]
     | _ => ∃ h,v = .pointer (some ⟨h,0,none⟩)∧wr.heap.size≤h∧Bk w' h #[(0:Int),(0:Int),(0:Int),(0:Int),(0:Int),(0:Int)] 25) (by kernel_rfl) (by kernel_rfl) 99 (by kernel_rfl) (by rfl) ?_ ?_ ?_
    · intro i hi v u1 u2 hb h
      match i,hi with
      | 0,_=>exact h
      | 1,_=>exact h
      | 2,_=>exact h
      | 3,_=>exact h
      | 4,_=>exact h
      | 5,_=>exact h
      | 6,_=>exact h
      | 7,_=>exact h
      | 8,_=>exact h
      | 9,_=>exact h
      | 10,_=>exact h
      | 11,_=>exact h
      | 12,_=>exact h
      | 13,_=>obtain ⟨g2,h1,h2,h3⟩:=h;exact ⟨g2,h1,h2,h3.la hb⟩
    · intro i o hi ho ρ w1 hb L3 L5 L6 hk
      match i,hi with
      | 0, _ =>
        obtain rfl:=osi ho;have g0:ρ (.tmp 9) = .slice (some ⟨g,0,none⟩) n cp:=hk 9 (by simp)
        clear hk hb HG HX A4 Ca Lv Dc PY MV CT Dj Ad AO BU HW HL HN Cv HB Dw HS AX;go_simp;exact br
      | 1, _ =>
        obtain rfl:=osi ho;have g0:ρ (.tmp 10) = .int .i64 (k:Int):=hk 10 (by simp)
        clear hk hb HG HX A4 Ca Lv Dc PY MV CT Dj Ad AO BU HW HL HN Cv HB Dw HS AX;go_simp;exact br
      | 2, _ =>
        obtain rfl:=osi ho;have g0:ρ (.tmp 29) = .slice (some ⟨g,0,none⟩) n cp:=hk 29 (by simp)
        have g1:ρ (.tmp 30) = .int .i64 (k:Int):=hk 30 (by simp)
        have Tb:(0:Int)≤(k:Int):=by omega
        have Tc:=A4.o;clear hk hb HG HX A4 Ca Lv Dc PY MV CT Dj Ad AO BU HW HL HN Cv HB Dw HS AX;go_simp;exact br
      | 3, _ =>
        obtain rfl:=osi ho;have g0:ρ (.tmp 31) = .pointer (some ⟨g,k * 5,none⟩):=hk 31 (by simp)
        clear hk hb HG HX A4 Ca Lv Dc PY MV CT Dj Ad AO BU HW HL HN Cv HB Dw HS AX;go_simp;exact br
      | 4, _ =>
        obtain rfl:=osi ho;have g0:ρ (.tmp 32) = .pointer (some ⟨g,k * 5,none⟩):=hk 32 (by simp)
        clear hk hb HG HX A4 Ca Lv Dc PY MV CT Dj Ad AO BU HW HL HN Cv HB Dw HS AX;go_simp;exact br
      | 5, _ =>
        obtain rfl:=osi ho;have g0:ρ (.tmp 33) = .pointer (some ⟨g,k * 5,none⟩):=hk 33 (by simp)
        have kk:=HG.o;have z0:w1.cell? ⟨g,k * 5,none⟩=_:=cell_later hb (kk 0 (by decide))
        have z1:w1.cell? ⟨g,k * 5+1,none⟩=_:=cell_later hb (kk 1 (by decide))
        have z2:w1.cell? ⟨g,k * 5+2,none⟩=_:=cell_later hb (kk 2 (by decide))
        clear kk;clear hk hb HG HX A4 Ca Lv Dc PY MV CT Dj Ad AO BU HW HL HN Cv HB Dw HS AX;go_simp;exact br
      | 6, _ =>
        obtain rfl:=osi ho;have g0:ρ (.tmp 9) = .slice (some ⟨g,0,none⟩) n cp:=hk 9 (by simp)
        clear hk hb HG HX A4 Ca Lv Dc PY MV CT Dj Ad AO BU HW HL HN Cv HB Dw HS AX;go_simp;exact br
      | 7, _ =>
        obtain rfl:=osi ho;have g0:ρ (.tmp 10) = .int .i64 (k:Int):=hk 10 (by simp)
        clear hk hb HG HX A4 Ca Lv Dc PY MV CT Dj Ad AO BU HW HL HN Cv HB Dw HS AX;go_simp;exact br
      | 8, _ =>
        obtain rfl:=osi ho;have g0:ρ (.tmp 35) = .slice (some ⟨g,0,none⟩) n cp:=hk 35 (by simp)
        have g1:ρ (.tmp 36) = .int .i64 (k:Int):=hk 36 (by simp)
        have Tb:(0:Int)≤(k:Int):=by omega
        have Tc:=A4.o;clear hk hb HG HX A4 Ca Lv Dc PY MV CT Dj Ad AO BU HW HL HN Cv HB Dw HS AX;go_simp;exact br
      | 9, _ =>
        obtain rfl:=osi ho;have g0:ρ (.tmp 37) = .pointer (some ⟨g,k * 5,none⟩):=hk 37 (by simp)
        clear hk hb HG HX A4 Ca Lv Dc PY MV CT Dj Ad AO BU HW HL HN Cv HB Dw HS AX;go_simp;exact br
      | 10, _ =>
        obtain rfl:=osi ho;have g0:ρ (.tmp 38) = .pointer (some ⟨g,k * 5,none⟩):=hk 38 (by simp)
        clear hk hb HG HX A4 Ca Lv Dc PY MV CT Dj Ad AO BU HW HL HN Cv HB Dw HS AX;go_simp;exact br
      | 11, _ =>
        obtain rfl:=osi ho;have g0:ρ (.tmp 39) = .pointer (some ⟨g,k * 5+3,none⟩):=hk 39 (by simp)
        have kk:=HG.o;have z3:w1.cell? ⟨g,k * 5+3,none⟩=_:=cell_later hb (kk 3 (by decide))
        clear kk;clear hk hb HG HX A4 Ca Lv Dc PY MV CT Dj Ad AO BU HW HL HN Cv HB Dw HS AX;go_simp;exact br
      | 12, _ =>
        obtain rfl:=osi ho;have g0:ρ (.tmp 34) = .agg #[q.x,q.y,q.z]:=hk 34 (by simp)
        have g1:ρ (.tmp 40) = .int .i64 ((lv:Int)+2):=hk 40 (by simp)
        have h4:=Lv.o w1;have H4:=Bx.mk h4;clear h4;clear hk hb HG HX A4 Ca Lv Dc PY MV CT Dj Ad AO BU HW HL HN Cv HB Dw HS AX;go_simp
        all_goals exact H4.o
      | 13, _ =>
        obtain rfl:=osi ho;have Ko:=hb.size;have Hn:=Bx.mk (show Bk (w1.alloc (.cells #[(0:Int),(0:Int),(0:Int),(0:Int),(0:Int),(0:Int)] 25)) w1.heap.size #[(0:Int),(0:Int),(0:Int),(0:Int),(0:Int),(0:Int)] 25 from Bk.new _ _ _);clear hk hb HG HX A4 Ca Lv Dc PY MV CT Dj Ad AO BU HW HL HN Cv HB Dw HS AX;go_simp;exact ⟨bf,Hn.o⟩
    · intro vs W1 Od hb hR
      match vs,Od with
      | [v0, v1, v2, v3, v4, v5, v6, v7, v8, v9, v10, v11, v12, v13], _ =>
        have r0:v0 = .slice (some ⟨g,0,none⟩) n cp:=hR 0 v0 rfl;have r1:v1 = .int .i64 (k:Int):=hR 1 v1 rfl;have r2:v2 = .pointer (some ⟨g,k * 5,none⟩):=hR 2 v2 rfl;have r3:v3 = .pointer (some ⟨g,k * 5,none⟩):=hR 3 v3 rfl;have r4:v4 = .pointer (some ⟨g,k * 5,none⟩):=hR 4 v4 rfl;have r5:v5 = .agg #[q.x,q.y,q.z]:=hR 5 v5 rfl;have r6:v6 = .slice (some ⟨g,0,none⟩) n cp:=hR 6 v6 rfl;have r7:v7 = .int .i64 (k:Int):=hR 7 v7 rfl;have r8:v8 = .pointer (some ⟨g,k * 5,none⟩):=hR 8 v8 rfl;have r9:v9 = .pointer (some ⟨g,k * 5,none⟩):=hR 9 v9 rfl;have UW:v10 = .pointer (some ⟨g,k * 5+3,none⟩):=hR 10 v10 rfl;have UX:v11 = .int .i64 ((lv:Int)+2):=hR 11 v11 rfl;have UY:v12 = .agg #[q.x,q.y,q.z,c3,c4,c5]:=hR 12 v12 rfl;obtain ⟨hB,UZ,IA,IB⟩ : ∃ h,v13 = .pointer (some ⟨h,0,none⟩)∧wr.heap.size≤h∧Bk W1 h #[(0:Int),(0:Int),(0:Int),(0:Int),(0:Int),(0:Int)] 25:=hR 13 v13 rfl;clear hR;subst r0 r1 r2 r3 r4 r5 r6 r7 r8 r9 UW UX UY UZ;simp only [zKg,List.take_succ_cons,List.take_zero,List.drop_succ_cons,List.drop_zero,List.map_cons,List.map_nil,List.zip_cons_cons,List.zip_nil_right,List.foldl_cons,List.foldl_nil];simp only [Act.put,List.setIfInBounds_toArray,List.set_cons_succ,List.set_cons_zero];have A3:=Bx.mk (tr HW.o.1 hb);have AF:=Bx.mk IB;have Ah:=Bx.mk (show W.heap.size≤hB from nlt HW.o.1.size IA);obtain ⟨hn0,PZ,Pb,hn3,Pc,Pd⟩:=IB.c6;obtain ⟨hf0,hf1,Mf,hf3,hf4,hf5⟩:=IB.f6;clear hb IB IA Lv;go_upto_region 6 with fail;generalize hW2:World.setCell (World.setCell (World.setCell (World.setCell (World.setCell (World.setCell W1 _ _) _ _) _ _) _ _) _ _) _ _=W2;have A6:=Bx.mk (show Below W.heap.size W W2 by rw [←hW2];exact zBm A3.o Ah.o _ _ _ _ _ _)
        have KX:=Bx.mk (show Bk W2 hB #[q.x,q.y,q.z,c3,c4,c5] 25 by rw [←hW2];exact AF.o.put6 _ _ _ _ _ _)
        clear hW2 hn0 PZ Pb hn3 Pc Pd hf0 hf1 Mf hf3 hf4 hf5 AF A3 Ah HG;obtain ⟨g',NH,hg⟩:=HS.o.la A6.o k _ HX.o;simp only [Option.some.injEq,Addr.mk.injEq,and_true] at NH;subst NH;have z4:W2.cell? ⟨g,k * 5+4,none⟩=some (.string (strOfNums (Tr.enc t))):=hg 4 (by decide)
        clear hg;obtain ⟨x0,x1,x2,x3,x4,x5⟩:=KX.o.c6;have Dt:=Bx.mk (Dw.o.la A6.o);obtain ⟨y0,y1,y2,y3,y4,y5⟩:=Dt.o.c6;have Tb:(0:Int)≤(k:Int):=by omega
        have Tc:=A4.o;go_wp2_with fail;refine (PY.o _).mono ?_;rintro _ w5 ⟨rfl,K3⟩;go_wp2_with fail;refine (MV.o _).mono ?_;rintro _ w6 ⟨rfl,K4⟩;have Ju:=tr K3 K4;have A9:=Bx.mk (tr A6.o Ju);have KX6:=Bx.mk (KX.o.la Ju);clear K3 K4 Ju x0 x1 x2 x3 x4 x5 y0 y1 y2 y3 y4 y5 z4 KX Dt A6 PY MV;have CH:=Bx.mk HW.o.2;clear HW;rcases BU.o with ⟨d,ht,hd⟩ | ⟨PC,l,ht,hl64,Kz⟩
        · simp only [] at ht;subst ht;have hE:Tr.enc (.uni d)=[117,d]:=by simp [Tr.enc]
          simp only [hE];have I2:Byt [117,d]:=fun y hy=>by simp only [List.mem_cons,List.not_mem_nil,or_false] at hy;omega
          have i0:=zM3 I2 0 117 rfl;have i1:=zM3 I2 1 d rfl;rw [show ((0:Nat):Int)=0 from rfl] at i0;rw [show ((1:Nat):Int)=1 from rfl] at i1;have St:=zOo hd;generalize strOfNums [117,d]=X at *;have hR:Bx (zF9 ⟨⟨b0,b1,b2⟩,⟨b3,b4,b5⟩⟩ cs (q,lv,.uni d)=(cs.any (d == ·) && !ee)):=⟨by unfold zF9;simp only [];rw [Ad.o]⟩
          have LZ:=Bx.mk (Cv.o d w6 (AX.o.below A9.o));clear hE I2 hd BU;go_wp2_with fail;refine LZ.o.mono ?_;rintro _ w7 ⟨rfl,rfl⟩;clear i1 St LZ;cases QK:cs.any (d == ·) with
          | true =>
            cases ee with
            | false =>
              rw [QK] at hR;have Jg:Bx (L.any (zF9 ⟨⟨b0,b1,b2⟩,⟨b3,b4,b5⟩⟩ cs)=true):=⟨List.any_eq_true.2 ⟨_,List.mem_of_getElem? HX.o,hR.o⟩⟩;clear QK;go_wp2_with fail;go_ret;exact ⟨by rw [Jg.o];rfl,tr HB.o A9.o⟩
            | true =>
              rw [QK] at hR;have HT:=Bx.mk (zGA HX.o CH.o hR.o);clear QK;go_upto_region 12 with fail
              go_loopw [15] (fun v15 wr=>v15 = .int .i64 0∧Bx (Below W.heap.size W wr)) (fun _ _=>0)
              case atStart=>exact ⟨rfl,A9⟩
              case round =>
               obtain ⟨rfl,HQ⟩:=hrel;go_wp2_with fail
               go_roundw
               case rel=>exact ⟨k+1,by omega,by go_num,⟨HQ.o,HT.o⟩⟩
               case measure=>simp [intOf];omega
          | false =>
            rw [QK] at hR;have HT:=Bx.mk (zGA HX.o CH.o hR.o);clear QK;cases ee with
            | true =>
              go_upto_region 12 with fail
              go_loopw [15] (fun v15 wr=>v15 = .int .i64 0∧Bx (Below W.heap.size W wr)) (fun _ _=>0)
              case atStart=>exact ⟨rfl,A9⟩
              case round =>
               obtain ⟨rfl,HQ⟩:=hrel;go_wp2_with fail
               go_roundw
               case rel=>exact ⟨k+1,by omega,by go_num,⟨HQ.o,HT.o⟩⟩
               case measure=>simp [intOf];omega
            | false =>
              go_upto_region 12 with fail
              go_loopw [15] (fun v15 wr=>v15 = .int .i64 0∧Bx (Below W.heap.size W wr)) (fun _ _=>0)
              case atStart=>exact ⟨rfl,A9⟩
              case round =>
               obtain ⟨rfl,HQ⟩:=hrel;go_wp2_with fail
               go_roundw
               case rel=>exact ⟨k+1,by omega,by go_num,⟨HQ.o,HT.o⟩⟩
               case measure=>simp [intOf];omega
        · simp only [] at ht PC;subst ht PC;have hE:Tr.enc (.brick l)=98::l:=by simp [Tr.enc]
          simp only [hE]
          have I2:Byt (98::l):=fun y hy=>by
           rcases List.mem_cons.1 hy with rfl | hy
           · omega
           · exact Kz y hy
          have i0:=zM3 I2 0 98 rfl;rw [show ((0:Nat):Int)=0 from rfl] at i0;have Cx:=Bx.mk fun (j:Nat) (y:Int) (hj:l[j]? = some y)=>zM3 I2 (j+1) y (by rw [List.getElem?_cons_succ];exact hj)
          have D3:=Bx.mk hl64;have CX:=Bx.mk Kz;generalize strOfNums (98::l)=X at *;obtain ⟨fR,Mh⟩ : ∃ fR:Nat→Bool,fR=fun i:Nat=>inB (atB (cb q (0+2)) (i:Int)) ⟨⟨b0,b1,b2⟩,⟨b3,b4,b5⟩⟩ && cs.any (l.getD i 0 == ·):=⟨_,rfl⟩;have hR:Bx (zF9 ⟨⟨b0,b1,b2⟩,⟨b3,b4,b5⟩⟩ cs (q,0,.brick l)=(!ee && (List.range 64).any fR)):=⟨by unfold zF9;simp only [];rw [Ad.o,Mh]⟩
          have HfR:=Bx.mk (show ∀ i:Nat,fR i=(inB (atB (cb q (0+2)) (i:Int)) ⟨⟨b0,b1,b2⟩,⟨b3,b4,b5⟩⟩ && cs.any (l.getD i 0 == ·)) from fun i=>by rw [Mh])
          clear hE I2 hl64 Kz Mh BU;have LK:Bx (cb q (0+2)=⟨⟨q.x,q.y,q.z⟩,⟨c3,c4,c5⟩⟩):=⟨by rw [Ca.o]⟩
          go_upto_region 12 with fail
          go_loopw [15] (fun v15 wr => ∃ j:Nat,j≤64∧v15 = .int .i64 j∧Bx (Below w6.heap.size w6 wr∧(j=0∨ee=false)∧(List.range j).any fR=false)) (fun v _=>65 - (intOf v).toNat)
          case atStart=>exact ⟨0,by omega,rfl,⟨br,.inl rfl,rfl⟩⟩
          case round =>
           obtain ⟨j,hj,rfl,HQ⟩:=hrel;have AK:=Bx.mk (tr A9.o HQ.o.1);cases MS:ee with
           | true =>
             have HT:=Bx.mk (zGA HX.o CH.o (by rw [hR.o,MS];rfl))
             clear hR;by_cases hj4:j<64
             · have t0:decide ((j:Int)<64)=true:=by simp;omega
               go_wp2_with fail
               go_roundw
               case rel=>exact ⟨k+1,by omega,by go_num,⟨AK.o,HT.o⟩⟩
               case measure=>simp [intOf];omega
             · obtain rfl:j=64:=by omega
               have t0:decide (((64:Nat):Int)<64)=false:=by decide
               go_wp2_with fail
               go_roundw
               case rel=>exact ⟨k+1,by omega,by go_num,⟨AK.o,HT.o⟩⟩
               case measure=>simp [intOf];omega
           | false =>
             by_cases hj4:j<64
             · have t0:decide ((j:Int)<64)=true:=by simp;omega
               obtain ⟨y,hy⟩ : ∃ y,l[j]? = some y:=⟨_,lge (by rw [D3.o];exact hj4)⟩
               have i1:=Cx.o j y hy;rw [show (((j+1:Nat)):Int)=1+(j:Int) by omega] at i1
               have T8:=zOo (CX.o y (List.mem_of_getElem? hy));have Sr:IntKind.i64.wrap (1+(j:Int))=1+(j:Int):=wj _ (by omega)
               have Sj:=Dj.o trivial;have Jk:=Bx.mk fun W=>CT.o j ⟨by omega,by rw [Sj];omega⟩ W
               have Ms:=HfR.o j;rw [LK.o,List.getD_eq_getElem?_getD,hy,Option.getD_some] at Ms;have RF:=Bx.mk fun W=>zK8 (atB ⟨⟨q.x,q.y,q.z⟩,⟨c3,c4,c5⟩⟩ (j:Int)).x (atB ⟨⟨q.x,q.y,q.z⟩,⟨c3,c4,c5⟩⟩ (j:Int)).y (atB ⟨⟨q.x,q.y,q.z⟩,⟨c3,c4,c5⟩⟩ (j:Int)).z b0 b1 b2 b3 b4 b5 W;have Qf:(⟨(atB ⟨⟨q.x,q.y,q.z⟩,⟨c3,c4,c5⟩⟩ (j:Int)).x,(atB ⟨⟨q.x,q.y,q.z⟩,⟨c3,c4,c5⟩⟩ (j:Int)).y,(atB ⟨⟨q.x,q.y,q.z⟩,⟨c3,c4,c5⟩⟩ (j:Int)).z⟩:Pt)=atB ⟨⟨q.x,q.y,q.z⟩,⟨c3,c4,c5⟩⟩ (j:Int):=rfl;rw [Qf] at RF;generalize inB (atB ⟨⟨q.x,q.y,q.z⟩,⟨c3,c4,c5⟩⟩ (j:Int)) ⟨⟨b0,b1,b2⟩,⟨b3,b4,b5⟩⟩=ib at *;generalize (atB ⟨⟨q.x,q.y,q.z⟩,⟨c3,c4,c5⟩⟩ (j:Int)).x=p0 at *;generalize (atB ⟨⟨q.x,q.y,q.z⟩,⟨c3,c4,c5⟩⟩ (j:Int)).y=p1 at *;generalize (atB ⟨⟨q.x,q.y,q.z⟩,⟨c3,c4,c5⟩⟩ (j:Int)).z=p2 at *;have Cq:=Bx.mk Ms;have KXq:=Bx.mk (KX6.o.la HQ.o.1);obtain ⟨x0,x1,x2,x3,x4,x5⟩:=KXq.o.c6;clear hy Sj Qf Ms;go_wp2_with fail;refine (Jk.o _).mono ?_;rintro _ wA ⟨rfl,K8⟩;have AC:=Bx.mk (tr AK.o K8);have Bf:=Bx.mk (tr HQ.o.1 K8);clear K8 x0 x1 x2 x3 x4 x5 Jk
               go_upto_region 15 with fail;generalize hWC:wA.alloc _=wC;have K9:=bl1 hWC;have ED:=Bx.mk (show Bk wC wA.heap.size #[p0,p1,p2] 23 by rw [←hWC];exact zC _ _ _ rfl)
               have AD:=Bx.mk (tr AC.o K9);have Bg:=Bx.mk (tr Bf.o K9);clear hWC K9 AC Bf;obtain ⟨x0,x1,x2⟩:=ED.o.c3;have Dv:=Bx.mk (Dw.o.la AD.o);obtain ⟨y0,y1,y2,y3,y4,y5⟩:=Dv.o.c6;go_wp2_with fail;refine (RF.o _).mono ?_;rintro _ wD ⟨rfl,KA⟩;have AE:=Bx.mk (tr AD.o KA);have Bh:=Bx.mk (tr Bg.o KA);clear KA x0 x1 x2 y0 y1 y2 y3 y4 y5 ED Dv AD Bg RF;have LZ:=Bx.mk (Cv.o y wD (AX.o.below AE.o));go_wp2_with fail;refine LZ.o.mono ?_;rintro _ w7 ⟨rfl,rfl⟩;clear i1 T8 Sr LZ;generalize cs.any (y == ·)=wb at *;cases Mk:(ib && wb) with
               | true =>
                 rw [Bool.and_eq_true] at Mk;obtain ⟨rfl,rfl⟩:=Mk;have Jg:Bx (L.any (zF9 ⟨⟨b0,b1,b2⟩,⟨b3,b4,b5⟩⟩ cs)=true):=⟨List.any_eq_true.2 ⟨_,List.mem_of_getElem? HX.o,by rw [hR.o,MS,List.any_eq_true.2 ⟨j,List.mem_range.2 hj4,Cq.o⟩];rfl⟩⟩
                 go_wp2_with fail;go_ret;exact ⟨by rw [Jg.o];rfl,tr HB.o AE.o⟩
               | false =>
                 have BM:=Bx.mk (show (List.range (j+1)).any fR=false by rw [List.range_succ,List.any_append,HQ.o.2.2];simp [Cq.o,Mk])
                 have hfb2:=Bx.mk Mk;rcases Bool.eq_false_or_eq_true ib with rfl | rfl
                 · rw [Bool.true_and] at Mk;subst Mk;go_wp2_with fail
                   go_roundw
                   case rel=>exact ⟨j+1,by omega,by go_num,⟨Bh.o,.inr (by first | exact trivial | exact MS),BM.o⟩⟩
                   case measure=>simp [intOf];omega
                 · clear Mk;go_wp2_with fail
                   go_roundw
                   case rel=>exact ⟨j+1,by omega,by go_num,⟨Bh.o,.inr (by first | exact trivial | exact MS),BM.o⟩⟩
                   case measure=>simp [intOf];omega
             · obtain rfl:j=64:=by omega
               have t0:decide (((64:Nat):Int)<64)=false:=by decide
               have HT:=Bx.mk (zGA HX.o CH.o (by rw [hR.o,HQ.o.2.2,Bool.and_false]))
               go_wp2_with fail
               go_roundw
               case rel=>exact ⟨k+1,by omega,by go_num,⟨AK.o,HT.o⟩⟩
               case measure=>simp [intOf];omega
  · obtain rfl:k=n:=by omega
    have t0:decide ((k:Int)<(k:Int))=false:=by simp
    have he:=Bx.mk (show L.take k=L by rw [Hn.o,List.take_length])
    go_wp2_with fail;go_ret;exact ⟨by have:=HW.o.2;rw [he.o] at this;rw [this];rfl,tr HB.o HW.o.1⟩
theorem zNF (a b c d e f dd b0 b1 b2 b3 b4 b5 stop:Int) (ha la ca:Option Addr) (xl hcp m lc cn cc:Nat) (w:World) (fb:Bool)
 (QM:fb=false∨(fb=true∧decide ((cn:Int) > 300)=true)∨(fb=true∧decide ((cn:Int) > 300)=false∧okP ⟨b0,b1,b2⟩=false)∨(fb=true∧decide ((cn:Int) > 300)=false∧okP ⟨b0,b1,b2⟩=true∧okP ⟨b3,b4,b5⟩=false))
 (hf : ∀ W,Below w.heap.size w W→Calls Tryz.prog 9 #[.agg #[a,b,c,d,e,f,.slice ha xl hcp],dd,.slice la m lc] W fun e' w'=>e' = .returned (.bool fb)∧Below W.heap.size W w') :
 Calls Tryz.prog 4 #[.agg #[a,b,c,d,e,f,.slice ha xl hcp],dd,.slice la m lc,.agg #[b0,b1,b2,b3,b4,b5],.slice ca cn cc,stop] w fun e' w'=>e' = .returned (.bool true)∧Below w.heap.size w w':=by
 have HF:=Bx.mk hf;have R8:=Bx.mk fun W=>zw b0 b1 b2 W;have R9:=Bx.mk fun W=>zw b3 b4 b5 W;have BV:=Bx.mk QM;clear hf QM;go_enter Tryz.func4,Tryz.ntmps4;go_upto_region 1 with fail;generalize hW:(((w.alloc _).alloc _).alloc _).alloc _=W;have HB:=Bx.mk (show Below w.heap.size w W by rw [←hW];exact ((bf.alloc (by simp) _).alloc (by simp;omega) _).alloc (by simp;omega) _)
 have KG:=Bx.mk (show Bk W w.heap.size #[a,b,c,d,e,f,.slice ha xl hcp] 28 by rw [←hW];exact zD (zD (zD (zC _ _ _ (by simp)))))
 have KB:=Bx.mk (show Bk W (w.heap.size+1) #[b0,b1,b2,b3,b4,b5] 25 by rw [←hW];exact zD (zD (zC _ _ _ (by simp))))
 have KR:=Bx.mk (show Bk W (w.heap.size+1+1+1) #[.bool false] 4 by rw [←hW];exact zC _ _ _ (by simp))
 clear hW;obtain ⟨c0,c1,c2,c3,c4,c5,c6⟩:=KG.o.c7;go_wp2_with fail;refine (HF.o _ HB.o).mono ?_;rintro _ w2 ⟨rfl,Js⟩;have A4:=Bx.mk (tr HB.o Js);replace KB:=Bx.mk (KB.o.la Js);replace KR:=Bx.mk (KR.o.la Js);clear Js HB c0 c1 c2 c3 c4 c5 c6 KG HF;rcases BV.o with rfl | ⟨rfl,t1⟩ | ⟨rfl,t1,t2⟩ | ⟨rfl,t1,t2,t3⟩
 · clear BV R8 R9;go_wp2_with fail;refine (zL7 _).mono ?_;rintro _ w3 ⟨rfl,Jv⟩;have A6:=Bx.mk (tr A4.o Jv);have kr:=KR.o.la Jv;have x0:=kr.cell 0 rfl;have y0:=kr.frozen 0;clear Jv A4 KR;go_wp2_with fail;have z0:((w3.setCell ⟨w.heap.size+1+1+1,0,none⟩ (.bool true)).cell? ⟨w.heap.size+1+1+1,0,none⟩)=some (.bool true):=(Bk.put1 kr (.bool true)).cell 0 rfl;exact bodyPost_ret (v:=.bool true) (by simp [results,Tryz.results4,go_sem,z0]) rfl ⟨rfl,A6.o.setCell (by simp only;omega) _⟩
 · clear BV R8 R9;go_wp2_with fail;refine (zL7 _).mono ?_;rintro _ w3 ⟨rfl,Jv⟩;have A6:=Bx.mk (tr A4.o Jv);have kr:=KR.o.la Jv;have x0:=kr.cell 0 rfl;have y0:=kr.frozen 0;clear Jv A4 KR;go_wp2_with fail;have z0:((w3.setCell ⟨w.heap.size+1+1+1,0,none⟩ (.bool true)).cell? ⟨w.heap.size+1+1+1,0,none⟩)=some (.bool true):=(Bk.put1 kr (.bool true)).cell 0 rfl;exact bodyPost_ret (v:=.bool true) (by simp [results,Tryz.results4,go_sem,z0]) rfl ⟨rfl,A6.o.setCell (by simp only;omega) _⟩
 · rw [t2] at R8;clear BV R9;have ky:=KB.o;obtain ⟨y0,y1,y2,y3,y4,y5⟩:=ky.c6;clear ky;go_wp2_with fail;refine (R8.o _).mono ?_;rintro _ w4 ⟨rfl,Jz⟩;replace A4:=Bx.mk (tr A4.o Jz);replace KR:=Bx.mk (KR.o.la Jz);clear Jz y0 y1 y2 y3 y4 y5 R8;go_wp2_with fail;refine (zL7 _).mono ?_;rintro _ w3 ⟨rfl,Jv⟩;have A6:=Bx.mk (tr A4.o Jv);have kr:=KR.o.la Jv;have x0:=kr.cell 0 rfl;have y0:=kr.frozen 0;clear Jv A4 KR;go_wp2_with fail;have z0:((w3.setCell ⟨w.heap.size+1+1+1,0,none⟩ (.bool true)).cell? ⟨w.heap.size+1+1+1,0,none⟩)=some (.bool true):=(Bk.put1 kr (.bool true)).cell 0 rfl;exact bodyPost_ret (v:=.bool true) (by simp [results,Tryz.results4,go_sem,z0]) rfl ⟨rfl,A6.o.setCell (by simp only;omega) _⟩
 · rw [t2] at R8;rw [t3] at R9;clear BV;have ky:=KB.o;obtain ⟨y0,y1,y2,y3,y4,y5⟩:=ky.c6;clear ky;go_wp2_with fail;refine (R8.o _).mono ?_;rintro _ w4 ⟨rfl,Jz⟩;replace A4:=Bx.mk (tr A4.o Jz);replace KR:=Bx.mk (KR.o.la Jz);replace KB:=Bx.mk (KB.o.la Jz);clear Jz y0 y1 y2 y3 y4 y5 R8;have ky:=KB.o;obtain ⟨y0,y1,y2,y3,y4,y5⟩:=ky.c6;clear ky;go_wp2_with fail;refine (R9.o _).mono ?_;rintro _ w4 ⟨rfl,Jz⟩;replace A4:=Bx.mk (tr A4.o Jz);replace KR:=Bx.mk (KR.o.la Jz);clear Jz y0 y1 y2 y3 y4 y5 R9;go_wp2_with fail;refine (zL7 _).mono ?_;rintro _ w3 ⟨rfl,Jv⟩;have A6:=Bx.mk (tr A4.o Jv);have kr:=KR.o.la Jv;have x0:=kr.cell 0 rfl;have y0:=kr.frozen 0;clear Jv A4 KR;go_wp2_with fail;have z0:((w3.setCell ⟨w.heap.size+1+1+1,0,none⟩ (.bool true)).cell? ⟨w.heap.size+1+1+1,0,none⟩)=some (.bool true):=(Bk.put1 kr (.bool true)).cell 0 rfl;exact bodyPost_ret (v:=.bool true) (by simp [results,Tryz.results4,go_sem,z0]) rfl ⟨rfl,A6.o.setCell (by simp only;omega) _⟩
end
section
open Go.Sort Go.RowKit
def zLR (l:List Oper) (n:Nat):Bool :=
 Region.noSelect l.toArray &&
 ((List.range n).all fun i => match l[i]? with
   | some o=>(match o.guard with
    | none=>true
    | some (g,_)=>decide (g<n) && Region.waitsFor .any l.toArray i g) && o.dst.isSome && o.op.operands.toList.all fun x=>match x with
     | .tmp d=>(List.range n).all fun j => !decide (zR l j=some d) || (decide (j<i) && Region.waitsFor .any l.toArray i j)
     | _=>true
   | none=>false) &&
 ((List.range n).all fun i=>(List.range n).all fun j=>decide (i=j) || !decide (zR l i=zR l j))
structure RelGB (l:List Oper) (n:Nat):Prop where
 nosel:Region.noSelect l.toArray=true
 guard : ∀ i o g b,i<n→l[i]? = some o→o.guard=some (g,b)→g<n∧Region.waitsFor .any l.toArray i g=true
 dst : ∀ i o,i<n→l[i]? = some o → ∃ d,o.dst=some d
 data : ∀ i o d j,i<n→l[i]? = some o → .tmp d∈o.op.operands→j<n→zR l j=some d→j<i∧Region.waitsFor .any l.toArray i j=true
 dist : ∀ i j d,i<n→j<n→i ≠ j→zR l i=some d→zR l j ≠ some d
theorem zLS {l:List Oper} {n:Nat} (h:zLR l n=true):RelGB l n:=by
 simp only [zLR,Bool.and_eq_true] at h;obtain ⟨⟨h3,h4⟩,h5⟩:=h;refine ⟨h3,fun i o g b hi ho hg=>?_,fun i o hi ho=>?_,fun i o d j hi ho hd hj MF=>?_,fun i j d hi hj Ph ME MF=>?_⟩
 · have:=List.all_eq_true.1 h4 i (List.mem_range.2 hi);simp only [ho,hg,Bool.and_eq_true,decide_eq_true_eq] at this;exact this.1.1
 · have:=List.all_eq_true.1 h4 i (List.mem_range.2 hi);simp only [ho,Bool.and_eq_true] at this;exact Option.isSome_iff_exists.1 this.1.2
 · have:=List.all_eq_true.1 h4 i (List.mem_range.2 hi);simp only [ho,Bool.and_eq_true] at this;have:=List.all_eq_true.1 this.2 (.tmp d) (by simpa using hd)
   have:=List.all_eq_true.1 this j (List.mem_range.2 hj);simpa [MF] using this
 · have:=List.all_eq_true.1 (List.all_eq_true.1 h5 i (List.mem_range.2 hi)) j (List.mem_range.2 hj);simp [Ph,ME,MF] at this
section
variable {P:Program} {l:List Oper} {n:Nat} {R:Nat→Value→World→Prop} {W:World} {a:Act}
theorem zLf (Pu:n≤l.length) (B:RelGB l n) (NF : ∀ i o g b,i<n→l[i]? = some o→o.guard=some (g,b) → ∀ v w,R g v w→v = .bool b)
 (hf : ∀ i,i<n→zAO (R i)) (hd : ∀ i d,i<n→zR l i=some d→d<a.tmps.size)
 (QL : ∀ i o,i<n→l[i]? = some o → ∀ (ρ:Operand→Value) w,Below W.heap.size W w→(∀ v,ρ (.const v)=v)→(∀ g,ρ (.global g) = .pointer (some ⟨g,0,none⟩))→(∀ f,ρ (.func f) = .func (.func f) #[] #[]) →
  (∀ d,.tmp d∈o.op.operands→zAS l n R a d (ρ (.tmp d)) w)→zLT P w (R i) ((execOp ρ o).run P w))
 {Q:Exit→Act→World→Prop} {s:Array Bool} (hs:s.size=n) {a':Act} {w':World} (I:RI l n R W a s a' w') {i:Nat} (hin:i<n) (hr:i∈Region.ready .any l.toArray (s++Array.replicate (l.length - n) false)) (SO:s.getD i true=false) :
 wpOp P l.toArray Q i (fun a'' V0=>RI l n R W a (s.setIfInBounds i true) a'' V0) a' w':=by
 obtain ⟨_,o,ho,Jd⟩:=mem_ready.1 hr;have QH:l[i]? = some o:=by simpa using ho
 have MJ:zR l i=o.dst:=by simp [zR,QH]
 obtain ⟨di,ME⟩:=B.dst i o hin QH;have Rg:=zFi (s:=s) (i:=i) (by omega)
 have Pm : ∀ j,j ≠ i→(s.setIfInBounds i true).getD j false=s.getD j false:=fun j hj=>getD_set_ne false (Ne.symm hj);unfold wpOp;simp only [ho]
 have hw:Region.wanted o (yielded l.toArray a'.tmps)=true:=by
  unfold Region.wanted;cases NH:o.guard with
  | none=>rfl
  | some p =>
    obtain ⟨g,b⟩:=p;obtain ⟨NM,NW⟩:=B.guard i o g b hin QH NH;have Ot:=zOB NW hr;rw [zBQ hs NM] at Ot;obtain ⟨og,QD⟩ : ∃ o,l[g]? = some o:=⟨_,lge (by omega)⟩
    obtain ⟨d,MA⟩:=B.dst g og NM QD;obtain ⟨v,h1,h2⟩:=I.head g d NM Ot (by simp [zR,QD,MA])
    have:=NF i o g b hin QH NH v w' h2;subst this;simp [yielded,QD,MA,h1]
 rw [if_pos hw];left
 have hk : ∀ d,.tmp d∈o.op.operands→zAS l n R a d (a'.eval (.tmp d)) w':=by
  intro d Lz;unfold zAS;cases hm:zIG l n d with
  | some j =>
    obtain ⟨hj,MF⟩:=zII hm;obtain ⟨O2,T7⟩:=B.data i o d j hin QH Lz hj MF;have Ov:=zOB T7 hr;rw [zBQ hs hj] at Ov;obtain ⟨v,h1,h2⟩:=I.head j d hj Ov MF;have:a'.eval (.tmp d)=v:=by simp [Act.eval,Array.getD_eq_getD_getElem?,h1]
    rw [this];exact h2
  | none=>exact zEw (I.old d fun j hj _ e=>zIH hm j hj e)
 have RP:=QL i o hin QH a'.eval w' I.below (fun _=>rfl) (fun _=>rfl) (fun _=>rfl) hk
 have post : ∀ v V0,Below w'.heap.size w' V0→R i v V0→RI l n R W a (s.setIfInBounds i true) (a'.put o.dst v) V0:=by
  intro v V0 hb hR;refine ⟨by rw [zKf,I.tsize],by rw [zKd,I.defers],fun x hx=>?_,fun j d hj hs' MF=>?_,tr I.below hb⟩
  · rw [zv v (fun e=>hx i hin Rg (by rw [MJ];exact e))]
    refine I.old x fun j hj hs'=>hx j hj ?_;by_cases e:j=i
    · subst e;exact Rg
    · rw [Pm j e];exact hs'
  · by_cases e:j=i
    · subst e;rw [MJ] at MF;rw [MF,zKe v (by rw [I.tsize];exact hd j d hin (by rw [MJ];exact MF))]
      exact ⟨v,rfl,hR⟩
    · rw [Pm j e] at hs';obtain ⟨u,h1,h2⟩:=I.head j d hj hs' MF;rw [zv v (fun e'=>B.dist j i d hj hin e MF (by rw [MJ];exact e'))]
      exact ⟨u,h1,hf j hj u w' V0 hb h2⟩
 unfold Oper.wp;generalize (execOp a'.eval o).run P w'=r at RP;cases r with
 | ok nx V0 =>
   cases nx <;> simp only [zLT] at RP <;> simp only [Oper.upon]
   case value u=>exact post _ _ RP.1 RP.2
   case enter f args =>
    obtain ⟨rfl,hc⟩:=RP;refine hc.mono fun e w3 ⟨v,he,hb,hR⟩=>?_;subst he;exact post _ _ hb hR
 | halt x V0=>simp only [zLT] at RP
theorem zLd (hn:n≤l.length) (B:RelGB l n) (NF : ∀ i o g b,i<n→l[i]? = some o→o.guard=some (g,b) → ∀ v w,R g v w→v = .bool b)
 (hb:zBa .any l n=true) (ht:zNH .any l n=true) (hf : ∀ i,i<n→zAO (R i)) (hd : ∀ i d,i<n→zR l i=some d→d<a.tmps.size)
 (QL : ∀ i o,i<n→l[i]? = some o → ∀ (ρ:Operand→Value) w,Below W.heap.size W w→(∀ v,ρ (.const v)=v)→(∀ g,ρ (.global g) = .pointer (some ⟨g,0,none⟩))→(∀ f,ρ (.func f) = .func (.func f) #[] #[]) →
  (∀ d,.tmp d∈o.op.operands→zAS l n R a d (ρ (.tmp d)) w)→zLT P w (R i) ((execOp ρ o).run P w))
 {Q:Exit→Act→World→Prop} (MY : ∀ a' w',RI l n R W a (Array.replicate n true) a' w'→wpAny P .any l.toArray Q (l.length - n) (Array.replicate n true++Array.replicate (l.length - n) false) a' w') :
 ∀ (f:Nat) (s:Array Bool) (a':Act) (w':World),s.size=n→zAf .any l s→unl s=f→RI l n R W a s a' w'→wpAny P .any l.toArray Q (f+(l.length - n)) (s++Array.replicate (l.length - n) false) a' w'
 | 0, s, a', w', hs, _, hu, I => by
   have e:s=Array.replicate n true:=by rw [←hs];exact zN0 hu
   rw [Nat.zero_add,e];rw [e] at I;exact MY a' w' I
 | f + 1, s, a', w', hs, Rj, hu, I => by
   obtain ⟨k,hk,SO⟩:=zNy (s:=s) (by omega)
   rw [show f+1+(l.length - n)=(f+(l.length - n))+1 by omega]
   refine ⟨fun h0=>?_,fun i hi=>?_⟩
   · obtain ⟨i,hi⟩:=zKp (g:=l.length - n) hs hn hb (k+1) k (by omega) (by omega) SO
     rw [h0] at hi;cases hi
   · have hin:=zKo hs Rj (by omega:k<n) SO ht hi
     have Ny:s.getD i true=false:=by have:=(mem_ready.1 hi).1;rwa [zBQ hs hin] at this
     refine wpOp_mono (fun a'' V0 I'=>?_) (zLf hn B NF hf hd QL hs I hin hi Ny);rw [zBR (by omega)]
     refine zLd hn B NF hb ht hf hd QL MY f _ a'' V0 (by simpa using hs) (zMI Rj (zKm hs hin hb hi) hin) ?_ I'
     have:=zNz (s:=s) (by omega) Ny
     omega
def zGG (l:List Oper) (n:Nat):Bool :=
 decide (n<l.length) && zBa .any l n && zNH .any l n && zLR l n && Region.seqB .any l.toArray (l.length - n) n (Array.replicate n true++Array.replicate (l.length - n) false)
theorem zBI {Q:Exit→Act→World→Prop} (n:Nat) (R:Nat→Value→World→Prop) (hB:zGG l n=true) (m:Nat) (MI:zEY l m=true) (Jf:a.tmps.size=m)
 (NF : ∀ i o g b,i<n→l[i]? = some o→o.guard=some (g,b) → ∀ v w,R g v w→v = .bool b)
 (hf : ∀ i,i<n→zAO (R i))
 (QL : ∀ i o,i<n→l[i]? = some o → ∀ (ρ:Operand→Value) w,Below W.heap.size W w→(∀ v,ρ (.const v)=v)→(∀ g,ρ (.global g) = .pointer (some ⟨g,0,none⟩))→(∀ f,ρ (.func f) = .func (.func f) #[] #[]) →
  (∀ d,.tmp d∈o.op.operands→zAS l n R a d (ρ (.tmp d)) w)→zLT P w (R i) ((execOp ρ o).run P w))
 (h : ∀ (vs:List Value) w',vs.length=n→Below W.heap.size W w'→(∀ i v,vs[i]? = some v→R i v w')→wpList P l.toArray Q (l.drop n) (zKg (((l.take n).map (·.dst)).zip vs) a) w'):wpAny P .any l.toArray Q l.toArray.size (Array.replicate l.toArray.size false) a { W with drawn:=W.drawn+1 }:=by
 simp only [zGG,Bool.and_eq_true,decide_eq_true_eq] at hB;obtain ⟨⟨⟨⟨hn,hb⟩,ht⟩,hrel⟩,Rh⟩:=hB;have B:=zLS hrel;have hd : ∀ i d,i<n→zR l i=some d→d<a.tmps.size:=fun i d _ hd=>by rw [Jf];exact zEZ MI hd
 have:=zLd (Q:=Q) (by omega) B NF hb ht hf hd QL (fun a' w' I=>?_) n (Array.replicate n false) a { W with drawn:=W.drawn+1 } (by simp) (fun m k h=>by
  simp only [Array.getD_eq_getD_getElem?,Array.getElem?_replicate] at h;split at h <;> simp at h) (by simp [unl])
  ⟨rfl,rfl,fun x _=>rfl,fun i d _ hs=>(by rw [getD_replicate_false] at hs;cases hs),⟨rfl,rfl,rfl,Nat.le_refl _,fun _ _=>rfl⟩⟩
 · have e:Array.replicate n false++Array.replicate (l.length - n) false=Array.replicate l.toArray.size false:=by
    rw [Array.replicate_append_replicate];congr 1;simp;omega
   rw [e,show n+(l.length - n)=l.toArray.size by simp;omega] at this
   exact this
 · have hv : ∀ i,∃ v,i<n→(∃ d,zR l i=some d∧a'.tmps[d]? = some v)∧R i v w':=by
    intro i;by_cases hi:i<n
    · obtain ⟨o,ho⟩ : ∃ o,l[i]? = some o:=⟨_,lge (by omega)⟩
      obtain ⟨d,MA⟩:=B.dst i o hi ho;have MG:zR l i=some d:=by simp [zR,ho,MA]
      obtain ⟨v,h1,h2⟩:=I.head i d hi (by simp [hi]) MG
      exact ⟨v,fun _=>⟨⟨d,MG,h1⟩,h2⟩⟩
    · exact ⟨undef,fun h=>absurd h hi⟩
   obtain ⟨g,hg⟩:=Classical.axiomOfChoice hv;have Od:((List.range n).map g).length=n:=by simp
   have hz : ∀ i,i<n→(((l.take n).map (·.dst)).zip ((List.range n).map g))[i]? = some (zR l i,g i):=by
    intro i hi;rw [(List.getElem?_zip_eq_some (z:=(zR l i,g i))).2];refine ⟨?_,by simp [hi]⟩
    rw [List.getElem?_map,List.getElem?_take,if_pos hi];unfold zR;rw [lge (show i<l.length by omega)];rfl
   have hlt : ∀ {i p},(((l.take n).map (·.dst)).zip ((List.range n).map g))[i]? = some p→i<n:=by
    intro i p hp;have:=(List.getElem?_eq_some_iff.1 hp).1;simp at this;omega
   have Mc:a'=zKg (((l.take n).map (·.dst)).zip ((List.range n).map g)) a:=by
    refine zAl ?_ fun x=>?_
    · rw [(zKj _ _).2];exact I.defers
    · by_cases hx : ∃ i,i<n∧zR l i=some x
      · obtain ⟨i,hi,MK⟩:=hx;obtain ⟨⟨d,h1,h2⟩,_⟩:=hg i hi;rw [MK] at h1;obtain rfl:=osi h1;rw [h2];symm;refine zKh _ a x _ (hd i x hi MK) ?_ (List.mem_iff_getElem?.2 ⟨i,by rw [hz i hi,MK]⟩)
        rw [List.pairwise_iff_getElem];intro p q hp hq Qo d' e1 e2;have n1:=hz p (hlt (lge hp));have n2:=hz q (hlt (lge hq));rw [lge hp] at n1;rw [lge hq] at n2;rw [osi n1] at e1;rw [osi n2] at e2;exact B.dist p q d' (hlt (lge hp)) (hlt (lge hq)) (by omega) e1 e2
      · rw [zKi _ _ x (fun p hp e=>by
         obtain ⟨i,hi⟩:=List.mem_iff_getElem?.1 hp;have hin:=hlt hi;rw [hz i hin] at hi;have:=osi hi;subst this;exact hx ⟨i,hin,e⟩)]
        exact I.old x fun i hi _ e=>hx ⟨i,hi,e⟩
   have RD:=h ((List.range n).map g) w' Od I.below (fun i v hi=>by
    have hin:i<n:=by have:=(List.getElem?_eq_some_iff.1 hi).1;simpa using this
    have:v=g i:=by simpa [hin] using hi.symm
    rw [this];exact (hg i hin).2)
   rw [←Mc] at RD;have:=wpAny_of_seq (P:=P) (md:=.any) (ops:=l.toArray) (Q':=Q) (l.drop n) n (Array.replicate n true++Array.replicate (l.length - n) false) a' w' (fun j=>by simp [List.getElem?_drop]) (by simpa using Rh) RD
   simpa using this
theorem zOi {id:Nat} {Q:Exit→Act→World→Prop} (n:Nat) (R:Nat→Value→World→Prop) (hm:P.follows .mixedOrders=true) (hB:zGG l n=true) (m:Nat) (MI:zEY l m=true) (Jf:a.tmps.size=m)
 (NF : ∀ i o g b,i<n→l[i]? = some o→o.guard=some (g,b) → ∀ v w,R g v w→v = .bool b)
 (hf : ∀ i,i<n→zAO (R i))
 (QL : ∀ i o,i<n→l[i]? = some o → ∀ (ρ:Operand→Value) w,Below W.heap.size W w→(∀ v,ρ (.const v)=v)→(∀ g,ρ (.global g) = .pointer (some ⟨g,0,none⟩))→(∀ f,ρ (.func f) = .func (.func f) #[] #[]) →
  (∀ d,.tmp d∈o.op.operands→zAS l n R a d (ρ (.tmp d)) w)→zLT P w (R i) ((execOp ρ o).run P w))
 (h : ∀ (vs:List Value) w',vs.length=n→Below W.heap.size W w'→(∀ i v,vs[i]? = some v→R i v w')→wpList P l.toArray Q (l.drop n) (zKg (((l.take n).map (·.dst)).zip vs) a) w'):(Code.region id l.toArray true).wp P Q a W :=
 wp_region_any hm (zBI n R hB m MI Jf NF hf QL h)
end
theorem zOU {P:Program} {Q:Exit→Act→World→Prop} {l:List Oper} {w:World} {a:Act} {id:Nat} (lo k:Nat) (hm:P.follows .mixedOrders=true) (hB:Region.lexB .any l.toArray=true) (Pg:zIn l=true) (Iu : ¬LetsOut Q)
 (h:wpQuiet P l.toArray (fun w' => ∃ p:Regrown,w'=grow (redrawn w p.d) p.os) (fun a' => ∀ w',(∃ p:Regrown,w'=grow (redrawn w p.d) p.os)→Q .normal a' w') l a):(Code.region id l.toArray true).wpIn (Fence.wide.inRound lo) k P Q a w:=by
 have Hp:=hB;simp only [Region.lexB,Bool.and_eq_true] at Hp;have hC:(fun w' => ∃ p:Regrown,w'=grow (redrawn w p.d) p.os) { w with drawn:=w.drawn+1 }:=⟨⟨w.drawn+1,#[]⟩,by rw [grow_empty];rfl⟩
 refine wpIn_region_any hm (zOO lo k (zIo Pg) Iu _ _ _ _ (wpAny_of_quiet (C:=fun w' => ∃ p:Regrown,w'=grow (redrawn w p.d) p.os) (Q:=fun a' => ∀ w',(∃ p:Regrown,w'=grow (redrawn w p.d) p.os)→Q .normal a' w') (fun _ w' Sp h=>h w' Sp) _ _ _ _ hC ?_));have:=wpAnyQ_lex (C:=fun w' => ∃ p:Regrown,w'=grow (redrawn w p.d) p.os) (md:=.any) Hp.1 l 0 (Array.replicate l.toArray.size false) a (by simp) (by simpa using Hp.2) h
 simpa using this
end
section
open Go.RowKit Go.Sort Go.Maps
open Oct
theorem zFb {α:Type} : ∀ (L:List (List α)) (l:List α),l∈L→l.length≤L.flatten.length
 | [],l,h=>by cases h
 | x :: L, l, h => by
   rw [List.flatten_cons,List.length_append];rcases List.mem_cons.1 h with rfl | h
   · omega
   · have:=zFb L l h;omega
theorem zEn (d:Nat) (ch:Fin 8→Tr) (i:Fin 8):(Tr.enc (ch i)).length≤(Tr.enc (.node d ch)).length:=by
 have h:=zFb (List.ofFn fun i=>(ch i).enc) (ch i).enc (List.mem_ofFn.2 ⟨i,rfl⟩);simp only [Tr.enc,List.length_cons];omega
theorem zAp {B:Nat} : ∀ (t:Tr),(Tr.enc t).length≤B → ∀ us:List Tr,(∀ x∈us,(Tr.enc x).length≤B) → ∀ x∈Tr.add t us,(Tr.enc x).length≤B
 | .uni c, ht, us, hs => by
   rw [Tr.add_uni];intro x hx;rcases Tr.of_mem_ins hx with h | rfl
   · exact hs _ h
   · exact ht
 | .brick l, ht, us, hs => by
   rw [Tr.add_brick];intro x hx;rcases Tr.of_mem_ins hx with h | rfl
   · exact hs _ h
   · exact ht
 | .node d ch, ht, us, hs => by
   rw [Tr.add_node];split
   · exact hs
   · intro x hx;rw [List.mem_append] at hx;rcases hx with hx | hx
     · exact Tr.addK_ind (P:=fun a => ∀ x∈a,(Tr.enc x).length≤B) (fun i a ha=>zAp (ch i) (nlt (zEn d ch i) ht) a ha) 8 nlr us hs x hx
     · rw [List.mem_singleton] at hx;subst hx;exact ht
open Classical in
theorem zI3 {α:Type} : ∀ (l m:List α),l.Nodup→(∀ x∈l,x∈m)→l.length≤m.length
 | [],_,_,_=>Nat.zero_le _
 | x :: l, m, hn, hs => by
   have hx:=hs x (List.mem_cons_self ..);have h1:=zI3 l (m.erase x) (List.nodup_cons.1 hn).2 (fun y hy=>(List.mem_erase_of_ne (show y ≠ x from fun e=>(List.nodup_cons.1 hn).1 (by rw [←e];exact hy))).2 (hs y (List.mem_cons_of_mem _ hy)))
   rw [List.length_erase_of_mem hx] at h1;have h2:=List.length_pos_of_mem hx;rw [List.length_cons];omega
theorem zAy {n:Nat} {F:Pt→Int} (hn:n≤12) (hF:FnC n F) {ts:List Tr} (hG:Good ts) (hm:trF n F∈ts):(zAv n F []).length≤ts.length :=
 zI3 _ _ (zAx hn hF zFq).closed.1 (fun x hx=>zAt hG (trF n F) hm [] (fun x hx=>by cases hx) x hx)
def dd (D:Nat):Deferred:={ target:=.collected D,args:=#[] }
theorem zHm {F:Fence} {n:Nat} {P:Program} {fn:Func} {tmps:Array Value} {R:Ending→World→Prop} {m:Nat} : ∀ (Ds:List Nat) (W0 W:World),Below m W0 W→Ds.Nodup→(∀ D∈Ds,m≤D∧W.heap[D]? = some (.deferred (some []))) →
 (∀ W',Below m W0 W'→LeavesInM F n P fn tmps R [] .returning W')→LeavesInM F n P fn tmps R (Ds.map dd) .returning W
 | [],W0,W,hb,_,_,h=>h W hb
 | D :: Ds, W0, W, hb, hn, hd, h => by
   obtain ⟨hmD,hK⟩:=hd D (List.mem_cons_self ..);refine ⟨by simp,.inl ⟨_,_,rfl,run_takeDeferred hK,?_⟩⟩
   refine zHm Ds W0 _ (zBg hb hmD hK rfl) (List.nodup_cons.1 hn).2 (fun D' hD'=>?_) h;obtain ⟨h1,h2⟩:=hd D' (List.mem_cons_of_mem _ hD');refine ⟨h1,?_⟩;have Ph:D ≠ D':=fun e=>(List.nodup_cons.1 hn).1 (e ▸ hD');rw [←h2];simp [World.putObj,Array.getElem?_setIfInBounds,Ph]
theorem ite4 {α:Type} {a b c a' b' c':Int} {l l':Nat} [Decidable (a=a')] [Decidable (b=b')] [Decidable (c=c')] [Decidable ((l:Int)=(l':Int))] (h:a ≠ a'∨b ≠ b'∨c ≠ c'∨l ≠ l') {x y:α}:(if a=a' then if b=b' then if c=c' then if (l:Int)=(l':Int) then x else y else y else y else y)=y:=by
 by_cases h1:a=a'
 · rw [if_pos h1];by_cases h2:b=b'
   · rw [if_pos h2];by_cases h3:c=c'
     · rw [if_pos h3,if_neg (by omega)]
     · rw [if_neg h3]
   · rw [if_neg h2]
 · rw [if_neg h1]
end
end Go.Proofs.YtfcbajmjaifjlaaGreat