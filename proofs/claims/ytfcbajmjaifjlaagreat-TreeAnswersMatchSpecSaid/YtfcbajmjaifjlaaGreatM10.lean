/- M28, M29, M30: joined by program. -/
import Derived.Test.YtfcbajmjaifjlaaGreatM9
import Derived.Deep.CutRange
import Derived.Deep.Onto
import Derived.Deep.AppendSrc
import Derived.Deep.Upon
set_option maxHeartbeats 2000000
set_option maxRecDepth 100000
set_option linter.all false
namespace Go.Proofs.YtfcbajmjaifjlaaGreat
section
open Go.RowKit
open Oct
theorem zEx {l:List Int} {n p:Nat} (hn:l.length=n):(strOfNums l).extract p n=strOfNums (l.drop p):=by
 rw [zM2,List.take_of_length_le (by rw [List.length_drop];omega)]
theorem zKx : ∀ (t:Tr),Tr.WF t → ∀ (r:List Int),Byt r→(Tr.enc t++r).length≤1000000000000000 → ∀ (w:World),
 Calls Tryz.prog 123 #[.string (strOfNums (Tr.enc t++r))] w fun e w'=>e = .returned (.int .i64 ((Tr.enc t).length:Int))∧w=w':=by
 intro t
 induction t with
 | uni c =>
   intro h r hr hl w;have Kz:Byt (Tr.enc (.uni c)++r):=Byt.append (Tr.enc_byt _ h) hr;have Na:=fun W:World=>za (P:=Tryz.prog) 9 Tryz.underlying9 Kz (k:=0) (x:=117) (by simp [Tr.enc]) W
   rw [show ((0:Nat):Int)=0 from rfl] at Na;have he:((Tr.enc (.uni c)).length:Int)=2:=by simp [Tr.enc]
   rw [he];generalize strOfNums (Tr.enc (.uni c)++r)=S at *;clear Kz he hl hr h;go_enter Tryz.func123,Tryz.ntmps123;go_wp2_with fail;go_ret;exact ⟨rfl,rfl⟩
 | brick l =>
   intro h r hr hl w;have Gz:l.length=64:=h.1;have Kz:Byt (Tr.enc (.brick l)++r):=Byt.append (Tr.enc_byt _ h) hr;have Na:=fun W:World=>za (P:=Tryz.prog) 9 Tryz.underlying9 Kz (k:=0) (x:=98) (by simp [Tr.enc]) W
   rw [show ((0:Nat):Int)=0 from rfl] at Na;have he:((Tr.enc (.brick l)).length:Int)=65:=by simp [Tr.enc,Gz]
   rw [he];generalize strOfNums (Tr.enc (.brick l)++r)=S at *;clear Kz he hl hr h Gz;go_enter Tryz.func123,Tryz.ntmps123;go_wp2_with fail;go_ret;exact ⟨rfl,rfl⟩
 | node d ch ih =>
   intro h r hr hl w;have hw : ∀ i,Tr.WF (ch i):=h.2;have Kz:Byt (Tr.enc (.node d ch)++r):=Byt.append (Tr.enc_byt _ h) hr;have Na:=fun W:World=>za (P:=Tryz.prog) 9 Tryz.underlying9 Kz (k:=0) (x:=110) (by simp [Tr.enc]) W
   rw [show ((0:Nat):Int)=0 from rfl] at Na;have hn:(Tr.enc (.node d ch)).length≤(Tr.enc (.node d ch)++r).length:=by rw [List.length_append];omega
   have OI:=Bx.mk (fun (k:Nat) (hk:k<8) (n:Nat) (hn:(Tr.enc (.node d ch)++r).length=n)=>show
    (∃ r',Byt r'∧(Tr.enc (ch ⟨k,hk⟩)++r').length≤1000000000000000∧(strOfNums (Tr.enc (.node d ch)++r)).extract (Tr.pos ch k) n=strOfNums (Tr.enc (ch ⟨k,hk⟩)++r')) from by
     rw [zEx hn,Tr.drop_pos d ch r hk];refine ⟨_,?_,?_,rfl⟩
     · have:=Byt.drop Kz (Tr.pos ch k);rw [Tr.drop_pos d ch r hk] at this;exact fun x hx=>this x (List.mem_append_right _ hx)
     · rw [←Tr.drop_pos d ch r hk,List.length_drop];omega)
   have Qh:=Bx.mk (fun k (hk:k≤8)=>nlt (Tr.pos_le d ch hk) hn);have Qr:=Bx.mk (fun k (hk:k<8)=>Tr.pos_succ ch hk);have QY:=Tr.pos_zero ch;have Qd:=Tr.pos_all d ch;rw [←Qd];have Hw:=Bx.mk hw;have Hih:=Bx.mk ih;have S9:(strOfNums (Tr.enc (.node d ch)++r)).size=(Tr.enc (.node d ch)++r).length:=strOfNums_size _;generalize strOfNums (Tr.enc (.node d ch)++r)=S at *;generalize (Tr.enc (.node d ch)++r).length=n at *;have DP:=Bx.mk QY;clear Kz Qd hn hw ih hr h QY;go_enter Tryz.func123,Tryz.ntmps123;go_wp2_with fail
   go_loop [3,4] (fun v3 v4 => ∃ k:Nat,k≤8∧v4 = .int .i64 k∧v3 = .int .i64 (Tr.pos ch k)) (fun _ i=>8 - (intOf i).toNat)
   case atStart=>exact ⟨0,Nat.zero_le _,rfl,by rw [DP.o];rfl⟩
   case round =>
    obtain ⟨k,hk,rfl,rfl⟩:=hrel;by_cases hlt:k<8
    · have t0:decide ((k:Int)<8)=true:=by simp;omega
      obtain ⟨r',R6,OR,hex⟩:=OI.o k hlt n rfl;have hc:=Bx.mk fun W=>Hih.o ⟨k,hlt⟩ (Hw.o _) r' R6 OR W;have Qj:=Qh.o (k+1) (by omega)
      have Qi:=Qh.o k (by omega)
      have hs:=Qr.o k hlt;generalize J4:strOfNums (Tr.enc (ch ⟨k,hlt⟩)++r')=S2 at *;have Hs:=Bx.mk (show ((Tr.pos ch (k+1):Nat):Int)=(Tr.pos ch k:Int)+((Tr.enc (ch ⟨k,hlt⟩)).length:Int) by omega)
      generalize (Tr.enc (ch ⟨k,hlt⟩)).length=m at *;generalize Tr.pos ch k=p at *;generalize hq:Tr.pos ch (k+1)=q at *;have b1:(0:Int)≤(p:Int):=by omega
      have b2:(p:Int)≤(n:Int):=by omega
      have b3:(p:Int)+(m:Int)≤1000000000000000:=by omega
      have Hq:=Bx.mk hq;clear J4 R6 OR hs Qi Qj hq;go_wp2_with (go_at_call 123;refine (hc.o _).mono ?_;rintro e w' ⟨rfl,rfl⟩);go_round
      case rel=>exact ⟨k+1,by omega,by go_num,by rw [Hq.o,Hs.o]⟩
      case measure=>simp [intOf];omega
    · obtain rfl:k=8:=by omega
      have t0:decide (((8:Nat):Int)<8)=false:=by decide
      go_wp2_with fail;go_ret;exact ⟨rfl,rfl⟩
def zg (ch:Fin 8→Tr):List (List Int):=List.ofFn fun i=>Tr.enc (ch i)
theorem zh (ch:Fin 8→Tr):(zg ch).length=8:=List.length_ofFn
theorem zHH (ch:Fin 8→Tr) {k:Nat} (hk:k<8):(zg ch)[k]? = some (Tr.enc (ch ⟨k,hk⟩)):=by
 unfold zg;rw [lge (by rw [List.length_ofFn];exact hk),List.getElem_ofFn]
theorem zHI (ch:Fin 8→Tr) {k:Nat} (hk:k<8):(zg ch).take (k+1)=(zg ch).take k++[Tr.enc (ch ⟨k,hk⟩)]:=by
 have h:=zHH ch hk;rw [List.take_succ_eq_append_getElem (by rw [zh];exact hk)]
 rw [lge (by rw [zh];exact hk)] at h
 injection h with h;rw [h]
theorem zKt (d:Nat) (ch:Fin 8→Tr) (h:Tr.WF (.node d ch)) (hl:(Tr.enc (.node d ch)).length≤1000000000000000) (w:World) :
 Calls Tryz.prog 57 #[.string (strOfNums (Tr.enc (.node d ch)))] w fun e w' => ∃ g pc,e = .returned (.slice (some ⟨g,0,none⟩) 8 pc)∧Slv w' (some ⟨g,0,none⟩) (zM5 (zg ch))∧(w.heap.size≤g∧g<w'.heap.size)∧Below w.heap.size w w':=by
 have Kz:Byt (Tr.enc (.node d ch)):=Tr.enc_byt _ h
 have OI:=Bx.mk (fun (k:Nat) (hk:k<8) (n:Nat) (hn:(Tr.enc (.node d ch)).length=n)=>show
  (∃ r',Byt r'∧(Tr.enc (ch ⟨k,hk⟩)++r').length≤1000000000000000∧(strOfNums (Tr.enc (.node d ch))).extract (Tr.pos ch k) n=strOfNums (Tr.enc (ch ⟨k,hk⟩)++r')
   ∧ (strOfNums (Tr.enc (.node d ch))).extract (Tr.pos ch k) (Tr.pos ch k+(Tr.enc (ch ⟨k,hk⟩)).length)=strOfNums (Tr.enc (ch ⟨k,hk⟩))) from by
   have hd:=Tr.drop_pos d ch [] hk;rw [List.append_nil] at hd;rw [zEx hn,zM2,Nat.add_sub_cancel_left,hd];refine ⟨_,?_,?_,rfl,?_⟩
   · have:=Byt.drop Kz (Tr.pos ch k);rw [hd] at this;exact fun x hx=>this x (List.mem_append_right _ hx)
   · rw [←hd,List.length_drop];omega
   · rw [List.take_left'] ; rfl)
 have Qh:=Bx.mk (fun k (hk:k≤8)=>Tr.pos_le d ch hk);have Qr:=Bx.mk (fun k (hk:k<8)=>Tr.pos_succ ch hk);have DP:=Bx.mk (Tr.pos_zero ch);have Hw:=Bx.mk (show ∀ i,Tr.WF (ch i) from h.2);have S9:(strOfNums (Tr.enc (.node d ch))).size=(Tr.enc (.node d ch)).length:=strOfNums_size _;generalize strOfNums (Tr.enc (.node d ch))=S at *;generalize (Tr.enc (.node d ch)).length=n at *;clear Kz h;go_enter Tryz.func57,Tryz.ntmps57;go_wp2_with fail
 go_loopw [3,4,5] (fun v3 v4 v5 wr => ∃ k:Nat,k≤8∧v5 = .int .i64 k∧v4 = .int .i64 (Tr.pos ch k)∧Bx (Ownv wr w.heap.size 9 v3 (zM5 ((zg ch).take k)))∧Bx (Below w.heap.size w wr)) (fun _ _ i _=>8 - (intOf i).toNat)
 case atStart=>exact ⟨0,Nat.zero_le _,rfl,by rw [DP.o];rfl,⟨Ownv.nil _ _ _⟩,⟨br⟩⟩
 case round =>
  obtain ⟨k,hk,rfl,rfl,QQ,Ku⟩:=hrel;by_cases hlt:k<8
  · have t0:decide ((k:Int)<8)=true:=by simp;omega
    obtain ⟨r',R6,OR,hex,hex2⟩:=OI.o k hlt n rfl;have hc:=Bx.mk fun W=>zKx (ch ⟨k,hlt⟩) (Hw.o _) r' R6 OR W;have Qj:=Qh.o (k+1) (by omega)
    have Qi:=Qh.o k (by omega)
    have hs:=Qr.o k hlt;have Po:=Bx.mk (show zM5 ((zg ch).take (k+1))=zM5 ((zg ch).take k)++[.string (strOfNums (Tr.enc (ch ⟨k,hlt⟩)))] by rw [zHI ch hlt,zM7])
    have Dh:=Bx.mk (show (zM5 ((zg ch).take k)).length≤1000000000 by rw [zAC,List.length_take];omega)
    generalize J4:strOfNums (Tr.enc (ch ⟨k,hlt⟩)++r')=S2 at *;generalize strOfNums (Tr.enc (ch ⟨k,hlt⟩))=S3 at *;have Hs:=Bx.mk (show ((Tr.pos ch (k+1):Nat):Int)=(Tr.pos ch k:Int)+((Tr.enc (ch ⟨k,hlt⟩)).length:Int) by omega)
    generalize (Tr.enc (ch ⟨k,hlt⟩)).length=m at *;generalize Tr.pos ch k=p at *;generalize hq:Tr.pos ch (k+1)=q at *;have b1:(0:Int)≤(p:Int):=by omega
    have b2:(p:Int)≤(n:Int):=by omega
    have b3:(p:Int)+(m:Int)≤(n:Int):=by omega
    have hz:((p:Int)+(m:Int)).toNat=p+m:=by omega
    have Hq:=Bx.mk hq;have OY:=Ku.o.size;clear J4 R6 OR hs Qi Qj hq
    go_wp2_with (first
     | (go_at_call 123;refine (hc.o _).mono ?_;rintro e w' ⟨rfl,rfl⟩)
     | (at_builtin
        refine zAH rfl _ _ 35 rfl 9 (.string ByteArray.empty) 16 (by omega) Tryz.underlying35 (by kernel_rfl) rfl w.heap.size _ (zM5 ((zg ch).take k)) rfl (QQ.o.alloc _) (.string S3) rfl ⟨wr.heap.size,0,none⟩ 1 rfl (zF _ _ _) Dh.o (zk OY _) ?_
        intro v1 w1 QR N3 _))
    have QS:=Bx.mk QR;rw [←Po.o] at QS;have Kv:=Bx.mk ((Ku.o.alloc OY (.cells #[.string S3] 9)).grown N3 (zk OY _) (fun g hg=>(QQ.o.lt g hg).1));clear QR N3;go_wp2_with fail
    go_roundw
    case rel=>exact ⟨k+1,by omega,by go_num,by rw [Hq.o,Hs.o],QS,Kv⟩
    case measure=>simp [intOf];omega
  · obtain rfl:k=8:=by omega
    have t0:decide (((8:Nat):Int)<8)=false:=by decide
    have QS:=QQ.o;rw [List.take_of_length_le (by rw [zh];exact Nat.le_refl _)] at QS
    obtain ⟨g,pc,rfl,Rn,PA⟩:=QS.form1 (by rw [zAC,zh];decide)
    have Hl:=Bx.mk (show (zM5 (zg ch)).length=8 by rw [zAC,zh])
    have Db:=Bx.mk Rn;have D9:=Bx.mk PA;clear Rn QS QQ PA;go_wp2_with fail;go_ret;exact ⟨g,pc,by rw [Hl.o];rfl,Db.o,D9.o,Ku.o⟩
end
section
open Go.RowKit Go.Sort
open Oct
def zL1 (T:Nat→ByteArray) (k:Nat):Bool:=(List.range k).all fun j=>(T j).toList == (T 0).toList
theorem zL3 (T:Nat→ByteArray) (k:Nat):zL1 T (k+1)=(zL1 T k && ((T k).toList == (T 0).toList)):=by
 unfold zL1;rw [List.range_succ,List.all_append];simp
theorem zMz (a b:ByteArray):(a.toList == b.toList)=true ↔ a=b:=by
 rw [beq_iff_eq];constructor
 · intro h;rw [ByteArray.toList_eq,ByteArray.toList_eq] at h;exact ByteArray.ext (Array.ext' h)
 · intro h;rw [h]
theorem zL2 (T:Nat→ByteArray) (k:Nat):zL1 T k=true ↔ ∀ j,j<k→T j=T 0:=by
 unfold zL1;rw [List.all_eq_true];simp only [List.mem_range,zMz]
def zHC (ch:Fin 8→Tr) (k:Nat):ByteArray:=strOfNums ((zg ch).getD k [])
theorem zHD (ch:Fin 8→Tr) {k:Nat} (hk:k<8):zHC ch k=strOfNums (Tr.enc (ch ⟨k,hk⟩)):=by
 unfold zHC;rw [List.getD_eq_getElem?_getD,zHH ch hk];rfl
theorem zHE {ch:Fin 8→Tr} (h : ∀ i,Tr.WF (ch i)) {k:Nat} (hk:k<8):zHC ch k=zHC ch 0 ↔ ch ⟨k,hk⟩=ch 0:=by
 rw [zHD ch hk,zHD ch (by omega:0<8)]
 constructor
 · intro e;have:=zM0 (Tr.enc_byt _ (h _)) (Tr.enc_byt _ (h _)) e;exact (Tr.enc_eq (h _) (h _)).1 this
 · intro e;rw [e];rfl
theorem zL5 {ch:Fin 8→Tr} (h : ∀ i,Tr.WF (ch i)):zL1 (zHC ch) 8=true ↔ ∀ i,ch i=ch 0:=by
 rw [zL2];constructor
 · intro e i;exact (zHE h i.isLt).1 (e i.val i.isLt)
 · intro e j hj;exact (zHE h hj).2 (e _)
def zAh (d:Nat) (ch:Fin 8→Tr) (k:Nat):ByteArray:=strOfNums (110::(d:Int)::((zg ch).take k).flatten)
theorem zAk (d:Nat) (ch:Fin 8→Tr) {k:Nat} (hk:k<8):zAh d ch (k+1)=zAh d ch k++zHC ch k:=by
 unfold zAh;rw [zHD ch hk,zM1,zHI ch hk,List.flatten_append];simp
theorem zAi (d:Nat) (ch:Fin 8→Tr):zAh d ch 8=strOfNums (Tr.enc (.node d ch)):=by
 unfold zAh;rw [List.take_of_length_le (by rw [zh];exact Nat.le_refl _),Tr.enc_node];rfl
theorem zAj (d:Nat) (ch:Fin 8→Tr) {k:Nat} (hk:k<8) (n:Nat) (hn:(Tr.enc (.node d ch)).length≤n):(zAh d ch k).size+(zHC ch k).size≤n:=by
 rw [←ByteArray.size_append,←zAk d ch hk];unfold zAh;rw [strOfNums_size];have:=Tr.pos_le d ch (show k+1≤8 by omega)
 unfold Tr.pos at this;simp only [List.length_cons];unfold zg;omega
theorem zEl (t:Tr) : ∃ b r,Tr.enc t=b::r∧((b == 117)=true ↔ ∃ c,t = .uni c):=by
 cases t with
 | uni c=>exact ⟨117,[c],by rw [Tr.enc],by simp⟩
 | brick l=>exact ⟨98,l,by rw [Tr.enc],by simp⟩
 | node d ch=>exact ⟨110,_,by rw [Tr.enc],by simp⟩
theorem zKw (d:Nat) (hd:d≤255) (ch:Fin 8→Tr) (h : ∀ i,Tr.WF (ch i)) (hl:(Tr.enc (.node d ch)).length≤1000000000000000) (a:Option Addr) (cap:Nat) (w:World) (hs:Slv w a (zM5 (zg ch))) :
 Calls Tryz.prog 153 #[(d:Int),.slice a 8 cap] w fun e w'=>e = .returned (.string (strOfNums (Tr.enc (Tr.mkInner d ch))))∧Below w.heap.size w w':=by
 have Jk : ∀ k,k<8→(zM5 (zg ch))[k]? = some (.string (zHC ch k)):=fun k hk=>by rw [zHD ch hk];exact zM6 (zHH ch hk)
 obtain ⟨b,off,rfl,L2⟩:=hs 0 _ (Jk 0 (by omega))
 rw [Nat.add_zero] at L2;obtain ⟨b0,r0,MM,SK⟩:=zEl (ch 0);have Kz:=Tr.enc_byt _ (h 0);have Na:=fun W:World=>za (P:=Tryz.prog) 9 Tryz.underlying9 Kz (k:=0) (x:=b0) (by rw [MM];rfl) W
 rw [show ((0:Nat):Int)=0 from rfl,show strOfNums (Tr.enc (ch 0))=zHC ch 0 from (zHD ch (by omega)).symm] at Na
 obtain ⟨u,hu⟩ : ∃ u,(b0 == 117)=u:=⟨_,rfl⟩;have St:IntKind.u8.wrap (d:Int)=d:=by unfold IntKind.wrap;simp [IntKind.bits,IntKind.signed];omega
 have Rn:Sl (w.alloc (.cells #[.int .u8 d] 5)) .u8 (some ⟨w.heap.size,0,none⟩) [(d:Int)]:=fun i x hx=>by
  match i with
  | 0=>simp at hx;subst hx;exact ⟨_,_,rfl,zF _ _ _⟩
  | i+1=>simp at hx
 have Lx:=zDM (P:=Tryz.prog) 148 5 9 Tryz.underlying148 Tryz.underlying5 Tryz.underlying9 Rn 1 1 rfl;have S4:=Bx.mk (show (strOfNums [110])++strOfNums [(d:Int)]=zAh d ch 0 from zM1 [110] [(d:Int)])
 have MY:=Bx.mk (show (u && zL1 (zHC ch) 8)=true→Tr.mkInner d ch=ch 0 from fun e=>by
  rw [Bool.and_eq_true] at e;unfold Tr.mkInner;rw [if_pos ⟨SK.1 (hu.trans e.1),(zL5 h).1 e.2⟩])
 have MZ:=Bx.mk (show (u && zL1 (zHC ch) 8)=false→Tr.mkInner d ch = .node d ch from fun e=>by
  unfold Tr.mkInner;rw [if_neg];rintro ⟨h1,h2⟩;rw [←hu,SK.2 h1,(zL5 h).2 h2] at e;cases e)
 have JW:=Bx.mk fun k (hk:k<8)=>zAk d ch hk;have JY:=Bx.mk (zAi d ch);have Jj:=Bx.mk fun k (hk:k<8)=>zAj d ch hk _ hl;have Gu:(strOfNums [(d:Int)]).size=1:=by rw [strOfNums_size];rfl
 have O4:=Bx.mk (zHD ch (show 0<8 by omega))
 have Hs:=Bx.mk hs;have CT:=Bx.mk Jk
 have Hu:=Bx.mk hu;have Hhd:=Bx.mk hd;clear hs Jk Kz MM SK h Rn hd hl;go_enter Tryz.func153,Tryz.ntmps153;go_wp2_with fail;generalize hW:w.alloc _=W;have HB:=Bx.mk (show Below w.heap.size w W from by rw [←hW];exact bf)
 clear hW Lx L2 Na Gu;clear hu
 go_loopw [5,6,7] (fun v5 v6 v7 wr => ∃ k:Nat,k≤8∧v7 = .int .i64 k∧v5 = .bool (u && zL1 (zHC ch) k)∧v6 = .string (zAh d ch k)∧Bx (Below w.heap.size w wr)) (fun _ _ i _=>8 - (intOf i).toNat)
 case atStart=>exact ⟨0,Nat.zero_le _,rfl,by rw [show zL1 (zHC ch) 0=true from rfl,Bool.and_true],by rw [←S4.o];rfl,HB⟩
 case round =>
  clear HB;obtain ⟨k,hk,rfl,rfl,rfl,HB⟩:=hrel;obtain ⟨b1,off1,MN,L2⟩:=(Hs.o.below HB.o) 0 _ (CT.o 0 (by omega))
  simp only [Option.some.injEq,Addr.mk.injEq,and_true] at MN;obtain ⟨rfl,rfl⟩:=MN;rw [Nat.add_zero] at L2;by_cases hlt:k<8
  · have t0:decide ((k:Int)<8)=true:=by simp;omega
    obtain ⟨b1,off1,MN,LY⟩:=(Hs.o.below HB.o) k _ (CT.o k hlt);simp only [Option.some.injEq,Addr.mk.injEq,and_true] at MN;obtain ⟨rfl,rfl⟩:=MN;have b1':(0:Int)≤(k:Int):=by omega
    have b2:(k:Int)<8:=by omega
    have JX:=Bx.mk (JW.o k hlt);have TR:=Jj.o k hlt;have Rw:=Bx.mk (zL3 (zHC ch) k);have CY:=Bx.mk L2;have Cc:=Bx.mk LY;cases hq:(u && zL1 (zHC ch) k) with
    | false =>
      clear L2 LY;go_wp2_with fail;refine wg ?_
      repeat (first | go_big_quiet_step (fail) | quiet_step (fail))
      refine wq ?_;rintro _ ⟨⟨dq,osq⟩,rfl⟩;have Jq:=bq wr dq osq;have LY:=cell_later Jq Cc.o;replace HB:=Bx.mk (tr HB.o Jq);clear Jq;generalize grow (redrawn wr dq) osq=w7 at *;go_wp2_with fail
      go_roundw
      case rel=>exact ⟨k+1,by omega,by go_num,by rw [Rw.o,←Bool.and_assoc,hq];rfl,by rw [JX.o],HB⟩
      case measure=>simp [intOf];omega
    | true =>
      have UU : ∀ dk osk,(grow (redrawn wr dk) osk).cell? ⟨b,off+k,none⟩=some (.string (zHC ch k)):=cq Cc.o;have UV : ∀ dk osk,(grow (redrawn wr dk) osk).cell? ⟨b,off,none⟩=some (.string (zHC ch 0)):=cq CY.o;clear L2 LY;go_wp2_with fail;refine wg ?_
      repeat (first | go_big_quiet_step (fail) | quiet_step (fail))
      refine wq ?_;rintro _ ⟨⟨dq,osq⟩,rfl⟩;have Jq:=bq wr dq osq;have LY:=cell_later Jq Cc.o;replace HB:=Bx.mk (tr HB.o Jq);clear Jq UU UV;generalize grow (redrawn wr dq) osq=w7 at *;go_wp2_with fail
      go_roundw
      case rel=>exact ⟨k+1,by omega,by go_num,by rw [Rw.o,←Bool.and_assoc,hq];rfl,by rw [JX.o],HB⟩
      case measure=>simp [intOf];omega
  · obtain rfl:k=8:=by omega
    have t0:decide (((8:Nat):Int)<8)=false:=by decide
    cases hq:(u && zL1 (zHC ch) 8) with
    | true =>
      have He:=Bx.mk (MY.o hq);clear hq;go_wp2_with fail;go_ret;exact ⟨by rw [He.o];show Ending.returned (.string (zHC ch 0))=_;rw [O4.o];rfl,HB.o⟩
    | false =>
      have He:=Bx.mk (MZ.o hq);clear hq;go_wp2_with fail;go_ret;exact ⟨by rw [He.o];show Ending.returned (.string (zAh d ch 8))=_;rw [JY.o],HB.o⟩
end
section
open Go.RowKit Go.Sort Go.Maps
open Oct
theorem zGd (ax ay az px py pz:Int) (hx:0≤ax∧ax≤px∧px≤100000) (hy:0≤ay∧ay≤py∧py≤100000) (hz:0≤az∧az≤pz∧pz≤100000) (w:World) :
 Calls Tryz.prog 180 #[.agg #[ax,ay,az],.agg #[px,py,pz]] w fun e w'=>e = .returned (.int .i64 (16 * (pz - az)+4 * (py - ay)+px - ax))∧Below w.heap.size w w':=by
 obtain ⟨x1,x2,x3⟩:=hx;obtain ⟨y1,y2,y3⟩:=hy;obtain ⟨z1,z2,z3⟩:=hz;go_enter Tryz.func180,Tryz.ntmps180;go_wp2_with fail;go_ret;exact ⟨rfl,bf.alloc (by simp) _⟩
theorem zDU (h:Nat) (hh:h≤14) (px py pz:Int) (i:Nat) (hi:i<8) (hx:0≤px∧px≤100000) (hy:0≤py∧py≤100000) (hz:0≤pz∧pz≤100000) (w:World) :
 Calls Tryz.prog 152 #[.agg #[px,py,pz],((h:Int)+1:Int),(i:Int)] w fun e w'=>e = .returned (.agg #[(px+chX i (2 ^ h):Int),(py+chY i (2 ^ h):Int),(pz+chZ i (2 ^ h):Int)])∧Below w.heap.size w w':=by
 have Re:=fun W=>zMJ h hh W;have hp:=zt hh;generalize hm:(2:Int) ^ h=m at *;obtain ⟨bx,by',bz⟩:=zCg hi (show 0≤m by omega)
 have e1:(i:Int) % 2 * m=chX i m:=by unfold chX;rw [Int.natCast_emod];rfl
 have e2:(i:Int) / 2 % 2 * m=chY i m:=by unfold chY;rw [Int.natCast_emod,Int.natCast_ediv];rfl
 have e3:(i:Int) / 4 * m=chZ i m:=by unfold chZ;rw [Int.natCast_ediv];rfl
 have w1:IntKind.i64.wrap ((i:Int) % 2 * m)=chX i m:=by rw [e1];exact wj _ (by omega)
 have w2:IntKind.i64.wrap ((i:Int) / 2 % 2 * m)=chY i m:=by rw [e2];exact wj _ (by omega)
 have w3:IntKind.i64.wrap ((i:Int) / 4 * m)=chZ i m:=by rw [e3];exact wj _ (by omega)
 generalize chX i m=cx at *;generalize chY i m=cy at *;generalize chZ i m=cz at *;have S8:IntKind.i64.wrap ((h:Int)+1 - 1)=(h:Int):=by rw [show (h:Int)+1 - 1=h by omega];exact wj _ (by omega)
 have Re:=Bx.mk Re;have b1:(0:Int)≤(i:Int):=by omega
 have b2:(i:Int)<8:=by omega
 have t1:=wj (px+cx) (by omega)
 have t2:=wj (py+cy) (by omega)
 have t3:=wj (pz+cz) (by omega)
 clear hm e1 e2 e3 hx hy hz bx by' bz hi
 go_enter Tryz.func152,Tryz.ntmps152;go_wp2_with fail;generalize hW:(w.alloc _).alloc _=W;have JE:=sz2 hW;have hB:=bl2 hW;have kp:Bk W (w.heap.size) #[px,py,pz] 23:=bk1 hW;have kr:Bk W (w.heap.size+1) #[(0:Int),(0:Int),(0:Int)] 23:=bk0 hW;clear hW;refine (Re.o _).mono ?_;rintro _ _ ⟨rfl,rfl⟩;obtain ⟨cp0,cp1,cp2⟩:=kp.c3;obtain ⟨Fj,Fk,Fl⟩:=kr.c3;obtain ⟨GU,GV,GW⟩:=kr.f3;go_wp2_with fail;replace kr:=kr.put3 (.int .i64 (px+cx)) (.int .i64 (py+cy)) (.int .i64 (pz+cz));exact bodyPost_ret (v:=.agg #[(px+cx:Int),(py+cy:Int),(pz+cz:Int)]) (results_cell_row rfl _ _ (w.heap.size+1) 23 #[(px+cx:Int),(py+cy:Int),(pz+cz:Int)] (0,0) _ rfl kr Tryz.underlying23 rfl (by kernel_rfl)) rfl ⟨rfl,zBk hB (by omega) _ _ _⟩
theorem zGT {n:Nat} {ax ay az m:Int} (hm:m=2 ^ (n+2)) (ha:Tr.Al n ⟨ax,ay,az⟩) {p:Pt}:inB p ⟨⟨ax,ay,az⟩,⟨ax+m,ay+m,az+m⟩⟩=true ↔ Tr.InC n ⟨ax,ay,az⟩ p:=by
 refine ⟨fun h=>?_,fun h=>zGU hm ha h⟩;obtain ⟨a1,a2,a3⟩:=ha;have hp:=Tr.pow_pos2 n;rw [←hm] at a1 a2 a3 hp;simp only [] at a1 a2 a3;have h:=zb.1 h
 have key : ∀ p a:Int,a % m=0→a≤p→p<a+m→p / m=a / m:=by
  intro p a h2 h3 h4;have e2:=Int.mul_ediv_add_emod a m;rw [h2,Int.add_zero] at e2;obtain ⟨r,hr⟩ : ∃ r,r=p - a:=⟨_,rfl⟩;have Qf:p=r+m * (a / m):=by omega
  rw [Qf,Int.add_mul_ediv_left _ _ (by omega),Int.ediv_eq_zero_of_lt (by omega) (by omega),Int.zero_add]
 refine ⟨?_,?_,?_⟩
 · show p.x / 2 ^ (n+2)=ax / 2 ^ (n+2);rw [←hm];exact key _ _ a1 h.1 h.2.1
 · show p.y / 2 ^ (n+2)=ay / 2 ^ (n+2);rw [←hm];exact key _ _ a2 h.2.2.1 h.2.2.2.1
 · show p.z / 2 ^ (n+2)=az / 2 ^ (n+2);rw [←hm];exact key _ _ a3 h.2.2.2.2.1 h.2.2.2.2.2
theorem zJB (n:Nat) (hn:n≤11) (ax ay az px py pz:Int) (Jb:Tr.Al (n+1) ⟨ax,ay,az⟩) (hin:Tr.InC (n+1) ⟨ax,ay,az⟩ ⟨px,py,pz⟩) (hx:0≤ax∧ax≤16384) (hy:0≤ay∧ay≤16384) (hz:0≤az∧az≤16384) (w:World) :
 Calls Tryz.prog 170 #[.agg #[ax,ay,az],((n:Int)+3:Int),.agg #[px,py,pz]] w fun e w'=>e = .returned (.int .i64 (Tr.octN n ⟨px,py,pz⟩:Int))∧Below w.heap.size w w':=by
 have hp:=zt (show n+2≤14 by omega)
 obtain ⟨m,hm⟩ : ∃ m:Int,m=2 ^ (n+2):=⟨_,rfl⟩;rw [←hm] at hp;have Lk:=Bx.mk fun W (k:Nat) (hk:k<8)=>zDU (n+2) (by omega) ax ay az k hk (by omega) (by omega) (by omega) W
 have Lv:=Bx.mk fun W (k:Nat) (hk:k<8)=>zDp (ax+chX k m) (ay+chY k m) (az+chZ k m) (n+2) (by omega) (by have:=zCg hk (show 0≤m by omega);omega) (by have:=zCg hk (show 0≤m by omega);omega) (by have:=zCg hk (show 0≤m by omega);omega) W
 have RG:=Bx.mk fun W (k:Nat)=>zK8 px py pz (ax+chX k m) (ay+chY k m) (az+chZ k m) (ax+chX k m+m) (ay+chY k m+m) (az+chZ k m+m) W;rw [←hm,show ((n+2:Nat):Int)+1=(n:Int)+3 by omega] at Lk
 rw [←hm,show ((n+2:Nat):Int)=(n:Int)+2 by omega] at Lv
 have MB:=Bx.mk fun (k:Nat) (hk:k<8)=>(show inB ⟨px,py,pz⟩ ⟨⟨ax+chX k m,ay+chY k m,az+chZ k m⟩,⟨ax+chX k m+m,ay+chY k m+m,az+chZ k m+m⟩⟩=true ↔ k=Tr.octN n ⟨px,py,pz⟩ from by
  have hc:=zDR ax ay az n k;rw [←hm] at hc;have Jc:=Tr.al_cor Jb k;rw [hc] at Jc;rw [zGT hm Jc,←hc];constructor
  · intro h;exact congrArg Fin.val (Tr.inC_other (i:=⟨k,hk⟩) Jb h).1
  · intro h;rw [h];exact Tr.inC_step Jb hin)
 have ho8:=Tr.octN_lt n ⟨px,py,pz⟩;generalize Tr.octN n ⟨px,py,pz⟩=o at *;have S8:IntKind.i64.wrap ((n:Int)+3 - 1)=(n:Int)+2:=by rw [show (n:Int)+3 - 1=(n:Int)+2 by omega];exact wj _ (by omega)
 clear hm Jb hin hx hy hz hp;go_enter Tryz.func170,Tryz.ntmps170;go_wp2_with fail;generalize hW:(w.alloc _).alloc _=W;have hB:=bl2 hW;have ka:Bk W (w.heap.size) #[ax,ay,az] 23:=bk1 hW;have kp:Bk W (w.heap.size+1) #[px,py,pz] 23:=bk0 hW;have HI:=Bx.mk (show Bk W (w.heap.size) #[ax,ay,az] 23∧Bk W (w.heap.size+1) #[px,py,pz] 23∧Below w.heap.size w W from ⟨ka,kp,hB⟩);clear hW ka kp hB
 go_loopw [7] (fun v7 wr => ∃ k:Nat,k≤o∧v7 = .int .i64 k∧Bx (Bk wr (w.heap.size) #[ax,ay,az] 23∧Bk wr (w.heap.size+1) #[px,py,pz] 23∧Below w.heap.size w wr)) (fun i _=>8 - (intOf i).toNat)
 case atStart=>exact ⟨0,Nat.zero_le _,rfl,HI⟩
 case round =>
  clear HI;obtain ⟨k,hk,rfl,HI⟩:=hrel;have t0:decide ((k:Int)<8)=true:=by simp;omega
  have O9:k<8:=by omega
  have hd:=MB.o k O9;obtain ⟨ca0,ca1,ca2⟩:=HI.o.1.r3;obtain ⟨cp0,cp1,cp2⟩:=HI.o.2.1.r3;have q0:=Bx.mk fun dk osk=>rq (Lk.o (grow (redrawn wr dk) osk) k O9);have q1:=Bx.mk fun dk osk=>rq (Lv.o (grow (redrawn wr dk) osk) k O9);have q2:=Bx.mk fun dk osk=>rq (RG.o (grow (redrawn wr dk) osk) k);have Hd:=Bx.mk hd;clear hd;generalize hbb:inB ⟨px,py,pz⟩ ⟨⟨ax+chX k m,ay+chY k m,az+chZ k m⟩,⟨ax+chX k m+m,ay+chY k m+m,az+chZ k m+m⟩⟩=bb at *;clear hbb;generalize ax+chX k m=x1 at *;generalize ay+chY k m=y1 at *;generalize az+chZ k m=z1 at *;go_wp2_with fail;refine wg ?_
  repeat (first | go_big_quiet_step (with_reducible first | exact q0.o _ _ | exact q1.o _ _ | exact q2.o _ _) | quiet_step (with_reducible first | exact q0.o _ _ | exact q1.o _ _ | exact q2.o _ _))
  refine wq ?_;rintro _ ⟨⟨dq,osq⟩,rfl⟩;have Jq:=bq wr dq osq;have Ak:=Bx.mk (show Bk (grow (redrawn wr dq) osq) (w.heap.size) #[ax,ay,az] 23∧Bk (grow (redrawn wr dq) osq) (w.heap.size+1) #[px,py,pz] 23∧Below w.heap.size w (grow (redrawn wr dq) osq) from ⟨HI.o.1.la Jq,HI.o.2.1.la Jq,tr HI.o.2.2 Jq⟩);clear q0 q1 q2 ca0 ca1 ca2 cp0 cp1 cp2 Jq;generalize grow (redrawn wr dq) osq=w7 at *;by_cases he:k=o
  · obtain rfl:bb=true:=Hd.o.2 he;have He:=Bx.mk he;clear he;go_wp2_with fail;go_ret;exact ⟨by rw [←He.o];rfl,Ak.o.2.2⟩
  · have hbf:bb=false:=by
     cases hb:bb with
     | false=>rfl
     | true=>exact absurd (Hd.o.1 hb) he
    subst hbf;go_wp2_with fail
    go_roundw
    case rel=>exact ⟨k+1,by omega,by go_num,Ak⟩
    case measure=>simp [intOf];omega
theorem zCM (l:List Int) (hl:l.length=64) (hb : ∀ x∈l,0≤x∧x≤255) (w:World) :
 Calls Tryz.prog 168 #[.string (strOfNums (98::l))] w fun e w' => ∃ v,e = .returned v∧Own w' w.heap.size 3 .i64 v l∧Below w.heap.size w w':=by
 have Kz:Byt (98::l):=fun x hx=>by
  rcases List.mem_cons.1 hx with rfl | hx
  · omega
  · exact hb x hx
 have CX:=Bx.mk Kz;have Hl:=Bx.mk hl;have Hb:=Bx.mk hb;have Na:=fun W:World=>za (P:=Tryz.prog) 9 Tryz.underlying9 Kz (k:=0) (x:=98) rfl W;obtain ⟨S,hS⟩ : ∃ S,S=strOfNums (98::l):=⟨_,rfl⟩;have HS:=Bx.mk hS;rw [←hS] at Na ⊢;rw [show ((0:Nat):Int)=0 from rfl] at Na;clear hl hb Kz hS;go_enter Tryz.func168,Tryz.ntmps168;go_wp2_with fail
 go_loopw [3,4] (fun v i wr => ∃ k:Nat,k≤64∧i = .int .i64 k∧Bx (Own wr w.heap.size 3 .i64 v (l.take k))∧Bx (Below w.heap.size w wr)) (fun _ i _=>64 - (intOf i).toNat)
 case atStart=>exact ⟨0,Nat.zero_le _,rfl,⟨Own.nil _ _ _ _⟩,⟨br⟩⟩
 case round =>
  obtain ⟨k,hk,rfl,QQ,Ku⟩:=hrel;by_cases hlt:k<64
  · obtain ⟨x,hx⟩:=zBY Hl hlt;have hr:=Hb.o x (List.mem_of_getElem? hx);have Po:=Bx.mk (zAD hx);have hik:=fun W:World=>za (P:=Tryz.prog) 9 Tryz.underlying9 CX.o (k:=k+1) (x:=x) (by simpa using hx) W
    rw [←HS.o,show ((k+1:Nat):Int)=1+(k:Int) by omega] at hik
    have b3:(0:Int)≤(k:Int):=by omega
    have b4:(k:Int)<64:=by omega
    have Sr:IntKind.i64.wrap (1+(k:Int))=1+(k:Int):=wj _ (by omega)
    have T6:IntKind.i64.wrap x=x:=wj _ (by omega)
    have OY:=Ku.o.size;have Dh:=Bx.mk (show (l.take k).length≤1000000000 by rw [List.length_take];omega)
    clear hx
    go_wp2_with (first
     | (at_builtin
        refine zAG rfl _ _ 26 rfl 3 .i64 (.int .i64 0) 8 (by omega) Tryz.underlying26 (by kernel_rfl) rfl w.heap.size _ (l.take k) rfl (QQ.o.alloc _) x ⟨wr.heap.size,0,none⟩ 1 rfl (zF _ _ _) Dh.o (zk OY _) ?_
        intro v1 w1 QR N3 _))
    have QS:=Bx.mk QR;rw [←Po.o] at QS;have Kv:=Bx.mk ((Ku.o.alloc OY (.cells #[x] 3)).grown N3 (zk OY _) (fun g hg=>(QQ.o.lt g hg).1));clear QR N3
    go_roundw
    case rel=>exact ⟨k+1,by omega,by go_num,QS,Kv⟩
    case measure=>simp [intOf];omega
  · obtain rfl:k=64:=by omega
    have QS:=QQ.o;rw [List.take_of_length_le (by rw [Hl.o];omega)] at QS
    have DK:=Bx.mk QS;clear QS QQ;go_wp2_with fail;go_ret;exact ⟨_,rfl,DK.o,Ku.o⟩
theorem zCO (c:Int) (hc:0≤c∧c≤255) (w:World) :
 Calls Tryz.prog 168 #[.string (strOfNums [117,c])] w fun e w' => ∃ v,e = .returned v∧Own w' w.heap.size 3 .i64 v (List.replicate 64 c)∧Below w.heap.size w w':=by
 have Kz:Byt [117,c]:=fun x hx=>by
  simp only [List.mem_cons,List.not_mem_nil,or_false] at hx;omega
 have Hl:=Bx.mk (show (List.replicate 64 c).length=64 from List.length_replicate);have Na:=fun W:World=>za (P:=Tryz.prog) 9 Tryz.underlying9 Kz (k:=0) (x:=117) rfl W;have Nc:=fun W:World=>za (P:=Tryz.prog) 9 Tryz.underlying9 Kz (k:=1) (x:=c) rfl W;have RC:=Bx.mk fun k (hk:k<64)=>(show (List.replicate 64 c)[k]? = some c by rw [List.getElem?_replicate,if_pos hk])
 generalize List.replicate 64 c=l at *;obtain ⟨S,hS⟩ : ∃ S,S=strOfNums [117,c]:=⟨_,rfl⟩;have HS:=Bx.mk hS;rw [←hS] at Na Nc ⊢;rw [show ((0:Nat):Int)=0 from rfl] at Na;rw [show ((1:Nat):Int)=1 from rfl] at Nc;have T6:IntKind.i64.wrap c=c:=wj _ (by omega)
 clear Kz hS hc;go_enter Tryz.func168,Tryz.ntmps168;go_wp2_with fail
 go_loopw [3,4] (fun v i wr => ∃ k:Nat,k≤64∧i = .int .i64 k∧Bx (Own wr w.heap.size 3 .i64 v (l.take k))∧Bx (Below w.heap.size w wr)) (fun _ i _=>64 - (intOf i).toNat)
 case atStart=>exact ⟨0,Nat.zero_le _,rfl,⟨Own.nil _ _ _ _⟩,⟨br⟩⟩
 case round =>
  obtain ⟨k,hk,rfl,QQ,Ku⟩:=hrel;by_cases hlt:k<64
  · have Po:=Bx.mk (zAD (RC.o k hlt));have b3:(0:Int)≤(k:Int):=by omega
    have b4:(k:Int)<64:=by omega
    have OY:=Ku.o.size;have Dh:=Bx.mk (show (l.take k).length≤1000000000 by rw [List.length_take];omega)
    go_wp2_with (first
     | (at_builtin
        refine zAG rfl _ _ 26 rfl 3 .i64 (.int .i64 0) 8 (by omega) Tryz.underlying26 (by kernel_rfl) rfl w.heap.size _ (l.take k) rfl (QQ.o.alloc _) c ⟨wr.heap.size,0,none⟩ 1 rfl (zF _ _ _) Dh.o (zk OY _) ?_
        intro v1 w1 QR N3 _))
    have QS:=Bx.mk QR;rw [←Po.o] at QS;have Kv:=Bx.mk ((Ku.o.alloc OY (.cells #[c] 3)).grown N3 (zk OY _) (fun g hg=>(QQ.o.lt g hg).1));clear QR N3
    go_roundw
    case rel=>exact ⟨k+1,by omega,by go_num,QS,Kv⟩
    case measure=>simp [intOf];omega
  · obtain rfl:k=64:=by omega
    have QS:=QQ.o;rw [List.take_of_length_le (by rw [Hl.o];omega)] at QS
    have DK:=Bx.mk QS;clear QS QQ;go_wp2_with fail;go_ret;exact ⟨_,rfl,DK.o,Ku.o⟩
theorem zCN (xs:List Int) (hn:xs.length=64) (hb:xs.all Pal.cell=true) (w:World) :
 Calls Tryz.prog 168 #[.string (strOfNums (Tr.enc (Tr.mkBrick xs)))] w fun e w' => ∃ v,e = .returned v∧Own w' w.heap.size 3 .i64 v xs∧Below w.heap.size w w':=by
 have hc:=zA5 hb;unfold Tr.mkBrick;split
 · rename_i h;rw [show Tr.enc (.uni (xs.headD 0))=[117,xs.headD 0] by simp [Tr.enc]]
   have:=zCO (xs.headD 0) (hc _ (by cases xs with
    | nil=>simp at hn
    | cons x r=>simp)) w
   rwa [show List.replicate 64 (xs.headD 0)=xs from (List.eq_replicate_iff.2 ⟨hn,h⟩).symm] at this
 · rw [show Tr.enc (.brick xs)=98::xs by simp [Tr.enc]]
   exact zCM xs hn hc w
theorem zOj (B:Box) (f:Pt→Int) (c:Chg):wr1 B (cellsOf B f) c=cellsOf B (Tr.upd f c.at c.n):=by
 unfold wr1;by_cases h:inB c.at B=true
 · rw [if_pos h];have hb:=zf h;apply List.ext_getElem?;intro i;rw [List.getElem?_set];by_cases hi:i<(zAE B).toNat
   · obtain ⟨h1,h2⟩:=zBZ hi;rw [zJ hi,zJ hi];by_cases e:(ze B c.at).toNat=i
     · rw [if_pos e,if_pos (by rw [zK];omega)]
       have:atB B (i:Int)=c.at:=by rw [←e,Int.toNat_of_nonneg hb.1];exact zBX h
       rw [this,upd_at]
     · rw [if_neg e,zN1];intro e';rw [e'] at h2;omega
   · rw [if_neg (by omega),List.getElem?_eq_none (by rw [zK];omega),List.getElem?_eq_none (by rw [zK];omega)]
 · rw [if_neg h];exact zI fun p hp=>(zN1 (fun e=>h (by rw [←e];exact hp))).symm
abbrev pts (cs:List Chg):List (Pt × Int):=cs.map fun c=>(c.at,c.n)
theorem zOu {N:Nat} {a:Pt} (h:InT N 0 a) : ∀ (cs:List Chg) (g:Pt→Int),wrL (zDn a) (inb cs a) (zG g a)=zG (zAM (pts cs) g) a
 | [],_=>rfl
 | c :: cs, g => by
   have ih:=zOu h cs (Tr.upd g c.at c.n);rw [zCL,zCL] at *
   show wrL (zDn a) (inb (c::cs) a) (cellsOf (zDn a) g)=cellsOf (zDn a) (zAM (pts cs) (Tr.upd g c.at c.n))
   rw [←ih];have hin:inB c.at (zDn a)=true ↔ Tr.InC 0 a c.at:=zGT (n:=0) (m:=4) (by decide) (show Tr.Al 0 ⟨a.x,a.y,a.z⟩ from h.al)
   unfold inb;rw [List.filter_cons];by_cases hc:Tr.InC 0 a c.at
   · rw [if_pos (by simpa using hc)]
     show wrL (zDn a) _ (wr1 (zDn a) (cellsOf (zDn a) g) c)=_
     rw [zOj]
   · rw [if_neg (by simpa using hc)]
     congr 1
     exact zI fun p hp=>(zN1 (fun e=>hc (hin.1 (by rw [←e];exact hp)))).symm
theorem zOy {N n:Nat} {a:Pt} (h:InT N n a) {cs:List Chg} {f:Pt→Int} (hc : ¬zNc cs n a):Tr.can (zAM (pts cs) f) n a=Tr.can f n a :=
 Tr.can_congr n a h.al fun p hp=>zN3 _ _ _ fun x hx e=>hc (by
  obtain ⟨c,L3,rfl⟩:=List.mem_map.1 hx;exact ⟨c,L3,by rw [show c.at=p from e];exact hp⟩)
def StayP (lo hi:Nat) (W0 W:World):Prop := ∀ k,lo≤k→k<hi→W.heap[k]? = W0.heap[k]?
theorem zJf {W:World} {B:Nat} {v:Value} {l:List Chg} (h:W.ownsRow B 96 5 v l.length (zCA l)) : ∃ hc cap,v = .slice hc l.length cap∧l.length≤cap∧SlC W hc l:=by
 have LO:=fun g (hg:v.ownBlock=some g)=>h.cells hg;rcases h.2 with ⟨rfl,hn⟩ | ⟨g,cap,cur,rfl,-,-,hc,-⟩
 · exact ⟨none,0,by rw [hn],by omega,fun i c hi=>by rw [List.length_eq_zero_iff.1 hn] at hi;simp at hi⟩
 · refine ⟨_,cap,rfl,hc,fun i c hi=>⟨g,0,rfl,?_⟩⟩;have LO:=LO g rfl
   have key : ∀ (l:List Chg) (i:Nat) (c:Chg) (j:Nat),l[i]? = some c→j<5→(zCA l)[i * 5+j]? = c.cells[j]? := by
    intro l
    induction l with
    | nil=>intro i c j hi;simp at hi
    | cons d r ih =>
      intro i c j hi hj
      show (d.cells++zCA r)[i * 5+j]? = _
      cases i with
      | zero =>
        obtain rfl:=osi hi;rw [Nat.zero_mul,Nat.zero_add,List.getElem?_append_left (by simpa [Chg.cells] using hj)]
      | succ i =>
        rw [List.getElem?_append_right (by simp [Chg.cells];omega)]
        have:=ih i c j hi hj;rw [show (i+1) * 5+j - d.cells.length=i * 5+j by simp [Chg.cells];omega]
        exact this
   have get : ∀ j u,j<5→c.cells[j]? = some u→W.cell? ⟨g,0+i * 5+j,none⟩=some u:=fun j u hj hu=>by
    have:=LO (i * 5+j) u ((key l i c j hi hj).trans hu);rw [Nat.zero_add];by_cases h0:i * 5+j=0
    · rw [h0] at this ⊢; exact this
    · unfold Addr.add at this;rw [if_neg (by simpa using h0)] at this
      simpa using this
   exact ⟨get 0 _ (by omega) rfl,get 1 _ (by omega) rfl,get 2 _ (by omega) rfl,get 3 _ (by omega) rfl,get 4 _ (by omega) rfl⟩
theorem zOw {w0 W0:World} {Av:Nat→Prop} {N vt vb tm bm m:Nat} {cs:List Chg} (hN:N≤12) (hC:cs.length≤4194304) (hK:WK w0 Av N vt vb tm bm m (zNc cs) cs W0) (sb:Nat) (UA:Int) (g:Pt→Int) :
 EditC [] (fun k=>w0.heap.size≤k∧k<W0.heap.size) (StayP w0.heap.size W0.heap.size W0) sb UA N g (zAM (pts cs) g) (fun _ _=>True) (zNc cs) 117 118
  #[.pointer (some ⟨vt,0,none⟩)] #[.pointer (some ⟨vb,0,none⟩)] (.func (.func 118) #[] #[.pointer (some ⟨vb,0,none⟩)]) where
 vtop:=trivial
 vkid:=fun _ _ _ _ _ _ _=>trivial
 stays:=fun a b hk hp k h1 h2=>by
  have h3:=hp k h1 h2
  have hl:k<a.heap.size:=by
   have hs:W0.heap[k]? = some W0.heap[k]:=Array.getElem?_eq_getElem h2;rw [hs] at h3;exact (Array.getElem?_eq_some_iff.1 h3).1
  exact (hk.block k ⟨h1,h2⟩ hl).trans h3
 en:=enters_of Tryz.func117 rfl rfl
 eb:=fun _ _=>⟨rfl,enters_of Tryz.func118 rfl rfl⟩
 node:=fun W Far us n a _ _ hin _ hP hG ht Od IV hS=>by
  obtain ⟨b1,b2,b3⟩:=hin.bd hN;have OY:=hin.le;obtain ⟨ft,t1,t2⟩:=hK.tmap;obtain ⟨q1,q2⟩:=t2 n a OY hin.al;have kt:Bk W vt #[.map (some tm)] 160:=(hP vt hK.ge.1 hK.kt.lt).trans hK.kt;have hM:=t1.of_block (hP tm hK.ge.2.2.1 t1.lt)
  have Su : ∀ q∈[a.x,a.y,a.z,(n:Int)+2],(Lit.int .i64 q).wf=true:=fun q hq=>zOG q (by
   simp only [List.mem_cons,List.not_mem_nil,or_false] at hq;rcases hq with rfl | rfl | rfl | rfl <;> omega)
  by_cases hc:zNc cs n a
  · have h:=zOr a.x a.y a.z ((n:Int)+2) (idT us (Tr.can g n a):Int) vt tm m ft true Su (by rw [q1 hc];rfl) W kt hM
    refine h.mono ?_;rintro e' w' ⟨rfl,hb⟩;exact ⟨Keeps.below hb,.inr (.inr ⟨hc,⟨_,rfl⟩,hb⟩)⟩
  · have h:=zOr a.x a.y a.z ((n:Int)+2) (idT us (Tr.can g n a):Int) vt tm m ft false Su (by rw [q2 hc];rfl) W kt hM
    refine h.mono ?_;rintro e' w' ⟨rfl,hb⟩;rw [zOy hin hc];exact zL8 ht hS hb
 brick:=fun W B v a hin hu hP hF ho=>by
  obtain ⟨b1,b2,b3⟩:=hin.bd hN;obtain ⟨g1,cap,rfl,-,-,-,-,-⟩:=ho.at (by rw [zH];decide)
  obtain ⟨fb,m1,m2,m3⟩:=hK.bmap
  have Ph:inb cs a ≠ []:=by
   obtain ⟨c,hc,hi⟩:=hu;exact List.ne_nil_of_mem (List.mem_filter.2 ⟨hc,by simpa using hi⟩)
  obtain ⟨v,q1,q2,q3⟩:=(m2 a hin.al).2 Ph;obtain ⟨hc,hcp,rfl,LF,Rn⟩:=zJf q2;have Od:(inb cs a).length≤4194304:=nlt (List.length_filter_le _ _) hC;have kb:Bk W vb #[.map (some bm)] 159:=(hP vb hK.ge.2.1 hK.kb.lt).trans hK.kb;have hM:=m1.of_block (hP bm hK.ge.2.2.2 m1.lt)
  have hs:SlC W hc (inb cs a):=Rn.of_block fun b hb _=>by
   have hob:(Value.slice hc (inb cs a).length hcp).ownBlock=some b:=by
    cases hc with
    | none=>cases hb
    | some ad=>exact hb
   have hl:=World.ownsRow.lt q2 b hob;exact hP b hl.1 hl.2
  have h:=zOt a.x a.y a.z b1 b2 b3 vb bm m g1 B cap fb hc hcp (zG g a) (inb cs a) (zH _ _) Od LF (by rw [q1];rfl) W kb hM hs ho
  rw [show (⟨⟨a.x,a.y,a.z⟩,⟨a.x+4,a.y+4,a.z+4⟩⟩:Box)=zDn a from rfl,zOu hin] at h;exact h
theorem zNu {N:Nat} (hN:N≤12) (sb:Nat) (ha:Option Addr) (hcp:Nat) (cs:List Chg) (hC:cs.length≤4194304) (LF:cs.length≤hcp) (UA:Int) (g:Pt→Int) (hg : ∀ p,0≤g p∧g p≤255) (w:World) (Lr:SlC w ha cs) (Far:Nat→Prop) (ts:List Tr) (hG:Good ts) (ht:Tr.can g N ⟨0,0,0⟩∈ts)
 (QE:(∀ c∈cs,zJH N c)→(∀ p,0≤zAM (pts cs) g p∧zAM (pts cs) g p≤255)∧(Tr.add (Tr.can (zAM (pts cs) g) N ⟨0,0,0⟩) ts).length≤4000000) (IV : ∀ k,Far k→k<w.heap.size) (hS:StoreIs w Far sb UA ts) :
 Calls Tryz.prog 52 #[.pointer (some ⟨sb,0,none⟩),(idT ts (Tr.can g N ⟨0,0,0⟩):Int),((N:Int)+2:Int),.slice ha cs.length hcp] w (WSays (∀ c∈cs,zJH N c) (Done Far sb UA ts (Tr.add (Tr.can (zAM (pts cs) g) N ⟨0,0,0⟩) ts) (Tr.can (zAM (pts cs) g) N ⟨0,0,0⟩) w) w):=by
 by_cases hv : ∀ c∈cs,zJH N c
 · obtain ⟨N1,Od⟩:=QE hv;refine zNv hN sb _ ha hcp cs hC LF w Lr _ ⟨fun Av vt vb tm bm m W _ hK=>?_⟩;refine (zCh hN (zOw hN hC hK sb UA g) hg N1 W (fun x=>Far x∨(w.heap.size≤x∧x<W.heap.size)) (fun k hk=>.inr hk) (fun k _ _=>rfl) ts List.nil_prefix hG ht Od ?_ ?_).mono ?_
   · intro k hk;rcases hk with hk | hk
     · exact nll (IV k hk) hK.bel.size
     · exact hk.2
   · exact (hS.widen (Far':=fun x=>Far x∨(w.heap.size≤x∧x<W.heap.size)) (fun k hk=>hk.imp (fun h=>h) (fun h=>h.1))).la hK.bel
   · intro e' w' hd;refine ⟨hd.less (Far:=Far) (Keeps.below hK.bel) (fun k hk=>.inl hk),?_⟩;obtain ⟨-,-,(⟨-,rfl,-⟩ | ⟨-,rfl,-⟩)⟩:=hd
     · exact ⟨_,_,rfl⟩
     · exact ⟨_,_,rfl⟩
 · refine (zNv hN sb _ ha hcp cs hC LF w Lr (fun _ _=>True) ⟨fun Av vt vb tm bm m W SQ _=>absurd SQ hv⟩).mono ?_;intro e' w' h;exact ⟨fun h'=>absurd h' hv,fun _=>h.bad hv⟩
theorem zIS {b1 b2:Box} (h:zS (zn b1 b2)=false) : ∃ p,inB p b1=true∧inB p b2=true:=by
 have h1:=zBW h;have h2:=(zBV (b:=zn b1 b2) (i:=0) (by omega) (by omega)).1
 rw [zIQ h] at h2;exact ⟨_,zGZ.1 h2⟩
theorem zGW {n m:Nat} (h:m≤n) {a d p:Pt} (h1:Tr.InC n a p) (h2:Tr.InC m d p):Tr.InC n a d:=by
 obtain ⟨x1,x2,x3⟩:=h1;obtain ⟨y1,y2,y3⟩:=h2
 have key : ∀ x y:Int,x / 2 ^ (m+2)=y / 2 ^ (m+2)→x / 2 ^ (n+2)=y / 2 ^ (n+2):=by
  intro x y TH;obtain ⟨k,rfl⟩ : ∃ k,n=m+k:=⟨n - m,by omega⟩
  have e2:(2:Int) ^ (m+k+2)=2 ^ (m+2) * 2 ^ k:=by rw [←Int.pow_add];congr 1;omega
  have hp:=Int.pow_pos (n:=2) (m:=m+2) (by decide)
  rw [e2,←Int.ediv_ediv_of_nonneg (by omega),←Int.ediv_ediv_of_nonneg (by omega),TH]
 exact ⟨(key _ _ y1).symm.trans x1,(key _ _ y2).symm.trans x2,(key _ _ y3).symm.trans x3⟩
theorem zA2 {n:Nat} {a d:Pt} (ha:Tr.Al n a) (hd:Tr.Al n d) (h:Tr.InC n a d):a=d:=by
 obtain ⟨x1,x2,x3⟩:=h;obtain ⟨y1,y2,y3⟩:=ha;obtain ⟨z1,z2,z3⟩:=hd
 have key : ∀ x y m:Int,x / m=y / m→x % m=0→y % m=0→x=y:=by
  intro x y m h1 h2 h3;have e1:=Int.mul_ediv_add_emod x m;have e2:=Int.mul_ediv_add_emod y m;rw [h1,h2] at e1;rw [h3] at e2;omega
 cases d;cases a;simp only [Pt.mk.injEq] at *;exact ⟨key _ _ _ x1.symm y1 z1,key _ _ _ x2.symm y2 z2,key _ _ _ x3.symm y3 z3⟩
abbrev zBO (n:Nat) (a:Pt) (m:Nat) (d:Pt):Bool:=zS (zn (zM n a) (zM m d))
theorem zFw {N:Nat} (hN:N≤12) (gc gp gk gd sb:Nat) (m:Nat) (d:Pt) (hd:InT N m d) (UA:Int) (g f':Pt→Int) (ts:List Tr) (hT:Tr.can f' m d∈ts) (he : ∀ p,¬Tr.InC m d p→f' p=g p) (Ej:FuncId) (Ei:Array Value) (bf:Value) :
 EditC ts (zAQ gc gp gk gd) (GraftP gc gp gk gd d.x d.y d.z ((m:Int)+2) (idT ts (Tr.can f' m d):Int) (zM m d)) sb UA N g f' (fun n a=>m≤n∨zBO n a m d=true) (fun n a=>m<n∧zBO n a m d=false) 120 Ej
  #[.pointer (some ⟨gc,0,none⟩),.pointer (some ⟨gp,0,none⟩),.pointer (some ⟨gk,0,none⟩)] Ei bf where
 vtop:=.inl hd.le
 vkid:=fun n a i _ _ _ hU=>.inl (by have:=hU.1;omega)
 stays:=GraftP.stays gc gp gk gd _ _ _ _ _ _
 en:=enters_of Tryz.func120 rfl rfl
 eb:=fun a hU=>absurd hU.1 (by omega)
 node:=fun W Far us n a _ h0 hin hV hP hG ht _ _ hS=>by
  obtain ⟨b1,b2,b3⟩:=hin.far hN;have OY:=hin.le;by_cases e:a.x=d.x∧a.y=d.y∧a.z=d.z∧((n:Int)+2)=(m:Int)+2
  · obtain ⟨ex,ey,ez,en⟩:=e;obtain rfl:n=m:=by omega
    obtain rfl:a=d:=by cases a;cases d;simp only at ex ey ez;rw [ex,ey,ez]
    have h:=zFu gc gp gk gd a.x a.y a.z ((n:Int)+2) (idT ts (Tr.can f' n a):Int) (idT us (Tr.can g n a):Int) _ W hP;refine h.mono ?_;rintro e' w' ⟨rfl,hb⟩;rw [←zZ h0 hT];exact zL8 (h0.subset hT) hS hb
  · have e2:((n+2:Nat):Int)=(n:Int)+2:=by omega
    have h:=zFv (n+2) (by omega) a.x a.y a.z _ rfl b1 b2 b3 gc gp gk gd d.x d.y d.z ((m:Int)+2) (idT ts (Tr.can f' m d):Int) (idT us (Tr.can g n a):Int) _ W hP (by rw [e2];exact e)
    rw [e2] at h;refine h.mono ?_;rintro e' w' ⟨rfl,hb⟩;have hz:zS (zn ⟨⟨a.x,a.y,a.z⟩,⟨a.x+2 ^ (n+2),a.y+2 ^ (n+2),a.z+2 ^ (n+2)⟩⟩ (zM m d))=zBO n a m d:=rfl;rw [hz];cases MV:zBO n a m d with
    | true =>
      have:Tr.can f' n a=Tr.can g n a:=Tr.can_congr n a hin.al fun p hp=>he p fun hpd=>by
       have h1:=zIR MV (hin.cube hp);rw [hd.cube hpd] at h1;cases h1
      rw [this];exact zL8 ht hS hb
    | false =>
      refine ⟨Keeps.below hb,.inr (.inr ⟨⟨?_,rfl⟩,⟨_,rfl⟩,hb⟩)⟩;have PX:m≤n:=hV.resolve_right (by rw [MV];exact Bool.noConfusion)
      refine Nat.lt_of_le_of_ne PX fun hmn2=>e ?_;subst hmn2;obtain ⟨p,p1,p2⟩:=zIS MV;have q1:=(zGT (n:=m) rfl (show Tr.Al m ⟨a.x,a.y,a.z⟩ from hin.al)).1 p1;have q2:=(zGT (n:=m) rfl (show Tr.Al m ⟨d.x,d.y,d.z⟩ from hd.al)).1 p2;obtain rfl:=zA2 hin.al hd.al (zGW nlr q1 q2);exact ⟨rfl,rfl,rfl,rfl⟩
 brick:=fun W B v a _ hu _ _ _=>absurd hu.1 (by omega)
def partOK (N:Nat) (px py pz lv:Int):Prop:=inB ⟨px,py,pz⟩ (zN (2 ^ (N+2)))=true∧2≤lv∧lv≤(N:Int)+2∧alB lv.toNat ⟨px,py,pz⟩=true
theorem zJ3 (w:World) (sb n:Nat) (hn:n≤12) (id px py pz lv:Int) (h : ¬partOK n px py pz lv) :
 Calls Tryz.prog 38 #[.pointer (some ⟨sb,0,none⟩),id,((n:Int)+2:Int),.agg #[px,py,pz],lv] w fun e w'=>e=zLY 0 1∧Below w.heap.size w w':=by
 by_cases h1:inB ⟨px,py,pz⟩ (zN (2 ^ (n+2)))=true
 · by_cases h2:lv<2
   · exact zJ6 w sb n hn id px py pz lv h1 h2
   · by_cases h3:(n:Int)+2<lv
     · exact zJ4 w sb n hn id px py pz lv h1 h2 h3
     · obtain ⟨L,rfl⟩ : ∃ L:Nat,lv=(L:Int):=⟨lv.toNat,by omega⟩
       exact zJ2 w sb n L hn (by omega) (by omega) id px py pz h1 (Bool.eq_false_iff.2 fun h4=>h ⟨h1,by omega,by omega,by rw [Int.toNat_natCast];exact h4⟩)
 · exact zJ5 w sb n hn id px py pz lv (Bool.eq_false_iff.2 h1)
def zEB:Tr→Int
 | .uni _=>0
 | .brick _=>2
 | .node d _=>d
theorem zEC (Far:Nat→Prop) (sb:Nat) (UA:Int) (ts:List Tr) (t:Tr) (ht:t∈ts) (Od:ts.length≤4194304) (w:World) (hS:StoreIs w Far sb UA ts) :
 Calls Tryz.prog 63 #[.pointer (some ⟨sb,0,none⟩),(idT ts t:Int)] w fun e w'=>e = .returned (.int .i64 (zEB t))∧w=w' :=
 zEH Far sb UA ts _ t (zGM ht) (zEB t) (by cases t <;> rfl) Od w hS
def zFW (t:Tr) (lv:Int):Prop:=zi t=1∨zEB t=lv
theorem zNP (sb n:Nat) (hn:n≤12) (id px py pz lv part:Int) (h : ¬partOK n px py pz lv) (w:World) :
 Calls Tryz.prog 53 #[.pointer (some ⟨sb,0,none⟩),id,((n:Int)+2:Int),zO px py pz lv,part] w fun e w'=>e=zLY 0 1∧Below w.heap.size w w':=by
 have hp:=Bx.mk fun W=>zJ3 W sb n hn id px py pz lv h;clear h hn;go_enter Tryz.func53,Tryz.ntmps53;go_upto_region 1 with fail;generalize hW:(w.alloc _).alloc _=W;have hB:=bl2 hW;have kc:Bk W w.heap.size #[px,py,pz,lv] 39:=bk1 hW;clear hW;obtain ⟨c0,c1,c2,c3⟩:=kc.c4;go_wp2_with fail;refine (hp.o _).mono ?_;rintro _ w2 ⟨rfl,hb⟩;have I2:=tr hB hb;clear c0 c1 c2 c3 hb hB;go_wp2_with fail
 go_ret2
 exact ⟨rfl,I2⟩
theorem zNQ (sb n:Nat) (hn:n≤12) (id px py pz pid:Int) (L:Nat) (hL:2≤L∧L≤n+2) (t:Tr) (Far:Nat→Prop) (UA:Int) (ts:List Tr) (ht:t∈ts) (Od:ts.length≤4194304) (QE:partOK n px py pz (L:Int)) (w:World) (IV : ∀ k,Far k→k<w.heap.size) (hS:StoreIs w Far sb UA ts) (G:Ending→World→Prop)
 (hp : ∀ W,StoreIs W Far sb UA ts→Calls Tryz.prog 38 #[.pointer (some ⟨sb,0,none⟩),id,((n:Int)+2:Int),.agg #[px,py,pz],(L:Int)] W fun e w'=>e=zLY pid 0∧Below W.heap.size W w')
 (LT:Bx (∀ gc gp gk gd W,zFW t (L:Int)→w.heap.size≤gc→w.heap.size≤gp→w.heap.size≤gk→w.heap.size≤gd→Below w.heap.size w W→GraftP gc gp gk gd px py pz (L:Int) (idT ts t:Int) ⟨⟨px,py,pz⟩,⟨px+2 ^ L,py+2 ^ L,pz+2 ^ L⟩⟩ W → ∀ bf,Calls Tryz.prog 112 #[.pointer (some ⟨sb,0,none⟩),id,((n:Int)+2:Int),.agg #[.func (.func 120) #[] #[.pointer (some ⟨gc,0,none⟩),.pointer (some ⟨gp,0,none⟩),.pointer (some ⟨gk,0,none⟩)],bf]] W fun e w'=>G e w' ∧ ∃ i r,e=zLY i r)) :
 Calls Tryz.prog 53 #[.pointer (some ⟨sb,0,none⟩),id,((n:Int)+2:Int),zO px py pz (L:Int),(idT ts t:Int)] w (WSays (zFW t (L:Int)) G w):=by
 replace hp:=Bx.mk hp;have Hk:=Bx.mk fun W h=>zj Far sb UA ts t ht Od W h;have Hd:=Bx.mk fun W h=>zEC Far sb UA ts t ht Od W h;have Nj:=zb.1 QE.1;have Qv:=zt (show n+2≤14 by omega)
 have KK:(-100000≤px∧px≤100000)∧(-100000≤py∧py≤100000)∧(-100000≤pz∧pz≤100000):=by
  have e:(zN (2 ^ (n+2))).hi=⟨2 ^ (n+2),2 ^ (n+2),2 ^ (n+2)⟩:=rfl;have e2:(zN (2 ^ (n+2))).lo=⟨0,0,0⟩:=rfl;rw [e,e2] at Nj;simp only at Nj;omega
 have CV:=Bx.mk fun W=>zBo L (by omega) px py pz _ rfl KK.1 KK.2.1 KK.2.2 W
 have CS:=Bx.mk fun W=>zBP px py pz (px+2 ^ L) (py+2 ^ L) (pz+2 ^ L) W;have HS:=Bx.mk hS;clear Nj Qv KK QE hS IV hn hL Od ht;unfold zFW at *;generalize zi t=kt at *;generalize zEB t=dt at *;go_enter Tryz.func53,Tryz.ntmps53;go_upto_region 1 with fail;generalize hW:(w.alloc _).alloc _=W;have JE:W.heap.size=w.heap.size+1+1:=by rw [←hW];simp
 have hB:=bl2 hW;have kc:Bk W w.heap.size #[px,py,pz,(L:Int)] 39:=bk1 hW;have kp:Bk W (w.heap.size+1) #[(idT ts t:Int)] 3:=bk0 hW;clear hW;obtain ⟨c0,c1,c2,c3⟩:=kc.c4;generalize (idT ts t:Int)=it at *;go_wp2_with fail;refine (hp.o _ (HS.o.la hB)).mono ?_;rintro _ w2 ⟨rfl,hb⟩;have I2:=tr hB hb;have RY:=hb.size;replace kc:=kc.la hb;replace kp:=kp.la hb;clear c0 c1 c2 c3 hb hB;go_upto_region 4 with fail;by_cases h1:kt=1
 · have HF:Bx (kt=1∨dt=(L:Int)):=⟨.inl h1⟩;have t1:(kt != 1)=false:=by simp [h1]
   clear h1;have Br:=Bx.mk (HS.o.la I2);have G0 : ∀ dk osk,(grow (redrawn w2 dk) osk).cell? ⟨w.heap.size,3,none⟩=some (.int .i64 (L:Int)):=cq (kc.cell 3 rfl);have G1 : ∀ dk osk,(grow (redrawn w2 dk) osk).cell? ⟨w.heap.size+1,0,none⟩=some (.int .i64 it):=cq (kp.cell 0 rfl);have q0:=Bx.mk fun dk osk=>rq ((Hk.o (grow (redrawn w2 dk) osk) (Br.o.la (bq w2 dk osk))).mono fun e w' h=>(⟨h.1,by rw [←h.2];exact br⟩:e=_∧Below (grow (redrawn w2 dk) osk).heap.size (grow (redrawn w2 dk) osk) w'))
   have q1:=Bx.mk fun dk osk=>rq ((Hd.o (grow (redrawn w2 dk) osk) (Br.o.la (bq w2 dk osk))).mono fun e w' h=>(⟨h.1,by rw [←h.2];exact br⟩:e=_∧Below (grow (redrawn w2 dk) osk).heap.size (grow (redrawn w2 dk) osk) w'))
   refine wg ?_
   repeat (first | go_big_quiet_step (with_reducible first | exact q0.o _ _ | exact q1.o _ _) | quiet_step (with_reducible first | exact q0.o _ _ | exact q1.o _ _))
   refine wq ?_;rintro _ ⟨⟨dq,osq⟩,rfl⟩;have hb:=bq w2 dq osq;clear G0 G1 q0 q1;replace kc:=kc.la hb;replace kp:=kp.la hb;have I4:=tr I2 hb;clear hb;generalize grow (redrawn w2 dq) osq=W3 at *;clear t1;obtain ⟨c0,c1,c2,c3⟩:=kc.c4;go_wp2_with fail;refine (CV.o _).mono ?_;rintro _ w4 ⟨rfl,Jz⟩;replace kc:=kc.la Jz;replace kp:=kp.la Jz;have I5:=tr I4 Jz;clear c0 c1 c2 c3 Jz;go_wp2_with fail;refine (CS.o _).mono ?_;rintro _ w5 ⟨rfl,kd,K3⟩;replace kc:=kc.la K3;replace kp:=kp.la K3;have I6:=tr I5 K3;clear K3;go_upto_region 7 with fail;generalize hW:w5.alloc _=W6;have K4:=bl1 hW;have kk:Bk W6 w5.heap.size #[.func (.func 156) #[] #[.pointer (some ⟨w4.heap.size,0,none⟩)]] 152:=bk0 hW;clear hW;have Ib:=LT.o w.heap.size (w.heap.size+1) w5.heap.size w4.heap.size W6 HF.o nlr (by omega) I6.size I5.size (tr I6 K4) ⟨kc.la K4,kp.la K4,kk,kd.la K4⟩
   have Hq:=Bx.mk Ib;clear Ib kk K4 I6 kd kc kp I5 I4;go_wp2_with fail;refine (Hq.o _).mono ?_;rintro e w' ⟨hG,i,r,rfl⟩;have Hg:=Bx.mk hG;clear hG;go_wp2_with fail
   go_ret2
   exact ⟨fun _=>Hg.o,fun h=>absurd HF.o h⟩
 · have t1:(kt != 1)=true:=by simp [h1]
   by_cases h2:dt=(L:Int)
   · have HF:Bx (kt=1∨dt=(L:Int)):=⟨.inr h2⟩;have t2:(dt != (L:Int))=false:=by simp [h2]
     clear h1 h2;have Br:=Bx.mk (HS.o.la I2);have G0 : ∀ dk osk,(grow (redrawn w2 dk) osk).cell? ⟨w.heap.size,3,none⟩=some (.int .i64 (L:Int)):=cq (kc.cell 3 rfl);have G1 : ∀ dk osk,(grow (redrawn w2 dk) osk).cell? ⟨w.heap.size+1,0,none⟩=some (.int .i64 it):=cq (kp.cell 0 rfl);have q0:=Bx.mk fun dk osk=>rq ((Hk.o (grow (redrawn w2 dk) osk) (Br.o.la (bq w2 dk osk))).mono fun e w' h=>(⟨h.1,by rw [←h.2];exact br⟩:e=_∧Below (grow (redrawn w2 dk) osk).heap.size (grow (redrawn w2 dk) osk) w'))
     have q1:=Bx.mk fun dk osk=>rq ((Hd.o (grow (redrawn w2 dk) osk) (Br.o.la (bq w2 dk osk))).mono fun e w' h=>(⟨h.1,by rw [←h.2];exact br⟩:e=_∧Below (grow (redrawn w2 dk) osk).heap.size (grow (redrawn w2 dk) osk) w'))
     refine wg ?_
     repeat (first | go_big_quiet_step (with_reducible first | exact q0.o _ _ | exact q1.o _ _) | quiet_step (with_reducible first | exact q0.o _ _ | exact q1.o _ _))
     refine wq ?_;rintro _ ⟨⟨dq,osq⟩,rfl⟩;have hb:=bq w2 dq osq;clear G0 G1 q0 q1;replace kc:=kc.la hb;replace kp:=kp.la hb;have I4:=tr I2 hb;clear hb;generalize grow (redrawn w2 dq) osq=W3 at *;clear t1 t2;obtain ⟨c0,c1,c2,c3⟩:=kc.c4;go_wp2_with fail;refine (CV.o _).mono ?_;rintro _ w4 ⟨rfl,Jz⟩;replace kc:=kc.la Jz;replace kp:=kp.la Jz;have I5:=tr I4 Jz;clear c0 c1 c2 c3 Jz;go_wp2_with fail;refine (CS.o _).mono ?_;rintro _ w5 ⟨rfl,kd,K3⟩;replace kc:=kc.la K3;replace kp:=kp.la K3;have I6:=tr I5 K3;clear K3;go_upto_region 7 with fail;generalize hW:w5.alloc _=W6;have K4:=bl1 hW;have kk:Bk W6 w5.heap.size #[.func (.func 156) #[] #[.pointer (some ⟨w4.heap.size,0,none⟩)]] 152:=bk0 hW;clear hW;have Ib:=LT.o w.heap.size (w.heap.size+1) w5.heap.size w4.heap.size W6 HF.o nlr (by omega) I6.size I5.size (tr I6 K4) ⟨kc.la K4,kp.la K4,kk,kd.la K4⟩
     have Hq:=Bx.mk Ib;clear Ib kk K4 I6 kd kc kp I5 I4;go_wp2_with fail;refine (Hq.o _).mono ?_;rintro e w' ⟨hG,i,r,rfl⟩;have Hg:=Bx.mk hG;clear hG;go_wp2_with fail
     go_ret2
     exact ⟨fun _=>Hg.o,fun h=>absurd HF.o h⟩
   · have HB:Bx (¬(kt=1∨dt=(L:Int))):=⟨fun h=>h.elim h1 h2⟩;have t2:(dt != (L:Int))=true:=by simp [h2]
     clear h1 h2;have Br:=Bx.mk (HS.o.la I2);have G0 : ∀ dk osk,(grow (redrawn w2 dk) osk).cell? ⟨w.heap.size,3,none⟩=some (.int .i64 (L:Int)):=cq (kc.cell 3 rfl);have G1 : ∀ dk osk,(grow (redrawn w2 dk) osk).cell? ⟨w.heap.size+1,0,none⟩=some (.int .i64 it):=cq (kp.cell 0 rfl);have q0:=Bx.mk fun dk osk=>rq ((Hk.o (grow (redrawn w2 dk) osk) (Br.o.la (bq w2 dk osk))).mono fun e w' h=>(⟨h.1,by rw [←h.2];exact br⟩:e=_∧Below (grow (redrawn w2 dk) osk).heap.size (grow (redrawn w2 dk) osk) w'))
     have q1:=Bx.mk fun dk osk=>rq ((Hd.o (grow (redrawn w2 dk) osk) (Br.o.la (bq w2 dk osk))).mono fun e w' h=>(⟨h.1,by rw [←h.2];exact br⟩:e=_∧Below (grow (redrawn w2 dk) osk).heap.size (grow (redrawn w2 dk) osk) w'))
     refine wg ?_
     repeat (first | go_big_quiet_step (with_reducible first | exact q0.o _ _ | exact q1.o _ _) | quiet_step (with_reducible first | exact q0.o _ _ | exact q1.o _ _))
     refine wq ?_;rintro _ ⟨⟨dq,osq⟩,rfl⟩;have hb:=bq w2 dq osq;clear G0 G1 q0 q1;replace kc:=kc.la hb;replace kp:=kp.la hb;have I4:=tr I2 hb;clear hb;generalize grow (redrawn w2 dq) osq=W3 at *;go_wp2_with fail
     go_ret2
     exact ⟨fun h=>absurd h HB.o,fun _=>⟨rfl,I4⟩⟩
theorem partOK.inT {N m:Nat} {d:Pt} (QE:partOK N d.x d.y d.z ((m+2:Nat):Int)):InT N m d:=by
 obtain ⟨h1,h2,h3,h4⟩:=QE;have Nj:=zb.1 h1;have e:(zN (2 ^ (N+2))).hi=⟨2 ^ (N+2),2 ^ (N+2),2 ^ (N+2)⟩:=rfl;have e2:(zN (2 ^ (N+2))).lo=⟨0,0,0⟩:=rfl;rw [e,e2] at Nj;simp only at Nj;rw [Int.toNat_natCast] at h4;have ha:d.x % 2 ^ (m+2)=0∧d.y % 2 ^ (m+2)=0∧d.z % 2 ^ (m+2)=0:=of_decide_eq_true h4
 have key : ∀ x:Int,0≤x→x<2 ^ (N+2)→x % 2 ^ (m+2)=0→x+2 ^ (m+2)≤2 ^ (N+2):=by
  intro x h0 h1 h2;obtain ⟨k,rfl⟩ : ∃ k,N=m+k:=⟨N - m,by omega⟩
  have e2:(2:Int) ^ (m+k+2)=2 ^ (m+2) * 2 ^ k:=by rw [←Int.pow_add];congr 1;omega
  rw [e2] at h1 ⊢;have hp:=Int.pow_pos (n:=2) (m:=m+2) (by decide)
  generalize (2:Int) ^ (m+2)=M at *;generalize (2:Int) ^ k=K at *;have h3:=Int.mul_ediv_add_emod x M;rw [h2,Int.add_zero] at h3;have h4:x / M<K:=Int.lt_of_mul_lt_mul_left (by rw [h3];exact h1) (by omega)
  have h5:M * (x / M+1)≤M * K:=Int.mul_le_mul_of_nonneg_left (by omega) (by omega)
  rw [Int.mul_add,Int.mul_one,h3] at h5;exact h5
 exact ⟨by omega,ha,⟨by omega,key _ (by omega) (by omega) ha.1⟩,⟨by omega,key _ (by omega) (by omega) ha.2.1⟩,⟨by omega,key _ (by omega) (by omega) ha.2.2⟩⟩
theorem zNO {N:Nat} (hN:N≤12) (sb m:Nat) (d:Pt) (QE:partOK N d.x d.y d.z ((m+2:Nat):Int)) (UA:Int) (g f':Pt→Int) (hg : ∀ p,0≤g p∧g p≤255) (w:World) (Far:Nat→Prop) (ts:List Tr) (hG:Good ts) (t:Tr) (ht:t∈ts) (h0:Tr.can g N ⟨0,0,0⟩∈ts) (OS:ts.length≤4000000)
 (hf:zFW t ((m+2:Nat):Int)→Tr.can f' m d=t∧(∀ p,¬Tr.InC m d p→f' p=g p)∧(∀ p,0≤f' p∧f' p≤255)∧(Tr.add (Tr.can f' N ⟨0,0,0⟩) ts).length≤4000000) (IV : ∀ k,Far k→k<w.heap.size) (hS:StoreIs w Far sb UA ts) :
 Calls Tryz.prog 53 #[.pointer (some ⟨sb,0,none⟩),(idT ts (Tr.can g N ⟨0,0,0⟩):Int),((N:Int)+2:Int),zO d.x d.y d.z ((m+2:Nat):Int),(idT ts t:Int)] w (WSays (zFW t ((m+2:Nat):Int)) (Done Far sb UA ts (Tr.add (Tr.can f' N ⟨0,0,0⟩) ts) (Tr.can f' N ⟨0,0,0⟩) w) w):=by
 have hd:=QE.inT;have OY:=hd.le;refine zNQ sb N hN _ d.x d.y d.z _ (m+2) ⟨by omega,by omega⟩ t Far UA ts ht (by omega) QE w IV hS _ (fun W h=>zJ7 W sb N (m+2) hN (by omega) (by omega) d.x d.y d.z QE.1 (by have:=QE.2.2.2;rwa [Int.toNat_natCast] at this) Far UA ts _ h0 (zQ g N _) hG (by omega) h) ⟨fun gc gp gk gd W Mq l1 l2 l3 l4 hB hP bf=>?_⟩
 obtain ⟨f1,f2,f3,f4⟩:=hf Mq
 have hlt : ∀ k,zAQ gc gp gk gd k→k<W.heap.size:=by
  have:=hP.kc.lt;have:=hP.kp.lt;have:=hP.kk.lt;have:=hP.kd.lt;intro k hk;rcases hk with rfl | rfl | rfl | rfl <;> assumption
 rw [←f1] at hP;have MR:=zFw hN gc gp gk gd sb m d hd UA g f' ts (f1 ▸ ht) f2 0 #[] bf;refine (zCh hN MR hg f3 W (fun x=>Far x∨(w.heap.size≤x∧x<W.heap.size)) (fun k hk=>.inr ⟨?_,hlt k hk⟩) ?_ ts (List.prefix_refl _) hG h0 f4 ?_ ?_).mono ?_
 · rcases hk with rfl | rfl | rfl | rfl <;> assumption
 · exact hP
 · intro k hk;rcases hk with hk | hk
   · exact nll (IV k hk) hB.size
   · exact hk.2
 · exact (hS.widen (Far':=fun x=>Far x∨(w.heap.size≤x∧x<W.heap.size)) (fun k hk=>hk.imp (fun h=>h) (fun h=>h.1))).la hB
 · intro e' w' hd;refine ⟨hd.less (Far:=Far) (Keeps.below hB) (fun k hk=>.inl hk),?_⟩;obtain ⟨-,-,(⟨-,rfl,-⟩ | ⟨-,rfl,-⟩)⟩:=hd
   · exact ⟨_,_,rfl⟩
   · exact ⟨_,_,rfl⟩
end
section
open Go.RowKit
open Oct
def isU:Tr→Bool
 | .uni _=>true
 | _=>false
open Classical in
noncomputable def zER:Nat→Pt→Tr→Tr→List (Pt × Nat)
 | 0,a,t,u=>if t=u then [] else [(a,0)]
 | n+1,a,t,u=>if t=u then [] else if (isU t && isU u)=true then [(a,n+1)] else (List.finRange 8).flatMap fun i=>zER n (Tr.cor a n i.val) (t.kid i) (u.kid i)
theorem zET (n:Nat) (a:Pt) (t:Tr):zER n a t t=[]:=by cases n <;> simp [zER]
theorem zEV {a:Pt} {t u:Tr} (h:t ≠ u):zER 0 a t u=[(a,0)]:=by simp [zER,h]
theorem zEU {n:Nat} {a:Pt} {t u:Tr} (h:t ≠ u) (h1:isU t=true) (h2:isU u=true):zER n a t u=[(a,n)]:=by cases n <;> simp [zER,h,h1,h2]
noncomputable def zEM (n:Nat) (a:Pt) (t u:Tr) (k:Nat):List (Pt × Nat):=((List.finRange 8).take k).flatMap fun i=>zER n (Tr.cor a n i.val) (t.kid i) (u.kid i)
theorem zEQ (n:Nat) (a:Pt) (t u:Tr):zEM n a t u 0=[]:=rfl
theorem zEP (n:Nat) (a:Pt) (t u:Tr) {k:Nat} (hk:k<8):zEM n a t u (k+1)=zEM n a t u k++zER n (Tr.cor a n k) (t.kid ⟨k,hk⟩) (u.kid ⟨k,hk⟩):=by
 unfold zEM;rw [List.take_succ_eq_append_getElem (by simpa using hk),List.flatMap_append]
 simp
theorem zEN (n:Nat) (a:Pt) (t u:Tr) (h:t ≠ u) (h1:(isU t && isU u)=false):zEM n a t u 8=zER (n+1) a t u:=by
 unfold zEM;rw [List.take_of_length_le (by simp)]
 simp [zER,h,h1]
def zl:Nat→Pt→Tr→List (Pt × Nat × Tr)
 | n+1,a,.node _ ch=>(List.finRange 8).flatMap fun i=>zl n (Tr.cor a n i.val) (ch i)
 | n,a,t=>[(a,n,t)]
theorem zm (n:Nat) (a:Pt) (c:Int):zl n a (.uni c)=[(a,n,.uni c)]:=by cases n <;> rfl
theorem zHj (n:Nat) (a:Pt) (l:List Int):zl n a (.brick l)=[(a,n,.brick l)]:=by cases n <;> rfl
def zHd (n:Nat) (a:Pt) (ch:Fin 8→Tr) (k:Nat):List (Pt × Nat × Tr):=((List.finRange 8).take k).flatMap fun i=>zl n (Tr.cor a n i.val) (ch i)
theorem zHi (n:Nat) (a:Pt) (ch:Fin 8→Tr):zHd n a ch 0=[]:=rfl
theorem zHh (n:Nat) (a:Pt) (ch:Fin 8→Tr) {k:Nat} (hk:k<8):zHd n a ch (k+1)=zHd n a ch k++zl n (Tr.cor a n k) (ch ⟨k,hk⟩):=by
 unfold zHd;rw [List.take_succ_eq_append_getElem (by simpa using hk),List.flatMap_append]
 simp
theorem zHe (n d:Nat) (a:Pt) (ch:Fin 8→Tr):zHd n a ch 8=zl (n+1) a (.node d ch):=by
 unfold zHd;rw [List.take_of_length_le (by simp)]
 rfl
def zC6 (c:Int) (x:Pt × Nat × Tr):Nat :=
 match x.2.2 with
 | .uni d=>if d=c then 8 ^ (x.2.1+2) else 0
 | .brick l=>l.count c
 | .node _ _=>0
end
section
open Go.RowKit Go.Sort Go.Maps
open Oct
def zD6 (x:Pt × Nat):List Value:=[.int .i64 x.1.x,.int .i64 x.1.y,.int .i64 x.1.z,.int .i64 ((x.2:Int)+2)]
abbrev zP (L:List (Pt × Nat)):List Value:=L.flatMap zD6
abbrev zEW (ps po pv:Nat):Value:=.func (.func 67) #[] #[.pointer (some ⟨ps,0,none⟩),.pointer (some ⟨po,0,none⟩),.pointer (some ⟨pv,0,none⟩)]
structure DSt (w0:World) (Av:Nat→Prop) (ps po pv sb:Nat) (L:List (Pt × Nat)) (W:World):Prop where
 bel:Below w0.heap.size w0 W
 ks:Bk W ps #[.pointer (some ⟨sb,0,none⟩)] 32
 kv:Bk W pv #[zEW ps po pv] 115
 ko : ∃ v,Bk W po #[v] 51∧W.ownsRow w0.heap.size 39 4 v L.length (zP L) ∧ ∀ g,v.ownBlock=some g → ¬Av g
 ge:w0.heap.size≤ps∧w0.heap.size≤po∧w0.heap.size≤pv
 av:Av ps∧Av po∧Av pv
 ne:ps ≠ po∧pv ≠ po
 lt : ∀ k,Av k→k<W.heap.size
theorem DSt.avoid {w0 W W':World} {Av Av':Nat→Prop} {ps po pv sb:Nat} {L:List (Pt × Nat)} (h:DSt w0 Av ps po pv sb L W) (hb:Below W.heap.size W W') (h' : ∀ k,Av' k→Av k∨W.heap.size≤k) (hl : ∀ k,Av' k→k<W'.heap.size) (ha:Av' ps∧Av' po∧Av' pv):DSt w0 Av' ps po pv sb L W':=by
 obtain ⟨v,k1,k2,k3⟩:=h.ko;refine ⟨tr h.bel hb,h.ks.la hb,h.kv.la hb,⟨v,k1.la hb,World.ownsRow.kept k2 (zV hb) (by cases v.ownBlock <;> simp),fun g hg ha'=>?_⟩,h.ge,ha,h.ne,hl⟩
 rcases h' g ha' with h | h
 · exact k3 g hg h
 · have:=(World.ownsRow.lt k2 g hg).2;omega
theorem DSt.la {w0 W W':World} {Av:Nat→Prop} {ps po pv sb:Nat} {L:List (Pt × Nat)} (h:DSt w0 Av ps po pv sb L W) (hb:Below W.heap.size W W'):DSt w0 Av ps po pv sb L W' :=
 h.avoid hb (fun k hk=>.inl hk) (fun k hk=>nll (h.lt k hk) hb.size) h.av
theorem Bk.put1 {w:World} {g:Nat} {x:Value} {t:TypeId} (h:Bk w g #[x] t) (a:Value):Bk (w.setCell ⟨g,0,none⟩ a) g #[a] t:=by
 simpa using h.set 0 a
theorem DSt.push {w0 W W3:World} {Av:Nat→Prop} {ps po pv sb:Nat} {L:List (Pt × Nat)} {x:Pt × Nat} {v v':Value} (h:DSt w0 Av ps po pv sb L W) (hk:Bk W po #[v] 51) (hg:W.grownBy W3 v.ownBlock) (QQ:W3.ownsRow w0.heap.size 39 4 v' (L.length+1) (zP L++zD6 x)) (Jk:v'.ownBlock=v.ownBlock∨(∃ g,v'.ownBlock=some g∧W.heap.size≤g)) :
 DSt w0 Av ps po pv sb (L++[x]) (W3.setCell ⟨po,0,none⟩ v') ∧ ∀ k,Av k→k ≠ po→(W3.setCell ⟨po,0,none⟩ v').heap[k]? = W.heap[k]? := by
 obtain ⟨v2,k1,k2,k3⟩:=h.ko
 obtain rfl:v2=v:=by
  have e:=(k1.cell 0 rfl).symm.trans (hk.cell 0 rfl);simpa using e
 have Q2 : ∀ g,v'.ownBlock=some g → ¬Av g:=by
  intro g NV;rcases Jk with e | ⟨g',e,hge⟩
  · exact k3 g (e.symm.trans NV)
  · rw [e] at NV;obtain rfl:=osi NV;intro ha;have:=h.lt _ ha;omega
 have keep : ∀ k,Av k→W3.heap[k]? = W.heap[k]? := fun k hk=>hg.block k (h.lt k hk) (fun e=>k3 k e.symm hk);have Tj : ∀ k,Av k→k ≠ po→(W3.setCell ⟨po,0,none⟩ v').heap[k]? = W.heap[k]? := fun k hk Ph=>(RowKit.Below.heap_setCell _ _ _ _ (fun e=>Ph e)).trans (keep k hk);have Ql:Bk W3 po #[v2] 51:=(keep po h.av.2.1).trans k1;have NT:=zX W3 ⟨po,0,none⟩ v';refine ⟨⟨?_,?_,?_,⟨v',?_,?_,Q2⟩,h.ge,h.av,h.ne,fun k hk=>?_⟩,Tj⟩
 · refine h.bel.trans ⟨NT.os.trans hg.os,NT.tape.trans hg.tape,NT.output.trans hg.output,nlt hg.size NT.size,fun k hk=>?_⟩;refine (RowKit.Below.heap_setCell _ _ _ _ (fun e=>?_)).trans (hg.block k (nll hk h.bel.size) (fun e=>?_))
   · have:=h.ge.2.1;simp only at e;omega
   · have:=(World.ownsRow.lt k2 k e.symm).1;omega
 · exact (Tj ps h.av.1 h.ne.1).trans h.ks
 · exact (Tj pv h.av.2.2 h.ne.2).trans h.kv
 · exact Bk.put1 Ql v'
 · rw [List.length_append,List.length_singleton,show zP (L++[x])=zP L++zD6 x by unfold zP;rw [List.flatMap_append];simp]
   exact World.ownsRow.kept QQ NT (by
    cases hv:v'.ownBlock with
    | none=>exact .inl rfl
    | some g=>exact .inr (fun e=>Q2 g hv (by injection e with e;exact e ▸ h.av.2.1)))
 · rw [zMM];exact Nat.lt_of_lt_of_le (h.lt k hk) hg.size
structure DPost (w0:World) (Av:Nat→Prop) (ps po pv sb:Nat) (L:List (Pt × Nat)) (W:World) (e:Ending) (W':World):Prop where
 ends:e = .returned (.tuple #[])
 st:DSt w0 Av ps po pv sb L W'
 keep : ∀ k,Av k→k ≠ po→W'.heap[k]? = W.heap[k]?
theorem zBe {W W':World} {Av:Nat→Prop} {po:Nat} (hb:Below W.heap.size W W') (hl : ∀ k,Av k→k<W.heap.size) : ∀ k,Av k→k ≠ po→W'.heap[k]? = W.heap[k]? := fun k hk _=>hb.block k (hl k hk)
theorem zEc (lv x y z i:Int) (ps po pv sb:Nat) (w0 w:World) (Av:Nat→Prop) (L:List (Pt × Nat)) (H:DSt w0 Av ps po pv sb L w) :
 Calls Tryz.prog 67 #[zO x y z lv,i,i,.pointer (some ⟨ps,0,none⟩),.pointer (some ⟨po,0,none⟩),.pointer (some ⟨pv,0,none⟩)] w (DPost w0 Av ps po pv sb L w):=by
 have HH:=Bx.mk H;clear H;have t0:(i == i)=true:=by simp
 go_enter Tryz.func67,Tryz.ntmps67;go_wp2_with fail
 go_end0
 have hb:Below w.heap.size w (World.alloc w (.cells #[x,y,z,lv] 39)):=bf;exact ⟨rfl,HH.o.la hb,zBe hb HH.o.lt⟩
theorem zEa (n:Nat) (hn:n≤100) (a:Pt) (UA:Int) (ts:List Tr) (Od:ts.length≤4194304) (T U:Tr) (hT:T∈ts) (hU:U∈ts) (Ph:T ≠ U) (hl:n=0∨(isU T && isU U)=true) (ps po pv sb:Nat) (w0 w:World) (Av:Nat→Prop) (L:List (Pt × Nat)) (Is:L.length≤1000000000000) (H:DSt w0 Av ps po pv sb L w) (hS:StoreIs w (fun _=>False) sb UA ts) :
 Calls Tryz.prog 67 #[zO a.x a.y a.z ((n:Int)+2),(idT ts T:Int),(idT ts U:Int),.pointer (some ⟨ps,0,none⟩),.pointer (some ⟨po,0,none⟩),.pointer (some ⟨pv,0,none⟩)] w (DPost w0 Av ps po pv sb (L++[(a,n)]) w):=by
 have Hk:=Bx.mk fun W (h:StoreIs W (fun _=>False) sb UA ts)=>zj _ sb UA ts T hT Od W h;have Cy:=Bx.mk fun W (h:StoreIs W (fun _=>False) sb UA ts)=>zj _ sb UA ts U hU Od W h
 have t0:((idT ts T:Int) == (idT ts U:Int))=false:=by
  simp only [beq_eq_false_iff_ne,ne_eq];intro e;exact Ph (zY hT hU (by omega))
 have hk:isU T=true→zi T=1:=fun h=>by cases T <;> first | rfl | cases h
 have O6:isU U=true→zi U=1:=fun h=>by cases U <;> first | rfl | cases h
 obtain ⟨i0,Na,TQ,TR,TS⟩:=info_parts (show (Tryz.prog.info? 39).map (fun i=>(i.zero,i.size,i.bytes))=some (some (.agg #[(0:Int),(0:Int),(0:Int),(0:Int)]),4,32) by kernel_rfl)
 have Ai:=Bx.mk Na;have CK:=Bx.mk TQ;have CL:=Bx.mk TR;have CM:=Bx.mk TS;have BC:=Bx.mk Is;have HS:=Bx.mk hS;have HH:=Bx.mk H;generalize (idT ts T:Int)=iT at *;generalize (idT ts U:Int)=iU at *
 have PC:Bx ((n:Int)+2=2∨(zi T=1∧zi U=1)):=⟨by
  rcases hl with h | h
  · left;omega
  · right;rw [Bool.and_eq_true] at h;exact ⟨hk h.1,O6 h.2⟩⟩
 obtain ⟨lv,PD⟩ : ∃ lv:Int,(n:Int)+2=lv:=⟨_,rfl⟩;have HLV:=Bx.mk PD;rw [PD] at PC ⊢;generalize zi T=kT at *;generalize zi U=kU at *;clear H hS Ph hl hk O6 hT hU Od PD Na TQ TR TS Is hn;go_enter Tryz.func67,Tryz.ntmps67;go_upto_region 1 with fail;generalize hW:w.alloc _=W;have hb:=bl1 hW;have kc:Bk W w.heap.size #[a.x,a.y,a.z,lv] 39:=bk0 hW;clear hW;have HW:=Bx.mk (HH.o.la hb);have By:=Bx.mk (HS.o.la hb);obtain ⟨v,k1,k2,k3⟩:=HW.o.ko;obtain ⟨va,vc,rfl⟩:=zy k2;have K1:=Bx.mk k1;have DD:=Bx.mk k3;have KH:=HW.o.bel.size;have Qm:=k1.lt;have QQ:=Bx.mk fun o=>World.ownsRow.alloc k2 o;obtain ⟨c0,c1,c2,c3⟩:=kc.c4;have s0:=HW.o.ks.cell 0 rfl;have o0:=k1.cell 0 rfl;have KC:=Bx.mk kc;have HB:=Bx.mk hb;clear k2 k3 k1 kc hb;go_upto_region 2 with fail
 go_cut [16] from 17 to 31 (fun v wx=>v = .bool true∧wx=W)
 case first =>
  by_cases h4:lv=2
  · have t1:(lv == 2)=true:=by simp [h4]
    clear h4 PC;go_wp2_with fail
    go_meet
    exact ⟨rfl,rfl⟩
  · obtain ⟨h2,h3⟩:=PC.o.resolve_left h4;have t1:(lv == 2)=false:=by simp [h4]
    have t2:(kT == 1)=true:=by simp [h2]
    have t3:(kU == 1)=true:=by simp [h3]
    clear h2 h3 h4 PC;go_wp2_with (first | ((with_reducible refine (Hk.o W By.o).mono ?_);rintro _ _ ⟨rfl,rfl⟩) | ((with_reducible refine (Cy.o W By.o).mono ?_);rintro _ _ ⟨rfl,rfl⟩))
    go_meet
    exact ⟨rfl,rfl⟩
 case rest =>
 obtain ⟨rfl,hw⟩:=hcut;replace hw:=hw.symm;subst hw;clear t0 PC;go_wp2_with (at_builtin;refine wpList_append_own_at _ rfl _ _ 51 rfl w0.heap.size 39 i0 _ 4 32 Tryz.underlying51 Ai.o CK.o CL.o CM.o rfl (by omega) _ _ _ rfl (QQ.o _) ⟨W.heap.size,0,none⟩ 1 1 [.int .i64 a.x,.int .i64 a.y,.int .i64 a.z,.int .i64 lv] rfl rfl (World.news_of_block (cs:=#[a.x,a.y,a.z,lv]) (t:=39) (fr:=(0,0)) (heap_alloc_new W _)) (by simp [Value.oneCell']) (by have:=BC.o;simp only [maxLen];omega) (by have:=BC.o;omega) (by simp;omega) ?_;intro v6 W6 QV NR Ps Jl;obtain ⟨va6,vc6,rfl⟩:=zy QV;have Qs:=Bx.mk (HW.o.push (x:=(a,n)) K1.o ((World.grownBy_alloc W _ _).trans NR) (by have h:=QV;unfold zD6;rw [HLV.o];exact h) (Jl.imp (fun h=>h) (fun h=>⟨_,h,by simp⟩)));have k6:Bk W6 po #[.slice va L.length vc] 51:=(NR.block po (by simp;omega) (fun e=>(DD.o po e.symm) HW.o.av.2.1)).trans (zD K1.o);have o6:=k6.cell 0 rfl;have f6:=k6.frozen 0;clear QV NR Ps Jl k6)
 go_end0
 exact ⟨rfl,Qs.o.1,fun k hk Ph=>(Qs.o.2 k hk Ph).trans (HB.o.block k (HH.o.lt k hk))⟩
theorem zJi {w w':World} {B k n:Nat} {e:TypeId} {v:Value} {xs:List Value} (h:w.ownsRow B e k v n xs) (hb:Below w.heap.size w w'):w'.ownsRow B e k v n xs :=
 World.ownsRow.kept (row:=none) h ⟨hb.os,hb.tape,hb.output,hb.size,fun i hi _=>hb.block i hi⟩ (by cases v.ownBlock <;> simp)
theorem zJk {w:World} {B k n:Nat} {e:TypeId} {v:Value} {xs:List Value} (h:w.ownsRow B e k v n xs) : ∃ a c,v = .slice a n c∧n≤c∧(n=0 ∨ ∃ g,a=some ⟨g,0,none⟩∧B≤g∧g<w.heap.size) ∧ ∀ (j:Nat) u,xs[j]? = some u → ∃ g,a=some ⟨g,0,none⟩∧w.cell? ⟨g,j,none⟩=some u:=by
 rcases h.2 with ⟨rfl,rfl⟩ | ⟨g,cap,cur,rfl,hb,hg,hnc,Ld,Lr,ht⟩
 · refine ⟨none,0,rfl,nlr,.inl rfl,fun j u hj=>?_⟩;have:=h.1;rw [Nat.zero_mul] at this;rw [List.eq_nil_of_length_eq_zero this] at hj;simp at hj
 · refine ⟨_,cap,rfl,hnc,.inr ⟨g,rfl,hb,(Array.getElem?_eq_some_iff.1 hg).1⟩,fun j u hj=>⟨g,rfl,?_⟩⟩;have hi:j<n * k:=by have:=(List.getElem?_eq_some_iff.1 hj).1;rw [h.1] at this;exact this
   have LO:w.cell? ⟨g,j,none⟩=cur[j]? := by simp [World.cell?,hg]
   rw [LO];rw [←ht,List.getElem?_take,if_pos hi] at hj;simpa using hj
theorem zLw {P:Program} (w:World) (base:Nat) (t ty e:TypeId) (i:TypeInfo) (z:Value) (size bytes:Nat) (ht:P.underlying t=some (.slice e)) (hi:P.info? e=some i) (hz:i.zero=some z)
 (Rl:i.size=size) (Kz:i.bytes=bytes) (TZ:z.cells.size=size) (S9:0<size)
 (v:Value) (n:Nat) (xs:List Value) (QQ:w.ownsRow base e size v n xs) (B':Nat) (u:Value) (m:Nat) (ys:List Value) (hu:w.ownsRow B' e size u m ys) (h1 : ∀ y∈ys,y.oneCell'=true)
 (Gy:n+m≤maxLen) (L0:(n+m) * bytes≤140737488355328) (KH:base≤w.heap.size) :
 ∃ v' w',(Builtin.append_ #[t,t] ty #[v,u]).run P w = .ok v' w'∧w'.ownsRow base e size v' (n+m) (xs++ys)∧w.grownBy w' v.ownBlock:=by
 obtain ⟨a,c,rfl,hmc,Jk,LO⟩:=zJk hu;rcases Jk with rfl | ⟨g,rfl,_,_⟩
 · have hy:ys=[]:=List.eq_nil_of_length_eq_zero (by rw [hu.1,Nat.zero_mul])
   subst hy;obtain ⟨a2,c2,rfl,Pb,_,_⟩:=zJk QQ;refine ⟨_,w,run_append_nothing w t t ty e i ht hi a2 n c2 Pb (.slice a 0 c) ⟨.inl ⟨e,ht⟩,fun w'=>?_,?_,?_,by simp,fun u hu=>by cases hu⟩,by simpa using QQ,⟨rfl,rfl,rfl,Nat.le_refl _,fun _ _ _=>rfl⟩⟩
   · simp [Builtin.lenOf]
   · cases a <;> simp [Builtin.firstCells,loadCells,loadCellsFrom]
   · cases a <;> simp [Builtin.firstCells,loadCells,loadCellsFrom]
 · obtain ⟨v',w',h2,h3,h4,_⟩:=run_append_own_at (P:=P) w base t ty e i z size bytes ht hi hz Rl Kz TZ S9 v n xs QQ ⟨g,0,none⟩ m c ys hu.1 (fun j u hj=>by
    obtain ⟨g',hg,hc⟩:=LO j u hj;simp only [Option.some.injEq,Addr.mk.injEq,and_true] at hg;subst hg;rw [show (⟨g,0,none⟩:Addr).add j=⟨g,j,none⟩ by cases j <;> simp [Addr.add]]
    exact hc) h1 Gy L0 KH
   exact ⟨v',w',h2,h3,h4⟩
theorem zOY {P:Program} {w:World} {ops:Array Oper} {rest:List Oper} {o:Oper} {a:Act} {Q:Exit→Act→World→Prop} (NF:o.guard=none) (s x:Operand) (t:TypeId)
 (ho:o.op = .call { callee:=.builtin .append,args:=#[s,x],argTypes:=#[t,t] })
 (base:Nat) (e:TypeId) (i:TypeInfo) (z:Value) (size bytes:Nat) (ht:P.underlying t=some (.slice e)) (hi:P.info? e=some i) (hz:i.zero=some z)
 (Rl:i.size=size) (Kz:i.bytes=bytes) (TZ:z.cells.size=size) (S9:0<size)
 (v:Value) (n:Nat) (xs:List Value) (hs:a.eval s=v) (QQ:w.ownsRow base e size v n xs) (B':Nat) (u:Value) (m:Nat) (ys:List Value) (hx:a.eval x=u) (hu:w.ownsRow B' e size u m ys) (h1 : ∀ y∈ys,y.oneCell'=true)
 (Gy:n+m≤maxLen) (L0:(n+m) * bytes≤140737488355328) (KH:base≤w.heap.size)
 (h : ∀ v' w',w'.ownsRow base e size v' (n+m) (xs++ys)→w.grownBy w' v.ownBlock→wpList P ops Q rest (a.put o.dst v') w'):wpList P ops Q (o::rest) a w :=
 wpList_plain NF fun _ hK=>by
  obtain ⟨v',w',hr,h2,h3⟩:=zLw (P:=P) w base t o.type e i z size bytes ht hi hz Rl Kz TZ S9 v n xs QQ B' u m ys hu h1 Gy L0 KH;unfold Oper.wp execOp;simp only [ho,resolve,invoke,builtin,Sem.run_bind,Sem.run_pure,Result.andThen_ok,List.map_toArray,List.map_cons,List.map_nil,hs,hx,hr];exact hK _ _ (h v' w' h2 h3)
theorem zLx {P:Program} (w:World) (base:Nat) (t ty e:TypeId) (i:TypeInfo) (z:Value) (size bytes:Nat) (ht:P.underlying t=some (.slice e)) (hi:P.info? e=some i) (hz:i.zero=some z)
 (Rl:i.size=size) (Kz:i.bytes=bytes) (TZ:z.cells.size=size) (S9:0<size)
 (v:Value) (n:Nat) (xs:List Value) (QQ:w.ownsRow base e size v n xs) (a:Option Addr) (m c:Nat) (ys:List Value) (hl:ys.length=m * size) (S1 : ∀ j u,ys[j]? = some u → ∃ ad,a=some ad∧w.cell? (ad.add j)=some u) (h1 : ∀ y∈ys,y.oneCell'=true)
 (Gy:n+m≤maxLen) (L0:(n+m) * bytes≤140737488355328) (KH:base≤w.heap.size) :
 ∃ v' w',(Builtin.append_ #[t,t] ty #[v,.slice a m c]).run P w = .ok v' w'∧w'.ownsRow base e size v' (n+m) (xs++ys)∧w.grownBy w' v.ownBlock:=by
 cases hm:m with
 | zero =>
   subst hm;have hy:ys=[]:=List.eq_nil_of_length_eq_zero (by rw [hl,Nat.zero_mul])
   subst hy;obtain ⟨a2,c2,rfl,Pb,_,_⟩:=zJk QQ;refine ⟨_,w,run_append_nothing w t t ty e i ht hi a2 n c2 Pb (.slice a 0 c) ⟨.inl ⟨e,ht⟩,fun w'=>?_,?_,?_,by simp,fun u hu=>by cases hu⟩,by simpa using QQ,⟨rfl,rfl,rfl,Nat.le_refl _,fun _ _ _=>rfl⟩⟩
   · simp [Builtin.lenOf]
   · cases a <;> simp [Builtin.firstCells,loadCells,loadCellsFrom]
   · cases a <;> simp [Builtin.firstCells,loadCells,loadCellsFrom]
 | succ k =>
   rw [←hm];obtain ⟨y,hy⟩ : ∃ y,ys[0]? = some y:=⟨_,lge (by rw [hl,hm];exact Nat.mul_pos (Nat.succ_pos k) S9)⟩
   obtain ⟨ad,rfl,_⟩:=S1 0 y hy
   obtain ⟨v',w',h2,h3,h4,_⟩:=run_append_own_at (P:=P) w base t ty e i z size bytes ht hi hz Rl Kz TZ S9 v n xs QQ ad m c ys hl (fun j u hj=>by
    obtain ⟨ad',hg,hc⟩:=S1 j u hj;rw [Option.some.injEq] at hg;subst hg;exact hc) h1 Gy L0 KH
   exact ⟨v',w',h2,h3,h4⟩
theorem zOZ {P:Program} {w:World} {ops:Array Oper} {rest:List Oper} {o:Oper} {a:Act} {Q:Exit→Act→World→Prop} (NF:o.guard=none) (s x:Operand) (t:TypeId)
 (ho:o.op = .call { callee:=.builtin .append,args:=#[s,x],argTypes:=#[t,t] })
 (base:Nat) (e:TypeId) (i:TypeInfo) (z:Value) (size bytes:Nat) (ht:P.underlying t=some (.slice e)) (hi:P.info? e=some i) (hz:i.zero=some z)
 (Rl:i.size=size) (Kz:i.bytes=bytes) (TZ:z.cells.size=size) (S9:0<size)
 (v:Value) (n:Nat) (xs:List Value) (hs:a.eval s=v) (QQ:w.ownsRow base e size v n xs) (b:Option Addr) (m c:Nat) (ys:List Value) (hx:a.eval x = .slice b m c) (hl:ys.length=m * size) (S1 : ∀ j u,ys[j]? = some u → ∃ ad,b=some ad∧w.cell? (ad.add j)=some u) (h1 : ∀ y∈ys,y.oneCell'=true)
 (Gy:n+m≤maxLen) (L0:(n+m) * bytes≤140737488355328) (KH:base≤w.heap.size)
 (h : ∀ v' w',w'.ownsRow base e size v' (n+m) (xs++ys)→w.grownBy w' v.ownBlock→wpList P ops Q rest (a.put o.dst v') w'):wpList P ops Q (o::rest) a w :=
 wpList_plain NF fun _ hK=>by
  obtain ⟨v',w',hr,h2,h3⟩:=zLx (P:=P) w base t o.type e i z size bytes ht hi hz Rl Kz TZ S9 v n xs QQ b m c ys hl S1 h1 Gy L0 KH;unfold Oper.wp execOp;simp only [ho,resolve,invoke,builtin,Sem.run_bind,Sem.run_pure,Result.andThen_ok,List.map_toArray,List.map_cons,List.map_nil,hs,hx,hr];exact hK _ _ (h v' w' h2 h3)
theorem sl_src {w:World} {a:Option Addr} {xs:List Int} (h:Sl w .i64 a xs) : ∀ j u,(xs.map (Value.int .i64))[j]? = some u → ∃ ad,a=some ad∧w.cell? (ad.add j)=some u:=by
 intro j u hj;rw [List.getElem?_map,Option.map_eq_some_iff] at hj;obtain ⟨x,hx,rfl⟩:=hj;obtain ⟨b,off,rfl,hc⟩:=h j x hx;refine ⟨_,rfl,?_⟩;rw [show (⟨b,off,none⟩:Addr).add j=⟨b,off+j,none⟩ by cases j <;> simp [Addr.add]]
 exact hc
theorem zDS (h:Nat) (hh:h≤14) (px py pz:Int) (i:Nat) (hi:i<8) (hx:0≤px∧px≤100000) (hy:0≤py∧py≤100000) (hz:0≤pz∧pz≤100000) (w:World) :
 Calls Tryz.prog 130 #[.agg #[px,py,pz],((h:Int)+1:Int),(i:Int)] w fun e w'=>e = .returned (.agg #[(px+chX i (2 ^ h):Int),(py+chY i (2 ^ h):Int),(pz+chZ i (2 ^ h):Int)])∧Below w.heap.size w w':=by
 have hp:=zt hh;have Qv:=zu hh;generalize hm:(2:Int) ^ h=m at *;have Qb:IntKind.i64.wrap ((2:Int) ^ h)=m:=by rw [hm];exact Qv
 obtain ⟨bx,by',bz⟩:=zCg hi (show 0≤m by omega)
 have e1:(i:Int) % 2 * m=chX i m:=by unfold chX;rw [Int.natCast_emod];rfl
 have e2:(i:Int) / 2 % 2 * m=chY i m:=by unfold chY;rw [Int.natCast_emod,Int.natCast_ediv];rfl
 have e3:(i:Int) / 4 * m=chZ i m:=by unfold chZ;rw [Int.natCast_ediv];rfl
 have w1:IntKind.i64.wrap ((i:Int) % 2 * m)=chX i m:=by rw [e1];exact wj _ (by omega)
 have w2:IntKind.i64.wrap ((i:Int) / 2 % 2 * m)=chY i m:=by rw [e2];exact wj _ (by omega)
 have w3:IntKind.i64.wrap ((i:Int) / 4 * m)=chZ i m:=by rw [e3];exact wj _ (by omega)
 generalize chX i m=cx at *;generalize chY i m=cy at *;generalize chZ i m=cz at *;have S8:IntKind.i64.wrap ((h:Int)+1 - 1)=(h:Int):=by rw [show (h:Int)+1 - 1=h by omega];exact wj _ (by omega)
 have b1:(0:Int)≤(i:Int):=by omega
 have b2:(i:Int)<8:=by omega
 have t1:=wj (px+cx) (by omega)
 have t2:=wj (py+cy) (by omega)
 have t3:=wj (pz+cz) (by omega)
 clear Qv hm e1 e2 e3 hx hy hz bx by' bz hi
 go_enter Tryz.func130,Tryz.ntmps130;go_upto_region 1 with fail;generalize hW:(w.alloc _).alloc _=W;have JE:=sz2 hW;have hB:=bl2 hW;have kp:Bk W (w.heap.size) #[px,py,pz] 23:=bk1 hW;have kr:Bk W (w.heap.size+1) #[(0:Int),(0:Int),(0:Int)] 23:=bk0 hW;clear hW;obtain ⟨cp0,cp1,cp2⟩:=kp.c3;obtain ⟨Fj,Fk,Fl⟩:=kr.c3;obtain ⟨GU,GV,GW⟩:=kr.f3;go_wp2_with fail;replace kr:=kr.put3 (.int .i64 (px+cx)) (.int .i64 (py+cy)) (.int .i64 (pz+cz));exact bodyPost_ret (v:=.agg #[(px+cx:Int),(py+cy:Int),(pz+cz:Int)]) (results_cell_row rfl _ _ (w.heap.size+1) 23 #[(px+cx:Int),(py+cy:Int),(pz+cz:Int)] (0,0) _ rfl kr Tryz.underlying23 rfl (by kernel_rfl)) rfl ⟨rfl,zBk hB (by omega) _ _ _⟩
theorem zCp (d:Nat) (ch:Fin 8→Tr) (h:Tr.WF (.node d ch)) (hl:(Tr.enc (.node d ch)).length≤1000000000000000) (k:Nat) (hk:k<8) (w:World) :
 Calls Tryz.prog 129 #[.string (strOfNums (Tr.enc (.node d ch))),(k:Int)] w fun e w'=>e = .returned (.string (strOfNums (Tr.enc (ch ⟨k,hk⟩))))∧Below w.heap.size w w':=by
 have Kz:=Tr.enc_byt _ h;have Na:=fun W:World=>za (P:=Tryz.prog) 9 Tryz.underlying9 Kz (k:=0) (x:=110) (by simp [Tr.enc]) W
 rw [show ((0:Nat):Int)=0 from rfl] at Na;have LT:=Bx.mk (zKt d ch h hl);have OD:=Bx.mk (zM6 (zHH ch hk));generalize strOfNums (Tr.enc (.node d ch))=S at *;generalize strOfNums (Tr.enc (ch ⟨k,hk⟩))=Sk at *;have b0:(0:Int)≤(k:Int):=by omega
 have b1:(k:Int)<8:=by omega
 clear Kz h hl;go_enter Tryz.func129,Tryz.ntmps129;go_wp2_with fail;refine (LT.o _).mono ?_;rintro _ w1 ⟨g,pc,rfl,hs,-,hb⟩;obtain ⟨b',off',Ka,hc⟩:=hs k _ OD.o;injection Ka with Ka;injection Ka with e1 e2;subst e1 e2;rw [Nat.zero_add] at hc;clear hs LT OD
 go_wp2_with fail;go_ret;exact ⟨rfl,hb⟩
theorem zCo (t:Tr) (hw:Tr.WF t) (hu : ∀ d ch,t ≠ .node d ch) (k:Int) (w:World) :
 Calls Tryz.prog 129 #[.string (strOfNums (Tr.enc t)),k] w fun e w'=>e = .returned (.string (strOfNums (Tr.enc t)))∧Below w.heap.size w w':=by
 have Kz:Byt (Tr.enc t):=Tr.enc_byt _ hw
 obtain ⟨x,hx,hx7⟩ : ∃ x,(Tr.enc t)[0]? = some x∧(x == 110)=false:=by
  cases t with
  | uni c=>exact ⟨117,by simp [Tr.enc],by decide⟩
  | brick l=>exact ⟨98,by simp [Tr.enc],by decide⟩
  | node d ch=>exact absurd rfl (hu d ch)
 have Na:=fun W:World=>za (P:=Tryz.prog) 9 Tryz.underlying9 Kz (k:=0) (x:=x) hx W;rw [show ((0:Nat):Int)=0 from rfl] at Na;generalize strOfNums (Tr.enc t)=S at *;clear Kz hx hu hw;go_enter Tryz.func129,Tryz.ntmps129;go_wp2_with fail;go_ret;exact ⟨rfl,br⟩
theorem zCm (t:Tr) (hw:Tr.WF t) (hl:(Tr.enc t).length≤1000000000000000) (k:Nat) (hk:k<8) (w:World) :
 Calls Tryz.prog 129 #[.string (strOfNums (Tr.enc t)),(k:Int)] w fun e w'=>e = .returned (.string (strOfNums (Tr.enc (t.kid ⟨k,hk⟩))))∧Below w.heap.size w w':=by
 cases t with
 | uni c=>exact zCo _ hw (fun _ _ h=>by cases h) _ w
 | brick l=>exact zCo _ hw (fun _ _ h=>by cases h) _ w
 | node d ch=>exact zCp d ch hw hl k hk w
theorem zLB (px py pz:Int) (w:World) :
 Calls Tryz.prog 139 #[.agg #[px,py,pz]] w fun e w'=>e = .returned (.agg #[px,py,pz])∧Below w.heap.size w w':=by
 go_enter Tryz.func139,Tryz.ntmps139;go_wp2_with fail;generalize hW:(w.alloc _).alloc _=W;have hB:=bl2 hW;have kp:Bk W (w.heap.size) #[px,py,pz] 23:=bk1 hW;have kr:Bk W (w.heap.size+1) #[px,py,pz] 173:=bk0 hW;clear hW;exact bodyPost_ret (v:=.agg #[px,py,pz]) (results_cell_row rfl _ _ _ 173 #[px,py,pz] (0,0) _ rfl kr Tryz.underlying173 rfl (by kernel_rfl)) rfl ⟨rfl,hB⟩
theorem zLG (px py pz:Int) (w:World) :
 Calls Tryz.prog 140 #[.agg #[px,py,pz]] w fun e w'=>e = .returned (.agg #[px,py,pz])∧Below w.heap.size w w':=by
 go_enter Tryz.func140,Tryz.ntmps140;go_wp2_with fail;generalize hW:(w.alloc _).alloc _=W;have hB:=bl2 hW;have kp:Bk W (w.heap.size) #[px,py,pz] 173:=bk1 hW;have kr:Bk W (w.heap.size+1) #[px,py,pz] 23:=bk0 hW;clear hW;exact bodyPost_ret (v:=.agg #[px,py,pz]) (results_cell_row rfl _ _ _ 23 #[px,py,pz] (0,0) _ rfl kr Tryz.underlying23 rfl (by kernel_rfl)) rfl ⟨rfl,hB⟩
theorem zLE (n:Int) (w:World):Calls Tryz.prog 66 #[n] w fun e w'=>e = .returned (.bool (okC n))∧w=w':=by
 by_cases h0 : -1048575≤n
 · by_cases h1:n≤1048575
   · have t0:decide (-1048575≤n)=true:=by simpa using h0
     have t1:decide (n≤1048575)=true:=by simpa using h1
     have hr:okC n=true:=by unfold okC;exact decide_eq_true ⟨h0,h1⟩
     rw [hr];clear hr;go_enter Tryz.func66,Tryz.ntmps66;go_wp2_with fail;go_ret;exact ⟨rfl,rfl⟩
   · have t0:decide (-1048575≤n)=true:=by simpa using h0
     have t1:decide (n≤1048575)=false:=by simpa using h1
     have hr:okC n=false:=by unfold okC;exact decide_eq_false fun h=>h1 h.2
     rw [hr];clear hr;go_enter Tryz.func66,Tryz.ntmps66;go_wp2_with fail;go_ret;exact ⟨rfl,rfl⟩
 · have t0:decide (-1048575≤n)=false:=by simpa using h0
   have hr:okC n=false:=by unfold okC;exact decide_eq_false fun h=>h0 h.1
   rw [hr];clear hr;go_enter Tryz.func66,Tryz.ntmps66;go_wp2_with fail;go_ret;exact ⟨rfl,rfl⟩
theorem zLC (n:Int) (w:World):Calls Tryz.prog 107 #[n] w fun e w'=>e = .returned (.bool (Pal.cell n))∧w=w':=by
 rw [Pal.cell_eq];by_cases h0:0≤n
 · by_cases h1:n<256
   · have t0:decide (0≤n)=true:=by simpa using h0
     have t1:decide (n<256)=true:=by simpa using h1
     have hr:decide (0≤n∧n≤255)=true:=decide_eq_true ⟨h0,by omega⟩
     rw [hr];clear hr;go_enter Tryz.func107,Tryz.ntmps107;go_wp2_with fail;go_ret;exact ⟨rfl,rfl⟩
   · have t0:decide (0≤n)=true:=by simpa using h0
     have t1:decide (n<256)=false:=by simpa using h1
     have hr:decide (0≤n∧n≤255)=false:=decide_eq_false fun h=>h1 (by omega)
     rw [hr];clear hr;go_enter Tryz.func107,Tryz.ntmps107;go_wp2_with fail;go_ret;exact ⟨rfl,rfl⟩
 · have t0:decide (0≤n)=false:=by simpa using h0
   have hr:decide (0≤n∧n≤255)=false:=decide_eq_false fun h=>h0 h.1;rw [hr];clear hr;go_enter Tryz.func107,Tryz.ntmps107;go_wp2_with fail;go_ret;exact ⟨rfl,rfl⟩
theorem zw (px py pz:Int) (w:World):Calls Tryz.prog 17 #[.agg #[px,py,pz]] w fun e w'=>e = .returned (.bool (okP ⟨px,py,pz⟩))∧Below w.heap.size w w':=by
 have h0:=Bx.mk fun W=>zLE px W;have h1:=Bx.mk fun W=>zLE py W;have h2:=Bx.mk fun W=>zLE pz W;have hr:=Bx.mk (show okP ⟨px,py,pz⟩=(okC px && okC py && okC pz) from rfl);generalize okC px=x at *;generalize okC py=y at *;generalize okC pz=z at *;cases x with
 | false =>
   go_enter Tryz.func17,Tryz.ntmps17;go_wp2_with fail;refine (h0.o _).mono ?_;rintro _ _ ⟨rfl,rfl⟩;go_wp2_with fail;go_ret;exact ⟨by rw [hr.o];rfl,bf⟩
 | true =>
   cases y with
   | false =>
     go_enter Tryz.func17,Tryz.ntmps17;go_wp2_with fail;refine (h0.o _).mono ?_;rintro _ _ ⟨rfl,rfl⟩;go_wp2_with fail;refine (h1.o _).mono ?_;rintro _ _ ⟨rfl,rfl⟩;go_wp2_with fail;go_ret;exact ⟨by rw [hr.o];rfl,bf⟩
   | true =>
     go_enter Tryz.func17,Tryz.ntmps17;go_wp2_with fail;refine (h0.o _).mono ?_;rintro _ _ ⟨rfl,rfl⟩;go_wp2_with fail;refine (h1.o _).mono ?_;rintro _ _ ⟨rfl,rfl⟩;go_wp2_with fail;refine (h2.o _).mono ?_;rintro _ _ ⟨rfl,rfl⟩;go_wp2_with fail;go_ret;exact ⟨by rw [hr.o];rfl,bf⟩
end
end Go.Proofs.YtfcbajmjaifjlaaGreat