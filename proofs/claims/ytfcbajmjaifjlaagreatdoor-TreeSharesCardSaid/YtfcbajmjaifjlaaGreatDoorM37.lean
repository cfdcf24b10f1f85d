/- ERPack, EPPack, ECod, Dig, Dir, RlX: joined by program, for one claim. -/
import Derived.Test.YtfcbajmjaifjlaaGreatDoorM36
import Derived.Test.YtfcbajmjaifjlaaGreatDoorM34
import Derived.Deep.Quiet
set_option maxHeartbeats 1000000
set_option maxRecDepth 100000
set_option linter.unusedVariables false
set_option linter.unusedSimpArgs false
section
namespace Go.Proofs.YtfcbajmjaifjlaaGreatDoor.PalE
set_option maxRecDepth 100000
open Go.RowKit
theorem zCc {s s':ByteArray} {a b:Int} (h1:s=s') (h2:a=b):Ending.returned (.tuple #[.string s,a])=Ending.returned (.tuple #[.string s',b]):=by rw [h1,h2]
end Go.Proofs.YtfcbajmjaifjlaaGreatDoor.PalE
namespace Go.Proofs.YtfcbajmjaifjlaaGreatDoor.PalE
set_option maxRecDepth 100000
open Go.RowKit
theorem zLR (a:Option Addr) (n cap:Nat) (f:Value) (w:World) (_hl:n≤1000) :
 Calls Tryz.prog 145 #[.slice a n cap,(0:Int),f] w fun e w'=>e = .returned (.slice none 0 0)∧w=w':=by
 go_enter Tryz.func145,Tryz.ntmps145;go_wp2;go_ret;exact ⟨rfl,rfl⟩
theorem zNI (wd:Nat) (hwd:Pal.Wd wd) (a:Option Addr) (cap:Nat) (xs:List Int) (pp:Addr) (pa:Option Addr) (pc:Nat) (p:List Int) (w:World) (hl:xs.length≤1000) (h:Sl w .i64 a xs)
 (hpl:p.length≤2 ^ wd) (hin : ∀ x,x∈xs→x∈p) (hc:w.cell? pp=some (.slice pa p.length pc)) (hp:Sl w .i64 pa p) :
 Calls Tryz.prog 145 #[.slice a xs.length cap,(wd:Int),.func (.func 147) #[] #[.pointer (some pp)]] w fun e w' =>
  ∃ v,e = .returned v∧Own w' w.heap.size 5 .u8 v (Pal.packs wd (fun i=>p.idxOf (xs.getD i 0)) xs.length)∧Below w.heap.size w w':=by
 rcases hwd with rfl | rfl | rfl | rfl
 · exact zLV a cap xs pp pa pc p w hl h hpl hin hc hp
 · exact zLU a cap xs pp pa pc p w hl h hpl hin hc hp
 · exact zLT a cap xs pp pa pc p w hl h hpl hin hc hp
 · exact zLS a cap xs pp pa pc p w hl h hpl hin hc hp
theorem zJT (a:Option Addr) (cap:Nat) (xs:List Int) (pp:Addr) (pa:Option Addr) (pc:Nat) (p:List Int) (w:World) (hl:xs.length≤64) (h:Sl w .i64 a xs)
 (hpl:p.length≤xs.length) (hin : ∀ x,x∈xs→x∈p) (hc:w.cell? pp=some (.slice pa p.length pc)) (hp:Sl w .i64 pa p) :
 Calls Tryz.prog 145 #[.slice a xs.length cap,.int .i64 (Pal.width p.length:Nat),.func (.func 147) #[] #[.pointer (some pp)]] w fun e w' =>
  ∃ v,e = .returned v∧Own w' w.heap.size 5 .u8 v (Pal.packs (Pal.width p.length) (fun i=>p.idxOf (xs.getD i 0)) xs.length)∧Below w.heap.size w w':=by
 by_cases h1:1<p.length
 · exact zNI _ (Pal.width_wd h1) a cap xs pp pa pc p w (by omega) h (Pal.width_fits (by omega)) hin hc hp
 · have h0:Pal.width p.length=0:=by unfold Pal.width;rw [if_pos (by omega)]
   rw [h0];refine (zLR a xs.length cap _ w (by omega)).mono ?_
   rintro e w' ⟨rfl,rfl⟩;refine ⟨_,rfl,?_,Below.refl _ _⟩;have:Pal.packs 0 (fun i=>p.idxOf (xs.getD i 0)) xs.length=[]:=by simp [Pal.packs]
   rw [this];exact Own.nil _ _ _ _
theorem zLY (a:Option Addr) (cap:Nat) (xs:List Int) (w:World) (hl:xs.length≤1000) (h:Sl w .i64 a xs) :
 Calls Tryz.prog 108 #[.slice a xs.length cap] w fun e w'=>e = .returned (.tuple #[.string (strOfNums (Pal.packB xs)),.int .i64 (Pal.packE xs)])∧Below w.heap.size w w':=by
 by_cases h64:64<xs.length
 · have hbad:Pal.bad xs=true:=by simp [Pal.bad,h64]
   have h1:=Bx.mk (Pal.packB_bad hbad);have h2:=Bx.mk (Pal.packE_bad hbad);clear hbad;generalize xs.length=n at *;go_enter Tryz.func108,Tryz.ntmps108;go_wp2
   go_ret2
   exact ⟨zCc (by rw [h1.out];rfl) h2.out.symm,Below.refl _ _⟩
 cases hall:xs.all Pal.cell with
 | false =>
   have hbad:Pal.bad xs=true:=by simp [Pal.bad,hall]
   have h1:=Bx.mk (Pal.packB_bad hbad);have h2:=Bx.mk (Pal.packE_bad hbad);have hcall:=Bx.mk ((zFB a cap xs w (by omega) h).mono (R':=fun e w'=>e = .returned (.bool false)∧w=w') (by rw [hall];exact fun _ _ h=>h))
   clear hall hbad;generalize xs.length=n at *;go_enter Tryz.func108,Tryz.ntmps108;go_wp2_with (first | (go_at_call 143;refine (hcall.out).mono ?_;rintro e w' ⟨rfl,rfl⟩))
   go_ret2
   exact ⟨zCc (by rw [h1.out];rfl) h2.out.symm,Below.refl _ _⟩
 | true =>
   have hbad:Pal.bad xs=false:=by simp [Pal.bad,hall];omega
   have h2:=Bx.mk (Pal.packE_good hbad);have hcall:=Bx.mk ((zFB a cap xs w (by omega) h).mono (R':=fun e w'=>e = .returned (.bool true)∧w=w') (by rw [hall];exact fun _ _ h=>h))
   have Hall:=Bx.mk hall;clear hall;by_cases h0:xs.length=0
   · have h1:=Bx.mk (Pal.packB_nil hbad h0);clear hbad h;have hb:((xs.length:Int) == 0)=true:=by simp [h0]
     generalize xs.length=n at *;clear h0
     have hcv:=fun w:World=>zAJ (P:=Tryz.prog) (w:=w.alloc (.cells #[.int .u8 0] 5)) 107 5 9 Tryz.underlying107 Tryz.underlying5 Tryz.underlying9 (a:=some ⟨w.heap.size,0,none⟩) (xs:=[0]) (fun i x hx=>⟨w.heap.size,0,rfl,by
      match i with
      | 0=>simp at hx;subst hx;exact zn w (.int .u8 0) 5
      | i+1=>simp at hx⟩) 1 1 rfl
     go_enter Tryz.func108,Tryz.ntmps108;go_wp2_with (first | (go_at_call 143;refine (hcall.out).mono ?_;rintro e w' ⟨rfl,rfl⟩))
     go_ret2
     exact ⟨zCc (by rw [h1.out]) h2.out.symm,(Below.refl _ _).alloc (Nat.le_refl _) _⟩
   · have h1:=Bx.mk (Pal.packB_main hbad h0);have hb:((xs.length:Int) == 0)=false:=beq_eq_false_iff_ne.2 (by omega)
     have hmem:=Bx.mk (Pal.mem_diff xs);have hdl:=Pal.diff_length xs;have hpal:=Bx.mk (zEw a cap xs w (by omega) h)
     clear hbad;generalize hn:xs.length=n at *;have Hn:=Bx.mk hn;clear hn;have hmain:Bx (Pal.packMain xs=([(n:Int),((Pal.diff xs).length:Int)]++Pal.diff xs)++Pal.packs (Pal.width (Pal.diff xs).length) (fun i=>(Pal.diff xs).idxOf (xs.getD i 0)) n):=Bx.mk (by rw [←Hn.out];rfl)
     generalize Pal.diff xs=p at *;generalize hmd:p.length=m at *;have Hm:=Bx.mk hmd;clear hmd;go_enter Tryz.func108,Tryz.ntmps108
     go_wp2_with (first
      | (go_at_call 143;refine (hcall.out).mono ?_;rintro e w' ⟨rfl,rfl⟩)
      | (go_at_call 144;refine (hpal.out).mono ?_;rintro e w1 ⟨v,rfl,hown,hbel⟩;obtain ⟨pa,pc,rfl,hsl⟩:=hown.form;rw [Hm.out]))
     have hW0:Below w1.heap.size w1 (w1.alloc (.cells #[.slice pa m pc] 26)):=(Below.refl _ _).alloc (Nat.le_refl _) _;have hcp0:(w1.alloc (.cells #[.slice pa m pc] 26)).cell? ⟨w1.heap.size,0,none⟩=some (.slice pa m pc):=zn _ _ _;have hsz0:(w1.alloc (.cells #[.slice pa m pc] 26)).heap.size=w1.heap.size+1:=by simp
     generalize w1.alloc (.cells #[.slice pa m pc] 26)=w0 at *;rw [←hsz0];have Hsz0:=Bx.mk hsz0;clear hsz0
     go_loopw [5,32] (fun v i wr => ∃ k:Nat,k≤m∧i = .int .i64 k∧Own wr w0.heap.size 5 .u8 v ([(n:Int),(m:Int)]++p.take k)∧Below w0.heap.size w0 wr) (fun _ i _=>m - (intOf i).toNat)
     case atStart=>exact ⟨0,Nat.zero_le _,rfl,by rw [List.take_zero,List.append_nil];exact Own.lit w0 _ _ _ _ _ 2 (Nat.le_refl _) (by simp [maxLen]) rfl rfl,(Below.refl _ _).alloc (Nat.le_refl _) _⟩
     case round =>
      obtain ⟨k,hk,rfl,hown2,hbel2⟩:=hrel;have hsl2:=(hsl.below hW0).below hbel2;by_cases hlt:k<m
      · obtain ⟨x,hx⟩:=zA6 Hm hlt;obtain ⟨b,off,rfl,hcx⟩:=hsl2 k x hx
        have hxc:0≤x∧x≤255:=by
         have h3:=(hmem.out x).1 (List.mem_of_getElem? hx);have h4:=List.all_eq_true.1 Hall.out x h3;simpa [Pal.cell] using h4
        have htk:=Bx.mk (show p.take (k+1)=p.take k++[x] by rw [List.take_add_one,hx];rfl)
        have hlen:([(n:Int),(m:Int)]++p.take k).length≤100000:=by simp;omega
        obtain ⟨hx0,hx1⟩:=hxc;clear hx
        go_wp2_with (first | (
         at_builtin
         refine zO rfl _ _ 107 rfl 5 .u8 (.int .u8 0) 1 (by omega) Tryz.underlying107 (by kernel_rfl) rfl w0.heap.size _ _ rfl (hown2.alloc _) x ⟨wr.heap.size,0,none⟩ 1 rfl (zn _ _ _) (by omega) (zb hbel2.size _) ?_
         intro v1 w2 hown3 hg1 _))
        go_roundw
        case rel=>exact ⟨k+1,by omega,by go_num,by rw [htk.out,←List.append_assoc];exact hown3,(hbel2.alloc hbel2.size _).grown hg1 (zb hbel2.size _) (fun g hg=>(hown2.lt g hg).1)⟩
        case measure=>simp [intOf];omega
      · have hkn:k=m:=by omega
        have hpre:p.take k=p:=by rw [hkn,←Hm.out,List.take_length]
        rw [hpre] at hown2;clear hkn hpre;have hprel:([(n:Int),(m:Int)]++p).length≤100:=by have:=Hm.out;simp;omega
        have hpkl:(Pal.packs (Pal.width m) (fun i=>List.idxOf (xs.getD i 0) p) n).length≤1000:=by
         have hw8:Pal.width m≤8:=by unfold Pal.width;repeat (split <;> try omega)
         have:n * Pal.width m≤n * 8:=Nat.mul_le_mul_left _ hw8;simp [Pal.packs];omega
        have hwref:=Bx.mk (fun W=>zIw m W (by omega))
        have hput:Bx (∀ W:World,Below w.heap.size w W→Below w1.heap.size w1 W→W.cell? ⟨w1.heap.size,0,none⟩=some (.slice pa m pc)→Calls Tryz.prog 145 #[.slice a n cap,.int .i64 (Pal.width m:Nat),.func (.func 147) #[] #[.pointer (some ⟨w1.heap.size,0,none⟩)]] W fun e w' =>
         ∃ v,e = .returned v∧Own w' W.heap.size 5 .u8 v (Pal.packs (Pal.width m) (fun i=>p.idxOf (xs.getD i 0)) n)∧Below W.heap.size W w'):=Bx.mk (fun W hb1 hb2 hcW=>by
         have:=zJT a cap xs ⟨w1.heap.size,0,none⟩ pa pc p W (by have:=Hn.out;omega) (h.below hb1) (by have:=Hn.out;have:=Hm.out;omega) (fun x hx=>(hmem.out x).2 hx) (by rw [Hm.out];exact hcW) (hsl.below hb2)
         rw [Hn.out,Hm.out] at this;exact this)
        generalize Pal.packs (Pal.width m) (fun i=>List.idxOf (xs.getD i 0) p) n=pk at *;generalize [(n:Int),(m:Int)]++p=pre at *;generalize Pal.width m=wd at *;have hcp:=(hbel2.cell (p:=⟨w1.heap.size,0,none⟩) (by have:=Hsz0.out;simp;omega)).trans hcp0
        have hbw:Below w.heap.size w wr:=(hbel.trans (hW0.mono hbel.size)).trans (hbel2.mono (by have:=Hsz0.out;have:=hbel.size;omega))
        have hb1:Below w1.heap.size w1 wr:=hW0.trans (hbel2.mono (by have:=Hsz0.out;omega))
        go_wp2_with (first
         | (go_at_call 146;refine (hwref.out _).mono ?_;rintro e w3 ⟨rfl,hb3⟩;have hc3:=cell_later hb3 hcp)
         | (go_at_call 145;refine (hput.out _ (hbw.trans (hb3.mono hbw.size)) (hb1.trans (hb3.mono hb1.size)) hc3).mono ?_;rintro e w4 ⟨v4,rfl,hown4,hb4⟩;obtain ⟨a4,c4,rfl,hsl4⟩:=hown4.form)
         | (at_builtin
            refine zAx rfl _ _ 107 rfl 5 .u8 (.int .u8 0) 1 (by omega) Tryz.underlying107 (by kernel_rfl) rfl w0.heap.size _ pre rfl ((hown2.below hb3).below hb4) pk _ _ c4 rfl rfl hsl4 (by omega) (Nat.le_trans hbel2.size (Nat.le_trans hb3.size hb4.size)) ?_
            intro v5 w5 hown5 hg5 _;obtain ⟨a5,c5,rfl,hsl5⟩:=hown5.form;have hcv:=zAJ (P:=Tryz.prog) 107 5 9 Tryz.underlying107 Tryz.underlying5 Tryz.underlying9 hsl5 (pre.length+pk.length) c5 (by simp)))
        go_ret2
        have hb5:Below w.heap.size w w4:=(hbw.trans (hb3.mono hbw.size)).trans (hb4.mono (Nat.le_trans hbw.size hb3.size));refine ⟨zCc (by rw [h1.out,hmain.out]) h2.out.symm,hb5.grown hg5 hb5.size (fun g hg=>?_)⟩
        have:=(((hown2.below hb3).below hb4).lt g hg).1;have:=hbel.size;have:=Hsz0.out;omega
end Go.Proofs.YtfcbajmjaifjlaaGreatDoor.PalE
namespace Go.Proofs.YtfcbajmjaifjlaaGreatDoor.PalE
set_option maxRecDepth 100000
open Go.RowKit
theorem pal_encode (a:Option Addr) (cap:Nat) (xs:List Int) (w:World) (hl:xs.length≤1000) (h:Sl w .i64 a xs) :
 Calls Tryz.prog 56 #[.slice a xs.length cap] w fun e w'=>e = .returned (.tuple #[.string (strOfNums (Pal.encB xs)),.int .i64 (Pal.encE xs)])∧Below w.heap.size w w':=by
 have hc:=Bx.mk (zLY a cap xs w hl h);by_cases h64:xs.length=64
 · have hb:((xs.length:Int) != 64)=false:=by simp;omega
   have h1:=Bx.mk (show Pal.encB xs=Pal.packB xs by simp [Pal.encB,h64])
   have h2:=Bx.mk (show Pal.encE xs=Pal.packE xs by simp [Pal.encE,h64])
   generalize Pal.encB xs=eb at *;generalize Pal.encE xs=ee at *;clear h64 h;generalize xs.length=n at *;go_enter Tryz.func56,Tryz.ntmps56;go_wp2_with (first | (go_at_call 108;refine (hc.out).mono ?_;rintro e w1 ⟨rfl,hb1⟩))
   go_ret2
   exact ⟨zCc (by rw [h1.out]) h2.out.symm,hb1⟩
 · have hb:((xs.length:Int) != 64)=true:=by simp;omega
   have h1:=Bx.mk (show Pal.encB xs=[] by simp [Pal.encB,h64])
   have h2:=Bx.mk (show Pal.encE xs=1 by simp [Pal.encE,h64])
   generalize Pal.encB xs=eb at *;generalize Pal.encE xs=ee at *;clear h64 h;generalize xs.length=n at *;go_enter Tryz.func56,Tryz.ntmps56;go_wp2
   go_ret2
   exact ⟨zCc (by rw [h1.out];rfl) h2.out.symm,Below.refl _ _⟩
end Go.Proofs.YtfcbajmjaifjlaaGreatDoor.PalE
namespace Go.Proofs.YtfcbajmjaifjlaaGreatDoor
open Go.RowKit Go.Sort Go.Maps
open Oct
theorem zIU (kc:List Int) (hk:kc.length=64) (x:Nat) (hx:x≤255) (Far:Nat→Prop) (sb:Nat) (most:Int) (ts:List Tr) (ht:(Tr.uni (x:Int))∈ts) (hlen:ts.length≤4194304) (w:World) (hK:Krow w 0 kc) (hS:StoreIs w Far sb most ts) :
 Calls Tryz.prog 13 #[.pointer (some ⟨sb,0,none⟩),.int .i64 (idT ts (Tr.uni (x:Int)):Int)] w (zCp w (dig kc 1 [vi (2 * x)])):=by
 have hI:=Bx.mk (zGY x (by omega))
 have hP:Parts [vi (2 * x)]:=zFS (zKZ _) (by have:=zKt (2 * x) (by omega);omega)
 have hof:=Bx.mk fun (a:Option Addr) (cap:Nat) (W:World) (h:Slv W a (zBR [vi (2 * x)])) (hK:Krow W 0 kc)=>(show Calls Tryz.prog 54 #[(1:Int),.slice a 1 cap] W (fun e w'=>e = .returned (zDr .u8 (dig kc 1 [vi (2 * x)]))∧Below W.heap.size W w') from zJe kc hk 1 a cap [vi (2 * x)] hP W h hK);have hl16:=zEu kc 1 [vi (2 * x)];have hK:=Bx.mk hK;clear hP;generalize dig kc 1 [vi (2 * x)]=os at *;have hsz:Bx (((os).map (Value.int .u8)).toArray.size=16):=⟨by rw [List.size_toArray,List.length_map,hl16]⟩
 have hs2:Bx (((z16.map (Value.int .u8)).toArray).size=(os.map (Value.int .u8)).toArray.size):=⟨by rw [hsz.out];rfl⟩
 have hone:=Bx.mk (zAR .u8 os);have H2:=Bx.mk (show ∀ cs:Array Value,cs.size=16→(Tryz.prog.info? 46).map (·.size)=some cs.size from fun cs h=>by rw [h];kernel_rfl)
 clear hl16;have HS:=Bx.mk hS;have HS0:=HS;have Ht:=Bx.mk ht;clear hS;go_enter Tryz.func13,Tryz.ntmps13;go_upto_region 1 with fail;generalize hW0:World.alloc w _=W0
 have HJ0:Bx (Below w.heap.size w W0∧Bl W0 w.heap.size .u8 z16 46∧W0.heap.size=w.heap.size+1):=by
  rw [←hW0];exact ⟨⟨(Below.refl _ _).alloc (Nat.le_refl _) _,(zI _ _ _ rfl:Bk _ _ _ _),by simp⟩⟩
 clear hW0;obtain ⟨g,cap,mb,ks,hi,hc⟩:=Bx.node (HS.out.later HJ0.out.1) Ht.out (k:=1) (c:=(x:Int)) rfl;have b1:(0:Int)≤(idT ts (Tr.uni (x:Int)):Int):=by omega
 have b2:(idT ts (Tr.uni (x:Int)):Int)<(ts.length:Int):=by omega
 have cs1:=ks.cell 1 rfl;have d0:W0.cell? ⟨g,idT ts (Tr.uni (x:Int)) * 12,none⟩=some (.int .i64 1):=hc.out 0 _ (by omega) rfl
 have d1:W0.cell? ⟨g,idT ts (Tr.uni (x:Int)) * 12+1,none⟩=some (.int .i64 (x:Int)):=hc.out 1 _ (by omega) rfl
 have d2:W0.cell? ⟨g,idT ts (Tr.uni (x:Int)) * 12+2,none⟩=some (.string ByteArray.empty):=hc.out 2 _ (by omega) rfl
 have d3:W0.cell? ⟨g,idT ts (Tr.uni (x:Int)) * 12+3,none⟩=some (.int .i64 0):=hc.out 3 _ (by omega) rfl
 have d4:W0.cell? ⟨g,idT ts (Tr.uni (x:Int)) * 12+4,none⟩=some (_):=hc.out 4 _ (by omega) rfl
 have d5:W0.cell? ⟨g,idT ts (Tr.uni (x:Int)) * 12+5,none⟩=some (_):=hc.out 5 _ (by omega) rfl
 have d6:W0.cell? ⟨g,idT ts (Tr.uni (x:Int)) * 12+6,none⟩=some (_):=hc.out 6 _ (by omega) rfl
 have d7:W0.cell? ⟨g,idT ts (Tr.uni (x:Int)) * 12+7,none⟩=some (_):=hc.out 7 _ (by omega) rfl
 have d8:W0.cell? ⟨g,idT ts (Tr.uni (x:Int)) * 12+8,none⟩=some (_):=hc.out 8 _ (by omega) rfl
 have d9:W0.cell? ⟨g,idT ts (Tr.uni (x:Int)) * 12+9,none⟩=some (_):=hc.out 9 _ (by omega) rfl
 have d10:W0.cell? ⟨g,idT ts (Tr.uni (x:Int)) * 12+10,none⟩=some (_):=hc.out 10 _ (by omega) rfl
 have d11:W0.cell? ⟨g,idT ts (Tr.uni (x:Int)) * 12+11,none⟩=some (_):=hc.out 11 _ (by omega) rfl
 clear ks hc hi;generalize idT ts (Tr.uni (x:Int))=i at *;generalize ts.length=n at *;go_upto_region 2 with fail;generalize hW:World.alloc W0 _=W
 have HJ:Bx (Below w.heap.size w W∧Bl W w.heap.size .u8 z16 46):=by
  rw [←hW];exact ⟨⟨HJ0.out.1.alloc HJ0.out.1.size _,HJ0.out.2.1.alloc _⟩⟩
 have hwn:W0.heap.size=w.heap.size+1:=HJ0.out.2.2;have kn:Bk W W0.heap.size #[(1:Int),(x:Int),.string ByteArray.empty,(0:Int),(0:Int),(0:Int),(0:Int),(0:Int),(0:Int),(0:Int),(0:Int),(0:Int)] 101:=bk0 hW rfl;have HSW:=Bx.mk (HS.out.later HJ.out.1);clear hW HJ0 HS;clear hwn d0 d1 d2 d3 d4 d5 d6 d7 d8 d9 d10 d11 cs1;obtain ⟨cn0,cn1,cn2,cn3,cn4,cn5,cn6,cn7,cn8,cn9,cn10,cn11⟩:=kn.c12;go_wp2_with fail;clear cn0 cn1 cn2 cn3 cn4 cn5 cn6 cn7 cn8 cn9 cn10 cn11 kn;refine (hI.out W).mono ?_;rintro _ w1 ⟨v1,rfl,hp1⟩;obtain ⟨a1,c1,rfl,hs1⟩:=hp1.own.form;have hcv:=zAJ (P:=Tryz.prog) 107 5 9 Tryz.underlying107 Tryz.underlying5 Tryz.underlying9 hs1 _ c1 rfl;have HJ1:Bx (Below w.heap.size w w1∧Bl w1 w.heap.size .u8 z16 46):=⟨HJ.out.1.trans (hp1.bel.mono HJ.out.1.size),HJ.out.2.later hp1.bel⟩;clear hp1 hs1 HJ hI;generalize vi (2 * x)=xs at *;go_wp2_with fail;refine (hof.out _ 1 _ (zJG w1 xs _) (fun j v hv=>cell_later (HJ1.out.1.alloc HJ1.out.1.size _) (hK.out j v hv))).mono ?_;rintro _ w3 ⟨rfl,hb3⟩;have HJ3:Bx (Below w.heap.size w w3∧Bl w3 w.heap.size .u8 z16 46):=⟨(HJ1.out.1.alloc HJ1.out.1.size _).trans (hb3.mono (HJ1.out.1.alloc HJ1.out.1.size _).size),(HJ1.out.2.alloc _).later hb3⟩;clear hb3 HJ1 hcv hof;unfold zDr;have hkr:=Bx.mk HJ3.out.2;go_wp2_with (refine zE rfl _ _ _ rfl w.heap.size rfl _ _ rfl _ hkr.out (H2.out _ hsz.out) hs2.out hone.out ?_);refine bodyPost_ret (v:=zDr .u8 os) (results_cell_row rfl _ _ w.heap.size 46 _ (0,0) _ rfl (hkr.out.whole _) Tryz.underlying46 rfl (H2.out _ hsz.out)) rfl ⟨rfl,below_setRow HJ3.out.1 (Nat.le_refl _) _⟩
theorem zFr (kc:List Int) (hk:kc.length=64) (l:List Int) (hl:l.length=64) (hbl:Byt l) (Far:Nat→Prop) (sb:Nat) (most:Int) (ts:List Tr) (ht:(Tr.brick l)∈ts) (hG:Good ts) (hlen:ts.length≤4194304) (w:World) (hK:Krow w 0 kc) (hS:StoreIs w Far sb most ts) :
 Calls Tryz.prog 13 #[.pointer (some ⟨sb,0,none⟩),(idT ts (Tr.brick l):Int)] w (zCp w (dig kc 2 [PalE.Pal.encB l])):=by
 have hC:=Bx.mk fun (W:World) (h:StoreIs W Far sb most ts)=>(zAt W Far sb most ts (.brick l) ht hG (by omega) h).mono (R':=fun e w' => ∃ v,e = .returned v∧Own w' W.heap.size 3 .i64 v l∧Below W.heap.size W w') (fun _ _ h=>h)
 have hE:=Bx.mk fun (a:Option Addr) (cap:Nat) (W:World) (h:Sl W .i64 a l)=>PalE.pal_encode a cap l W (by omega) h
 have hP:Parts [PalE.Pal.encB l]:=zFS (zMM hl hbl) (by have:=zIQ hl;omega)
 have hof:=Bx.mk fun (a:Option Addr) (cap:Nat) (W:World) (h:Slv W a (zBR [PalE.Pal.encB l])) (hK:Krow W 0 kc)=>(show Calls Tryz.prog 54 #[(2:Int),.slice a 1 cap] W (fun e w'=>e = .returned (zDr .u8 (dig kc 2 [PalE.Pal.encB l]))∧Below W.heap.size W w') from zJe kc hk 2 a cap [PalE.Pal.encB l] hP W h hK);have hl16:=zEu kc 2 [PalE.Pal.encB l];have hK:=Bx.mk hK;clear hP;generalize dig kc 2 [PalE.Pal.encB l]=os at *;have hsz:Bx (((os).map (Value.int .u8)).toArray.size=16):=⟨by rw [List.size_toArray,List.length_map,hl16]⟩
 have hs2:Bx (((z16.map (Value.int .u8)).toArray).size=(os.map (Value.int .u8)).toArray.size):=⟨by rw [hsz.out];rfl⟩
 have hone:=Bx.mk (zAR .u8 os);have H2:=Bx.mk (show ∀ cs:Array Value,cs.size=16→(Tryz.prog.info? 46).map (·.size)=some cs.size from fun cs h=>by rw [h];kernel_rfl)
 clear hl16;clear hl;have HS:=Bx.mk hS;have HS0:=HS;have Ht:=Bx.mk ht;clear hS;go_enter Tryz.func13,Tryz.ntmps13;go_upto_region 1 with fail;generalize hW0:World.alloc w _=W0
 have HJ0:Bx (Below w.heap.size w W0∧Bl W0 w.heap.size .u8 z16 46∧W0.heap.size=w.heap.size+1):=by
  rw [←hW0];exact ⟨⟨(Below.refl _ _).alloc (Nat.le_refl _) _,(zI _ _ _ rfl:Bk _ _ _ _),by simp⟩⟩
 clear hW0;obtain ⟨g,cap,mb,ks,hi,hc⟩:=Bx.node (HS.out.later HJ0.out.1) Ht.out (k:=2) (s:=(strOfNums l)) rfl;have b1:(0:Int)≤(idT ts (Tr.brick l):Int):=by omega
 have b2:(idT ts (Tr.brick l):Int)<(ts.length:Int):=by omega
 have cs1:=ks.cell 1 rfl;have d0:W0.cell? ⟨g,idT ts (Tr.brick l) * 12,none⟩=some (.int .i64 2):=hc.out 0 _ (by omega) rfl
 have d1:W0.cell? ⟨g,idT ts (Tr.brick l) * 12+1,none⟩=some (.int .i64 0):=hc.out 1 _ (by omega) rfl
 have d2:W0.cell? ⟨g,idT ts (Tr.brick l) * 12+2,none⟩=some (.string (strOfNums l)):=hc.out 2 _ (by omega) rfl
 have d3:W0.cell? ⟨g,idT ts (Tr.brick l) * 12+3,none⟩=some (.int .i64 2):=hc.out 3 _ (by omega) rfl
 have d4:W0.cell? ⟨g,idT ts (Tr.brick l) * 12+4,none⟩=some (_):=hc.out 4 _ (by omega) rfl
 have d5:W0.cell? ⟨g,idT ts (Tr.brick l) * 12+5,none⟩=some (_):=hc.out 5 _ (by omega) rfl
 have d6:W0.cell? ⟨g,idT ts (Tr.brick l) * 12+6,none⟩=some (_):=hc.out 6 _ (by omega) rfl
 have d7:W0.cell? ⟨g,idT ts (Tr.brick l) * 12+7,none⟩=some (_):=hc.out 7 _ (by omega) rfl
 have d8:W0.cell? ⟨g,idT ts (Tr.brick l) * 12+8,none⟩=some (_):=hc.out 8 _ (by omega) rfl
 have d9:W0.cell? ⟨g,idT ts (Tr.brick l) * 12+9,none⟩=some (_):=hc.out 9 _ (by omega) rfl
 have d10:W0.cell? ⟨g,idT ts (Tr.brick l) * 12+10,none⟩=some (_):=hc.out 10 _ (by omega) rfl
 have d11:W0.cell? ⟨g,idT ts (Tr.brick l) * 12+11,none⟩=some (_):=hc.out 11 _ (by omega) rfl
 clear ks hc hi;generalize idT ts (Tr.brick l)=i at *;generalize ts.length=n at *;go_upto_region 2 with fail;generalize hW:World.alloc W0 _=W
 have HJ:Bx (Below w.heap.size w W∧Bl W w.heap.size .u8 z16 46):=by
  rw [←hW];exact ⟨⟨HJ0.out.1.alloc HJ0.out.1.size _,HJ0.out.2.1.alloc _⟩⟩
 have hwn:W0.heap.size=w.heap.size+1:=HJ0.out.2.2;have kn:Bk W W0.heap.size #[(2:Int),(0:Int),.string (strOfNums l),(2:Int),(0:Int),(0:Int),(0:Int),(0:Int),(0:Int),(0:Int),(0:Int),(0:Int)] 101:=bk0 hW rfl;have HSW:=Bx.mk (HS.out.later HJ.out.1);clear hW HJ0 HS;clear hwn d0 d1 d2 d3 d4 d5 d6 d7 d8 d9 d10 d11 cs1;obtain ⟨cn0,cn1,cn2,cn3,cn4,cn5,cn6,cn7,cn8,cn9,cn10,cn11⟩:=kn.c12;clear Ht;go_wp2_with fail;clear cn0 cn1 cn2 cn3 cn4 cn5 cn6 cn7 cn8 cn9 cn10 cn11 kn;refine (hC.out W HSW.out).mono ?_;rintro _ w1 ⟨v1,rfl,how,hb1⟩;obtain ⟨a1,c1,rfl,hs1⟩:=how.form;have HJ1:Bx (Below w.heap.size w w1∧Bl w1 w.heap.size .u8 z16 46):=⟨HJ.out.1.trans (hb1.mono HJ.out.1.size),HJ.out.2.later hb1⟩;replace hE:=Bx.mk (hE.out a1 c1 w1 hs1);clear how hs1 HJ HSW hC hb1;generalize PalE.Pal.encB l=xs at *;go_wp2_with fail;refine hE.out.mono ?_;rintro _ w2 ⟨rfl,hb2⟩;have HJ2:Bx (Below w.heap.size w w2∧Bl w2 w.heap.size .u8 z16 46):=⟨HJ1.out.1.trans (hb2.mono HJ1.out.1.size),HJ1.out.2.later hb2⟩;clear hE HJ1 hb2;go_wp2_with fail;refine (hof.out _ 1 _ (zJG w2 xs _) (fun j v hv=>cell_later (HJ2.out.1.alloc HJ2.out.1.size _) (hK.out j v hv))).mono ?_;rintro _ w3 ⟨rfl,hb3⟩;have HJ3:Bx (Below w.heap.size w w3∧Bl w3 w.heap.size .u8 z16 46):=⟨(HJ2.out.1.alloc HJ2.out.1.size _).trans (hb3.mono (HJ2.out.1.alloc HJ2.out.1.size _).size),(HJ2.out.2.alloc _).later hb3⟩;clear hb3 HJ2 hof;unfold zDr;have hkr:=Bx.mk HJ3.out.2;go_wp2_with (refine zE rfl _ _ _ rfl w.heap.size rfl _ _ rfl _ hkr.out (H2.out _ hsz.out) hs2.out hone.out ?_);refine bodyPost_ret (v:=zDr .u8 os) (results_cell_row rfl _ _ w.heap.size 46 _ (0,0) _ rfl (hkr.out.whole _) Tryz.underlying46 rfl (H2.out _ hsz.out)) rfl ⟨rfl,below_setRow HJ3.out.1 (Nat.le_refl _) _⟩
theorem idx8 (p:Nat→Int) (k:Nat) (hk:k<8) (W:World):(Instr.index 98 (.agg #[.int .i64 (p 0),.int .i64 (p 1),.int .i64 (p 2),.int .i64 (p 3),.int .i64 (p 4),.int .i64 (p 5),.int .i64 (p 6),.int .i64 (p 7)]) (.int .i64 (k:Int))).run Tryz.prog W = .ok (.int .i64 (p k)) W:=by
 have hu:=Tryz.underlying98;have h1 : Tryz.prog.cellsOf 3=1:=by kernel_rfl
 have hc:(#[Value.int .i64 (p 0),.int .i64 (p 1),.int .i64 (p 2),.int .i64 (p 3),.int .i64 (p 4),.int .i64 (p 5),.int .i64 (p 6),.int .i64 (p 7)]:Array Value)[k]? = some (.int .i64 (p k)):=by
  have h0:k=0∨k=1∨k=2∨k=3∨k=4∨k=5∨k=6∨k=7:=by omega
  rcases h0 with rfl | rfl | rfl | rfl | rfl | rfl | rfl | rfl <;> rfl
 have h0:(0:Int)≤(k:Int)∧(k:Int)<8:=by omega
 generalize (#[Value.int .i64 (p 0),.int .i64 (p 1),.int .i64 (p 2),.int .i64 (p 3),.int .i64 (p 4),.int .i64 (p 5),.int .i64 (p 6),.int .i64 (p 7)]:Array Value)=cs at *;simp [Instr.index,run_underlying hu,asIntOf,h0,go_sem];rw [if_pos hk,hc];rfl
structure DgI (w:World) (kc:List Int) (d:Nat) (ch:Fin 8→Tr) (k:Nat) (v:Value) (wr:World):Prop where
 bel:Below w.heap.size w wr
 kr:Bl wr w.heap.size .u8 z16 46
 own:Ownv wr (w.heap.size+1) 9 v (zBR (zv kc d ch k))
theorem zGi (kc:List Int) (hk:kc.length=64) (d:Nat) (hd:d≤255) (ch:Fin 8→Tr) (Far:Nat→Prop) (sb:Nat) (most:Int) (ts:List Tr) (ht:(Tr.node d ch)∈ts) (hIH : ∀ k (hk:k<8) W,Krow W 0 kc→StoreIs W Far sb most ts→Calls Tryz.prog 13 #[.pointer (some ⟨sb,0,none⟩),.int .i64 (zD1 ts ch k)] W (zCp W (zFA kc (ch ⟨k,hk⟩)))) (hlen:ts.length≤4194304) (w:World) (hK:Krow w 0 kc) (hS:StoreIs w Far sb most ts) :
 Calls Tryz.prog 13 #[.pointer (some ⟨sb,0,none⟩),(idT ts (Tr.node d ch):Int)] w (zCp w (dig kc 3 (zv kc d ch 8))):=by
 have hI:=Bx.mk (zGY d (by omega))
 have hIH:=Bx.mk fun k (hk:k<8) W (h1:Krow W 0 kc) (h2:StoreIs W Far sb most ts)=>(hIH k hk W h1 h2).mono (R':=fun e w'=>e = .returned (zDr .u8 (zFA kc (ch ⟨k,hk⟩)))∧Below W.heap.size W w') (fun _ _ h=>h);have hP:Parts (zv kc d ch 8):=zJY kc ch (by omega)
 have hlp:(zv kc d ch 8).length=9:=zCg kc d ch (Nat.le_refl _);have hof:=Bx.mk fun (a:Option Addr) (cap:Nat) (W:World) (h:Slv W a (zBR (zv kc d ch 8))) (hK:Krow W 0 kc)=>(show Calls Tryz.prog 54 #[(3:Int),.slice a 9 cap] W (fun e w'=>e = .returned (zDr .u8 (dig kc 3 (zv kc d ch 8)))∧Below W.heap.size W w') from by have:=zJe kc hk 3 a cap (zv kc d ch 8) hP W h hK;rw [hlp] at this;exact this)
 have hl16:=zEu kc 3 (zv kc d ch 8);have hK:=Bx.mk hK;clear hP;clear hlp;generalize dig kc 3 (zv kc d ch 8)=os at *;have hsz:Bx (((os).map (Value.int .u8)).toArray.size=16):=⟨by rw [List.size_toArray,List.length_map,hl16]⟩
 have hs2:Bx (((z16.map (Value.int .u8)).toArray).size=(os.map (Value.int .u8)).toArray.size):=⟨by rw [hsz.out];rfl⟩
 have hone:=Bx.mk (zAR .u8 os);have H2:=Bx.mk (show ∀ cs:Array Value,cs.size=16→(Tryz.prog.info? 46).map (·.size)=some cs.size from fun cs h=>by rw [h];kernel_rfl)
 clear hl16;have hps:=Bx.mk fun k (hk:k<8)=>zGO kc d ch hk;have hpl:=Bx.mk fun k (hk:k≤8)=>zCg kc d ch hk;have hp0:Bx (zv kc d ch 0=[vi (2 * d)]):=⟨rfl⟩;have hX : ∀ k (hk:k<8),zD1 ts ch k=(idT ts (ch ⟨k,hk⟩):Int):=fun k hk=>by unfold zD1;rw [dif_pos hk]
 have hnv:zl ts (.node d ch)=zAW 3 0 ByteArray.empty d (zD1 ts ch 0) (zD1 ts ch 1) (zD1 ts ch 2) (zD1 ts ch 3) (zD1 ts ch 4) (zD1 ts ch 5) (zD1 ts ch 6) (zD1 ts ch 7):=rfl;clear hX;generalize hkp:zD1 ts ch=p at *;clear hkp;have hix:=Bx.mk (idx8 p);have HS:=Bx.mk hS;have HS0:=HS;have Ht:=Bx.mk ht;clear hS;go_enter Tryz.func13,Tryz.ntmps13;go_upto_region 1 with fail;generalize hW0:World.alloc w _=W0
 have HJ0:Bx (Below w.heap.size w W0∧Bl W0 w.heap.size .u8 z16 46∧W0.heap.size=w.heap.size+1):=by
  rw [←hW0];exact ⟨⟨(Below.refl _ _).alloc (Nat.le_refl _) _,(zI _ _ _ rfl:Bk _ _ _ _),by simp⟩⟩
 clear hW0;obtain ⟨g,cap,mb,ks,hi,hc⟩:=Bx.node (HS.out.later HJ0.out.1) Ht.out (k:=3) hnv;have b1:(0:Int)≤(idT ts (Tr.node d ch):Int):=by omega
 have b2:(idT ts (Tr.node d ch):Int)<(ts.length:Int):=by omega
 have cs1:=ks.cell 1 rfl;have d0:W0.cell? ⟨g,idT ts (Tr.node d ch) * 12,none⟩=some (.int .i64 3):=hc.out 0 _ (by omega) rfl
 have d1:W0.cell? ⟨g,idT ts (Tr.node d ch) * 12+1,none⟩=some (.int .i64 0):=hc.out 1 _ (by omega) rfl
 have d2:W0.cell? ⟨g,idT ts (Tr.node d ch) * 12+2,none⟩=some (.string ByteArray.empty):=hc.out 2 _ (by omega) rfl
 have d3:W0.cell? ⟨g,idT ts (Tr.node d ch) * 12+3,none⟩=some (.int .i64 (d:Int)):=hc.out 3 _ (by omega) rfl
 have d4:W0.cell? ⟨g,idT ts (Tr.node d ch) * 12+4,none⟩=some (_):=hc.out 4 _ (by omega) rfl
 have d5:W0.cell? ⟨g,idT ts (Tr.node d ch) * 12+5,none⟩=some (_):=hc.out 5 _ (by omega) rfl
 have d6:W0.cell? ⟨g,idT ts (Tr.node d ch) * 12+6,none⟩=some (_):=hc.out 6 _ (by omega) rfl
 have d7:W0.cell? ⟨g,idT ts (Tr.node d ch) * 12+7,none⟩=some (_):=hc.out 7 _ (by omega) rfl
 have d8:W0.cell? ⟨g,idT ts (Tr.node d ch) * 12+8,none⟩=some (_):=hc.out 8 _ (by omega) rfl
 have d9:W0.cell? ⟨g,idT ts (Tr.node d ch) * 12+9,none⟩=some (_):=hc.out 9 _ (by omega) rfl
 have d10:W0.cell? ⟨g,idT ts (Tr.node d ch) * 12+10,none⟩=some (_):=hc.out 10 _ (by omega) rfl
 have d11:W0.cell? ⟨g,idT ts (Tr.node d ch) * 12+11,none⟩=some (_):=hc.out 11 _ (by omega) rfl
 clear ks hc hi;generalize idT ts (Tr.node d ch)=i at *;generalize ts.length=n at *;go_upto_region 2 with fail;generalize hW:World.alloc W0 _=W
 have HJ:Bx (Below w.heap.size w W∧Bl W w.heap.size .u8 z16 46):=by
  rw [←hW];exact ⟨⟨HJ0.out.1.alloc HJ0.out.1.size _,HJ0.out.2.1.alloc _⟩⟩
 have hwn:W0.heap.size=w.heap.size+1:=HJ0.out.2.2;have kn:Bk W W0.heap.size #[(3:Int),(0:Int),.string ByteArray.empty,(d:Int),.int .i64 (p 0),.int .i64 (p 1),.int .i64 (p 2),.int .i64 (p 3),.int .i64 (p 4),.int .i64 (p 5),.int .i64 (p 6),.int .i64 (p 7)] 101:=bk0 hW rfl;have HSW:=Bx.mk (HS.out.later HJ.out.1);clear hW HJ0 HS;clear hwn d0 d1 d2 d3 d4 d5 d6 d7 d8 d9 d10 d11 cs1;obtain ⟨cn0,cn1,cn2,cn3,cn4,cn5,cn6,cn7,cn8,cn9,cn10,cn11⟩:=kn.c12;clear Ht hnv;go_wp2_with fail;clear cn0 cn1 cn2 cn3 cn4 cn5 cn6 cn7 cn8 cn9 cn10 cn11;refine (hI.out W).mono ?_;rintro _ w1 ⟨v1,rfl,hp1⟩;obtain ⟨a1,c1,rfl,hs1⟩:=hp1.own.form;have hcv:=zAJ (P:=Tryz.prog) 107 5 9 Tryz.underlying107 Tryz.underlying5 Tryz.underlying9 hs1 _ c1 rfl;have HJ1:Bx (Below w.heap.size w w1∧Bl w1 w.heap.size .u8 z16 46):=⟨HJ.out.1.trans (hp1.bel.mono HJ.out.1.size),HJ.out.2.later hp1.bel⟩;have kn1:=Bx.mk (kn.later hp1.bel);have hsw:Bx (w.heap.size<w1.heap.size):=⟨HJ1.out.2.lt⟩;clear hp1 hs1 HJ hI kn;generalize vi (2 * d)=xs at *;go_upto_region 4 with fail;generalize hW4:World.alloc w1 _=W4
 have HI:Bx (DgI w kc d ch 0 (.slice (some ⟨w1.heap.size,0,none⟩) 1 1) W4):=by
  have hl:=Ownv.lit1 w1 (w.heap.size+1) 9 (.string (strOfNums xs)) (by have:=hsw.out;omega)
  rw [←hW4];refine ⟨⟨HJ1.out.1.alloc HJ1.out.1.size _,HJ1.out.2.alloc _,?_⟩⟩;rw [hp0.out];exact hl
 have kn4:Bk W4 W0.heap.size #[(3:Int),(0:Int),.string ByteArray.empty,(d:Int),.int .i64 (p 0),.int .i64 (p 1),.int .i64 (p 2),.int .i64 (p 3),.int .i64 (p 4),.int .i64 (p 5),.int .i64 (p 6),.int .i64 (p 7)] 101:=by rw [←hW4];exact kn1.out.alloc _
 clear hW4 HJ1 kn1 hcv hp0 hsw;have cn4:=kn4.cell 4 rfl;have cn5:=kn4.cell 5 rfl;have cn6:=kn4.cell 6 rfl;have cn7:=kn4.cell 7 rfl;have cn8:=kn4.cell 8 rfl;have cn9:=kn4.cell 9 rfl;have cn10:=kn4.cell 10 rfl;have cn11:=kn4.cell 11 rfl;clear kn4;go_wp2_with fail;clear cn4 cn5 cn6 cn7 cn8 cn9 cn10 cn11
 go_loopw [8,28] (fun v8 v28 wr => ∃ k:Nat,k≤8∧v28 = .int .i64 k∧Bx (DgI w kc d ch k v8 wr)) (fun _ v28 _=>8 - (intOf v28).toNat)
 case atStart=>exact ⟨0,Nat.zero_le _,rfl,HI⟩
 case round =>
  clear HI;obtain ⟨k,hk8,rfl,HI⟩:=hrel;by_cases hlt:k<8
  · have t0:decide ((k:Int)<8)=true:=by simp;omega
    have q0:(0:Int)≤(k:Int):=by omega
    have q1:(k:Int)<8:=by omega
    have hIk:=Bx.mk (hIH.out k hlt wr (fun j v hv=>cell_later HI.out.bel (hK.out j v hv)) (HS0.out.later HI.out.bel));have hsn:=Bx.mk (hps.out k hlt);have hlk:Bx ((zBR (zv kc d ch k)).length≤1000000000):=⟨by rw [zAn,hpl.out k (by omega)];omega⟩
    have hl16:=zEv kc (ch ⟨k,hlt⟩);have hxk:=hix.out k hlt;generalize zFA kc (ch ⟨k,hlt⟩)=xs at *;have hsz9:Bx (((xs).map (Value.int .u8)).toArray.size=16):=⟨by rw [List.size_toArray,List.length_map,hl16]⟩
    have hzz:Bx (16=(xs.map (Value.int .u8)).toArray.size):=⟨by rw [hsz9.out]⟩
    have hone9:=Bx.mk (zAR .u8 xs);go_wp2_with fail;refine hIk.out.mono ?_;rintro _ w5 ⟨rfl,hb5⟩;have HI5:Bx (DgI w kc d ch k u8 w5):=⟨HI.out.bel.trans (hb5.mono HI.out.bel.size),HI.out.kr.later hb5,HI.out.own.below hb5⟩;clear hIk hb5 HI;unfold zDr
    go_upto_region 8 with (first
     | refine zE rfl _ _ _ rfl w5.heap.size rfl _ _ rfl _ (heap_alloc_new _ _) (H2.out _ hsz9.out) hzz.out hone9.out ?_
     | fail)
    generalize hW6:World.setRow (World.alloc w5 _) _ _=W6;have hw5:w.heap.size<w5.heap.size:=HI5.out.kr.lt
    have HI6:Bx (DgI w kc d ch k u8 W6∧Bl W6 w5.heap.size .u8 xs 46):=by
     have hb6:Below w5.heap.size w5 W6:=by rw [←hW6];exact below_setRow ((Below.refl _ _).alloc (Nat.le_refl _) _) (Nat.le_refl _) _
     refine ⟨⟨HI5.out.bel.trans (hb6.mono HI5.out.bel.size),HI5.out.kr.later hb6,HI5.out.own.below hb6⟩,?_⟩;rw [←hW6];exact setRow_heap _ _ _ _ _ (0,0) (heap_alloc_new _ _)
    clear hW6 HI5;have hsl:Sl W6 .u8 (some ⟨w5.heap.size,0,none⟩) xs:=fun j x hx=>⟨_,0,rfl,by rw [Nat.zero_add];exact HI6.out.2.cell hx⟩
    have hcv:=zAJ (P:=Tryz.prog) 107 5 9 Tryz.underlying107 Tryz.underlying5 Tryz.underlying9 hsl 16 16 hl16.symm;have hle:Bx (w.heap.size+1≤W6.heap.size):=⟨by have:=HI6.out.2.lt;omega⟩
    clear hsl hl16 hw5
    go_wp2_with (first
     | (at_builtin
        refine zCT rfl _ _ 110 rfl 9 (.string ByteArray.empty) 16 (by omega) Tryz.underlying110 (by kernel_rfl) rfl (w.heap.size+1) _ (zBR (zv kc d ch k)) rfl (HI6.out.1.own.alloc _) (.string (strOfNums xs)) rfl ⟨W6.heap.size,0,none⟩ 1 rfl (zn _ _ _) hlk.out (zb hle.out _) ?_
        intro v1 w7 hown1 hg1 _))
    have HI7:Bx (DgI w kc d ch (k+1) v1 w7):=by
     have hown2:=hown1;rw [show (zBR (zv kc d ch k)++[.string (strOfNums xs)])=zBR (zv kc d ch (k+1)) by rw [hsn.out,zFH]] at hown2
     have hb7:Below (w.heap.size+1) (W6.alloc (.cells #[.string (strOfNums xs)] 9)) w7:=(Below.refl _ _).grown hg1 (zb hle.out _) (fun g hg=>(HI6.out.1.own.lt g hg).1);have hb8:Below (w.heap.size+1) W6 w7:=((Below.refl _ _).alloc hle.out _).trans hb7;exact ⟨HI6.out.1.bel.trans (hb8.mono (Nat.le_succ _)),(hb8.block _ (Nat.lt_succ_self _)).trans HI6.out.1.kr,hown2⟩
    clear hown1 hg1 HI6 hcv;go_wp2_with fail
    go_roundw
    case rel=>exact ⟨k+1,by omega,by go_num,HI7⟩
    case measure=>simp [intOf];omega
  · have t0:decide ((k:Int)<8)=false:=by simp;omega
    obtain rfl:k=8:=by omega
    have hl9:=hpl.out 8 (Nat.le_refl _);obtain ⟨a8,c8,rfl,hs8⟩:=HI.out.own.form;have hl9':(zBR (zv kc d ch 8)).length=9:=by rw [zAn];exact hl9
    rw [hl9'] at *;have hof8:=Bx.mk (hof.out a8 c8 wr hs8 (fun j v hv=>cell_later HI.out.bel (hK.out j v hv)));clear hl9 hl9' hs8 hof;go_wp2_with fail;refine hof8.out.mono ?_;rintro _ w3 ⟨rfl,hb3⟩;have HJ3:Bx (Below w.heap.size w w3∧Bl w3 w.heap.size .u8 z16 46):=⟨HI.out.bel.trans (hb3.mono HI.out.bel.size),HI.out.kr.later hb3⟩;clear hb3 HI hof8;unfold zDr;have hkr:=Bx.mk HJ3.out.2;go_wp2_with (refine zE rfl _ _ _ rfl w.heap.size rfl _ _ rfl _ hkr.out (H2.out _ hsz.out) hs2.out hone.out ?_);refine bodyPost_ret (v:=zDr .u8 os) (results_cell_row rfl _ _ w.heap.size 46 _ (0,0) _ rfl (hkr.out.whole _) Tryz.underlying46 rfl (H2.out _ hsz.out)) rfl ⟨rfl,below_setRow HJ3.out.1 (Nat.le_refl _) _⟩
end Go.Proofs.YtfcbajmjaifjlaaGreatDoor
namespace Go.Proofs.YtfcbajmjaifjlaaGreatDoor
open Go.RowKit Go.Sort Go.Maps
open Oct
structure RgI (w:World) (g:Nat) (kc:List Int) (d:Nat) (ch:Fin 8→Tr) (k:Nat) (v:Value) (wr:World):Prop where
 bel:Below w.heap.size w wr
 kr:Bl wr w.heap.size .u8 z16 46
 kids:Slv wr (some ⟨g,0,none⟩) (zBR (zAw ch))
 own:Ownv wr (w.heap.size+1) 9 v (zBR (zv kc d ch k))
 ap:v.ownBlock ≠ some g∧g<wr.heap.size
theorem RgI.later {w wr w':World} {g:Nat} {kc:List Int} {d:Nat} {ch:Fin 8→Tr} {k:Nat} {v:Value} (h:RgI w g kc d ch k v wr) (hb:Below wr.heap.size wr w'):RgI w g kc d ch k v w' :=
 ⟨h.bel.trans (hb.mono h.bel.size),h.kr.later hb,h.kids.below hb,h.own.below hb,h.ap.1,Nat.lt_of_lt_of_le h.ap.2 hb.size⟩
theorem zIV (kc:List Int) (hk:kc.length=64) (Far:Nat→Prop) (sb:Nat) (most:Int) (ts:List Tr) (hG:Good ts) (hlen:ts.length≤4194304) : ∀ (t:Tr),Tr.WF t→t∈ts → ∀ (w:World),Krow w 0 kc→StoreIs w Far sb most ts →
 Calls Tryz.prog 13 #[.pointer (some ⟨sb,0,none⟩),(idT ts t:Int)] w (zCp w (zFA kc t)):=by
 intro t
 induction t with
 | uni c =>
   intro h ht w hK hS;have h:0≤c∧c≤255:=h;obtain ⟨x,rfl⟩ : ∃ x:Nat,c=(x:Int):=⟨c.toNat,by omega⟩
   have:=zIU kc hk x (by omega) Far sb most ts ht hlen w hK hS
   unfold zFA;rwa [Int.toNat_natCast]
 | brick l =>
   intro h ht w hK hS;have h:l.length=64 ∧ ∀ x∈l,0≤x∧x≤255:=h;unfold zFA;exact zFr kc hk l h.1 h.2 Far sb most ts ht hG hlen w hK hS
 | node d ch ih =>
   intro h ht w hK hS;have h:d≤255 ∧ ∀ i,Tr.WF (ch i):=h;rw [←zH5]
   exact zGi kc hk d h.1 ch Far sb most ts ht (fun k hk8 W h1 h2=>by
    have:=ih ⟨k,hk8⟩ (h.2 _) (hG.closed.2 d ch ht _) W h1 h2;unfold zD1;rw [dif_pos hk8];exact this) hlen w hK hS
end Go.Proofs.YtfcbajmjaifjlaaGreatDoor
namespace Go.Proofs.YtfcbajmjaifjlaaGreatDoor
open Go.Sort Go.RowKit
def zGz (o:Oper):Bool:=match o.op with
 | .move _ | .assign _ | .extract .. => true
 | _=>false
theorem zDa {x:Event} : ¬x∈(#[]:Array Event):=by simp
section
variable {P:Program} {ops:Array Oper} {Q:Exit→Act→World→Prop} {a:Act} {w:World}
theorem zI5 {o:Oper} (ht:zGz o=true) {K:Act→World→Prop} (h:o.wp P a w K Q∨(o.asks P a w∧LetsOut Q)):o.quiet P a (fun w'=>w'=w) (fun a'=>K a' w):=by
 unfold zGz at ht;unfold Oper.quiet Oper.quietAt Oper.wp Oper.asks at *;obtain ⟨op,dst,g,af⟩:=o;simp only at ht;split at ht
 · rcases h with h | ⟨h,-⟩
   · exact ⟨_,fun w' e=>by subst e;exact ⟨rfl,rfl⟩,h⟩
   · exact absurd h.1 zDa
 · rcases h with h | ⟨h,-⟩
   · exact ⟨_,fun w' e=>by subst e;exact ⟨rfl,rfl⟩,h⟩
   · exact absurd h.1 zDa
 · rename_i t ix;simp only [execOp] at h ⊢;generalize a.eval t=v at *;unfold Instr.extract at h;split at h
   · rename_i vs;split at h
     · rename_i x hx;rcases h with h | ⟨h,-⟩
       · refine ⟨x,fun w' e=>?_,h⟩;subst e;rw [show Instr.extract (Value.tuple vs) ix=pure x by unfold Instr.extract;simp only [hx]]
         exact ⟨rfl,rfl⟩
       · exact absurd h.1 zDa
     · rcases h with h | ⟨h,-⟩
       · exact h.elim
       · exact absurd h.1 zDa
   · rcases h with h | ⟨h,-⟩
     · exact h.elim
     · exact absurd h.1 zDa
 · cases ht
theorem zCa : ∀ (l:List Oper) (a:Act),l.all zGz=true→wpList P ops Q l a w→wpQuiet P ops (fun w'=>w'=w) (fun a'=>Q .normal a' w) l a
 | [],_,_,h=>h
 | o :: l, a, hl, h => by
   simp only [List.all_cons,Bool.and_eq_true] at hl;unfold wpList at h;unfold wpQuiet;split
   · rename_i hw;rw [if_pos hw] at h;exact Oper.quiet_mono (fun a' h'=>zCa l a' hl.2 h') (zI5 hl.1 h)
   · rename_i hw;rw [if_neg hw] at h;exact zCa l _ hl.2 h
def zOW (md:Region.Mode) (ops:Array Oper):Nat→List Oper→Nat→Array Bool→Bool
 | 0,l,k,listed=>l.all zGz && Region.noSelect ops && Region.lexFrom md ops l.length k listed
 | _+1,[],_,listed=>(Region.ready md ops listed).isEmpty
 | m+1,_::l,k,listed=>decide (Region.ready md ops listed=[k]) && zOW md ops m l (k+1) (listed.setIfInBounds k true)
theorem zB7 {md:Region.Mode} : ∀ (m:Nat) (l:List Oper) (k:Nat) (listed:Array Bool) (a:Act) (w:World),(∀ j,l[j]? = ops[k+j]?) →
 zOW md ops m l k listed=true→wpList P ops Q l a w→wpAny P md ops Q l.length listed a w
 | 0, l, k, listed, a, w, hl, hB, h => by
   simp only [zOW,Bool.and_eq_true] at hB;exact wpAny_of_quiet (C:=fun w'=>w'=w) (Q:=fun a'=>Q .normal a' w) (fun a' w' e h'=>by subst e;exact h') _ _ _ _ rfl (wpAnyQ_lex hB.1.2 l k listed a hl hB.2 (zCa l a hB.1.1 h))
 | _+1,[],_,_,_,_,_,hB,h=>⟨by simpa [zOW] using hB,h⟩
 | m + 1, o :: l, k, listed, a, w, hl, hB, h => by
   have h0:ops[k]? = some o:=by simpa using (hl 0).symm
   simp only [zOW,Bool.and_eq_true,decide_eq_true_eq] at hB;refine ⟨fun h1=>(by rw [hB.1] at h1;cases h1),fun i hi=>?_⟩
   rw [hB.1] at hi;have hik:i=k:=by simpa using hi
   subst hik;have hw:wpOp P ops Q i (wpList P ops Q l) a w:=by unfold wpOp;simp only [h0];exact h
   exact wpOp_mono (fun a' w' h'=>zB7 m l (i+1) _ a' w' (fun j=>by have:=hl (j+1);simpa [Nat.add_assoc,Nat.add_comm 1 j] using this) hB.2 h') hw
end
def zHj (l:List Oper) (n:Nat):Bool :=
 ((List.range n).all fun k=>Region.waitsFor .any l.toArray n k || (List.range n).any fun m=>decide (k<m) && Region.waitsFor .any l.toArray m k) && (List.range l.length).all fun t=>decide (t≤n) || (List.range t).any fun u=>decide (n≤u) && Region.waitsFor .any l.toArray t u
section
variable {l:List Oper} {n:Nat}
theorem zEJ {s:Array Bool} (hs:s.size=n) {g:Nat} (hsh:zMW .any l s) (ht:zHj l n=true) (h:n∈Region.ready .any l.toArray (s++Array.replicate g false)) : ∀ (d k:Nat),n - k≤d→k<n→s.getD k false=false→False
 | 0,k,h1,h2,_=>by omega
 | d + 1, k, hd, hk, hun => by
   obtain ⟨h1,o,ho,h2⟩:=mem_ready.1 h;have ht':=ht;simp only [zHj,Bool.and_eq_true] at ht';have h3:=List.all_eq_true.1 ht'.1 k (List.mem_range.2 hk);simp only [Bool.or_eq_true] at h3;rcases h3 with h3 | h3
   · obtain ⟨o',ho',e,he,hbi,hon⟩:=Region.waitsFor_spec h3;obtain rfl:o'=o:=Option.some.inj (ho'.symm.trans ho);have:=h2 e he hbi;rw [hon,zAu hs hk,hun] at this;cases this
   · obtain ⟨m,hm,h4⟩:=List.any_eq_true.1 h3;simp only [Bool.and_eq_true,decide_eq_true_eq] at h4;have hmn:=List.mem_range.1 hm;refine zEJ hs hsh ht h d m (by omega) hmn ?_
     cases hx:s.getD m false with
     | false=>rfl
     | true=>have:=hsh m k hx h4.2;rw [hun] at this;cases this
theorem zDU {s:Array Bool} (hs:s.size=n) (hsh:zMW .any l s) {g i k:Nat} (hk:k<n) (hun:s.getD k false=false) (ht:zHj l n=true) (h:i∈Region.ready .any l.toArray (s++Array.replicate g false)):i<n:=by
 obtain ⟨h1,o,ho,h2⟩:=mem_ready.1 h;rcases Nat.lt_or_ge i n with hlt | hge
 · exact hlt
 · exfalso;have hil:i<l.length:=by have:=(Array.getElem?_eq_some_iff.1 ho).1;simpa using this
   by_cases hin:i=n
   · subst hin;exact zEJ hs hsh ht h (i - k) k (Nat.le_refl _) hk hun
   · have ht':=ht;simp only [zHj,Bool.and_eq_true] at ht';have h3:=List.all_eq_true.1 ht'.2 i (List.mem_range.2 hil);simp only [Bool.or_eq_true,decide_eq_true_eq] at h3;rcases h3 with h3 | h3
     · omega
     · obtain ⟨u,hu,h4⟩:=List.any_eq_true.1 h3;simp only [Bool.and_eq_true,decide_eq_true_eq] at h4;obtain ⟨o',ho',e,he,hbi,hon⟩:=Region.waitsFor_spec h4.2;obtain rfl:o'=o:=Option.some.inj (ho'.symm.trans ho);have:=h2 e he hbi;rw [hon,zE4 hs (by omega)] at this
       cases this
end
section
variable {P:Program} {l:List Oper} {n:Nat} {R:Nat→Value→World→Prop} {W:World} {a:Act}
theorem zJN (hn:n≤l.length) (B:RelB l n) (hb:zBo .any l n=true) (ht:zHj l n=true) (hf : ∀ i,i<n→zKn (R i)) (hd : ∀ i d,i<n→zN l i=some d→d<a.tmps.size)
 (hop : ∀ i o,i<n→l[i]? = some o → ∀ (ρ:Operand→Value) w,Below W.heap.size W w→(∀ v,ρ (.const v)=v)→(∀ g,ρ (.global g) = .pointer (some ⟨g,0,none⟩))→(∀ f,ρ (.func f) = .func (.func f) #[] #[]) →
  (∀ d,.tmp d∈o.op.operands→zC7 l n R a d (ρ (.tmp d)) w)→zAe P w (R i) ((execOp ρ o).run P w))
 {Q:Exit→Act→World→Prop} (hend : ∀ a' w',RI l n R W a (Array.replicate n true) a' w'→wpAny P .any l.toArray Q (l.length - n) (Array.replicate n true++Array.replicate (l.length - n) false) a' w') :
 ∀ (f:Nat) (s:Array Bool) (a':Act) (w':World),s.size=n→zMW .any l s→unl s=f→RI l n R W a s a' w'→wpAny P .any l.toArray Q (f+(l.length - n)) (s++Array.replicate (l.length - n) false) a' w'
 | 0, s, a', w', hs, _, hu, I => by
   have e:s=Array.replicate n true:=by rw [←hs];exact zBC hu
   rw [Nat.zero_add,e];rw [e] at I;exact hend a' w' I
 | f + 1, s, a', w', hs, hsh, hu, I => by
   obtain ⟨k,hk,hun⟩:=zCY (s:=s) (by omega)
   rw [show f+1+(l.length - n)=(f+(l.length - n))+1 by omega]
   refine ⟨fun h0=>?_,fun i hi=>?_⟩
   · obtain ⟨i,hi⟩:=zAX (g:=l.length - n) hs hn hb (k+1) k (by omega) (by omega) hun
     rw [h0] at hi;cases hi
   · have hin:=zDU hs hsh (by omega:k<n) hun ht hi
     have hiu:s.getD i true=false:=by have:=(mem_ready.1 hi).1;rwa [zAu hs hin] at this
     refine wpOp_mono (fun a'' w'' I'=>?_) (zGJ B hf hd hop hs I hin hi hiu);rw [zDs (by omega)]
     refine zJN hn B hb ht hf hd hop hend f _ a'' w'' (by simpa using hs) (zEY hsh (zBh hs hin hb hi) hin) ?_ I'
     have:=zCX (s:=s) (by omega) hiu
     omega
def zJ1 (l:List Oper) (n m:Nat):Bool :=
 decide (n<l.length) && zBo .any l n && zHj l n && relB l n && zOW .any l.toArray m (l.drop n) n (Array.replicate n true++Array.replicate (l.length - n) false)
theorem zMS {Q:Exit→Act→World→Prop} (n m:Nat) (R:Nat→Value→World→Prop) (hB:zJ1 l n m=true) (mt:Nat) (hdm:zMm l mt=true) (ham:a.tmps.size=mt)
 (hf : ∀ i,i<n→zKn (R i))
 (hop : ∀ i o,i<n→l[i]? = some o → ∀ (ρ:Operand→Value) w,Below W.heap.size W w→(∀ v,ρ (.const v)=v)→(∀ g,ρ (.global g) = .pointer (some ⟨g,0,none⟩))→(∀ f,ρ (.func f) = .func (.func f) #[] #[]) →
  (∀ d,.tmp d∈o.op.operands→zC7 l n R a d (ρ (.tmp d)) w)→zAe P w (R i) ((execOp ρ o).run P w))
 (h : ∀ (vs:List Value) w',vs.length=n→Below W.heap.size W w'→(∀ i v,vs[i]? = some v→R i v w')→wpList P l.toArray Q (l.drop n) (zAk (((l.take n).map (·.dst)).zip vs) a) w'):wpAny P .any l.toArray Q l.toArray.size (Array.replicate l.toArray.size false) a { W with drawn:=W.drawn+1 }:=by
 simp only [zJ1,Bool.and_eq_true,decide_eq_true_eq] at hB;obtain ⟨⟨⟨⟨hn,hb⟩,ht⟩,hrel⟩,hseq⟩:=hB;have B:=zDS hrel;have hd : ∀ i d,i<n→zN l i=some d→d<a.tmps.size:=fun i d _ hd=>by rw [ham];exact zCJ hdm hd
 have:=zJN (Q:=Q) (by omega) B hb ht hf hd hop (fun a' w' I=>?_) n (Array.replicate n false) a { W with drawn:=W.drawn+1 } (by simp) (fun m k h=>by
  simp only [Array.getD_eq_getD_getElem?,Array.getElem?_replicate] at h;split at h <;> simp at h) (by simp [unl])
  ⟨rfl,rfl,fun x _=>rfl,fun i d _ hs=>(by rw [getD_replicate_false] at hs;cases hs),⟨rfl,rfl,rfl,Nat.le_refl _,fun _ _=>rfl⟩⟩
 · have e:Array.replicate n false++Array.replicate (l.length - n) false=Array.replicate l.toArray.size false:=by
    rw [Array.replicate_append_replicate];congr 1;simp;omega
   rw [e,show n+(l.length - n)=l.toArray.size by simp;omega] at this
   exact this
 · have hv : ∀ i,∃ v,i<n→(∃ d,zN l i=some d∧a'.tmps[d]? = some v)∧R i v w':=by
    intro i;by_cases hi:i<n
    · obtain ⟨o,ho⟩ : ∃ o,l[i]? = some o:=⟨_,List.getElem?_eq_getElem (by omega)⟩
      obtain ⟨d,hdd⟩:=B.dst i o hi ho;have hdl:zN l i=some d:=by simp [zN,ho,hdd]
      obtain ⟨v,h1,h2⟩:=I.head i d hi (by simp [hi]) hdl
      exact ⟨v,fun _=>⟨⟨d,hdl,h1⟩,h2⟩⟩
    · exact ⟨undef,fun h=>absurd h hi⟩
   obtain ⟨g,hg⟩:=Classical.axiomOfChoice hv;have hlen:((List.range n).map g).length=n:=by simp
   have hz : ∀ i,i<n→(((l.take n).map (·.dst)).zip ((List.range n).map g))[i]? = some (zN l i,g i):=by
    intro i hi;rw [(List.getElem?_zip_eq_some (z:=(zN l i,g i))).2];refine ⟨?_,by simp [hi]⟩
    rw [List.getElem?_map,List.getElem?_take,if_pos hi];unfold zN;rw [List.getElem?_eq_getElem (show i<l.length by omega)];rfl
   have hlt : ∀ {i p},(((l.take n).map (·.dst)).zip ((List.range n).map g))[i]? = some p→i<n:=by
    intro i p hp;have:=(List.getElem?_eq_some_iff.1 hp).1;simp at this;omega
   have heq:a'=zAk (((l.take n).map (·.dst)).zip ((List.range n).map g)) a:=by
    refine zE9 ?_ fun x=>?_
    · rw [(zAq _ _).2];exact I.defers
    · by_cases hx : ∃ i,i<n∧zN l i=some x
      · obtain ⟨i,hi,hdx⟩:=hx;obtain ⟨⟨d,h1,h2⟩,_⟩:=hg i hi;rw [hdx] at h1;obtain rfl:=Option.some.inj h1;rw [h2];symm;refine zBy _ a x _ (hd i x hi hdx) ?_ (List.mem_iff_getElem?.2 ⟨i,by rw [hz i hi,hdx]⟩)
        rw [List.pairwise_iff_getElem];intro p q hp hq hpq d' e1 e2;have n1:=hz p (hlt (List.getElem?_eq_getElem hp));have n2:=hz q (hlt (List.getElem?_eq_getElem hq));rw [List.getElem?_eq_getElem hp] at n1;rw [List.getElem?_eq_getElem hq] at n2;rw [Option.some.inj n1] at e1;rw [Option.some.inj n2] at e2;exact B.dist p q d' (hlt (List.getElem?_eq_getElem hp)) (hlt (List.getElem?_eq_getElem hq)) (by omega) e1 e2
      · rw [zA0 _ _ x (fun p hp e=>by
         obtain ⟨i,hi⟩:=List.mem_iff_getElem?.1 hp;have hin:=hlt hi;rw [hz i hin] at hi;have:=Option.some.inj hi;subst this;exact hx ⟨i,hin,e⟩)]
        exact I.old x fun i hi _ e=>hx ⟨i,hi,e⟩
   have hres:=h ((List.range n).map g) w' hlen I.below (fun i v hi=>by
    have hin:i<n:=by have:=(List.getElem?_eq_some_iff.1 hi).1;simpa using this
    have:v=g i:=by simpa [hin] using hi.symm
    rw [this];exact (hg i hin).2)
   rw [←heq] at hres;have:=zB7 (P:=P) (md:=.any) (ops:=l.toArray) (Q:=Q) m (l.drop n) n (Array.replicate n true++Array.replicate (l.length - n) false) a' w' (fun j=>by simp [List.getElem?_drop]) hseq hres
   simpa using this
theorem zDy {id:Nat} {Q:Exit→Act→World→Prop} (n m:Nat) (R:Nat→Value→World→Prop) (hm:P.follows .mixedOrders=true) (hB:zJ1 l n m=true) (mt:Nat) (hdm:zMm l mt=true) (ham:a.tmps.size=mt)
 (hf : ∀ i,i<n→zKn (R i))
 (hop : ∀ i o,i<n→l[i]? = some o → ∀ (ρ:Operand→Value) w,Below W.heap.size W w→(∀ v,ρ (.const v)=v)→(∀ g,ρ (.global g) = .pointer (some ⟨g,0,none⟩))→(∀ f,ρ (.func f) = .func (.func f) #[] #[]) →
  (∀ d,.tmp d∈o.op.operands→zC7 l n R a d (ρ (.tmp d)) w)→zAe P w (R i) ((execOp ρ o).run P w))
 (h : ∀ (vs:List Value) w',vs.length=n→Below W.heap.size W w'→(∀ i v,vs[i]? = some v→R i v w')→wpList P l.toArray Q (l.drop n) (zAk (((l.take n).map (·.dst)).zip vs) a) w'):(Code.region id l.toArray true).wp P Q a W :=
 wp_region_any hm (zMS n m R hB mt hdm ham hf hop h)
end
end Go.Proofs.YtfcbajmjaifjlaaGreatDoor
end
