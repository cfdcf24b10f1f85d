/- ERPack, EPPack, ECod, Dig, Dir: joined by program, for one claim. -/
import Derived.Test.YtgnfgblkpnfcnaaGreatDoorM42
import Derived.Test.YtgnfgblkpnfcnaaGreatDoorM40
import Derived.Test.YtgnfgblkpnfcnaaGreatDoorM39
import Derived.Test.YtgnfgblkpnfcnaaGreatDoorM11
import Derived.Test.YtgnfgblkpnfcnaaGreatDoorM26
import Derived.Test.YtgnfgblkpnfcnaaGreatDoorM25
set_option linter.unusedVariables false
set_option linter.unusedSimpArgs false
section
namespace Go.Proofs.YtgnfgblkpnfcnaaGreatDoor.PalE
set_option maxRecDepth 100000
open Go.RowKit
theorem ret_str {s s':ByteArray} {a b:Int} (h1:s=s') (h2:a=b):Ending.returned (.tuple #[.string s,a])=Ending.returned (.tuple #[.string s',b]):=by rw [h1,h2]
end Go.Proofs.YtgnfgblkpnfcnaaGreatDoor.PalE
end
section
namespace Go.Proofs.YtgnfgblkpnfcnaaGreatDoor.PalE
set_option maxRecDepth 100000
open Go.RowKit
theorem put_zero (a:Option Addr) (n cap:Nat) (f:Value) (w:World) (_hl:n≤1000) :
 Calls Tryz.prog 167 #[.slice a n cap,(0:Int),f] w fun e w'=>e = .returned (.slice none 0 0)∧w=w':=by
 go_enter Tryz.func167,Tryz.ntmps167
 go_wp2
 go_ret
 exact ⟨rfl,rfl⟩
theorem put_any (wd:Nat) (hwd:Pal.Wd wd) (a:Option Addr) (cap:Nat) (xs:List Int) (pp:Addr) (pa:Option Addr) (pc:Nat) (p:List Int) (w:World) (hl:xs.length≤1000) (h:Sl w .i64 a xs)
 (hpl:p.length≤2 ^ wd) (hin : ∀ x,x∈xs→x∈p) (hc:w.cell? pp=some (.slice pa p.length pc)) (hp:Sl w .i64 pa p) :
 Calls Tryz.prog 167 #[.slice a xs.length cap,(wd:Int),.func (.func 169) #[] #[.pointer (some pp)]] w fun e w' =>
  ∃ v,e = .returned v∧Own w' w.heap.size 5 .u8 v (Pal.packs wd (fun i=>p.idxOf (xs.getD i 0)) xs.length)∧Below w.heap.size w w':=by
 rcases hwd with rfl | rfl | rfl | rfl
 · exact put_pal1 a cap xs pp pa pc p w hl h hpl hin hc hp
 · exact put_pal2 a cap xs pp pa pc p w hl h hpl hin hc hp
 · exact put_pal4 a cap xs pp pa pc p w hl h hpl hin hc hp
 · exact put_pal8 a cap xs pp pa pc p w hl h hpl hin hc hp
theorem put_width (a:Option Addr) (cap:Nat) (xs:List Int) (pp:Addr) (pa:Option Addr) (pc:Nat) (p:List Int) (w:World) (hl:xs.length≤64) (h:Sl w .i64 a xs)
 (hpl:p.length≤xs.length) (hin : ∀ x,x∈xs→x∈p) (hc:w.cell? pp=some (.slice pa p.length pc)) (hp:Sl w .i64 pa p) :
 Calls Tryz.prog 167 #[.slice a xs.length cap,.int .i64 (Pal.width p.length:Nat),.func (.func 169) #[] #[.pointer (some pp)]] w fun e w' =>
  ∃ v,e = .returned v∧Own w' w.heap.size 5 .u8 v (Pal.packs (Pal.width p.length) (fun i=>p.idxOf (xs.getD i 0)) xs.length)∧Below w.heap.size w w':=by
 by_cases h1:1<p.length
 · exact put_any _ (Pal.width_wd h1) a cap xs pp pa pc p w (by omega) h (Pal.width_fits (by omega)) hin hc hp
 · have h0:Pal.width p.length=0:=by unfold Pal.width;rw [if_pos (by omega)]
   rw [h0]
   refine (put_zero a xs.length cap _ w (by omega)).mono ?_
   rintro e w' ⟨rfl,rfl⟩
   refine ⟨_,rfl,?_,Below.refl _ _⟩
   have:Pal.packs 0 (fun i=>p.idxOf (xs.getD i 0)) xs.length=[]:=by simp [Pal.packs]
   rw [this]
   exact Own.nil _ _ _ _
set_option maxHeartbeats 1000000 in
theorem pal_pack (a:Option Addr) (cap:Nat) (xs:List Int) (w:World) (hl:xs.length≤1000) (h:Sl w .i64 a xs) :
 Calls Tryz.prog 138 #[.slice a xs.length cap] w fun e w'=>e = .returned (.tuple #[.string (strOfNums (Pal.packB xs)),.int .i64 (Pal.packE xs)])∧Below w.heap.size w w':=by
 by_cases h64:64<xs.length
 · have hbad:Pal.bad xs=true:=by simp [Pal.bad,h64]
   have h1:=Bx.mk (Pal.packB_bad hbad)
   have h2:=Bx.mk (Pal.packE_bad hbad)
   clear hbad
   generalize xs.length=n at *
   go_enter Tryz.func138,Tryz.ntmps138
   go_wp2
   go_ret2
   exact ⟨ret_str (by rw [h1.out];rfl) h2.out.symm,Below.refl _ _⟩
 cases hall:xs.all Pal.cell with
 | false =>
   have hbad:Pal.bad xs=true:=by simp [Pal.bad,hall]
   have h1:=Bx.mk (Pal.packB_bad hbad)
   have h2:=Bx.mk (Pal.packE_bad hbad)
   have hcall:=Bx.mk ((valid_pal a cap xs w (by omega) h).mono (R':=fun e w'=>e = .returned (.bool false)∧w=w') (by rw [hall];exact fun _ _ h=>h))
   clear hall hbad
   generalize xs.length=n at *
   go_enter Tryz.func138,Tryz.ntmps138
   go_wp2_with (first | (go_at_call 165;refine (hcall.out).mono ?_;rintro e w' ⟨rfl,rfl⟩))
   go_ret2
   exact ⟨ret_str (by rw [h1.out];rfl) h2.out.symm,Below.refl _ _⟩
 | true =>
   have hbad:Pal.bad xs=false:=by simp [Pal.bad,hall];omega
   have h2:=Bx.mk (Pal.packE_good hbad)
   have hcall:=Bx.mk ((valid_pal a cap xs w (by omega) h).mono (R':=fun e w'=>e = .returned (.bool true)∧w=w') (by rw [hall];exact fun _ _ h=>h))
   have Hall:=Bx.mk hall
   clear hall
   by_cases h0:xs.length=0
   · have h1:=Bx.mk (Pal.packB_nil hbad h0)
     clear hbad h
     have hb:((xs.length:Int) == 0)=true:=by simp [h0]
     generalize xs.length=n at *
     clear h0
     have hcv:=fun w:World=>conv_str (P:=Tryz.prog) (w:=w.alloc (.cells #[.int .u8 0] 5)) 84 5 9 Tryz.underlying84 Tryz.underlying5 Tryz.underlying9 (a:=some ⟨w.heap.size,0,none⟩) (xs:=[0]) (fun i x hx=>⟨w.heap.size,0,rfl,by
      match i with
      | 0=>simp at hx;subst hx;exact cell_new w (.int .u8 0) 5
      | i+1=>simp at hx⟩) 1 1 rfl
     go_enter Tryz.func138,Tryz.ntmps138
     go_wp2_with (first | (go_at_call 165;refine (hcall.out).mono ?_;rintro e w' ⟨rfl,rfl⟩))
     go_ret2
     exact ⟨ret_str (by rw [h1.out]) h2.out.symm,(Below.refl _ _).alloc (Nat.le_refl _) _⟩
   · have h1:=Bx.mk (Pal.packB_main hbad h0)
     have hb:((xs.length:Int) == 0)=false:=beq_eq_false_iff_ne.2 (by omega)
     have hmem:=Bx.mk (Pal.mem_diff xs)
     have hdl:=Pal.diff_length xs
     have hpal:=Bx.mk (different_pal a cap xs w (by omega) h)
     clear hbad
     generalize hn:xs.length=n at *
     have Hn:=Bx.mk hn;clear hn
     have hmain:Bx (Pal.packMain xs=([(n:Int),((Pal.diff xs).length:Int)]++Pal.diff xs)++Pal.packs (Pal.width (Pal.diff xs).length) (fun i=>(Pal.diff xs).idxOf (xs.getD i 0)) n):=Bx.mk (by rw [←Hn.out];rfl)
     generalize Pal.diff xs=p at *
     generalize hmd:p.length=m at *
     have Hm:=Bx.mk hmd;clear hmd
     go_enter Tryz.func138,Tryz.ntmps138
     go_wp2_with (first
      | (go_at_call 165;refine (hcall.out).mono ?_;rintro e w' ⟨rfl,rfl⟩)
      | (go_at_call 166;refine (hpal.out).mono ?_;rintro e w1 ⟨v,rfl,hown,hbel⟩;obtain ⟨pa,pc,rfl,hsl⟩:=hown.form;rw [Hm.out]))
     have hW0:Below w1.heap.size w1 (w1.alloc (.cells #[.slice pa m pc] 26)):=(Below.refl _ _).alloc (Nat.le_refl _) _
     have hcp0:(w1.alloc (.cells #[.slice pa m pc] 26)).cell? ⟨w1.heap.size,0,none⟩=some (.slice pa m pc):=cell_new _ _ _
     have hsz0:(w1.alloc (.cells #[.slice pa m pc] 26)).heap.size=w1.heap.size+1:=by simp
     generalize w1.alloc (.cells #[.slice pa m pc] 26)=w0 at *
     rw [←hsz0]
     have Hsz0:=Bx.mk hsz0
     clear hsz0
     go_loopw [5,32] (fun v i wr => ∃ k:Nat,k≤m∧i = .int .i64 k∧Own wr w0.heap.size 5 .u8 v ([(n:Int),(m:Int)]++p.take k)∧Below w0.heap.size w0 wr) (fun _ i _=>m - (intOf i).toNat)
     case atStart=>exact ⟨0,Nat.zero_le _,rfl,by rw [List.take_zero,List.append_nil];exact Own.lit w0 _ _ _ _ _ 2 (Nat.le_refl _) (by simp [maxLen]) rfl rfl,(Below.refl _ _).alloc (Nat.le_refl _) _⟩
     case round =>
      obtain ⟨k,hk,rfl,hown2,hbel2⟩:=hrel
      have hsl2:=(hsl.below hW0).below hbel2
      by_cases hlt:k<m
      · obtain ⟨x,hx⟩:=at_lt Hm hlt
        obtain ⟨b,off,rfl,hcx⟩:=hsl2 k x hx
        have hxc:0≤x∧x≤255:=by
         have h3:=(hmem.out x).1 (List.mem_of_getElem? hx)
         have h4:=List.all_eq_true.1 Hall.out x h3
         simpa [Pal.cell] using h4
        have htk:=Bx.mk (show p.take (k+1)=p.take k++[x] by rw [List.take_add_one,hx];rfl)
        have hlen:([(n:Int),(m:Int)]++p.take k).length≤100000:=by simp;omega
        obtain ⟨hx0,hx1⟩:=hxc
        clear hx
        go_wp2_with (first | (
         at_builtin
         refine wpList_append_int rfl _ _ 84 rfl 5 .u8 (.int .u8 0) 1 (by omega) Tryz.underlying84 (by kernel_rfl) rfl w0.heap.size _ _ rfl (hown2.alloc _) x ⟨wr.heap.size,0,none⟩ 1 rfl (cell_new _ _ _) (by omega) (le_alloc hbel2.size _) ?_
         intro v1 w2 hown3 hg1 _))
        go_roundw
        case rel=>exact ⟨k+1,by omega,by go_num,by rw [htk.out,←List.append_assoc];exact hown3,(hbel2.alloc hbel2.size _).grown hg1 (le_alloc hbel2.size _) (fun g hg=>(hown2.lt g hg).1)⟩
        case measure=>simp [intOf];omega
      · have hkn:k=m:=by omega
        have hpre:p.take k=p:=by rw [hkn,←Hm.out,List.take_length]
        rw [hpre] at hown2
        clear hkn hpre
        have hprel:([(n:Int),(m:Int)]++p).length≤100:=by have:=Hm.out;simp;omega
        have hpkl:(Pal.packs (Pal.width m) (fun i=>List.idxOf (xs.getD i 0) p) n).length≤1000:=by
         have hw8:Pal.width m≤8:=by unfold Pal.width;repeat (split <;> try omega)
         have:n * Pal.width m≤n * 8:=Nat.mul_le_mul_left _ hw8
         simp [Pal.packs];omega
        have hwref:=Bx.mk (fun W=>width_pal m W (by omega))
        have hput:Bx (∀ W:World,Below w.heap.size w W→Below w1.heap.size w1 W→W.cell? ⟨w1.heap.size,0,none⟩=some (.slice pa m pc)→Calls Tryz.prog 167 #[.slice a n cap,.int .i64 (Pal.width m:Nat),.func (.func 169) #[] #[.pointer (some ⟨w1.heap.size,0,none⟩)]] W fun e w' =>
         ∃ v,e = .returned v∧Own w' W.heap.size 5 .u8 v (Pal.packs (Pal.width m) (fun i=>p.idxOf (xs.getD i 0)) n)∧Below W.heap.size W w'):=Bx.mk (fun W hb1 hb2 hcW=>by
         have:=put_width a cap xs ⟨w1.heap.size,0,none⟩ pa pc p W (by have:=Hn.out;omega) (h.below hb1) (by have:=Hn.out;have:=Hm.out;omega) (fun x hx=>(hmem.out x).2 hx) (by rw [Hm.out];exact hcW) (hsl.below hb2)
         rw [Hn.out,Hm.out] at this
         exact this)
        generalize Pal.packs (Pal.width m) (fun i=>List.idxOf (xs.getD i 0) p) n=pk at *
        generalize [(n:Int),(m:Int)]++p=pre at *
        generalize Pal.width m=wd at *
        have hcp:=(hbel2.cell (p:=⟨w1.heap.size,0,none⟩) (by have:=Hsz0.out;simp;omega)).trans hcp0
        have hbw:Below w.heap.size w wr:=(hbel.trans (hW0.mono hbel.size)).trans (hbel2.mono (by have:=Hsz0.out;have:=hbel.size;omega))
        have hb1:Below w1.heap.size w1 wr:=hW0.trans (hbel2.mono (by have:=Hsz0.out;omega))
        go_wp2_with (first
         | (go_at_call 168;refine (hwref.out _).mono ?_;rintro e w3 ⟨rfl,hb3⟩;have hc3:=cell_later hb3 hcp)
         | (go_at_call 167;refine (hput.out _ (hbw.trans (hb3.mono hbw.size)) (hb1.trans (hb3.mono hb1.size)) hc3).mono ?_;rintro e w4 ⟨v4,rfl,hown4,hb4⟩;obtain ⟨a4,c4,rfl,hsl4⟩:=hown4.form)
         | (at_builtin
            refine wpList_append_ints rfl _ _ 84 rfl 5 .u8 (.int .u8 0) 1 (by omega) Tryz.underlying84 (by kernel_rfl) rfl w0.heap.size _ pre rfl ((hown2.below hb3).below hb4) pk _ _ c4 rfl rfl hsl4 (by omega) (Nat.le_trans hbel2.size (Nat.le_trans hb3.size hb4.size)) ?_
            intro v5 w5 hown5 hg5 _
            obtain ⟨a5,c5,rfl,hsl5⟩:=hown5.form
            have hcv:=conv_str (P:=Tryz.prog) 84 5 9 Tryz.underlying84 Tryz.underlying5 Tryz.underlying9 hsl5 (pre.length+pk.length) c5 (by simp)))
        go_ret2
        have hb5:Below w.heap.size w w4:=(hbw.trans (hb3.mono hbw.size)).trans (hb4.mono (Nat.le_trans hbw.size hb3.size))
        refine ⟨ret_str (by rw [h1.out,hmain.out]) h2.out.symm,hb5.grown hg5 hb5.size (fun g hg=>?_)⟩
        have:=(((hown2.below hb3).below hb4).lt g hg).1
        have:=hbel.size
        have:=Hsz0.out
        omega
end Go.Proofs.YtgnfgblkpnfcnaaGreatDoor.PalE
end
section
namespace Go.Proofs.YtgnfgblkpnfcnaaGreatDoor.PalE
set_option maxRecDepth 100000
open Go.RowKit
theorem pal_encode (a:Option Addr) (cap:Nat) (xs:List Int) (w:World) (hl:xs.length≤1000) (h:Sl w .i64 a xs) :
 Calls Tryz.prog 89 #[.slice a xs.length cap] w fun e w'=>e = .returned (.tuple #[.string (strOfNums (Pal.encB xs)),.int .i64 (Pal.encE xs)])∧Below w.heap.size w w':=by
 have hc:=Bx.mk (pal_pack a cap xs w hl h)
 by_cases h64:xs.length=64
 · have hb:((xs.length:Int) != 64)=false:=by simp;omega
   have h1:=Bx.mk (show Pal.encB xs=Pal.packB xs by simp [Pal.encB,h64])
   have h2:=Bx.mk (show Pal.encE xs=Pal.packE xs by simp [Pal.encE,h64])
   generalize Pal.encB xs=eb at *
   generalize Pal.encE xs=ee at *
   clear h64 h
   generalize xs.length=n at *
   go_enter Tryz.func89,Tryz.ntmps89
   go_wp2_with (first | (go_at_call 138;refine (hc.out).mono ?_;rintro e w1 ⟨rfl,hb1⟩))
   go_ret2
   exact ⟨ret_str (by rw [h1.out]) h2.out.symm,hb1⟩
 · have hb:((xs.length:Int) != 64)=true:=by simp;omega
   have h1:=Bx.mk (show Pal.encB xs=[] by simp [Pal.encB,h64])
   have h2:=Bx.mk (show Pal.encE xs=1 by simp [Pal.encE,h64])
   generalize Pal.encB xs=eb at *
   generalize Pal.encE xs=ee at *
   clear h64 h
   generalize xs.length=n at *
   go_enter Tryz.func89,Tryz.ntmps89
   go_wp2
   go_ret2
   exact ⟨ret_str (by rw [h1.out];rfl) h2.out.symm,Below.refl _ _⟩
end Go.Proofs.YtgnfgblkpnfcnaaGreatDoor.PalE
end
section
namespace Go.Proofs.YtgnfgblkpnfcnaaGreatDoor
open Go.RowKit Go.Sort Go.Maps
open Oct
set_option maxRecDepth 100000 in
set_option maxHeartbeats 1000000 in
theorem digest_uni (kc:List Int) (hk:kc.length=64) (x:Nat) (hx:x≤255) (Far:Nat→Prop) (sb:Nat) (most:Int) (ts:List Tr) (ht:(Tr.uni (x:Int))∈ts) (hlen:ts.length≤4194304) (w:World) (hK:Krow w 1 kc) (hS:StoreIs w Far sb most ts) :
 Calls Tryz.prog 39 #[.pointer (some ⟨sb,0,none⟩),.int .i64 (idT ts (Tr.uni (x:Int)):Int)] w (DigPost w (dig kc 1 [vi (2 * x)])):=by
 have hI:=Bx.mk (int_any x (by omega))
 have hP:Parts [vi (2 * x)]:=parts_one (byt_vi _) (by have:=vi_le (2 * x) (by omega);omega)
 have hof:=Bx.mk fun (a:Option Addr) (cap:Nat) (W:World) (h:Slv W a (strs [vi (2 * x)])) (hK:Krow W 1 kc)=>(show Calls Tryz.prog 87 #[(1:Int),.slice a 1 cap] W (fun e w'=>e = .returned (arrV .u8 (dig kc 1 [vi (2 * x)]))∧Below W.heap.size W w') from of_any kc hk 1 a cap [vi (2 * x)] hP W h hK)
 have hl16:=dig_len kc 1 [vi (2 * x)]
 have hK:=Bx.mk hK
 clear hP
 generalize dig kc 1 [vi (2 * x)]=os at *
 have hsz:Bx (((os).map (Value.int .u8)).toArray.size=16):=⟨by rw [List.size_toArray,List.length_map,hl16]⟩
 have hs2:Bx (((z16.map (Value.int .u8)).toArray).size=(os.map (Value.int .u8)).toArray.size):=⟨by rw [hsz.out];rfl⟩
 have hone:=Bx.mk (one_ints .u8 os)
 have H2:=Bx.mk (show ∀ cs:Array Value,cs.size=16→(Tryz.prog.info? 43).map (·.size)=some cs.size from fun cs h=>by rw [h];kernel_rfl)
 clear hl16
 have HS:=Bx.mk hS
 have HS0:=HS
 have Ht:=Bx.mk ht
 clear hS
 go_enter Tryz.func39,Tryz.ntmps39
 go_upto_region 1 with fail
 generalize hW0:World.alloc w _=W0
 have HJ0:Bx (Below w.heap.size w W0∧Bl W0 w.heap.size .u8 z16 43∧W0.heap.size=w.heap.size+1):=by
  rw [←hW0]
  exact ⟨⟨(Below.refl _ _).alloc (Nat.le_refl _) _,(blk_new _ _ _ rfl:Bk _ _ _ _),by simp⟩⟩
 clear hW0
 obtain ⟨g,cap,mb,ks,hi,hc⟩:=Bx.node (HS.out.later HJ0.out.1) Ht.out (k:=1) (c:=(x:Int)) rfl
 have b1:(0:Int)≤(idT ts (Tr.uni (x:Int)):Int):=by omega
 have b2:(idT ts (Tr.uni (x:Int)):Int)<(ts.length:Int):=by omega
 have cs1:=ks.cell 1 rfl
 have d0:W0.cell? ⟨g,idT ts (Tr.uni (x:Int)) * 12,none⟩=some (.int .i64 1):=hc.out 0 _ (by omega) rfl
 have d1:W0.cell? ⟨g,idT ts (Tr.uni (x:Int)) * 12+1,none⟩=some (.int .i64 (x:Int)):=hc.out 1 _ (by omega) rfl
 have d2:W0.cell? ⟨g,idT ts (Tr.uni (x:Int)) * 12+2,none⟩=some (.string ByteArray.empty):=hc.out 2 _ (by omega) rfl
 have d3:W0.cell? ⟨g,idT ts (Tr.uni (x:Int)) * 12+3,none⟩=some (.int .i64 0):=hc.out 3 _ (by omega) rfl
 have d4:W0.cell? ⟨g,idT ts (Tr.uni (x:Int)) * 12+4,none⟩=some (_):=hc.out 4 _ (by omega) rfl
 have d5:W0.cell? ⟨g,idT ts (Tr.uni (x:Int)) * 12+5,none⟩=some (_):=hc.out 5 _ (by omega) rfl
 have d6:W0.cell? ⟨g,idT ts (Tr.uni (x:Int)) * 12+6,none⟩=some (_):=hc.out 6 _ (by omega) rfl
 have d7:W0.cell? ⟨g,idT ts (Tr.uni (x:Int)) * 12+7,none⟩=some (_):=hc.out 7 _ (by omega) rfl
 have d8:W0.cell? ⟨g,idT ts (Tr.uni (x:Int)) * 12+8,none⟩=some (_):=hc.out 8 _ (by omega) rfl
 have d9:W0.cell? ⟨g,idT ts (Tr.uni (x:Int)) * 12+9,none⟩=some (_):=hc.out 9 _ (by omega) rfl
 have d10:W0.cell? ⟨g,idT ts (Tr.uni (x:Int)) * 12+10,none⟩=some (_):=hc.out 10 _ (by omega) rfl
 have d11:W0.cell? ⟨g,idT ts (Tr.uni (x:Int)) * 12+11,none⟩=some (_):=hc.out 11 _ (by omega) rfl
 clear ks hc hi
 generalize idT ts (Tr.uni (x:Int))=i at *
 generalize ts.length=n at *
 go_upto_region 2 with fail
 generalize hW:World.alloc W0 _=W
 have HJ:Bx (Below w.heap.size w W∧Bl W w.heap.size .u8 z16 43):=by
  rw [←hW]
  exact ⟨⟨HJ0.out.1.alloc HJ0.out.1.size _,HJ0.out.2.1.alloc _⟩⟩
 have hwn:W0.heap.size=w.heap.size+1:=HJ0.out.2.2
 have kn:Bk W W0.heap.size #[(1:Int),(x:Int),.string ByteArray.empty,(0:Int),(0:Int),(0:Int),(0:Int),(0:Int),(0:Int),(0:Int),(0:Int),(0:Int)] 111:=bk0 hW rfl
 have HSW:=Bx.mk (HS.out.later HJ.out.1)
 clear hW HJ0 HS
 clear hwn d0 d1 d2 d3 d4 d5 d6 d7 d8 d9 d10 d11 cs1
 obtain ⟨cn0,cn1,cn2,cn3,cn4,cn5,cn6,cn7,cn8,cn9,cn10,cn11⟩:=kn.c12
 go_wp2_with fail
 clear cn0 cn1 cn2 cn3 cn4 cn5 cn6 cn7 cn8 cn9 cn10 cn11 kn
 refine (hI.out W).mono ?_
 rintro _ w1 ⟨v1,rfl,hp1⟩
 obtain ⟨a1,c1,rfl,hs1⟩:=hp1.own.form
 have hcv:=conv_str (P:=Tryz.prog) 84 5 9 Tryz.underlying84 Tryz.underlying5 Tryz.underlying9 hs1 _ c1 rfl
 have HJ1:Bx (Below w.heap.size w w1∧Bl w1 w.heap.size .u8 z16 43):=⟨HJ.out.1.trans (hp1.bel.mono HJ.out.1.size),HJ.out.2.later hp1.bel⟩
 clear hp1 hs1 HJ hI
 generalize vi (2 * x)=xs at *
 go_wp2_with fail
 refine (hof.out _ 1 _ (slv_lit w1 xs _) (fun j v hv=>cell_later (HJ1.out.1.alloc HJ1.out.1.size _) (hK.out j v hv))).mono ?_
 rintro _ w3 ⟨rfl,hb3⟩
 have HJ3:Bx (Below w.heap.size w w3∧Bl w3 w.heap.size .u8 z16 43):=⟨(HJ1.out.1.alloc HJ1.out.1.size _).trans (hb3.mono (HJ1.out.1.alloc HJ1.out.1.size _).size),(HJ1.out.2.alloc _).later hb3⟩
 clear hb3 HJ1 hcv hof
 unfold arrV
 have hkr:=Bx.mk HJ3.out.2
 go_wp2_with (refine wpList_store_whole rfl _ _ _ rfl w.heap.size rfl _ _ rfl _ hkr.out (H2.out _ hsz.out) hs2.out hone.out ?_)
 refine bodyPost_ret (v:=arrV .u8 os) (results_cell_row rfl _ _ w.heap.size 43 _ (0,0) _ rfl (hkr.out.whole _) Tryz.underlying43 rfl (H2.out _ hsz.out)) rfl ⟨rfl,below_setRow HJ3.out.1 (Nat.le_refl _) _⟩
set_option maxRecDepth 100000 in
set_option maxHeartbeats 1000000 in
theorem digest_brick (kc:List Int) (hk:kc.length=64) (l:List Int) (hl:l.length=64) (hbl:Byt l) (Far:Nat→Prop) (sb:Nat) (most:Int) (ts:List Tr) (ht:(Tr.brick l)∈ts) (hG:Good ts) (hlen:ts.length≤4194304) (w:World) (hK:Krow w 1 kc) (hS:StoreIs w Far sb most ts) :
 Calls Tryz.prog 39 #[.pointer (some ⟨sb,0,none⟩),(idT ts (Tr.brick l):Int)] w (DigPost w (dig kc 2 [PalE.Pal.encB l])):=by
 have hC:=Bx.mk fun (W:World) (h:StoreIs W Far sb most ts)=>(cells_any W Far sb most ts (.brick l) ht hG (by omega) h).mono (R':=fun e w' => ∃ v,e = .returned v∧Own w' W.heap.size 3 .i64 v l∧Below W.heap.size W w') (fun _ _ h=>h)
 have hE:=Bx.mk fun (a:Option Addr) (cap:Nat) (W:World) (h:Sl W .i64 a l)=>PalE.pal_encode a cap l W (by omega) h
 have hP:Parts [PalE.Pal.encB l]:=parts_one (byt_encB hl hbl) (by have:=encB_short hl;omega)
 have hof:=Bx.mk fun (a:Option Addr) (cap:Nat) (W:World) (h:Slv W a (strs [PalE.Pal.encB l])) (hK:Krow W 1 kc)=>(show Calls Tryz.prog 87 #[(2:Int),.slice a 1 cap] W (fun e w'=>e = .returned (arrV .u8 (dig kc 2 [PalE.Pal.encB l]))∧Below W.heap.size W w') from of_any kc hk 2 a cap [PalE.Pal.encB l] hP W h hK)
 have hl16:=dig_len kc 2 [PalE.Pal.encB l]
 have hK:=Bx.mk hK
 clear hP
 generalize dig kc 2 [PalE.Pal.encB l]=os at *
 have hsz:Bx (((os).map (Value.int .u8)).toArray.size=16):=⟨by rw [List.size_toArray,List.length_map,hl16]⟩
 have hs2:Bx (((z16.map (Value.int .u8)).toArray).size=(os.map (Value.int .u8)).toArray.size):=⟨by rw [hsz.out];rfl⟩
 have hone:=Bx.mk (one_ints .u8 os)
 have H2:=Bx.mk (show ∀ cs:Array Value,cs.size=16→(Tryz.prog.info? 43).map (·.size)=some cs.size from fun cs h=>by rw [h];kernel_rfl)
 clear hl16
 clear hl
 have HS:=Bx.mk hS
 have HS0:=HS
 have Ht:=Bx.mk ht
 clear hS
 go_enter Tryz.func39,Tryz.ntmps39
 go_upto_region 1 with fail
 generalize hW0:World.alloc w _=W0
 have HJ0:Bx (Below w.heap.size w W0∧Bl W0 w.heap.size .u8 z16 43∧W0.heap.size=w.heap.size+1):=by
  rw [←hW0]
  exact ⟨⟨(Below.refl _ _).alloc (Nat.le_refl _) _,(blk_new _ _ _ rfl:Bk _ _ _ _),by simp⟩⟩
 clear hW0
 obtain ⟨g,cap,mb,ks,hi,hc⟩:=Bx.node (HS.out.later HJ0.out.1) Ht.out (k:=2) (s:=(strOfNums l)) rfl
 have b1:(0:Int)≤(idT ts (Tr.brick l):Int):=by omega
 have b2:(idT ts (Tr.brick l):Int)<(ts.length:Int):=by omega
 have cs1:=ks.cell 1 rfl
 have d0:W0.cell? ⟨g,idT ts (Tr.brick l) * 12,none⟩=some (.int .i64 2):=hc.out 0 _ (by omega) rfl
 have d1:W0.cell? ⟨g,idT ts (Tr.brick l) * 12+1,none⟩=some (.int .i64 0):=hc.out 1 _ (by omega) rfl
 have d2:W0.cell? ⟨g,idT ts (Tr.brick l) * 12+2,none⟩=some (.string (strOfNums l)):=hc.out 2 _ (by omega) rfl
 have d3:W0.cell? ⟨g,idT ts (Tr.brick l) * 12+3,none⟩=some (.int .i64 2):=hc.out 3 _ (by omega) rfl
 have d4:W0.cell? ⟨g,idT ts (Tr.brick l) * 12+4,none⟩=some (_):=hc.out 4 _ (by omega) rfl
 have d5:W0.cell? ⟨g,idT ts (Tr.brick l) * 12+5,none⟩=some (_):=hc.out 5 _ (by omega) rfl
 have d6:W0.cell? ⟨g,idT ts (Tr.brick l) * 12+6,none⟩=some (_):=hc.out 6 _ (by omega) rfl
 have d7:W0.cell? ⟨g,idT ts (Tr.brick l) * 12+7,none⟩=some (_):=hc.out 7 _ (by omega) rfl
 have d8:W0.cell? ⟨g,idT ts (Tr.brick l) * 12+8,none⟩=some (_):=hc.out 8 _ (by omega) rfl
 have d9:W0.cell? ⟨g,idT ts (Tr.brick l) * 12+9,none⟩=some (_):=hc.out 9 _ (by omega) rfl
 have d10:W0.cell? ⟨g,idT ts (Tr.brick l) * 12+10,none⟩=some (_):=hc.out 10 _ (by omega) rfl
 have d11:W0.cell? ⟨g,idT ts (Tr.brick l) * 12+11,none⟩=some (_):=hc.out 11 _ (by omega) rfl
 clear ks hc hi
 generalize idT ts (Tr.brick l)=i at *
 generalize ts.length=n at *
 go_upto_region 2 with fail
 generalize hW:World.alloc W0 _=W
 have HJ:Bx (Below w.heap.size w W∧Bl W w.heap.size .u8 z16 43):=by
  rw [←hW]
  exact ⟨⟨HJ0.out.1.alloc HJ0.out.1.size _,HJ0.out.2.1.alloc _⟩⟩
 have hwn:W0.heap.size=w.heap.size+1:=HJ0.out.2.2
 have kn:Bk W W0.heap.size #[(2:Int),(0:Int),.string (strOfNums l),(2:Int),(0:Int),(0:Int),(0:Int),(0:Int),(0:Int),(0:Int),(0:Int),(0:Int)] 111:=bk0 hW rfl
 have HSW:=Bx.mk (HS.out.later HJ.out.1)
 clear hW HJ0 HS
 clear hwn d0 d1 d2 d3 d4 d5 d6 d7 d8 d9 d10 d11 cs1
 obtain ⟨cn0,cn1,cn2,cn3,cn4,cn5,cn6,cn7,cn8,cn9,cn10,cn11⟩:=kn.c12
 clear Ht
 go_wp2_with fail
 clear cn0 cn1 cn2 cn3 cn4 cn5 cn6 cn7 cn8 cn9 cn10 cn11 kn
 refine (hC.out W HSW.out).mono ?_
 rintro _ w1 ⟨v1,rfl,how,hb1⟩
 obtain ⟨a1,c1,rfl,hs1⟩:=how.form
 have HJ1:Bx (Below w.heap.size w w1∧Bl w1 w.heap.size .u8 z16 43):=⟨HJ.out.1.trans (hb1.mono HJ.out.1.size),HJ.out.2.later hb1⟩
 replace hE:=Bx.mk (hE.out a1 c1 w1 hs1)
 clear how hs1 HJ HSW hC hb1
 generalize PalE.Pal.encB l=xs at *
 go_wp2_with fail
 refine hE.out.mono ?_
 rintro _ w2 ⟨rfl,hb2⟩
 have HJ2:Bx (Below w.heap.size w w2∧Bl w2 w.heap.size .u8 z16 43):=⟨HJ1.out.1.trans (hb2.mono HJ1.out.1.size),HJ1.out.2.later hb2⟩
 clear hE HJ1 hb2
 go_wp2_with fail
 refine (hof.out _ 1 _ (slv_lit w2 xs _) (fun j v hv=>cell_later (HJ2.out.1.alloc HJ2.out.1.size _) (hK.out j v hv))).mono ?_
 rintro _ w3 ⟨rfl,hb3⟩
 have HJ3:Bx (Below w.heap.size w w3∧Bl w3 w.heap.size .u8 z16 43):=⟨(HJ2.out.1.alloc HJ2.out.1.size _).trans (hb3.mono (HJ2.out.1.alloc HJ2.out.1.size _).size),(HJ2.out.2.alloc _).later hb3⟩
 clear hb3 HJ2 hof
 unfold arrV
 have hkr:=Bx.mk HJ3.out.2
 go_wp2_with (refine wpList_store_whole rfl _ _ _ rfl w.heap.size rfl _ _ rfl _ hkr.out (H2.out _ hsz.out) hs2.out hone.out ?_)
 refine bodyPost_ret (v:=arrV .u8 os) (results_cell_row rfl _ _ w.heap.size 43 _ (0,0) _ rfl (hkr.out.whole _) Tryz.underlying43 rfl (H2.out _ hsz.out)) rfl ⟨rfl,below_setRow HJ3.out.1 (Nat.le_refl _) _⟩
theorem idx8 (p:Nat→Int) (k:Nat) (hk:k<8) (W:World):(Instr.index 54 (.agg #[.int .i64 (p 0),.int .i64 (p 1),.int .i64 (p 2),.int .i64 (p 3),.int .i64 (p 4),.int .i64 (p 5),.int .i64 (p 6),.int .i64 (p 7)]) (.int .i64 (k:Int))).run Tryz.prog W = .ok (.int .i64 (p k)) W:=by
 have hu:=Tryz.underlying54
 have h1 : Tryz.prog.cellsOf 3=1:=by kernel_rfl
 have hc:(#[Value.int .i64 (p 0),.int .i64 (p 1),.int .i64 (p 2),.int .i64 (p 3),.int .i64 (p 4),.int .i64 (p 5),.int .i64 (p 6),.int .i64 (p 7)]:Array Value)[k]? = some (.int .i64 (p k)):=by
  have h0:k=0∨k=1∨k=2∨k=3∨k=4∨k=5∨k=6∨k=7:=by omega
  rcases h0 with rfl | rfl | rfl | rfl | rfl | rfl | rfl | rfl <;> rfl
 have h0:(0:Int)≤(k:Int)∧(k:Int)<8:=by omega
 generalize (#[Value.int .i64 (p 0),.int .i64 (p 1),.int .i64 (p 2),.int .i64 (p 3),.int .i64 (p 4),.int .i64 (p 5),.int .i64 (p 6),.int .i64 (p 7)]:Array Value)=cs at *
 simp [Instr.index,run_underlying hu,asIntOf,h0,go_sem]
 rw [if_pos hk,hc]
 rfl
structure DgI (w:World) (kc:List Int) (d:Nat) (ch:Fin 8→Tr) (k:Nat) (v:Value) (wr:World):Prop where
 bel:Below w.heap.size w wr
 kr:Bl wr w.heap.size .u8 z16 43
 own:Ownv wr (w.heap.size+1) 9 v (strs (partsD kc d ch k))
set_option maxRecDepth 100000 in
set_option maxHeartbeats 1000000 in
theorem digest_node (kc:List Int) (hk:kc.length=64) (d:Nat) (hd:d≤255) (ch:Fin 8→Tr) (Far:Nat→Prop) (sb:Nat) (most:Int) (ts:List Tr) (ht:(Tr.node d ch)∈ts) (hIH : ∀ k (hk:k<8) W,Krow W 1 kc→StoreIs W Far sb most ts→Calls Tryz.prog 39 #[.pointer (some ⟨sb,0,none⟩),.int .i64 (kidX ts ch k)] W (DigPost W (digT kc (ch ⟨k,hk⟩)))) (hlen:ts.length≤4194304) (w:World) (hK:Krow w 1 kc) (hS:StoreIs w Far sb most ts) :
 Calls Tryz.prog 39 #[.pointer (some ⟨sb,0,none⟩),(idT ts (Tr.node d ch):Int)] w (DigPost w (dig kc 3 (partsD kc d ch 8))):=by
 have hI:=Bx.mk (int_any d (by omega))
 have hIH:=Bx.mk fun k (hk:k<8) W (h1:Krow W 1 kc) (h2:StoreIs W Far sb most ts)=>(hIH k hk W h1 h2).mono (R':=fun e w'=>e = .returned (arrV .u8 (digT kc (ch ⟨k,hk⟩)))∧Below W.heap.size W w') (fun _ _ h=>h)
 have hP:Parts (partsD kc d ch 8):=partsD_ok kc ch (by omega)
 have hlp:(partsD kc d ch 8).length=9:=partsD_len kc d ch (Nat.le_refl _)
 have hof:=Bx.mk fun (a:Option Addr) (cap:Nat) (W:World) (h:Slv W a (strs (partsD kc d ch 8))) (hK:Krow W 1 kc)=>(show Calls Tryz.prog 87 #[(3:Int),.slice a 9 cap] W (fun e w'=>e = .returned (arrV .u8 (dig kc 3 (partsD kc d ch 8)))∧Below W.heap.size W w') from by have:=of_any kc hk 3 a cap (partsD kc d ch 8) hP W h hK;rw [hlp] at this;exact this)
 have hl16:=dig_len kc 3 (partsD kc d ch 8)
 have hK:=Bx.mk hK
 clear hP
 clear hlp
 generalize dig kc 3 (partsD kc d ch 8)=os at *
 have hsz:Bx (((os).map (Value.int .u8)).toArray.size=16):=⟨by rw [List.size_toArray,List.length_map,hl16]⟩
 have hs2:Bx (((z16.map (Value.int .u8)).toArray).size=(os.map (Value.int .u8)).toArray.size):=⟨by rw [hsz.out];rfl⟩
 have hone:=Bx.mk (one_ints .u8 os)
 have H2:=Bx.mk (show ∀ cs:Array Value,cs.size=16→(Tryz.prog.info? 43).map (·.size)=some cs.size from fun cs h=>by rw [h];kernel_rfl)
 clear hl16
 have hps:=Bx.mk fun k (hk:k<8)=>partsD_snoc kc d ch hk
 have hpl:=Bx.mk fun k (hk:k≤8)=>partsD_len kc d ch hk
 have hp0:Bx (partsD kc d ch 0=[vi (2 * d)]):=⟨rfl⟩
 have hX : ∀ k (hk:k<8),kidX ts ch k=(idT ts (ch ⟨k,hk⟩):Int):=fun k hk=>by unfold kidX;rw [dif_pos hk]
 have hnv:nodeV ts (.node d ch)=nodeA 3 0 ByteArray.empty d (kidX ts ch 0) (kidX ts ch 1) (kidX ts ch 2) (kidX ts ch 3) (kidX ts ch 4) (kidX ts ch 5) (kidX ts ch 6) (kidX ts ch 7):=rfl
 clear hX
 generalize hkp:kidX ts ch=p at *
 clear hkp
 have hix:=Bx.mk (idx8 p)
 have HS:=Bx.mk hS
 have HS0:=HS
 have Ht:=Bx.mk ht
 clear hS
 go_enter Tryz.func39,Tryz.ntmps39
 go_upto_region 1 with fail
 generalize hW0:World.alloc w _=W0
 have HJ0:Bx (Below w.heap.size w W0∧Bl W0 w.heap.size .u8 z16 43∧W0.heap.size=w.heap.size+1):=by
  rw [←hW0]
  exact ⟨⟨(Below.refl _ _).alloc (Nat.le_refl _) _,(blk_new _ _ _ rfl:Bk _ _ _ _),by simp⟩⟩
 clear hW0
 obtain ⟨g,cap,mb,ks,hi,hc⟩:=Bx.node (HS.out.later HJ0.out.1) Ht.out (k:=3) hnv
 have b1:(0:Int)≤(idT ts (Tr.node d ch):Int):=by omega
 have b2:(idT ts (Tr.node d ch):Int)<(ts.length:Int):=by omega
 have cs1:=ks.cell 1 rfl
 have d0:W0.cell? ⟨g,idT ts (Tr.node d ch) * 12,none⟩=some (.int .i64 3):=hc.out 0 _ (by omega) rfl
 have d1:W0.cell? ⟨g,idT ts (Tr.node d ch) * 12+1,none⟩=some (.int .i64 0):=hc.out 1 _ (by omega) rfl
 have d2:W0.cell? ⟨g,idT ts (Tr.node d ch) * 12+2,none⟩=some (.string ByteArray.empty):=hc.out 2 _ (by omega) rfl
 have d3:W0.cell? ⟨g,idT ts (Tr.node d ch) * 12+3,none⟩=some (.int .i64 (d:Int)):=hc.out 3 _ (by omega) rfl
 have d4:W0.cell? ⟨g,idT ts (Tr.node d ch) * 12+4,none⟩=some (_):=hc.out 4 _ (by omega) rfl
 have d5:W0.cell? ⟨g,idT ts (Tr.node d ch) * 12+5,none⟩=some (_):=hc.out 5 _ (by omega) rfl
 have d6:W0.cell? ⟨g,idT ts (Tr.node d ch) * 12+6,none⟩=some (_):=hc.out 6 _ (by omega) rfl
 have d7:W0.cell? ⟨g,idT ts (Tr.node d ch) * 12+7,none⟩=some (_):=hc.out 7 _ (by omega) rfl
 have d8:W0.cell? ⟨g,idT ts (Tr.node d ch) * 12+8,none⟩=some (_):=hc.out 8 _ (by omega) rfl
 have d9:W0.cell? ⟨g,idT ts (Tr.node d ch) * 12+9,none⟩=some (_):=hc.out 9 _ (by omega) rfl
 have d10:W0.cell? ⟨g,idT ts (Tr.node d ch) * 12+10,none⟩=some (_):=hc.out 10 _ (by omega) rfl
 have d11:W0.cell? ⟨g,idT ts (Tr.node d ch) * 12+11,none⟩=some (_):=hc.out 11 _ (by omega) rfl
 clear ks hc hi
 generalize idT ts (Tr.node d ch)=i at *
 generalize ts.length=n at *
 go_upto_region 2 with fail
 generalize hW:World.alloc W0 _=W
 have HJ:Bx (Below w.heap.size w W∧Bl W w.heap.size .u8 z16 43):=by
  rw [←hW]
  exact ⟨⟨HJ0.out.1.alloc HJ0.out.1.size _,HJ0.out.2.1.alloc _⟩⟩
 have hwn:W0.heap.size=w.heap.size+1:=HJ0.out.2.2
 have kn:Bk W W0.heap.size #[(3:Int),(0:Int),.string ByteArray.empty,(d:Int),.int .i64 (p 0),.int .i64 (p 1),.int .i64 (p 2),.int .i64 (p 3),.int .i64 (p 4),.int .i64 (p 5),.int .i64 (p 6),.int .i64 (p 7)] 111:=bk0 hW rfl
 have HSW:=Bx.mk (HS.out.later HJ.out.1)
 clear hW HJ0 HS
 clear hwn d0 d1 d2 d3 d4 d5 d6 d7 d8 d9 d10 d11 cs1
 obtain ⟨cn0,cn1,cn2,cn3,cn4,cn5,cn6,cn7,cn8,cn9,cn10,cn11⟩:=kn.c12
 clear Ht hnv
 go_wp2_with fail
 clear cn0 cn1 cn2 cn3 cn4 cn5 cn6 cn7 cn8 cn9 cn10 cn11
 refine (hI.out W).mono ?_
 rintro _ w1 ⟨v1,rfl,hp1⟩
 obtain ⟨a1,c1,rfl,hs1⟩:=hp1.own.form
 have hcv:=conv_str (P:=Tryz.prog) 84 5 9 Tryz.underlying84 Tryz.underlying5 Tryz.underlying9 hs1 _ c1 rfl
 have HJ1:Bx (Below w.heap.size w w1∧Bl w1 w.heap.size .u8 z16 43):=⟨HJ.out.1.trans (hp1.bel.mono HJ.out.1.size),HJ.out.2.later hp1.bel⟩
 have kn1:=Bx.mk (kn.later hp1.bel)
 have hsw:Bx (w.heap.size<w1.heap.size):=⟨HJ1.out.2.lt⟩
 clear hp1 hs1 HJ hI kn
 generalize vi (2 * d)=xs at *
 go_upto_region 4 with fail
 generalize hW4:World.alloc w1 _=W4
 have HI:Bx (DgI w kc d ch 0 (.slice (some ⟨w1.heap.size,0,none⟩) 1 1) W4):=by
  have hl:=Ownv.lit1 w1 (w.heap.size+1) 9 (.string (strOfNums xs)) (by have:=hsw.out;omega)
  rw [←hW4]
  refine ⟨⟨HJ1.out.1.alloc HJ1.out.1.size _,HJ1.out.2.alloc _,?_⟩⟩
  rw [hp0.out]
  exact hl
 have kn4:Bk W4 W0.heap.size #[(3:Int),(0:Int),.string ByteArray.empty,(d:Int),.int .i64 (p 0),.int .i64 (p 1),.int .i64 (p 2),.int .i64 (p 3),.int .i64 (p 4),.int .i64 (p 5),.int .i64 (p 6),.int .i64 (p 7)] 111:=by rw [←hW4];exact kn1.out.alloc _
 clear hW4 HJ1 kn1 hcv hp0 hsw
 have cn4:=kn4.cell 4 rfl
 have cn5:=kn4.cell 5 rfl
 have cn6:=kn4.cell 6 rfl
 have cn7:=kn4.cell 7 rfl
 have cn8:=kn4.cell 8 rfl
 have cn9:=kn4.cell 9 rfl
 have cn10:=kn4.cell 10 rfl
 have cn11:=kn4.cell 11 rfl
 clear kn4
 go_wp2_with fail
 clear cn4 cn5 cn6 cn7 cn8 cn9 cn10 cn11
 go_loopw [8,28] (fun v8 v28 wr => ∃ k:Nat,k≤8∧v28 = .int .i64 k∧Bx (DgI w kc d ch k v8 wr)) (fun _ v28 _=>8 - (intOf v28).toNat)
 case atStart=>exact ⟨0,Nat.zero_le _,rfl,HI⟩
 case round =>
  clear HI
  obtain ⟨k,hk8,rfl,HI⟩:=hrel
  by_cases hlt:k<8
  · have t0:decide ((k:Int)<8)=true:=by simp;omega
    have q0:(0:Int)≤(k:Int):=by omega
    have q1:(k:Int)<8:=by omega
    have hIk:=Bx.mk (hIH.out k hlt wr (fun j v hv=>cell_later HI.out.bel (hK.out j v hv)) (HS0.out.later HI.out.bel))
    have hsn:=Bx.mk (hps.out k hlt)
    have hlk:Bx ((strs (partsD kc d ch k)).length≤1000000000):=⟨by rw [strs_length,hpl.out k (by omega)];omega⟩
    have hl16:=digT_len kc (ch ⟨k,hlt⟩)
    have hxk:=hix.out k hlt
    generalize digT kc (ch ⟨k,hlt⟩)=xs at *
    have hsz9:Bx (((xs).map (Value.int .u8)).toArray.size=16):=⟨by rw [List.size_toArray,List.length_map,hl16]⟩
    have hzz:Bx (16=(xs.map (Value.int .u8)).toArray.size):=⟨by rw [hsz9.out]⟩
    have hone9:=Bx.mk (one_ints .u8 xs)
    go_wp2_with fail
    refine hIk.out.mono ?_
    rintro _ w5 ⟨rfl,hb5⟩
    have HI5:Bx (DgI w kc d ch k u8 w5):=⟨HI.out.bel.trans (hb5.mono HI.out.bel.size),HI.out.kr.later hb5,HI.out.own.below hb5⟩
    clear hIk hb5 HI
    unfold arrV
    go_upto_region 8 with (first
     | refine wpList_store_whole rfl _ _ _ rfl w5.heap.size rfl _ _ rfl _ (heap_alloc_new _ _) (H2.out _ hsz9.out) hzz.out hone9.out ?_
     | fail)
    generalize hW6:World.setRow (World.alloc w5 _) _ _=W6
    have hw5:w.heap.size<w5.heap.size:=HI5.out.kr.lt
    have HI6:Bx (DgI w kc d ch k u8 W6∧Bl W6 w5.heap.size .u8 xs 43):=by
     have hb6:Below w5.heap.size w5 W6:=by rw [←hW6];exact below_setRow ((Below.refl _ _).alloc (Nat.le_refl _) _) (Nat.le_refl _) _
     refine ⟨⟨HI5.out.bel.trans (hb6.mono HI5.out.bel.size),HI5.out.kr.later hb6,HI5.out.own.below hb6⟩,?_⟩
     rw [←hW6]
     exact setRow_heap _ _ _ _ _ (0,0) (heap_alloc_new _ _)
    clear hW6 HI5
    have hsl:Sl W6 .u8 (some ⟨w5.heap.size,0,none⟩) xs:=fun j x hx=>⟨_,0,rfl,by rw [Nat.zero_add];exact HI6.out.2.cell hx⟩
    have hcv:=conv_str (P:=Tryz.prog) 84 5 9 Tryz.underlying84 Tryz.underlying5 Tryz.underlying9 hsl 16 16 hl16.symm
    have hle:Bx (w.heap.size+1≤W6.heap.size):=⟨by have:=HI6.out.2.lt;omega⟩
    clear hsl hl16 hw5
    go_wp2_with (first
     | (at_builtin
        refine wpList_append_val rfl _ _ 37 rfl 9 (.string ByteArray.empty) 16 (by omega) Tryz.underlying37 (by kernel_rfl) rfl (w.heap.size+1) _ (strs (partsD kc d ch k)) rfl (HI6.out.1.own.alloc _) (.string (strOfNums xs)) rfl ⟨W6.heap.size,0,none⟩ 1 rfl (cell_new _ _ _) hlk.out (le_alloc hle.out _) ?_
        intro v1 w7 hown1 hg1 _))
    have HI7:Bx (DgI w kc d ch (k+1) v1 w7):=by
     have hown2:=hown1
     rw [show (strs (partsD kc d ch k)++[.string (strOfNums xs)])=strs (partsD kc d ch (k+1)) by rw [hsn.out,strs_snoc]] at hown2
     have hb7:Below (w.heap.size+1) (W6.alloc (.cells #[.string (strOfNums xs)] 9)) w7:=(Below.refl _ _).grown hg1 (le_alloc hle.out _) (fun g hg=>(HI6.out.1.own.lt g hg).1)
     have hb8:Below (w.heap.size+1) W6 w7:=((Below.refl _ _).alloc hle.out _).trans hb7
     exact ⟨HI6.out.1.bel.trans (hb8.mono (Nat.le_succ _)),(hb8.block _ (Nat.lt_succ_self _)).trans HI6.out.1.kr,hown2⟩
    clear hown1 hg1 HI6 hcv
    go_wp2_with fail
    go_roundw
    case rel=>exact ⟨k+1,by omega,by go_num,HI7⟩
    case measure=>simp [intOf];omega
  · have t0:decide ((k:Int)<8)=false:=by simp;omega
    obtain rfl:k=8:=by omega
    have hl9:=hpl.out 8 (Nat.le_refl _)
    obtain ⟨a8,c8,rfl,hs8⟩:=HI.out.own.form
    have hl9':(strs (partsD kc d ch 8)).length=9:=by rw [strs_length];exact hl9
    rw [hl9'] at *
    have hof8:=Bx.mk (hof.out a8 c8 wr hs8 (fun j v hv=>cell_later HI.out.bel (hK.out j v hv)))
    clear hl9 hl9' hs8 hof
    go_wp2_with fail
    refine hof8.out.mono ?_
    rintro _ w3 ⟨rfl,hb3⟩
    have HJ3:Bx (Below w.heap.size w w3∧Bl w3 w.heap.size .u8 z16 43):=⟨HI.out.bel.trans (hb3.mono HI.out.bel.size),HI.out.kr.later hb3⟩
    clear hb3 HI hof8
    unfold arrV
    have hkr:=Bx.mk HJ3.out.2
    go_wp2_with (refine wpList_store_whole rfl _ _ _ rfl w.heap.size rfl _ _ rfl _ hkr.out (H2.out _ hsz.out) hs2.out hone.out ?_)
    refine bodyPost_ret (v:=arrV .u8 os) (results_cell_row rfl _ _ w.heap.size 43 _ (0,0) _ rfl (hkr.out.whole _) Tryz.underlying43 rfl (H2.out _ hsz.out)) rfl ⟨rfl,below_setRow HJ3.out.1 (Nat.le_refl _) _⟩
end Go.Proofs.YtgnfgblkpnfcnaaGreatDoor
end
section
namespace Go.Proofs.YtgnfgblkpnfcnaaGreatDoor
open Go.RowKit Go.Sort Go.Maps
open Oct
structure RgI (w:World) (g:Nat) (kc:List Int) (d:Nat) (ch:Fin 8→Tr) (k:Nat) (v:Value) (wr:World):Prop where
 bel:Below w.heap.size w wr
 kr:Bl wr w.heap.size .u8 z16 43
 kids:Slv wr (some ⟨g,0,none⟩) (strs (kidsE ch))
 own:Ownv wr (w.heap.size+1) 9 v (strs (partsD kc d ch k))
 ap:v.ownBlock ≠ some g∧g<wr.heap.size
theorem RgI.later {w wr w':World} {g:Nat} {kc:List Int} {d:Nat} {ch:Fin 8→Tr} {k:Nat} {v:Value} (h:RgI w g kc d ch k v wr) (hb:Below wr.heap.size wr w'):RgI w g kc d ch k v w' :=
 ⟨h.bel.trans (hb.mono h.bel.size),h.kr.later hb,h.kids.below hb,h.own.below hb,h.ap.1,Nat.lt_of_lt_of_le h.ap.2 hb.size⟩
theorem digest_any (kc:List Int) (hk:kc.length=64) (Far:Nat→Prop) (sb:Nat) (most:Int) (ts:List Tr) (hG:Good ts) (hlen:ts.length≤4194304) : ∀ (t:Tr),Tr.WF t→t∈ts → ∀ (w:World),Krow w 1 kc→StoreIs w Far sb most ts →
 Calls Tryz.prog 39 #[.pointer (some ⟨sb,0,none⟩),(idT ts t:Int)] w (DigPost w (digT kc t)):=by
 intro t
 induction t with
 | uni c =>
   intro h ht w hK hS
   have h:0≤c∧c≤255:=h
   obtain ⟨x,rfl⟩ : ∃ x:Nat,c=(x:Int):=⟨c.toNat,by omega⟩
   have:=digest_uni kc hk x (by omega) Far sb most ts ht hlen w hK hS
   unfold digT
   rwa [Int.toNat_natCast]
 | brick l =>
   intro h ht w hK hS
   have h:l.length=64 ∧ ∀ x∈l,0≤x∧x≤255:=h
   unfold digT
   exact digest_brick kc hk l h.1 h.2 Far sb most ts ht hG hlen w hK hS
 | node d ch ih =>
   intro h ht w hK hS
   have h:d≤255 ∧ ∀ i,Tr.WF (ch i):=h
   rw [←partsD_all]
   exact digest_node kc hk d h.1 ch Far sb most ts ht (fun k hk8 W h1 h2=>by
    have:=ih ⟨k,hk8⟩ (h.2 _) (hG.closed.2 d ch ht _) W h1 h2
    unfold kidX
    rw [dif_pos hk8]
    exact this) hlen w hK hS
end Go.Proofs.YtgnfgblkpnfcnaaGreatDoor
end
