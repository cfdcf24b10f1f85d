/- Wds: joined by program, for one claim. -/
import Derived.Test.YtgnfgblkpnfcnaaGreatDoorM36
set_option maxHeartbeats 1000000
set_option maxRecDepth 100000
set_option linter.unusedVariables false
set_option linter.unusedSimpArgs false
section
namespace Go.Proofs.YtgnfgblkpnfcnaaGreatDoor
open Go.RowKit Go.Sort Go.Maps
theorem zI0 {x y:Int} (i:Nat) (p:Int) (hp:(2:Int) ^ i=p) (hx:0≤x∧x<4294967296∧x % p=0) (hy:0≤y∧y<p) (hy2:y<4294967296):bits .or .u32 x y=x+y :=
 bits_join .u32 32 (by decide) wraps_u32 i _ _ hx.1 (by rw [hp];exact hx.2.2) (by have:(2:Int) ^ 32=4294967296:=(by decide);omega) hy.1 (by rw [hp];exact hy.2) (by have:(2:Int) ^ 32=4294967296:=(by decide);omega)
theorem zOC (a:Option Addr) (cap:Nat) (bs:List Int) (hn:bs.length=64) (hb : ∀ x∈bs,0≤x∧x≤255) (w:World) (hs:Sl w .u8 a bs) :
 Calls Tryz.prog 173 #[.slice a 64 cap] w fun e w'=>e = .returned (zBP .u32 (sch bs 64))∧Below w.heap.size w w':=by
 have Hs:=Bx.mk hs;have Hb:=Bx.mk hb;have Hn:=Bx.mk hn;obtain ⟨x0,hx0⟩ : ∃ x,bs[0]? = some x:=⟨_,List.getElem?_eq_getElem (by omega)⟩
 obtain ⟨pb,po,rfl,-⟩:=hs 0 x0 hx0;clear hs hb hn hx0;go_enter Tryz.func173,Tryz.ntmps173;go_wp2_with fail;generalize hW:World.alloc (World.alloc w _) _=W;have HI:Bx (SchI w bs 0 (List.replicate (64 - 0) 0) W):=⟨by rw [←hW];exact ((Below.refl _ _).alloc (Nat.le_refl _) _).alloc (by simp) _,by rw [←hW];exact zE (zD _ _ _ (by simp)),by rw [←hW];exact zD _ _ _ (by simp)⟩
 clear hW
 go_loopw [4] (fun v4 wr => ∃ t:Nat,t≤16∧v4 = .int .i64 t∧Bx (SchI w bs t (List.replicate (64 - t) 0) wr)) (fun i _=>16 - (intOf i).toNat)
 case atStart=>exact ⟨0,Nat.zero_le _,rfl,HI⟩
 case round =>
  clear HI;obtain ⟨t,ht,rfl,HI⟩:=hrel;by_cases hlt:t<16
  · have t0:decide ((t:Int)<16)=true:=by simp;omega
    rw [zLG (show t<64 by omega)] at HI
    generalize hr:List.replicate (63 - t) (0:Int)=r at *;have hr:=Bx.mk hr;obtain ⟨y0,hy0⟩ : ∃ x,bs[4 * t+0]? = some x:=⟨_,List.getElem?_eq_getElem (by have:=Hn.out;omega)⟩
    obtain ⟨_,_,he,hc0⟩:=(Hs.out.below HI.out.bel) (4 * t+0) y0 hy0;simp only [Option.some.injEq,Addr.mk.injEq,and_true] at he;obtain ⟨rfl,rfl⟩:=he;have g0:=Hb.out y0 (List.mem_of_getElem? hy0);obtain ⟨y1,hy1⟩ : ∃ x,bs[4 * t+1]? = some x:=⟨_,List.getElem?_eq_getElem (by have:=Hn.out;omega)⟩
    obtain ⟨_,_,he,hc1⟩:=(Hs.out.below HI.out.bel) (4 * t+1) y1 hy1;simp only [Option.some.injEq,Addr.mk.injEq,and_true] at he;obtain ⟨rfl,rfl⟩:=he;have g1:=Hb.out y1 (List.mem_of_getElem? hy1);obtain ⟨y2,hy2⟩ : ∃ x,bs[4 * t+2]? = some x:=⟨_,List.getElem?_eq_getElem (by have:=Hn.out;omega)⟩
    obtain ⟨_,_,he,hc2⟩:=(Hs.out.below HI.out.bel) (4 * t+2) y2 hy2;simp only [Option.some.injEq,Addr.mk.injEq,and_true] at he;obtain ⟨rfl,rfl⟩:=he;have g2:=Hb.out y2 (List.mem_of_getElem? hy2);obtain ⟨y3,hy3⟩ : ∃ x,bs[4 * t+3]? = some x:=⟨_,List.getElem?_eq_getElem (by have:=Hn.out;omega)⟩
    obtain ⟨_,_,he,hc3⟩:=(Hs.out.below HI.out.bel) (4 * t+3) y3 hy3;simp only [Option.some.injEq,Addr.mk.injEq,and_true] at he;obtain ⟨rfl,rfl⟩:=he;have g3:=Hb.out y3 (List.mem_of_getElem? hy3)
    have hbe:be bs t 4=y0 * 16777216+y1 * 65536+y2 * 256+y3:=by
     simp only [be,List.getD_eq_getElem?_getD,hy0,hy1,hy2,hy3,Option.getD_some];omega
    have m0:y0 * 16777216 % 4294967296=y0 * 16777216:=by omega
    have m1:y1 * 65536 % 4294967296=y1 * 65536:=by omega
    have m2:y2 * 256 % 4294967296=y2 * 256:=by omega
    have o1:bits .or .u32 (y0 * 16777216) (y1 * 65536)=y0 * 16777216+y1 * 65536:=zI0 24 16777216 (by decide) ⟨by omega,by omega,by omega⟩ ⟨by omega,by omega⟩ (by omega)
    have o2:bits .or .u32 (y0 * 16777216+y1 * 65536) (y2 * 256)=y0 * 16777216+y1 * 65536+y2 * 256:=zI0 16 65536 (by decide) ⟨by omega,by omega,by omega⟩ ⟨by omega,by omega⟩ (by omega)
    have o3:bits .or .u32 (y0 * 16777216+y1 * 65536+y2 * 256) y3=be bs t 4:=by rw [hbe];exact zI0 8 256 (by decide) ⟨by omega,by omega,by omega⟩ ⟨by omega,by omega⟩ (by omega)
    clear hbe hy0 hy1 hy2 hy3;generalize y0 * 16777216+y1 * 65536+y2 * 256=z2 at *;generalize y0 * 16777216+y1 * 65536=z1 at *;have b1:(0:Int)≤4 * (t:Int):=by omega
    have b2:4 * (t:Int)<64:=by omega
    have b3:4 * (t:Int)+1<64:=by omega
    have b4:4 * (t:Int)+2<64:=by omega
    have b5:4 * (t:Int)+3<64:=by omega
    have b6:(0:Int)≤4 * (t:Int)+1:=by omega
    have b7:(0:Int)≤4 * (t:Int)+2:=by omega
    have b8:(0:Int)≤4 * (t:Int)+3:=by omega
    have b9:(t:Int)<64:=by omega
    have i0:(4 * (t:Int)).toNat=4 * t:=by omega
    have i1:(4 * (t:Int)+1).toNat=4 * t+1:=by omega
    have i2:(4 * (t:Int)+2).toNat=4 * t+2:=by omega
    have i3:(4 * (t:Int)+3).toNat=4 * t+3:=by omega
    have hc0:=Bx.mk hc0;have hc1:=Bx.mk hc1;have hc2:=Bx.mk hc2;have hc3:=Bx.mk hc3;generalize hyv:be bs t 4=y at *;have hyv:=Bx.mk hyv;go_wp2_with fail;have c0 : ∀ dk osk,(grow (redrawn wr dk) osk).cell? ⟨pb,po+4 * t,none⟩=some (.int .u8 y0):=cell_regrown hc0.out;have c1 : ∀ dk osk,(grow (redrawn wr dk) osk).cell? ⟨pb,po+(4 * t+1),none⟩=some (.int .u8 y1):=cell_regrown hc1.out;have c2 : ∀ dk osk,(grow (redrawn wr dk) osk).cell? ⟨pb,po+(4 * t+2),none⟩=some (.int .u8 y2):=cell_regrown hc2.out;have c3 : ∀ dk osk,(grow (redrawn wr dk) osk).cell? ⟨pb,po+(4 * t+3),none⟩=some (.int .u8 y3):=cell_regrown hc3.out;refine zAM 35 (by kernel_rfl) (by kernel_rfl) ?_
    simp only [List.take_succ_cons,List.take_zero,List.drop_succ_cons,List.drop_zero]
    repeat (first | go_big_quiet_step (fail) | quiet_step (fail))
    refine wpQuiet_nil ?_;rintro _ ⟨⟨dq,osq⟩,rfl⟩;have HI3:=Bx.mk (HI.out.later (below_regrown wr dq osq));clear c0 c1 c2 c3 HI hc0 hc1 hc2 hc3;generalize grow (redrawn wr dq) osq=w2 at *;have cw:=HI3.out.kw.cell (zLx bs t 0 r);have fw:=HI3.out.kw.frozen t;have HI4:=Bx.mk ((HI3.out.put y).next (by rw [if_pos hlt,hyv.out]))
    clear HI3;go_wp2_with fail
    go_roundw
    case rel=>exact ⟨t+1,by omega,by go_num,by rw [show 64 - (t+1)=63 - t by omega,hr.out];exact HI4⟩
    case measure=>simp [intOf];omega
  · have t0:decide ((t:Int)<16)=false:=by simp;omega
    obtain rfl:t=16:=by omega
    go_wp2_with fail
    go_loopw [5] (fun v5 wr => ∃ t:Nat,16≤t∧t≤64∧v5 = .int .i64 t∧Bx (SchI w bs t (List.replicate (64 - t) 0) wr)) (fun i _=>64 - (intOf i).toNat)
    case atStart=>exact ⟨16,Nat.le_refl _,by decide,rfl,HI⟩
    case round =>
     clear HI ht hlt t0;obtain ⟨t,h16,ht,rfl,HI⟩:=hrel;by_cases hlt:t<64
     · have t0:decide ((t:Int)<64)=true:=by simp;omega
       rw [zLG hlt] at HI;generalize hr:List.replicate (63 - t) (0:Int)=r at *;have hr:=Bx.mk hr;have n1:(t:Int) - 15=((t - 15:Nat):Int):=by omega
       have n2:(t:Int) - 2=((t - 2:Nat):Int):=by omega
       have n3:(t:Int) - 16=((t - 16:Nat):Int):=by omega
       have n4:(t:Int) - 7=((t - 7:Nat):Int):=by omega
       have l1:((t - 15:Nat):Int)<64:=by omega
       have l2:((t - 2:Nat):Int)<64:=by omega
       have l3:((t - 16:Nat):Int)<64:=by omega
       have l4:((t - 7:Nat):Int)<64:=by omega
       have l5:(t:Int)<64:=by omega
       have hnx:Bx (nxt (sch bs t)=((sch bs t).getD (t - 16) 0+sg0 ((sch bs t).getD (t - 15) 0)+(sch bs t).getD (t - 7) 0+sg1 ((sch bs t).getD (t - 2) 0)) % 4294967296):=⟨by unfold nxt;rw [zu]⟩
       have k1:=HI.out.kw.cell (zLy bs t (t - 15) (by omega) (0::r))
       have k2:=HI.out.kw.cell (zLy bs t (t - 2) (by omega) (0::r))
       have k3:=HI.out.kw.cell (zLy bs t (t - 16) (by omega) (0::r))
       have k4:=HI.out.kw.cell (zLy bs t (t - 7) (by omega) (0::r))
       have k1:=Bx.mk k1;have k2:=Bx.mk k2;have k3:=Bx.mk k3;have k4:=Bx.mk k4;generalize (sch bs t).getD (t - 15) 0=x1 at *;generalize (sch bs t).getD (t - 2) 0=x2 at *;generalize (sch bs t).getD (t - 16) 0=x3 at *;generalize (sch bs t).getD (t - 7) 0=x4 at *;have hx:Bx (bits .xor .u32 (bits .xor .u32 (rot x1 7) (rot x1 18)) (x1 / 8)=sg0 x1):=⟨rfl⟩;have hy:Bx (bits .xor .u32 (bits .xor .u32 (rot x2 17) (rot x2 19)) (x2 / 1024)=sg1 x2):=⟨rfl⟩;have p1:=Bx.mk (show ∀ W,Calls Tryz.prog 174 #[.int .u32 x1,(7:Int)] W fun e w'=>e = .returned (.int .u32 (rot x1 7))∧Below W.heap.size W w' from fun W=>zLT x1 7 (by decide) W)
       have p2:=Bx.mk (show ∀ W,Calls Tryz.prog 174 #[.int .u32 x1,(18:Int)] W fun e w'=>e = .returned (.int .u32 (rot x1 18))∧Below W.heap.size W w' from fun W=>zLT x1 18 (by decide) W)
       have p3:=Bx.mk (show ∀ W,Calls Tryz.prog 174 #[.int .u32 x2,(17:Int)] W fun e w'=>e = .returned (.int .u32 (rot x2 17))∧Below W.heap.size W w' from fun W=>zLT x2 17 (by decide) W)
       have p4:=Bx.mk (show ∀ W,Calls Tryz.prog 174 #[.int .u32 x2,(19:Int)] W fun e w'=>e = .returned (.int .u32 (rot x2 19))∧Below W.heap.size W w' from fun W=>zLT x2 19 (by decide) W)
       generalize rot x1 7=a1 at *;generalize rot x1 18=a2 at *;generalize rot x2 17=a3 at *;generalize rot x2 19=a4 at *;generalize sg0 x1=s1 at *;generalize sg1 x2=s2 at *;have hx:=hx.out;have hy:=hy.out;go_wp2_with fail;have c1 : ∀ dk osk,(grow (redrawn wr dk) osk).cell? ⟨w.heap.size+1,t - 15,none⟩=some (.int .u32 x1):=cell_regrown k1.out;have q1:=Bx.mk fun dk osk=>Calls.regrown_of (p1.out (grow (redrawn wr dk) osk));have q2:=Bx.mk fun dk osk=>Calls.regrown_of (p2.out (grow (redrawn wr dk) osk));refine wp_region_quiet_below (by kernel_rfl) (by kernel_rfl) ?_
       repeat (first | go_big_quiet_step ((first | with_reducible exact q1.out _ _ | with_reducible exact q2.out _ _)) | quiet_step (first | with_reducible exact q1.out _ _ | with_reducible exact q2.out _ _))
       refine wpQuiet_nil ?_;rintro _ ⟨⟨dq,osq⟩,rfl⟩;have hb0:=below_regrown wr dq osq;have HI2:=Bx.mk (HI.out.later hb0);replace k2:=Bx.mk (cell_later hb0 k2.out);replace k3:=Bx.mk (cell_later hb0 k3.out);replace k4:=Bx.mk (cell_later hb0 k4.out);clear c1 HI hb0 k1 q1 q2;generalize grow (redrawn wr dq) osq=w1 at *;go_wp2_with fail;have c2 : ∀ dk osk,(grow (redrawn w1 dk) osk).cell? ⟨w.heap.size+1,t - 2,none⟩=some (.int .u32 x2):=cell_regrown k2.out;have q3:=Bx.mk fun dk osk=>Calls.regrown_of (p3.out (grow (redrawn w1 dk) osk));have q4:=Bx.mk fun dk osk=>Calls.regrown_of (p4.out (grow (redrawn w1 dk) osk));refine wp_region_quiet_below (by kernel_rfl) (by kernel_rfl) ?_
       repeat (first | go_big_quiet_step ((first | with_reducible exact q3.out _ _ | with_reducible exact q4.out _ _)) | quiet_step (first | with_reducible exact q3.out _ _ | with_reducible exact q4.out _ _))
       refine wpQuiet_nil ?_;rintro _ ⟨⟨dq,osq⟩,rfl⟩;have hb0:=below_regrown w1 dq osq;replace HI2:=Bx.mk (HI2.out.later hb0);replace k3:=Bx.mk (cell_later hb0 k3.out);replace k4:=Bx.mk (cell_later hb0 k4.out);clear c2 hb0 k2 q3 q4;generalize grow (redrawn w1 dq) osq=w2 at *;go_wp2_with fail;have c3 : ∀ dk osk,(grow (redrawn w2 dk) osk).cell? ⟨w.heap.size+1,t - 16,none⟩=some (.int .u32 x3):=cell_regrown k3.out;have c4 : ∀ dk osk,(grow (redrawn w2 dk) osk).cell? ⟨w.heap.size+1,t - 7,none⟩=some (.int .u32 x4):=cell_regrown k4.out;refine zAM 15 (by kernel_rfl) (by kernel_rfl) ?_
       simp only [List.take_succ_cons,List.take_zero,List.drop_succ_cons,List.drop_zero]
       repeat (first | go_big_quiet_step (fail) | quiet_step (fail))
       refine wpQuiet_nil ?_;rintro _ ⟨⟨dq,osq⟩,rfl⟩;have HI3:=Bx.mk (HI2.out.later (below_regrown w2 dq osq));clear c3 c4 HI2 k3 k4;generalize grow (redrawn w2 dq) osq=w3 at *;have cw:=HI3.out.kw.cell (zLx bs t 0 r);have fw:=HI3.out.kw.frozen t;have HI4:=Bx.mk ((HI3.out.put (nxt (sch bs t))).next (by rw [if_neg (by omega)]))
       rw [hnx.out] at HI4;clear HI3 hnx;go_wp2_with fail
       go_roundw
       case rel=>exact ⟨t+1,by omega,by omega,by go_num,by rw [show 64 - (t+1)=63 - t by omega,hr.out];exact HI4⟩
       case measure=>simp [intOf];omega
     · have t0:decide ((t:Int)<64)=false:=by simp;omega
       obtain rfl:t=64:=by omega
       rw [Nat.sub_self,List.replicate_zero] at HI;have hsz:(((sch bs 64++[]).map (Value.int .u32)).toArray).size=64:=by rw [List.append_nil,List.size_toArray,List.length_map,zu]
       have hs2:(((List.replicate 64 (0:Int)).map (Value.int .u32)).toArray).size=(((sch bs 64++[]).map (Value.int .u32)).toArray).size:=by rw [hsz];rfl
       have H1:=Bx.mk (show ∀ cs:Array Value,cs.size=64→(Tryz.prog.info? 188).map (·.size)=some cs.size from fun cs h=>by rw [h];kernel_rfl)
       have hkw:=Bx.mk HI.out.kw;have hkr:=Bx.mk HI.out.kr;have hsz:=Bx.mk hsz;have hs2:=Bx.mk hs2;go_upto_region 12 with fail
       go_wp2_with (first
        | refine zAI rfl _ _ rfl (w.heap.size+1) rfl _ _ hkw.out _ Tryz.underlying188 rfl (H1.out _ hsz.out) ?_
        | refine zAJ rfl _ _ _ rfl w.heap.size rfl _ _ rfl _ hkr.out (H1.out _ hsz.out) hs2.out (zl _ _) ?_)
       refine bodyPost_ret (v:=zBP .u32 (sch bs 64++[])) (results_cell_row rfl _ _ w.heap.size 188 _ (0,0) _ rfl (hkr.out.whole _) Tryz.underlying188 rfl (H1.out _ hsz.out)) rfl ⟨by rw [List.append_nil],below_setRow HI.out.bel (Nat.le_refl _) _⟩
end Go.Proofs.YtgnfgblkpnfcnaaGreatDoor
end
