/- New, Paste, Lines: joined by program, for one claim. -/
import Derived.Test.YtgnfgblkpnfcnaaGreatDoorM12
import Derived.Lib.SliceRun
set_option maxHeartbeats 2000000
set_option maxRecDepth 100000
set_option linter.unusedVariables false
set_option linter.unusedSimpArgs false
namespace Go.Proofs.YtgnfgblkpnfcnaaGreatDoor
section
open Go.RowKit Go.Sort
theorem zCh (a b c d e f m:Int) (w:World) :
 Calls Tryz.prog 158 #[.agg #[a,b,c,d,e,f],m] w fun e' w'=>e' = .returned (.int .i64 (zIE ⟨⟨a,b,c⟩,⟨d,e,f⟩⟩ m))∧Below w.heap.size w w':=by
 have hr:=Bx.mk fun W=>zKE a b c d e f W;have hm:=Bx.mk fun W=>zHq m W;have hvol:Bx (okB ⟨⟨a,b,c⟩,⟨d,e,f⟩⟩=true → ∀ W,Calls Tryz.prog 124 #[.agg #[a,b,c,d,e,f]] W fun e' w'=>e' = .returned (.int .i64 (zAC ⟨⟨a,b,c⟩,⟨d,e,f⟩⟩))∧Below W.heap.size W w'):=⟨fun h W=>zN0 a b c d e f (zk h) W⟩;have hE:=Bx.mk (show zIE ⟨⟨a,b,c⟩,⟨d,e,f⟩⟩ m=if okB ⟨⟨a,b,c⟩,⟨d,e,f⟩⟩=false∨Pal.cell m=false then 1 else if 2097152<zAC ⟨⟨a,b,c⟩,⟨d,e,f⟩⟩ then 2 else 0 from rfl);rw [←Pal.cell_eq] at hm;generalize okB ⟨⟨a,b,c⟩,⟨d,e,f⟩⟩=r1 at *;generalize zAC ⟨⟨a,b,c⟩,⟨d,e,f⟩⟩=v at *;generalize Pal.cell m=r2 at *;generalize zIE ⟨⟨a,b,c⟩,⟨d,e,f⟩⟩ m=ee at *;cases r1 with
 | false =>
   clear hvol;go_enter Tryz.func158,Tryz.ntmps158;go_wp2_with fail;generalize hW:World.alloc w _=W;have hSz:=sz1 hW;have hB:=bl1 hW;have kb:Bk W (w.heap.size) #[a,b,c,d,e,f] 25:=bk0 hW;clear hW;refine (hr.out _).mono ?_;rintro e' w1 ⟨rfl,hb⟩;replace hB:=hB.trans (hb.mono hB.size);replace kb:=kb.later hb;replace hSz:=Nat.le_trans hSz hb.size;clear hb;obtain ⟨cb0,cb1,cb2,cb3,cb4,cb5⟩:=kb.c6;go_wp2_with fail;go_ret;exact ⟨zt (by rw [hE.out];simp),hB⟩
 | true =>
   replace hvol:=Bx.mk (hvol.out rfl);cases r2 with
   | false =>
     go_enter Tryz.func158,Tryz.ntmps158;go_wp2_with fail;generalize hW:World.alloc w _=W;have hSz:=sz1 hW;have hB:=bl1 hW;have kb:Bk W (w.heap.size) #[a,b,c,d,e,f] 25:=bk0 hW;clear hW;refine (hr.out _).mono ?_;rintro e' w1 ⟨rfl,hb⟩;replace hB:=hB.trans (hb.mono hB.size);replace kb:=kb.later hb;replace hSz:=Nat.le_trans hSz hb.size;clear hb;obtain ⟨cb0,cb1,cb2,cb3,cb4,cb5⟩:=kb.c6;go_wp2_with fail;refine (hm.out _).mono ?_;rintro e' w2 ⟨rfl,rfl⟩;go_wp2_with fail;go_ret;exact ⟨zt (by rw [hE.out];simp),hB⟩
   | true =>
     by_cases hv:2097152<v
     · have hE2:Bx (ee=2):=⟨by rw [hE.out];simp [hv]⟩
       go_enter Tryz.func158,Tryz.ntmps158;go_wp2_with fail;generalize hW:World.alloc w _=W;have hSz:=sz1 hW;have hB:=bl1 hW;have kb:Bk W (w.heap.size) #[a,b,c,d,e,f] 25:=bk0 hW;clear hW;refine (hr.out _).mono ?_;rintro e' w1 ⟨rfl,hb⟩;replace hB:=hB.trans (hb.mono hB.size);replace kb:=kb.later hb;replace hSz:=Nat.le_trans hSz hb.size;clear hb;obtain ⟨cb0,cb1,cb2,cb3,cb4,cb5⟩:=kb.c6;go_wp2_with fail;refine (hm.out _).mono ?_;rintro e' w2 ⟨rfl,rfl⟩;go_wp2_with fail;refine (hvol.out _).mono ?_;rintro e' w3 ⟨rfl,hb⟩;clear cb0 cb1 cb2 cb3 cb4 cb5;replace hB:=hB.trans (hb.mono hB.size);replace kb:=kb.later hb;replace hSz:=Nat.le_trans hSz hb.size;clear hb;go_wp2_with fail;go_ret;exact ⟨zt hE2.out.symm,hB⟩
     · have hE2:Bx (ee=0):=⟨by rw [hE.out];simp [hv]⟩
       go_enter Tryz.func158,Tryz.ntmps158;go_wp2_with fail;generalize hW:World.alloc w _=W;have hSz:=sz1 hW;have hB:=bl1 hW;have kb:Bk W (w.heap.size) #[a,b,c,d,e,f] 25:=bk0 hW;clear hW;refine (hr.out _).mono ?_;rintro e' w1 ⟨rfl,hb⟩;replace hB:=hB.trans (hb.mono hB.size);replace kb:=kb.later hb;replace hSz:=Nat.le_trans hSz hb.size;clear hb;obtain ⟨cb0,cb1,cb2,cb3,cb4,cb5⟩:=kb.c6;go_wp2_with fail;refine (hm.out _).mono ?_;rintro e' w2 ⟨rfl,rfl⟩;go_wp2_with fail;refine (hvol.out _).mono ?_;rintro e' w3 ⟨rfl,hb⟩;clear cb0 cb1 cb2 cb3 cb4 cb5;replace hB:=hB.trans (hb.mono hB.size);replace kb:=kb.later hb;replace hSz:=Nat.le_trans hSz hb.size;clear hb;go_wp2_with fail;go_ret;exact ⟨zt hE2.out.symm,hB⟩
def RetG (a b c d e f:Int) (xs:List Int) (er:Int) (w:World) (E:Ending) (w':World):Prop :=
 ∃ pa pc,E = .returned (.tuple #[.agg #[a,b,c,d,e,f,.slice pa xs.length pc],er])∧Own w' w.heap.size 3 .i64 (.slice pa xs.length pc) xs∧Below w.heap.size w w'
theorem zIG (a b c d e f m:Int) (h0:zIE ⟨⟨a,b,c⟩,⟨d,e,f⟩⟩ m=0) (hem:zN ⟨⟨a,b,c⟩,⟨d,e,f⟩⟩=false) (n:Nat) (hn:zAC ⟨⟨a,b,c⟩,⟨d,e,f⟩⟩=(n:Int)) (w:World) :
 Calls Tryz.prog 131 #[.agg #[a,b,c,d,e,f],m] w (RetG a b c d e f (List.replicate n m) 0 w):=by
 have hc:=Bx.mk fun W=>zCh a b c d e f m W;have he:=Bx.mk fun W=>zP a b c d e f W
 have hok:okB ⟨⟨a,b,c⟩,⟨d,e,f⟩⟩=true∧zAC ⟨⟨a,b,c⟩,⟨d,e,f⟩⟩≤2097152:=by
  unfold zIE at h0;split at h0
  · cases h0
  · rename_i h1;split at h0
    · cases h0
    · exact ⟨by cases h:okB ⟨⟨a,b,c⟩,⟨d,e,f⟩⟩ <;> simp_all,by omega⟩
 have hvol:=Bx.mk fun W=>zN0 a b c d e f (zk hok.1) W
 have hpos:1≤n:=by
  have h:=zBR hem;omega
 have hle:n≤4194304:=by omega
 rw [hn] at hvol;rw [h0] at hc;rw [hem] at he;clear h0 hem hok hn;go_enter Tryz.func131,Tryz.ntmps131;go_wp2_with fail;generalize hW:World.alloc (World.alloc w _) _=W;have hSz:=sz2 hW;have hB:=bl2 hW;have kb:Bk W (w.heap.size) #[a,b,c,d,e,f] 25:=bk1 hW;have kg:Bk W (w.heap.size+1) #[(0:Int),(0:Int),(0:Int),(0:Int),(0:Int),(0:Int),.slice none 0 0] 28:=bk0 hW;clear hW;refine (hc.out _).mono ?_;rintro e' w1 ⟨rfl,hb⟩;replace hB:=hB.trans (hb.mono hB.size);replace kb:=kb.later hb;replace kg:=kg.later hb;replace hSz:=Nat.le_trans hSz hb.size;clear hb;obtain ⟨cb0,cb1,cb2,cb3,cb4,cb5⟩:=kb.c6;go_wp2_with fail;refine (he.out _).mono ?_;rintro e' w2 ⟨rfl,hb⟩;clear cb0 cb1 cb2 cb3 cb4 cb5;replace hB:=hB.trans (hb.mono hB.size);replace kb:=kb.later hb;replace kg:=kg.later hb;replace hSz:=Nat.le_trans hSz hb.size;clear hb;obtain ⟨cb0,cb1,cb2,cb3,cb4,cb5⟩:=kb.c6;go_wp2_with fail;have kB:=Bx.mk kb
 refine zOU 7 (fun i v w'=>match i with
  | 0=>v = .agg #[a,b,c,d,e,f]
  | 1=>v = .int .i64 m
  | 2 => ∃ g,v = .slice (some ⟨g,0,none⟩) 1 1∧w'.cell? ⟨g,0,none⟩=some (.int .i64 m)
  | 3=>v = .agg #[a,b,c,d,e,f]
  | 4=>v = .int .i64 (n:Int)
  | 5 => ∃ pa pc,v = .slice pa n pc∧Own w' w2.heap.size 3 .i64 (.slice pa n pc) (List.replicate n m)
  | _ => ∃ pa pc,v = .agg #[a,b,c,d,e,f,.slice pa n pc]∧Own w' w2.heap.size 3 .i64 (.slice pa n pc) (List.replicate n m)) (by kernel_rfl) (by kernel_rfl) 25 (by kernel_rfl) (by rfl) ?_ ?_ ?_
 · intro i hi v u1 u2 hb h
   match i,hi with
   | 0,_=>exact h
   | 1,_=>exact h
   | 2,_=>obtain ⟨g,h1,h2⟩:=h;exact ⟨g,h1,cell_later hb h2⟩
   | 3,_=>exact h
   | 4,_=>exact h
   | 5,_=>obtain ⟨pa,pc,h1,h2⟩:=h;exact ⟨pa,pc,h1,h2.below hb⟩
   | 6,_=>obtain ⟨pa,pc,h1,h2⟩:=h;exact ⟨pa,pc,h1,h2.below hb⟩
 · intro i o hi ho ρ w1 hb hc1 hc2 hc3 hk
   match i,hi with
   | 0, _ =>
     obtain rfl:=Option.some.inj ho;have h2:ρ (.tmp 2) = .pointer (some ⟨w.heap.size,0,none⟩):=hk 2 (by simp [Op.operands])
     have k1:=kB.out.later hb;obtain ⟨c0,c1,c2,c3,c4,c5⟩:=k1.c6;clear hk hb hvol hc he kg hB;go_simp;exact Below.refl _ _
   | 1, _ =>
     obtain rfl:=Option.some.inj ho;have h2:ρ (.tmp 1) = .int .i64 m:=hk 1 (by simp [Op.operands])
     clear hk hb hvol hc he kg hB;go_simp;exact Below.refl _ _
   | 2, _ =>
     obtain rfl:=Option.some.inj ho;have h2:ρ (.tmp 19) = .int .i64 m:=hk 19 (by simp [Op.operands])
     clear hk hb hvol hc he kg hB;go_simp;exact (Below.refl _ _).alloc (Nat.le_refl _) _
   | 3, _ =>
     obtain rfl:=Option.some.inj ho;have h2:ρ (.tmp 2) = .pointer (some ⟨w.heap.size,0,none⟩):=hk 2 (by simp [Op.operands])
     have k1:=kB.out.later hb;obtain ⟨c0,c1,c2,c3,c4,c5⟩:=k1.c6;clear hk hb hvol hc he kg hB;go_simp;exact Below.refl _ _
   | 4, _ =>
     obtain rfl:=Option.some.inj ho;have h2:ρ (.tmp 21) = .agg #[a,b,c,d,e,f]:=hk 21 (by simp [Op.operands,Call.operands])
     have H3:=Bx.mk (hvol.out w1);clear hk hb hvol hc he kg hB;go_simp;exact H3.out
   | 5, _ =>
     obtain rfl:=Option.some.inj ho;obtain ⟨g,h2,h2'⟩ : ∃ g,ρ (.tmp 20) = .slice (some ⟨g,0,none⟩) 1 1∧w1.cell? ⟨g,0,none⟩=some (.int .i64 m):=hk 20 (by simp [Op.operands,Call.operands])
     have h3:ρ (.tmp 22) = .int .i64 (n:Int):=hk 22 (by simp [Op.operands,Call.operands])
     have h4:=(zLJ ⟨g,0,none⟩ 1 m n hpos hle w1 h2').mono (R':=fun e w'' => ∃ v,e = .returned v∧Below w1.heap.size w1 w'' ∧ ∃ pa pc,v = .slice pa n pc∧Own w'' w2.heap.size 3 .i64 (.slice pa n pc) (List.replicate n m)) (fun e w'' ⟨v,x,y,z⟩=>by
      obtain ⟨pa,pc,hv,_⟩:=y.form;rw [List.length_replicate] at hv;subst hv;exact ⟨_,x,z,pa,pc,rfl,y.base hb.size⟩)
     have H4:=Bx.mk h4;clear hk hb hvol hc he kg hB h4 h2';go_simp;exact H4.out
   | 6, _ =>
     obtain rfl:=Option.some.inj ho;have h2:ρ (.tmp 18) = .agg #[a,b,c,d,e,f]:=hk 18 (by simp [Op.operands])
     obtain ⟨pa,pc,h3,h4⟩ : ∃ pa pc,ρ (.tmp 23) = .slice pa n pc∧Own w1 w2.heap.size 3 .i64 (.slice pa n pc) (List.replicate n m):=hk 23 (by simp [Op.operands])
     have H4:=Bx.mk h4;clear hk hb hvol hc he kg hB h4;go_simp;exact ⟨Below.refl _ _,pa,pc,⟨rfl,rfl⟩,H4.out⟩
 · intro vs W1 hlen hb hR
   match vs,hlen with
   | [v0, v1, v2, v3, v4, v5, v6], _ =>
     have r0:v0 = .agg #[a,b,c,d,e,f]:=hR 0 v0 rfl;have r1:v1 = .int .i64 m:=hR 1 v1 rfl;obtain ⟨g2,r2,_⟩ : ∃ g,v2 = .slice (some ⟨g,0,none⟩) 1 1∧W1.cell? ⟨g,0,none⟩=some (.int .i64 m):=hR 2 v2 rfl;have r3:v3 = .agg #[a,b,c,d,e,f]:=hR 3 v3 rfl;have r4:v4 = .int .i64 (n:Int):=hR 4 v4 rfl;obtain ⟨p5,c5,r5,_⟩ : ∃ pa pc,v5 = .slice pa n pc∧Own W1 w2.heap.size 3 .i64 (.slice pa n pc) (List.replicate n m):=hR 5 v5 rfl;obtain ⟨pa,pc,r6,hown⟩ : ∃ pa pc,v6 = .agg #[a,b,c,d,e,f,.slice pa n pc]∧Own W1 w2.heap.size 3 .i64 (.slice pa n pc) (List.replicate n m):=hR 6 v6 rfl;subst r0 r1 r2 r3 r4 r5 r6;clear hR kb kB;have hBase:=hB.size;have kg1:=kg.later hb;have hB1:=hB.trans (hb.mono hB.size);have cg0:=kg1.cell 0 rfl;have fg0:=kg1.frozen 0;have cg1:=kg1.cell 1 rfl;have fg1:=kg1.frozen 1;have cg2:=kg1.cell 2 rfl;have fg2:=kg1.frozen 2;have cg3:=kg1.cell 3 rfl;have fg3:=kg1.frozen 3;have cg4:=kg1.cell 4 rfl;have fg4:=kg1.frozen 4;have cg5:=kg1.cell 5 rfl;have fg5:=kg1.frozen 5;have cg6:=kg1.cell 6 rfl;have fg6:=kg1.frozen 6;clear kg hb hB hvol hc he;have Hown:=Bx.mk hown;clear hown;simp only [zKA,List.take_succ_cons,List.take_zero,List.drop_succ_cons,List.drop_zero,List.map_cons,List.map_nil,List.zip_cons_cons,List.zip_nil_right,List.foldl_cons,List.foldl_nil];go_wp2_with fail;replace kg1:=kg1.put7 (.int .i64 a) (.int .i64 b) (.int .i64 c) (.int .i64 d) (.int .i64 e) (.int .i64 f) (.slice pa n pc);obtain ⟨z0,z1,z2,z3,z4,z5,z6⟩:=kg1.c7
     exact bodyPost_ret (v:=.tuple #[.agg #[a,b,c,d,e,f,.slice pa n pc],(0:Int)]) (by simp [results,Tryz.results131,go_sem,z0,z1,z2,z3,z4,z5,z6]) rfl ⟨pa,pc,by simp,by
      have:=Hown.out;simp only [List.length_replicate];exact (((((((this.setBelow (by simp;omega) _).setBelow (by simp;omega) _).setBelow (by simp;omega) _).setBelow (by simp;omega) _).setBelow (by simp;omega) _).setBelow (by simp;omega) _).setBelow (by simp;omega) _).base hBase,zBj hB1 (by omega) _ _ _ _ _ _ _⟩
theorem zMF (a:Option Addr) (cap:Nat) (xs:List Int) (w:World) (hl:xs.length≤100000000) (h:Sl w .i64 a xs) :
 Calls Tryz.prog 177 #[.slice a xs.length cap] w fun e w' => ∃ v,e = .returned v∧Own w' w.heap.size 3 .i64 v xs∧Below w.heap.size w w':=by
 have heq:=fun (W:World)=>Lib.run_eql_slice_nil (P:=Tryz.prog) W 26 3 a xs.length cap 0 0 Tryz.underlying26;generalize hn:xs.length=n at *;have Hn:=Bx.mk hn;cases a with
 | none =>
   have hnil:xs=[]:=by
    cases xs with
    | nil=>rfl
    | cons x l=>obtain ⟨b,off,h0,_⟩:=h 0 x rfl;cases h0
   have Hnil:=Bx.mk hnil;clear hnil hn h;go_enter Tryz.func177,Tryz.ntmps177;go_wp2;go_ret;exact ⟨_,rfl,by rw [Hnil.out];exact Own.nil _ _ _ _,Below.refl _ _⟩
 | some ad =>
   clear hn;have h0:Own (w.alloc (.cells #[] 3)) w.heap.size 3 .i64 (.slice (some ⟨w.heap.size,0,none⟩) 0 0) []:=Own.lit w _ _ _ #[] [] 0 (Nat.le_refl _) (by simp [maxLen]) rfl rfl
   have h1:=h.below ((Below.refl w.heap.size w).alloc (Nat.le_refl _) (.cells #[] 3));go_enter Tryz.func177,Tryz.ntmps177
   go_wp2_with (first
    | (at_builtin
       refine zAG rfl _ _ 26 rfl 3 .i64 (.int .i64 0) 8 (by omega) Tryz.underlying26 (by kernel_rfl) rfl w.heap.size _ [] rfl h0 xs _ _ cap rfl Hn.out.symm h1 (by have:=Hn.out;simp;omega) (ze (Nat.le_refl _) _) ?_
       intro v5 w5 hown5 hg5 _))
   go_ret;exact ⟨_,rfl,by simpa using hown5,((Below.refl _ _).alloc (Nat.le_refl _) _).grown hg5 (ze (Nat.le_refl _) _) (fun g hg=>(h0.lt g hg).1)⟩
theorem Own.raw {w:World} {B g n cap:Nat} {e:TypeId} {k:IntKind} {xs:List Int} (h:Own w B e k (.slice (some ⟨g,0,none⟩) n cap) xs) :
 ∃ cur:List Value,w.heap[g]? = some (.cells cur.toArray e (0,0))∧cur.length=cap∧cur.take n=xs.map (Value.int k)∧n≤cap∧cap≤maxLen∧B≤g∧n=xs.length:=by
 obtain ⟨hl,h⟩:=h;rcases h with ⟨h,_⟩ | ⟨g',cap',cur,h1,h2,h3,h4,h5,h6,h7⟩
 · cases h
 · injection h1 with e1 e2 e3;injection e1 with e1;injection e1 with e1;subst e1 e2 e3;refine ⟨cur.toList,by simpa using h3,by simpa using h6,by simpa using h7,h4,h5,h2,rfl⟩
theorem Own.mk' {w:World} {B g n cap:Nat} {e:TypeId} {k:IntKind} {xs:List Int} {cur:List Value} (h1:w.heap[g]? = some (.cells cur.toArray e (0,0))) (h2:cur.length=cap) (h3:cur.take n=xs.map (Value.int k)) (h4:n≤cap) (h5:cap≤maxLen) (h6:B≤g) (h7:n=xs.length) :
 Own w B e k (.slice (some ⟨g,0,none⟩) n cap) xs:=by
 subst h7;exact ⟨by simp,.inr ⟨g,cap,cur.toArray,rfl,h6,h1,h4,h5,by simp [h2],by simpa using h3⟩⟩
def over (ys:List Int) (k:Nat) (cs:List Int):List Int:=splice ys k cs
theorem zI7 {ys cs:List Int} {k:Nat} (h:k+cs.length≤ys.length):(over ys k cs).length=ys.length:=length_splice ys k cs h
theorem zMW (cur:List Value) (n:Nat) (ys cs:List Int) (k:Nat) (h:cur.take n=ys.map (Value.int .i64)) (hn:n=ys.length) (hk:k+cs.length≤n) :
 (splice cur k (cs.map (Value.int .i64))).take n=(over ys k cs).map (Value.int .i64):=by
 have hcl:n≤cur.length:=by
  have:=congrArg List.length h;rw [List.length_take,List.length_map] at this;omega
 have hc:cur=ys.map (Value.int .i64)++cur.drop n:=by rw [←h,List.take_append_drop]
 have hyl:(ys.map (Value.int .i64)).length=n:=by simp [hn]
 unfold over splice;apply List.ext_getElem?;intro i;by_cases hi:i<n
 · rw [List.getElem?_take,if_pos hi];simp only [List.map_append,List.map_take,List.map_drop,List.getElem?_append,List.length_take,List.length_map,List.getElem?_take,List.getElem?_drop]
   have e1 : ∀ j,j<n→cur[j]? = (ys.map (Value.int .i64))[j]? := fun j hj=>by
    rw [←h,List.getElem?_take,if_pos hj]
   have m1:min k cur.length=k:=by omega
   have m2:min k ys.length=k:=by omega
   rw [m1,m2];split
   · exact e1 i hi
   · split
     · rfl
     · rw [e1 _ (by omega)]
 · rw [List.getElem?_take,if_neg hi];symm;rw [List.getElem?_eq_none];simp;omega
theorem zMa {P:Program} {ops:Array Oper} {o:Oper} {a:Act} {w:World} {K:Act→World→Prop} {Q:Exit→Act→World→Prop} {E:Prop} (hgd:o.guard=none) (d s:Operand) (dT sT:TypeId)
 (ho:o.op = .call { callee:=.builtin .copy,args:=#[d,s],argTypes:=#[dT,sT] }) (elem:TypeId) (hu:P.underlying dT=some (.slice elem)) (hsz:(P.info? elem).map (·.size)=some 1)
 (g off dLen dCap:Nat) (ad:Addr) (sLen sCap:Nat) (hd:a.eval d = .slice (some ⟨g,off,none⟩) dLen dCap) (hs:a.eval s = .slice (some ad) sLen sCap)
 (cur:List Value) (t:TypeId) (hg:w.heap[g]? = some (.cells cur.toArray t (0,0))) (cs:List Value) (hn:cs.length=Nat.min sLen dLen)
 (hsrc : ∀ j v,cs[j]? = some v→w.cell? (ad.add j)=some v) (hfit:off+cs.length≤cur.length) (h1 : ∀ v∈cs,v.oneCell'=true)
 (h : ∀ w',Hid (w'.heap[g]? = some (.cells (splice cur off cs).toArray t (0,0)))→Hid (w.grownBy w' (some g))→K (a.put o.dst (goInt cs.length)) w') :
 if Region.wanted o (yielded ops a.tmps)=true then Oper.wp P o a w K Q else E:=by
 have hw:Region.wanted o (yielded ops a.tmps)=true:=by simp [Region.wanted,hgd]
 rw [if_pos hw];have hrun:=run_copy_row (P:=P) w dT sT o.type elem g off dLen dCap ad sLen sCap cur.toArray t cs hu hsz hg hn hsrc (by simpa using hfit) h1
 unfold Oper.wp;simp [execOp,ho,resolve,invoke,builtin,hd,hs,hrun,Result.andThen];exact h _ (show _=_ by simpa [splice] using setRow_heap w g _ _ t _ hg) ⟨rfl,rfl,rfl,by simp [World.setRow],fun k hk hne=>setRow_other w g k _ (fun e=>hne (by rw [e]))⟩
theorem zLf {xs:List Int} {from_ n k:Nat} (hle:from_+n≤xs.length):(((xs.drop from_).take n).map (Value.int .i64)).length=Nat.min (((from_:Int)+(n:Int)).toNat - from_) (((k:Int)+(n:Int)).toNat - k):=by
 have e1:((from_:Int)+(n:Int)).toNat - from_=n:=by omega
 have e2:((k:Int)+(n:Int)).toNat - k=n:=by omega
 rw [e1,e2];simp only [List.length_map,List.length_take,List.length_drop,Nat.min_def];split <;> split <;> omega
theorem zLi {w:World} {b off from_ n j:Nat} {v:Value} {xs:List Int} (h:Sl w .i64 (some ⟨b,off,none⟩) xs) (hj:(((xs.drop from_).take n).map (Value.int .i64))[j]? = some v):w.cell? ((⟨b,off+from_,none⟩:Addr).add j)=some v:=by
 rw [List.getElem?_map,Option.map_eq_some_iff] at hj;obtain ⟨x,hx,rfl⟩:=hj;rw [List.getElem?_take] at hx;split at hx
 · rw [List.getElem?_drop] at hx;obtain ⟨b',off',h1,h2⟩:=h _ _ hx;injection h1 with h1;injection h1 with e1 e2;subst e1 e2;have e:(⟨b,off+from_,none⟩:Addr).add j=⟨b,off+(from_+j),none⟩:=by unfold Addr.add;split <;> simp_all [Nat.add_assoc]
   rw [e];exact h2
 · cases hx
theorem zLb {xs:List Int} {from_ n k N cap:Nat} {cur:List Value} (_hle:from_+n≤xs.length) (h:cur.length=cap) (hk:k+n≤N) (hN:N≤cap):k+(((xs.drop from_).take n).map (Value.int .i64)).length≤cur.length:=by
 simp only [List.length_map,List.length_take,List.length_drop];omega
theorem zLh {w:World} {B g N cap k n from_:Nat} {cur:List Value} {ys xs:List Int} (h:Hid (w.heap[g]? = some (.cells (splice cur k (((xs.drop from_).take n).map (Value.int .i64))).toArray 3 (0,0)))) (h2:Bx (cur.length=cap))
 (h3:Bx (cur.take N=ys.map (Value.int .i64))) (h4:Bx (N≤cap)) (h5:cap≤maxLen) (h6:B≤g) (h7:N=ys.length) (hle:from_+n≤xs.length) (hkn:k+n≤N) :
 Own w B 3 .i64 (.slice (some ⟨g,0,none⟩) N cap) (over ys k ((xs.drop from_).take n)):=by
 have hn:((xs.drop from_).take n).length=n:=by simp only [List.length_take,List.length_drop];omega
 have:=h4.out;refine Own.mk' h ?_ (zMW cur N ys _ k h3.out h7 (by omega)) h4.out h5 h6 (by rw [zI7 (by omega)];exact h7)
 rw [length_splice _ _ _ (by rw [List.length_map,h2.out];omega),h2.out]
theorem zLd {w w1 w2:World} {g:Nat} (hB:Below w.heap.size w w1) (h:w1.drew.grownBy w2 (some g)):w.grownBy w2 (some g) :=
 ⟨h.os.trans hB.os,h.tape.trans hB.tape,h.output.trans hB.output,Nat.le_trans hB.size h.size,fun k hk hne=>(h.block k (Nat.lt_of_lt_of_le hk hB.size) hne).trans (hB.block k hk)⟩
theorem zLg {xs:List Int} : ∀ v∈xs.map (Value.int .i64),v.oneCell'=true:=by
 intro v hv;obtain ⟨x,_,rfl⟩:=List.mem_map.1 hv;rfl
theorem zLa (ph pb g k n N cap:Nat) (px py pz a b c d e f:Int) (ha:Option Addr) (hcp:Nat) (xs ys:List Int) (hS:Small ⟨⟨a,b,c⟩,⟨d,e,f⟩⟩ 1048575) (B from_:Nat) (w:World)
 (hfrom:zY ⟨⟨a,b,c⟩,⟨d,e,f⟩⟩ ⟨px,py,pz⟩=(from_:Int)) (hn:1≤n) (hle:from_+n≤xs.length) (hkn:k+n≤N) (hN:N≤4194304) (hxl:xs.length≤4194304) (hcap:xs.length≤hcp)
 (kh:Bk w ph #[a,b,c,d,e,f,.slice ha xs.length hcp] 28)
 (kb:Bk w pb #[.slice (some ⟨g,0,none⟩) N cap] 26) (hx:Sl w .i64 ha xs) (ho:Own w B 3 .i64 (.slice (some ⟨g,0,none⟩) N cap) ys) (_hgh:g ≠ ph) (_hgb:g ≠ pb) :
 Calls Tryz.prog 162 #[(k:Int),.agg #[px,py,pz],(n:Int),.pointer (some ⟨ph,0,none⟩),.pointer (some ⟨pb,0,none⟩)] w fun e w' =>
  e = .returned (.tuple #[])∧Own w' B 3 .i64 (.slice (some ⟨g,0,none⟩) N cap) (over ys k ((xs.drop from_).take n))∧w.grownBy w' (some g):=by
 have hind:=Bx.mk fun W=>zFT a b c d e f px py pz hS W;rw [hfrom] at hind;clear hfrom hS;have kh1:=kh.alloc (t:=28) (.cells #[px,py,pz] 23);obtain ⟨ch0,ch1,ch2,ch3,ch4,ch5,ch6⟩:=kh1.c7;go_enter Tryz.func162,Tryz.ntmps162;go_wp2_with fail;generalize hW:World.alloc w _=W;have hB:=bl1 hW;clear hW kh1 ch0 ch1 ch2 ch3 ch4 ch5 ch6;refine (hind.out _).mono ?_;rintro e' w1 ⟨rfl,hb⟩;replace hB:=hB.trans (hb.mono hB.size);clear hb hind;have kh2:=kh.later hB;have kb2:=kb.later hB;have ho2:=ho.below hB;have hx2:=hx.below hB;clear kh kb ho hx;obtain ⟨cur,r1,r2,r3,r4,r5,r6,r7⟩:=ho2.raw
 obtain ⟨hb0,ho0,rfl⟩ : ∃ hb0 ho0,ha=some ⟨hb0,ho0,none⟩:=by
  obtain ⟨b,off,h0,_⟩:=hx2 0 (xs[0]'(by omega)) (by simp)
  exact ⟨b,off,h0⟩
 obtain ⟨ch0,ch1,ch2,ch3,ch4,ch5,ch6⟩:=kh2.c7;have cb0:=kb2.cell 0 rfl;have Kh:=Bx.mk kh2;have Kb:=Bx.mk kb2;have Ho:=Bx.mk ho2;have Hx:=Bx.mk hx2;clear kh2 kb2 ho2 hx2;have i1:(0:Int)≤(k:Int):=by omega
 have i5:=IntWalk.i64_in ((k:Int)+(n:Int)) (by omega)
 have i6:=IntWalk.i64_in ((from_:Int)+(n:Int)) (by omega)
 have i2:(k:Int)≤(k:Int)+(n:Int):=by omega
 have i3:(k:Int)+(n:Int)≤(cap:Int):=by omega
 have j1:(0:Int)≤(from_:Int):=by omega
 have j2:(from_:Int)≤(from_:Int)+(n:Int):=by omega
 have j3:(from_:Int)+(n:Int)≤(hcp:Int):=by omega
 have hc1 : ¬cap=k:=by omega
 have hc2 : ¬hcp=from_:=by omega
 have R1:=Bx.mk r1;have R2:=Bx.mk r2;have R3:=Bx.mk r3;have R4:=Bx.mk r4;clear r1 r2 r3 r4;go_wp2_with fail
 go_region_law ((refine zMa rfl (.tmp 18) (.tmp 25) 26 26 rfl 3 Tryz.underlying26 (by kernel_rfl) g k (((k:Int)+(n:Int)).toNat - k) (cap - k) ⟨hb0,ho0+from_,none⟩ (((from_:Int)+(n:Int)).toNat - from_) (hcp - from_) (by simp [Act.eval,Act.put]) (by simp [Act.eval,Act.put]) cur 3 R1.out (((xs.drop from_).take n).map (Value.int .i64)) (zLf hle) (fun j v hj=>zLi Hx.out hj) (zLb hle R2.out hkn R4.out) zLg ?_;intro w2 hg2 hb2))
 all_goals (go_wp2_with fail;go_end0;exact ⟨rfl,zLh hg2 R2 R3 R4 r5 r6 r7 hle hkn,zLd hB hb2.out⟩)
theorem Bk.grown {w w':World} {b g:Nat} {vs:Array Value} {t:TypeId} (h:Bk w b vs t) (hg:w.grownBy w' (some g)) (hne:b ≠ g):Bk w' b vs t:=by
 have hlt:b<w.heap.size:=(Array.getElem?_eq_some_iff.1 h).1;exact (hg.block b hlt (fun e=>hne (by injection e))).trans h
theorem zEq {w w1 w2:World} {g:Nat} (h:w.grownBy w1 (some g)) (hb:Below w1.heap.size w1 w2):w.grownBy w2 (some g) :=
 ⟨hb.os.trans h.os,hb.tape.trans h.tape,hb.output.trans h.output,Nat.le_trans h.size hb.size,fun k hk hne=>(hb.block k (Nat.lt_of_lt_of_le hk h.size)).trans (h.block k hk hne)⟩
theorem zEr {w w1 w2:World} {g:Nat} (h:w.grownBy w1 (some g)) (hb:w1.grownBy w2 (some g)):w.grownBy w2 (some g) :=
 ⟨hb.os.trans h.os,hb.tape.trans h.tape,hb.output.trans h.output,Nat.le_trans h.size hb.size,fun k hk hne=>(hb.block k (Nat.lt_of_lt_of_le hk h.size) hne).trans (h.block k hk hne)⟩
theorem zLj (ph pb g:Nat) (a b c d e f a2 b2 c2 d2 e2 f2 la lb lc ld le lf:Int) (cs:Value) (hS:Small ⟨⟨a,b,c⟩,⟨d,e,f⟩⟩ 1048575)
 (hM:zf ⟨⟨a,b,c⟩,⟨d,e,f⟩⟩ ⟨⟨a2,b2,c2⟩,⟨d2,e2,f2⟩⟩=⟨⟨la,lb,lc⟩,⟨ld,le,lf⟩⟩) (hbd : -1048576≤la ∧ -1048576≤lb ∧ -1048576≤lc∧ld≤1048576∧le≤1048576∧lf≤1048576∧la≤ld∧lb≤le∧lc≤lf)
 (I:Int→Int→World→Prop) (w:World) (hg:g<w.heap.size) (hI : ∀ z y W W',I z y W→Below W.heap.size W W'→I z y W') (h0:I lc lb w)
 (hcall : ∀ z y W,lc≤z→z<lf→lb≤y→y<le→I z y W→w.grownBy W (some g)→Calls Tryz.prog 162 #[.int .i64 (zY ⟨⟨a,b,c⟩,⟨d,e,f⟩⟩ ⟨la,y,z⟩),.agg #[la,y,z],.int .i64 (ld - la),.pointer (some ⟨ph,0,none⟩),.pointer (some ⟨pb,0,none⟩)] W fun e' W'=>e' = .returned (.tuple #[])∧I z (y+1) W'∧W.grownBy W' (some g))
 (hnext : ∀ z W,lc≤z→z<lf→I z le W→I (z+1) lb W) :
 Calls Tryz.prog 161 #[.agg #[a,b,c,d,e,f,cs],.agg #[a2,b2,c2,d2,e2,f2],.func (.func 162) #[] #[.pointer (some ⟨ph,0,none⟩),.pointer (some ⟨pb,0,none⟩)]] w fun e' w'=>e' = .returned (.tuple #[])∧I lf lb w'∧w.grownBy w' (some g):=by
 have HI:=Bx.mk hI;have H0:=Bx.mk h0;have Hc:=Bx.mk hcall;have Hn:=Bx.mk hnext;have hmeet:=Bx.mk fun W=>zHr a b c d e f a2 b2 c2 d2 e2 f2 W;rw [hM] at hmeet;have hind:=Bx.mk fun y z W=>zFT a b c d e f la y z hS W;clear hI h0 hcall hnext hM hS;go_enter Tryz.func161,Tryz.ntmps161;go_wp2_with fail;generalize hW:World.alloc (World.alloc w _) _=W;have hSz:=sz2 hW;have hB:=bl2 hW;have kg:Bk W (w.heap.size) #[a,b,c,d,e,f,cs] 28:=bk1 hW;have kb:Bk W (w.heap.size+1) #[a2,b2,c2,d2,e2,f2] 25:=bk0 hW;clear hW;obtain ⟨cg0,cg1,cg2,cg3,cg4,cg5,cg6⟩:=kg.c7;obtain ⟨cb0,cb1,cb2,cb3,cb4,cb5⟩:=kb.c6;go_wp2_with fail;refine (hmeet.out _).mono ?_;rintro e' w1 ⟨rfl,hb⟩;clear hmeet;clear cg0 cg1 cg2 cg3 cg4 cg5 cg6 cb0 cb1 cb2 cb3 cb4 cb5;replace hB:=hB.trans (hb.mono hB.size);replace kg:=kg.later hb;replace kb:=kb.later hb;replace hSz:=Nat.le_trans hSz hb.size;clear hb;obtain ⟨gm,hgm⟩ : ∃ gm,gm=w1.heap.size:=⟨_,rfl⟩;clear kb;have b1:=hbd.1;go_wp2_with fail;generalize hW2:World.alloc w1 _=W2;have km:Bk W2 gm #[la,lb,lc,ld,le,lf] 25:=by rw [hgm,←hW2];exact zD _ _ _ rfl
 have hb:=bl1 hW2;rw [←hgm];have hgg:g<gm:=by omega
 replace hB:=hB.trans (hb.mono hB.size);replace kg:=kg.later hb;have hG:w.grownBy W2 (some g):=⟨hB.os,hB.tape,hB.output,hB.size,fun k hk _=>hB.block k hk⟩;have hJ:=HI.out _ _ _ _ H0.out hB;clear hW2 hb hB H0 hSz hgm;have Hbd:=Bx.mk hbd;clear hbd b1
 go_loopw [7] (fun i wr => ∃ z:Int,lc≤z∧z≤lf∧i = .int .i64 z∧Bk wr w.heap.size #[a,b,c,d,e,f,cs] 28∧Bk wr gm #[la,lb,lc,ld,le,lf] 25∧I z lb wr∧w.grownBy wr (some g)) (fun i _=>(lf - intOf i).toNat)
 case atStart=>exact ⟨lc,by omega,Hbd.out.2.2.2.2.2.2.2.2,rfl,kg,km,hJ,hG⟩
 case round =>
  clear kg km hJ hG;obtain ⟨z,z1,z2,rfl,kg,km,hJ,hG⟩:=hrel;have hJ':=Bx.mk hJ;have hG':=Bx.mk hG;clear hJ hG;obtain ⟨cm0,cm1,cm2,cm3,cm4,cm5⟩:=km.c6;by_cases hz:z<lf
  · go_wp2_with fail;clear cm0 cm1 cm2 cm3 cm4 cm5;obtain ⟨wo,hwo⟩ : ∃ wo:World,wo=wr:=⟨_,rfl⟩;rw [←hwo] at kg km hJ' hG';have Kgo:=Bx.mk kg;have Kmo:=Bx.mk km;clear kg km
    go_loopw [8] (fun i wr => ∃ y:Int,lb≤y∧y≤le∧i = .int .i64 y∧Bk wr w.heap.size #[a,b,c,d,e,f,cs] 28∧Bk wr gm #[la,lb,lc,ld,le,lf] 25∧I z y wr∧w.grownBy wr (some g)) (fun i _=>(le - intOf i).toNat)
    case atStart=>subst hwo;exact ⟨lb,by omega,Hbd.out.2.2.2.2.2.2.2.1,rfl,Kgo.out,Kmo.out,hJ'.out,hG'.out⟩
    case round =>
     clear Kgo Kmo hJ' hG' hwo;obtain ⟨y,y1,y2,rfl,kg,km,hJ,hG⟩:=hrel;by_cases hy:y<le
     · have hB:=Below.refl wr.heap.size wr;have hSz:=Nat.le_refl wr.heap.size;have hgw:w.heap.size≤wr.heap.size:=hG.size;have hJ':=Bx.mk hJ;have hG':=Bx.mk hG;clear hJ hG;obtain ⟨cm0,cm1,cm2,cm3,cm4,cm5⟩:=km.c6;go_wp2_with fail;generalize hW:World.alloc wr _=W;have hb:=bl1 hW;have kp:Bk W wr.heap.size #[la,y,z] 23:=bk0 hW rfl;clear hW hSz cm0 cm1 cm2 cm3 cm4 cm5;replace hB:=hb;replace kg:=kg.later hb;replace km:=km.later hb;have hSz:=hb.size;have i1:=IntWalk.i64_in (ld - la) (by have:=Hbd.out;omega)
       obtain ⟨cg0,cg1,cg2,cg3,cg4,cg5,cg6⟩:=kg.r7;obtain ⟨cm0,cm1,cm2,cm3,cm4,cm5⟩:=km.r6;obtain ⟨cp0,cp1,cp2⟩:=kp.r3;have q0:=Bx.mk fun dk osk=>Calls.regrown_of (hind.out y z (grow (redrawn W dk) osk));refine zAL 13 (by kernel_rfl) (by kernel_rfl) ?_
       simp only [List.take_succ_cons,List.take_zero,List.drop_succ_cons,List.drop_zero]
       repeat (first | go_big_quiet_step ((first | with_reducible exact q0.out _ _)) | quiet_step (first | with_reducible exact q0.out _ _))
       refine wpQuiet_nil ?_;rintro _ ⟨⟨dq,osq⟩,rfl⟩;have hb:=below_regrown W dq osq;replace hB:=hB.trans (hb.mono hB.size);clear cg0 cg1 cg2 cg3 cg4 cg5 cg6;clear cm0 cm1 cm2 cm3 cm4 cm5;clear cp0 cp1 cp2;clear q0;replace kg:=kg.later hb;replace km:=km.later hb;replace kp:=kp.later hb;replace hSz:=Nat.le_trans hSz hb.size;clear hb;generalize grow (redrawn W dq) osq=W1 at *;go_wp2_with fail;refine (Hc.out z y W1 z1 hz y1 hy (HI.out _ _ _ _ hJ'.out hB) (zEq hG'.out hB)).mono ?_;rintro e' w3 ⟨rfl,hJ,hb⟩;replace kg:=kg.grown hb (by omega)
       replace km:=km.grown hb (by omega)
       have hG:=zEr (zEq hG'.out hB) hb;have hJ':=Bx.mk hJ;have Kg:=Bx.mk kg;have Km:=Bx.mk km;have HG:=Bx.mk hG;clear hJ hG kg km hb hG' hB kp;have i2:=IntWalk.i64_in (y+1) (by have:=Hbd.out;omega)
       go_wp2_with fail
       go_roundw
       case rel=>exact ⟨y+1,by omega,by omega,rfl,Kg.out,Km.out,hJ'.out,HG.out⟩
       case measure=>simp [intOf];omega
     · obtain rfl:y=le:=by omega
       have hN:=HI.out _ _ _ _ (Hn.out z wr z1 hz hJ) (Below.refl _ _);have Kg:=Bx.mk kg;have Km:=Bx.mk km;have HN:=Bx.mk hN;have HG:=Bx.mk hG;clear hJ hG kg km hN;have cm:=Km.out;obtain ⟨cm0,cm1,cm2,cm3,cm4,cm5⟩:=cm.c6;clear cm;have i2:=IntWalk.i64_in (z+1) (by have:=Hbd.out;omega)
       go_wp2_with fail
       go_roundw
       case rel=>exact ⟨z+1,by omega,by omega,rfl,Kg.out,Km.out,HN.out,HG.out⟩
       case measure=>simp [intOf];omega
  · obtain rfl:z=lf:=by omega
    go_wp2_with fail
    go_end0
    exact ⟨rfl,hJ'.out,hG'.out⟩
end
end Go.Proofs.YtgnfgblkpnfcnaaGreatDoor
