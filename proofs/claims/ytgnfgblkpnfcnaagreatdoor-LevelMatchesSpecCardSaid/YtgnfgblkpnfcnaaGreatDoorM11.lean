/- Brk, Brk2, Cel, Str, Get: joined by program, for one claim. -/
import Derived.Test.YtgnfgblkpnfcnaaGreatDoorM10
import Derived.Laws.IdiomStrings
set_option maxHeartbeats 1000000
set_option maxRecDepth 100000
set_option linter.unusedVariables false
set_option linter.unusedSimpArgs false
namespace Go.Proofs.YtgnfgblkpnfcnaaGreatDoor
section
open Go.RowKit Go.Sort Go.Maps
open Oct
structure Top (xs:List Int) (m:Int):Prop where
 le : ∀ x∈xs,x≤m
 mem:m∈xs
structure Bot (xs:List Int) (m:Int):Prop where
 le : ∀ x∈xs,m≤x
 mem:m∈xs
theorem zAA {xs:List Int} {k:Nat} {x:Int} (h:xs[k]? = some x):xs.take (k+1)=xs.take k++[x]:=by
 rw [List.take_add_one,h];rfl
theorem Top.step {xs:List Int} {k:Nat} {m x:Int} (h:Top (xs.take k) m) (hx:xs[k]? = some x):Top (xs.take (k+1)) (max m x):=by
 rw [zAA hx];refine ⟨fun y hy=>?_,?_⟩
 · rcases List.mem_append.1 hy with hy | hy
   · have:=h.le y hy;omega
   · rw [List.mem_singleton.1 hy];omega
 · by_cases hm:x≤m
   · rw [show max m x=m by omega];exact List.mem_append_left _ h.mem
   · rw [show max m x=x by omega];simp
theorem Bot.step {xs:List Int} {k:Nat} {m x:Int} (h:Bot (xs.take k) m) (hx:xs[k]? = some x):Bot (xs.take (k+1)) (min m x):=by
 rw [zAA hx];refine ⟨fun y hy=>?_,?_⟩
 · rcases List.mem_append.1 hy with hy | hy
   · have:=h.le y hy;omega
   · rw [List.mem_singleton.1 hy];omega
 · by_cases hm:m≤x
   · rw [show min m x=m by omega];exact List.mem_append_left _ h.mem
   · rw [show min m x=x by omega];simp
theorem zNK {xs:List Int} {a b:Int} (h:Top xs a) (h':Bot xs b):a=b ↔ ∀ x∈xs,x=xs.headD 0:=by
 have hne:xs ≠ []:=by intro e;have:=h.mem;rw [e] at this;cases this
 obtain ⟨y,r,rfl⟩:=List.exists_cons_of_ne_nil hne;constructor
 · intro e x hx;have h1:=h.le x hx;have h2:=h'.le x hx;have h3:=h.le y (by simp)
   have h4:=h'.le y (by simp)
   show x=y
   omega
 · intro e;rw [e a h.mem,e b h'.mem]
theorem zMI (a:Option Addr) (cap:Nat) (xs:List Int) (w:World) (hl:xs.length≤1000000000) (h1:1≤xs.length) (h:Sl w .i64 a xs) :
 Calls Tryz.prog 120 #[.slice a xs.length cap] w fun e w' => ∃ m:Int,e = .returned (.int .i64 m)∧Bx (Top xs m)∧w=w':=by
 obtain ⟨x0,h0⟩ : ∃ x,xs[0]? = some x:=⟨_,List.getElem?_eq_getElem (by omega)⟩
 obtain ⟨b,off,rfl,hc0⟩:=h 0 x0 h0;have H0:Bx (Top (xs.take 1) x0):=⟨by rw [zAA h0];exact ⟨by simp,by simp⟩⟩
 have Hs:=Bx.mk h;have Hc:=Bx.mk (show Top (xs.take xs.length)=Top xs by rw [List.take_length])
 clear h h0;rw [Nat.add_zero] at hc0;generalize hn:xs.length=n at *;have Hn:=Bx.mk hn;clear hn;go_enter Tryz.func120,Tryz.ntmps120;go_wp2
 go_loop [3,4] (fun m i => ∃ k:Nat,∃ z:Int,1≤k∧k≤n∧i = .int .i64 k∧m = .int .i64 z∧Bx (Top (xs.take k) z)) (fun _ i=>n - (intOf i).toNat)
 case atStart=>exact ⟨1,x0,by omega,by omega,rfl,rfl,H0⟩
 case round =>
  obtain ⟨k,z,hk1,hk,rfl,rfl,hall⟩:=hrel;by_cases hlt:k<n
  · obtain ⟨x,hx⟩:=zBT Hn hlt;obtain ⟨b',off',hb,hc⟩:=Hs.out k x hx;simp only [Option.some.injEq,Addr.mk.injEq,and_true] at hb;obtain ⟨rfl,rfl⟩:=hb;have hnext:=Bx.mk (hall.out.step hx);clear hx hc0;go_wp2
    all_goals
     go_round
     case rel=>exact ⟨k+1,max z x,by omega,by omega,by go_num,by first | rfl | (congr 1;omega),hnext⟩
     case measure=>simp [intOf];omega
  · obtain rfl:k=n:=by omega
    rw [Hc.out] at hall;go_wp2;go_ret;exact ⟨z,rfl,hall,rfl⟩
theorem zMJ (a:Option Addr) (cap:Nat) (xs:List Int) (w:World) (hl:xs.length≤1000000000) (h1:1≤xs.length) (h:Sl w .i64 a xs) :
 Calls Tryz.prog 121 #[.slice a xs.length cap] w fun e w' => ∃ m:Int,e = .returned (.int .i64 m)∧Bx (Bot xs m)∧w=w':=by
 obtain ⟨x0,h0⟩ : ∃ x,xs[0]? = some x:=⟨_,List.getElem?_eq_getElem (by omega)⟩
 obtain ⟨b,off,rfl,hc0⟩:=h 0 x0 h0;have H0:Bx (Bot (xs.take 1) x0):=⟨by rw [zAA h0];exact ⟨by simp,by simp⟩⟩
 have Hs:=Bx.mk h;have Hc:=Bx.mk (show Bot (xs.take xs.length)=Bot xs by rw [List.take_length])
 clear h h0;rw [Nat.add_zero] at hc0;generalize hn:xs.length=n at *;have Hn:=Bx.mk hn;clear hn;go_enter Tryz.func121,Tryz.ntmps121;go_wp2
 go_loop [3,4] (fun m i => ∃ k:Nat,∃ z:Int,1≤k∧k≤n∧i = .int .i64 k∧m = .int .i64 z∧Bx (Bot (xs.take k) z)) (fun _ i=>n - (intOf i).toNat)
 case atStart=>exact ⟨1,x0,by omega,by omega,rfl,rfl,H0⟩
 case round =>
  obtain ⟨k,z,hk1,hk,rfl,rfl,hall⟩:=hrel;by_cases hlt:k<n
  · obtain ⟨x,hx⟩:=zBT Hn hlt;obtain ⟨b',off',hb,hc⟩:=Hs.out k x hx;simp only [Option.some.injEq,Addr.mk.injEq,and_true] at hb;obtain ⟨rfl,rfl⟩:=hb;have hnext:=Bx.mk (hall.out.step hx);clear hx hc0;go_wp2
    all_goals
     go_round
     case rel=>exact ⟨k+1,min z x,by omega,by omega,by go_num,by first | rfl | (congr 1;omega),hnext⟩
     case measure=>simp [intOf];omega
  · obtain rfl:k=n:=by omega
    rw [Hc.out] at hall;go_wp2;go_ret;exact ⟨z,rfl,hall,rfl⟩
theorem zA8 {xs:List Int} (h:xs.all Pal.cell=true) : ∀ x∈xs,0≤x∧x≤255:=by
 intro x hx;have:=List.all_eq_true.1 h x hx;simpa [Pal.cell] using this
theorem zBk (w:World) (Far:Nat→Prop) (sb:Nat) (most:Int) (ts:List Tr) (a:Option Addr) (cap:Nat) (xs:List Int) (hn:xs.length=64) (hb:xs.all Pal.cell=true) (h:Sl w .i64 a xs) (hG:Good ts) (hlen:ts.length≤1000000000000) (hFar : ∀ k,Far k→k<w.heap.size) (hS:StoreIs w Far sb most ts) :
 Calls Tryz.prog 67 #[.pointer (some ⟨sb,0,none⟩),.slice a 64 cap] w (Grew Far sb most ts (Tr.add (Tr.mkBrick xs) ts) (Tr.mkBrick xs) w):=by
 have h1:=zCr a cap xs w (by omega) h
 have h2:=zMI a cap xs w (by omega) (by omega) h
 have h3:=zMJ a cap xs w (by omega) (by omega) h
 rw [hn] at h1 h2 h3;rw [hb] at h1;have h1:=Bx.mk h1;have h2:=Bx.mk h2;have h3:=Bx.mk h3;obtain ⟨x0,hx0⟩ : ∃ x,xs[0]? = some x:=⟨_,List.getElem?_eq_getElem (by omega)⟩
 obtain ⟨b,off,rfl,hc0⟩:=h 0 x0 hx0
 have hd:xs.headD 0=x0:=by cases xs with
  | nil=>simp at hx0
  | cons y r=>simpa using hx0
 have hcells:=zA8 hb;by_cases hall : ∀ x∈xs,x=xs.headD 0
 · have hm:Tr.mkBrick xs = .uni x0:=by unfold Tr.mkBrick;rw [if_pos hall,hd]
   rw [hm];have h4:=Bx.mk (zNm w Far sb most ts x0 (hcells x0 (List.mem_of_getElem? hx0)) hG hlen hFar hS);have Hall:=Bx.mk hall;rw [Nat.add_zero] at hc0;clear hall hm hcells hG hlen hFar hS hn hb h hx0 hd;go_enter Tryz.func67,Tryz.ntmps67;go_wp2_with fail;refine h1.out.mono ?_;rintro e w1 ⟨rfl,rfl⟩;go_wp2_with fail;refine h2.out.mono ?_;rintro e w1 ⟨z1,rfl,hz1,rfl⟩;go_wp2_with fail;refine h3.out.mono ?_;rintro e w1 ⟨z2,rfl,hz2,rfl⟩;obtain rfl:z1=z2:=(zNK hz1.out hz2.out).2 Hall.out;go_wp2_with fail;refine h4.out.mono ?_;rintro e w2 hg;have Hg:=Bx.mk hg;obtain ⟨-,-,(⟨hf,rfl,hs⟩ | ⟨hf,rfl,us,hs⟩)⟩:=hg
   all_goals
    clear hf hs;go_wp2_with fail
    go_ret2
    exact Hg.out
 · have hm:Tr.mkBrick xs = .brick xs:=by unfold Tr.mkBrick;rw [if_neg hall]
   rw [hm];have hby:Bytes (.brick xs):=Bytes.brick ⟨hn,hcells⟩;have hle:Leans ts (.brick xs):=fun d ch h=>by cases h
   have h4:Bx (∀ W,Below w.heap.size w W→Calls Tryz.prog 74 #[.pointer (some ⟨sb,0,none⟩),.agg #[(2:Int),(0:Int),.string (strOfNums xs),(2:Int),(0:Int),(0:Int),(0:Int),(0:Int),(0:Int),(0:Int),(0:Int),(0:Int)]] W (Grew Far sb most ts (Tr.add (.brick xs) ts) (.brick xs) W)):=⟨fun W hW=>by
    have hV:zh ts (.brick xs)=zII 2 0 (strOfNums xs) 2 0 0 0 0 0 0 0 0:=rfl;have hk:=zIR hlen hle hby;rw [hV] at hk;rw [Tr.add_brick];exact zHd W Far sb most ts (.brick xs) 2 0 2 0 0 0 0 0 0 0 0 (strOfNums xs) hV hG hle hby hlen (fun k hk=>Nat.lt_of_lt_of_le (hFar k hk) hW.size) hk (hS.later hW)⟩
   have Hall:=Bx.mk hall;have Hs:=Bx.mk h;have Hn:=Bx.mk hn;have Hc:=Bx.mk hcells
   have hmk : ∀ W,(Instr.makeSlice 84 (.int .i64 64) (.int .i64 64)).run Tryz.prog W = .ok (.slice (some ⟨W.heap.size,0,none⟩) 64 64) (W.alloc (.cells (madeCells #[.int .u8 0] 64) 5)) :=
    fun W=>run_make_row' (P:=Tryz.prog) 84 5 (.int .u8 0) 1 Tryz.underlying84 (by kernel_rfl) rfl .i64 .i64 64 (by decide) (by decide) W
   clear hall hm hcells hby hle hG hlen hFar hS hn hb h hx0 hd hc0;go_enter Tryz.func67,Tryz.ntmps67;go_wp2_with fail;refine h1.out.mono ?_;rintro e w1 ⟨rfl,rfl⟩;go_wp2_with fail;refine h2.out.mono ?_;rintro e w1 ⟨z1,rfl,hz1,rfl⟩;go_wp2_with fail;refine h3.out.mono ?_;rintro e w1 ⟨z2,rfl,hz2,rfl⟩;have hne:(z1 == z2)=false:=by simpa using fun e=>Hall.out ((zNK hz1.out hz2.out).1 e)
   clear hz1 hz2 h1 h2 h3;go_wp2_with fail
   go_loopw [33] (fun i wr => ∃ k:Nat,k≤64∧i = .int .i64 k∧Bx (wr.rowIs w.heap.size 5 64 (fun j=>.int .u8 (if j<k then xs.getD j 0 else 0)))∧Bx (Below w.heap.size w wr)) (fun i _=>64 - (intOf i).toNat)
   case atStart=>exact ⟨0,Nat.zero_le _,rfl,⟨(World.rowIs_made _ _ _ _).congr (fun i _=>rfl)⟩,⟨(Below.refl _ _).alloc (Nat.le_refl _) _⟩⟩
   case round =>
    obtain ⟨k,hk,rfl,hrow,hB⟩:=hrel;have hS1:=Hs.out.below hB.out;by_cases hlt:k<64
    · obtain ⟨x,hx⟩:=zBT Hn hlt;obtain ⟨b',off',hb,hc⟩:=hS1 k x hx;simp only [Option.some.injEq,Addr.mk.injEq,and_true] at hb;obtain ⟨rfl,rfl⟩:=hb;have hr:=Hc.out x (List.mem_of_getElem? hx);have hxg:Bx (xs.getD k 0=x):=⟨by simp [List.getD,hx]⟩
      have b1:(0:Int)≤(k:Int):=by omega
      have b2:(k:Int)<64:=by omega
      have hcell:=hrow.out.cell hlt;have hfr:=hrow.out.frozen k;have hw8:IntKind.u8.wrap x=x:=by unfold IntKind.wrap;simp [IntKind.bits,IntKind.signed];omega
      clear hS1 hx hmk;go_wp2_with fail
      have hrow2:=Bx.mk ((hrow.out.set k (.int .u8 x)).congr (g:=fun j=>.int .u8 (if j<k+1 then xs.getD j 0 else 0)) (fun j hj=>by
       by_cases e:j=k
       · rw [e];simp only [if_true];rw [if_pos (by omega),hxg.out]
       · simp only [e,if_false];by_cases h5:j<k
         · rw [if_pos h5,if_pos (by omega)]
         · rw [if_neg h5,if_neg (by omega)]))
      have hB2:=Bx.mk (show Below w.heap.size w (wr.setCell ⟨w.heap.size,k,none⟩ (.int .u8 x)) from hB.out.setCell (Nat.le_refl _) _);clear hcell hfr
      go_roundw
      case rel=>exact ⟨k+1,by omega,by go_num,hrow2,hB2⟩
      case measure=>simp [intOf];omega
    · obtain rfl:k=64:=by omega
      have hsl:Sl wr .u8 (some ⟨w.heap.size,0,none⟩) xs:=fun i x hx=>⟨w.heap.size,0,rfl,by
       have hi:i<64:=by have:=(List.getElem?_eq_some_iff.1 hx).1;rw [Hn.out] at this;exact this
       have:=hrow.out.cell hi;simp only [hi,if_true] at this;rw [Nat.zero_add,this];simp [List.getD,hx]⟩
      have hcv:=zK (P:=Tryz.prog) 84 5 9 Tryz.underlying84 Tryz.underlying5 Tryz.underlying9 hsl 64 64 Hn.out.symm;have h5:=Bx.mk (h4.out wr hB.out);clear hsl hS1 hmk;generalize strOfNums xs=S at *;go_wp2_with fail;refine h5.out.mono ?_;rintro e w2 hg;have Hg:=Bx.mk (hg.since hB.out);obtain ⟨-,-,(⟨hf,rfl,hs⟩ | ⟨hf,rfl,us,hs⟩)⟩:=hg
      all_goals
       clear hf hs;go_wp2_with fail
       go_ret2
       exact Hg.out
def outT:Tr→List Int
 | .uni c=>[c]
 | .brick l=>l
 | .node _ _=>[]
theorem num8 {x:Int} (h:0≤x∧x≤255):((UInt8.ofNat x.toNat).toNat:Int)=x:=by
 simp only [UInt8.toNat_ofNat'];omega
theorem zCu (W:World) (xs:List Int) (hb : ∀ x∈xs,0≤x∧x≤255) : ∃ W' cap,(convert 9 84 (.string (strOfNums xs))).run Tryz.prog W = .ok (.slice (some ⟨W.heap.size,0,none⟩) xs.length cap) W'∧Below W.heap.size W W'∧Sl W' .u8 (some ⟨W.heap.size,0,none⟩) xs:=by
 have h:=run_bytes_of_string (P:=Tryz.prog) W 9 84 5 (strOfNums xs) Tryz.underlying9 Tryz.underlying84 Tryz.underlying5;rw [strOfNums_size] at h;refine ⟨_,_,h,((Below.refl _ _).drew).alloc (Nat.le_refl _) _,fun i x hx=>⟨_,0,rfl,?_⟩⟩;rw [Nat.zero_add];unfold World.cell?;rw [show W.heap.size=W.drew.heap.size from rfl,heap_alloc_new];have hi:i<xs.length:=(List.getElem?_eq_some_iff.1 hx).1
 have hd:(strOfNums xs).data[i]? = some (UInt8.ofNat x.toNat):=by
  rw [←Array.getElem?_toList,strOfNums_data,List.getElem?_map,hx];rfl
 have hr:=num8 (hb x (List.mem_of_getElem? hx));simp only [bytesRow]
 rw [Array.getElem?_append_left (by
  have:(strOfNums xs).data.size=xs.length:=by rw [←Array.length_toList,strOfNums_data,List.length_map]
  simp [this,hi])]
 have hx0:=hb x (List.mem_of_getElem? hx);simp [hd];omega
theorem zCc (w:World) (sb g n cap mb i:Nat) (most c d y0 y1 y2 y3 y4 y5 y6 y7:Int) (s:ByteArray) (hi:i<n) (_hn:n≤1000000000000) (ks:Bk w sb #[most,.slice (some ⟨g,0,none⟩) n cap,.map (some mb)] 102) (hc:Bx (∀ j u,j<12→(#[(1:Int),c,.string s,d,y0,y1,y2,y3,y4,y5,y6,y7]:Array Value).toList[j]? = some u→w.cell? ⟨g,i * 12+j,none⟩=some u)) :
 Calls Tryz.prog 65 #[.pointer (some ⟨sb,0,none⟩),(i:Int)] w fun e w' => ∃ v,e = .returned v∧Own w' w.heap.size 3 .i64 v [c]∧Below w.heap.size w w':=by
 have b1:(0:Int)≤(i:Int):=by omega
 have b2:(i:Int)<(n:Int):=by omega
 have cs1:=ks.cell 1 rfl;have d0:w.cell? ⟨g,i * 12,none⟩=some (.int .i64 1):=hc.out 0 _ (by omega) rfl
 have d1:w.cell? ⟨g,i * 12+1,none⟩=some (.int .i64 c):=hc.out 1 _ (by omega) rfl
 have d2:w.cell? ⟨g,i * 12+2,none⟩=some (.string s):=hc.out 2 _ (by omega) rfl
 have d3:w.cell? ⟨g,i * 12+3,none⟩=some (.int .i64 d):=hc.out 3 _ (by omega) rfl
 have d4:w.cell? ⟨g,i * 12+4,none⟩=some (.int .i64 y0):=hc.out 4 _ (by omega) rfl
 have d5:w.cell? ⟨g,i * 12+5,none⟩=some (.int .i64 y1):=hc.out 5 _ (by omega) rfl
 have d6:w.cell? ⟨g,i * 12+6,none⟩=some (.int .i64 y2):=hc.out 6 _ (by omega) rfl
 have d7:w.cell? ⟨g,i * 12+7,none⟩=some (.int .i64 y3):=hc.out 7 _ (by omega) rfl
 have d8:w.cell? ⟨g,i * 12+8,none⟩=some (.int .i64 y4):=hc.out 8 _ (by omega) rfl
 have d9:w.cell? ⟨g,i * 12+9,none⟩=some (.int .i64 y5):=hc.out 9 _ (by omega) rfl
 have d10:w.cell? ⟨g,i * 12+10,none⟩=some (.int .i64 y6):=hc.out 10 _ (by omega) rfl
 have d11:w.cell? ⟨g,i * 12+11,none⟩=some (.int .i64 y7):=hc.out 11 _ (by omega) rfl
 clear ks hc;go_enter Tryz.func65,Tryz.ntmps65;go_upto_region 2 with fail;generalize hW:World.alloc w _=W;have hSz:=sz1 hW;have hB:=bl1 hW;have kn:Bk W (w.heap.size) #[(1:Int),c,.string s,d,y0,y1,y2,y3,y4,y5,y6,y7] 111:=bk0 hW;clear hW;clear d0 d1 d2 d3 d4 d5 d6 d7 d8 d9 d10 d11 cs1;obtain ⟨cn0,cn1,cn2,cn3,cn4,cn5,cn6,cn7,cn8,cn9,cn10,cn11⟩:=kn.c12;go_wp2_with fail;go_ret;refine ⟨_,rfl,Own.lit W w.heap.size 3 .i64 #[c] [c] 1 hB.size (by simp [maxLen]) rfl rfl,hB.alloc hB.size _⟩
theorem zCb (w:World) (sb g n cap mb i:Nat) (most kk c d y0 y1 y2 y3 y4 y5 y6 y7:Int) (s:ByteArray) (xs:List Int) (hs:s=strOfNums xs) (hl:xs.length≤64) (hb : ∀ x∈xs,0≤x∧x≤255) (hk:(kk == 1)=false) (hi:i<n) (_hn:n≤1000000000000) (ks:Bk w sb #[most,.slice (some ⟨g,0,none⟩) n cap,.map (some mb)] 102) (hc:Bx (∀ j u,j<12→(#[kk,c,.string s,d,y0,y1,y2,y3,y4,y5,y6,y7]:Array Value).toList[j]? = some u→w.cell? ⟨g,i * 12+j,none⟩=some u)) :
 Calls Tryz.prog 65 #[.pointer (some ⟨sb,0,none⟩),(i:Int)] w fun e w' => ∃ v,e = .returned v∧Own w' w.heap.size 3 .i64 v xs∧Below w.heap.size w w':=by
 replace hs:=Bx.mk hs;replace hb:=Bx.mk hb;have b1:(0:Int)≤(i:Int):=by omega
 have b2:(i:Int)<(n:Int):=by omega
 have cs1:=ks.cell 1 rfl;have d0:w.cell? ⟨g,i * 12,none⟩=some (.int .i64 kk):=hc.out 0 _ (by omega) rfl
 have d1:w.cell? ⟨g,i * 12+1,none⟩=some (.int .i64 c):=hc.out 1 _ (by omega) rfl
 have d2:w.cell? ⟨g,i * 12+2,none⟩=some (.string s):=hc.out 2 _ (by omega) rfl
 have d3:w.cell? ⟨g,i * 12+3,none⟩=some (.int .i64 d):=hc.out 3 _ (by omega) rfl
 have d4:w.cell? ⟨g,i * 12+4,none⟩=some (.int .i64 y0):=hc.out 4 _ (by omega) rfl
 have d5:w.cell? ⟨g,i * 12+5,none⟩=some (.int .i64 y1):=hc.out 5 _ (by omega) rfl
 have d6:w.cell? ⟨g,i * 12+6,none⟩=some (.int .i64 y2):=hc.out 6 _ (by omega) rfl
 have d7:w.cell? ⟨g,i * 12+7,none⟩=some (.int .i64 y3):=hc.out 7 _ (by omega) rfl
 have d8:w.cell? ⟨g,i * 12+8,none⟩=some (.int .i64 y4):=hc.out 8 _ (by omega) rfl
 have d9:w.cell? ⟨g,i * 12+9,none⟩=some (.int .i64 y5):=hc.out 9 _ (by omega) rfl
 have d10:w.cell? ⟨g,i * 12+10,none⟩=some (.int .i64 y6):=hc.out 10 _ (by omega) rfl
 have d11:w.cell? ⟨g,i * 12+11,none⟩=some (.int .i64 y7):=hc.out 11 _ (by omega) rfl
 clear ks hc;go_enter Tryz.func65,Tryz.ntmps65;go_upto_region 2 with fail;generalize hW:World.alloc w _=W;have hSz:=sz1 hW;have hB:=bl1 hW;have kn:Bk W (w.heap.size) #[kk,c,.string s,d,y0,y1,y2,y3,y4,y5,y6,y7] 111:=bk0 hW;clear hW;clear d0 d1 d2 d3 d4 d5 d6 d7 d8 d9 d10 d11 cs1;obtain ⟨cn0,cn1,cn2,cn3,cn4,cn5,cn6,cn7,cn8,cn9,cn10,cn11⟩:=kn.c12;obtain ⟨W2,c2,hrun,hb2,hsl⟩:=zCu W xs hb.out;rw [←hs.out] at hrun;have Hs:=Bx.mk hsl;have Hb2:=Bx.mk hb2;have hlB:=hB.size;have hB2:=Bx.mk (hB.trans (hb2.mono hB.size));have Hr:=hb;have hz2:w.heap.size≤W2.heap.size:=hB2.out.size;have Ht:=Bx.mk (show xs.take xs.length=xs from List.take_length);clear hb2 hsl hs;generalize hn2:xs.length=m at *;replace hn2:=Bx.mk hn2;go_wp2_with fail;clear cn0 cn1 cn2 cn3 cn4 cn5 cn6 cn7 cn8 cn9 cn10 cn11 kn hrun hk
 go_loopw [6,26] (fun v i wr => ∃ k:Nat,k≤m∧i = .int .i64 k∧Bx (Own wr W2.heap.size 3 .i64 v (xs.take k))∧Bx (Below w.heap.size w wr)∧Bx (Below W2.heap.size W2 wr)) (fun _ i _=>m - (intOf i).toNat)
 case atStart=>exact ⟨0,Nat.zero_le _,rfl,⟨Own.nil _ _ _ _⟩,hB2,⟨Below.refl _ _⟩⟩
 case round =>
  obtain ⟨k,hk,rfl,hown,hbw,hb2⟩:=hrel;by_cases hlt:k<m
  · obtain ⟨x,hx⟩:=zBT hn2 hlt;obtain ⟨b',off',hbo,hc⟩:=(Hs.out.below hb2.out) k x hx;simp only [Option.some.injEq,Addr.mk.injEq,and_true] at hbo;obtain ⟨rfl,rfl⟩:=hbo;rw [Nat.zero_add] at hc;have hr:=Hr.out x (List.mem_of_getElem? hx);have hnext:=Bx.mk (zAA hx);have b3:(0:Int)≤(k:Int):=by omega
    have b4:(k:Int)<(m:Int):=by omega
    have hwrap:IntKind.i64.wrap x=x:=IntWalk.i64_in _ (by omega)
    have hle:=hbw.out.size;have hle2:W2.heap.size≤wr.heap.size:=hb2.out.size;have htl:(xs.take k).length≤1000000000:=by rw [List.length_take];omega
    have Htl:=Bx.mk htl;clear hx htl
    go_wp2_with (first
     | (at_builtin
        refine zAF rfl _ _ 26 rfl 3 .i64 (.int .i64 0) 8 (by omega) Tryz.underlying26 (by kernel_rfl) rfl W2.heap.size _ (xs.take k) rfl (hown.out.alloc _) x ⟨wr.heap.size,0,none⟩ 1 rfl (zH _ _ _) Htl.out (ze hle2 _) ?_
        intro v1 w1 hown1 hg1 _))
    have hown2:=Bx.mk hown1;rw [←hnext.out] at hown2;have hbw2:=Bx.mk ((hbw.out.alloc hle (.cells #[x] 3)).grown hg1 (ze hle _) (fun g hg=>Nat.le_trans hz2 (hown.out.lt g hg).1));have hb3:=Bx.mk ((hb2.out.alloc hle2 (.cells #[x] 3)).grown hg1 (ze hle2 _) (fun g hg=>(hown.out.lt g hg).1));clear hown1 hg1
    go_roundw
    case rel=>exact ⟨k+1,by omega,by go_num,hown2,hbw2,hb3⟩
    case measure=>simp [intOf];omega
  · obtain rfl:k=m:=by omega
    go_wp2_with fail;go_ret;refine ⟨_,rfl,?_,hbw.out⟩;have:=hown.out;rw [Ht.out] at this;exact this.base hz2
theorem zCZ (w:World) (Far:Nat→Prop) (sb:Nat) (most:Int) (ts:List Tr) (t:Tr) (ht:t∈ts) (hG:Good ts) (hlen:ts.length≤1000000000000) (hS:StoreIs w Far sb most ts) :
 Calls Tryz.prog 65 #[.pointer (some ⟨sb,0,none⟩),(idT ts t:Int)] w fun e w' => ∃ v,e = .returned v∧Own w' w.heap.size 3 .i64 v (outT t)∧Below w.heap.size w w':=by
 have hby:=hG.bytes t ht;cases t with
 | uni c =>
   obtain ⟨g,cap,mb,h1,h2,h3⟩:=Bx.node hS ht (k:=1) (c:=c) rfl;exact zCc w sb g ts.length cap mb _ most c _ _ _ _ _ _ _ _ _ _ h2 hlen h1 h3
 | brick l =>
   obtain ⟨g,cap,mb,h1,h2,h3⟩:=Bx.node hS ht (k:=2) (s:=strOfNums l) rfl;exact zCb w sb g ts.length cap mb _ most 2 _ _ _ _ _ _ _ _ _ _ _ l rfl (by rw [(hby.bricks l rfl).1];omega) (hby.bricks l rfl).2 (by decide) h2 hlen h1 h3
 | node d ch =>
   obtain ⟨g,cap,mb,h1,h2,h3⟩:=Bx.node hS ht (k:=3) (s:=ByteArray.empty) rfl;exact zCb w sb g ts.length cap mb _ most 3 _ _ _ _ _ _ _ _ _ _ _ [] rfl (by simp) (by simp) (by decide) h2 hlen h1 h3
end
section
open Go.RowKit
def Byt (t:List Int):Prop := ∀ x∈t,0≤x∧x≤255
def bs (s:ByteArray):List Int:=s.data.toList.map fun b=>(b.toNat:Int)
theorem zBl {t:List Int} (h:Byt t):bs (strOfNums t)=t:=by
 unfold bs;rw [strOfNums_data,List.map_map]
 conv=>rhs;rw [←List.map_id t]
 apply List.map_congr_left;intro x hx;have:=h x hx;simp [UInt8.toNat_ofNat'];omega
theorem Byt.drop {t:List Int} (h:Byt t) (k:Nat):Byt (t.drop k):=fun x hx=>h x (List.mem_of_mem_drop hx)
theorem Byt.take {t:List Int} (h:Byt t) (k:Nat):Byt (t.take k):=fun x hx=>h x (List.mem_of_mem_take hx)
theorem Byt.append {t u:List Int} (h:Byt t) (h':Byt u):Byt (t++u):=fun x hx=>by
 rcases List.mem_append.1 hx with h1 | h1
 · exact h x h1
 · exact h' x h1
theorem Byt.get {t:List Int} (h:Byt t) {k:Nat} {x:Int} (hx:t[k]? = some x):0≤x∧x≤255:=h x (List.mem_of_getElem? hx)
theorem zMr (t u:List Int):strOfNums t++strOfNums u=strOfNums (t++u):=by
 apply ByteArray.ext;simp [strOfNums]
theorem zMs (t:List Int) (a b:Nat):(strOfNums t).extract a b=strOfNums ((t.drop a).take (b - a)):=by
 unfold strOfNums;rw [ByteArray.extract_mk,←List.map_drop,←List.map_take]
theorem zMt {t:List Int} (h:Byt t) {k:Nat} {x:Int} (hx:t[k]? = some x) : ∃ hk:k<(strOfNums t).size,(((strOfNums t)[k]'hk).toNat:Int)=x:=by
 obtain ⟨hk,rfl⟩:=List.getElem?_eq_some_iff.1 hx;refine ⟨by rw [strOfNums_size];exact hk,?_⟩
 have h1:=h _ (List.getElem_mem hk)
 show (((strOfNums t).data[k]'_).toNat:Int)=t[k]
 simp [strOfNums,UInt8.toNat_ofNat'];omega
theorem zW {P:Program} (T:TypeId) (hu:P.underlying T=some .string) {t:List Int} (hb:Byt t) {k:Nat} {x:Int} (h:t[k]? = some x) (w:World) :
 (Instr.index T (.string (strOfNums t)) (.int .i64 (k:Int))).run P w = .ok (.int .u8 x) w:=by
 obtain ⟨hk,hx⟩:=zMt hb h;rw [run_index_string w T _ _ _ hu,dif_pos ⟨by omega,by omega⟩]
 simp only [Int.toNat_natCast];rw [hx]
end
section
open Go.RowKit Go.Sort Go.Maps
open Oct
inductive Dep:Nat→Tr→Prop
 | uni (n:Nat) (c:Int):Dep n (.uni c)
 | brick (l:List Int):Dep 0 (.brick l)
 | node (n:Nat) (ch:Fin 8→Tr) (h : ∀ i,Dep n (ch i)):Dep (n+1) (.node (n+3) ch)
theorem zIe (m:Nat) (hm:m≤12) (dd:Int) (hd:dd=(m:Int)+3) (px py pz:Int) (hx:0≤px∧px≤100000) (hy:0≤py∧py≤100000) (hz:0≤pz∧pz≤100000) (w:World) :
 Calls Tryz.prog 69 #[dd,.agg #[px,py,pz]] w fun e w'=>e = .returned (.int .i64 ((Tr.oct m ⟨px,py,pz⟩).val:Int))∧Below w.heap.size w w':=by
 subst hd;have h:=zId (m+2) (by omega) px py pz hx hy hz w
 rw [show ((m+2+1:Nat):Int)=(m:Int)+3 by omega] at h
 refine h.mono ?_;rintro e w' ⟨rfl,hb⟩;refine ⟨zt ?_,hb⟩;unfold Tr.oct Tr.octN;simp only [];omega
theorem zEg (w:World) (sb:Nat) (i:Int) (n:Nat) (hn:n≤14) (px py pz:Int) (h:inB ⟨px,py,pz⟩ (zL (2 ^ n))=false) :
 Calls Tryz.prog 55 #[.pointer (some ⟨sb,0,none⟩),i,(n:Int),.agg #[px,py,pz]] w fun e w'=>e = .returned (.int .i64 0)∧Below w.heap.size w w':=by
 have h1:=Bx.mk (fun W=>zFm n hn px py pz W);rw [h] at h1;clear h;go_enter Tryz.func55,Tryz.ntmps55;go_wp2_with fail;generalize hW:World.alloc w _=W;have hSz:=sz1 hW;have hB:=bl1 hW;have kp:Bk W (w.heap.size) #[px,py,pz] 23:=bk0 hW;clear hW;refine (h1.out _).mono ?_;rintro e w1 ⟨rfl,hb⟩;have hB2:=hB.trans (hb.mono hB.size);go_wp2_with fail;go_ret;exact ⟨rfl,hB2⟩
theorem zIU {w:World} {b:Nat} {ts:List Tr} {ch:Fin 8→Tr} {v0 v1 v2 v3:Value} (h:Bk w b #[v0,v1,v2,v3,(idT ts (ch 0):Int),(idT ts (ch 1):Int),(idT ts (ch 2):Int),(idT ts (ch 3):Int),(idT ts (ch 4):Int),(idT ts (ch 5):Int),(idT ts (ch 6):Int),(idT ts (ch 7):Int)] 111) : ∀ k:Fin 8,w.cell? ⟨b,4+k.val,none⟩=some (.int .i64 (idT ts (ch k):Int)) :=
 fin8 (P:=fun k=>w.cell? ⟨b,4+k.val,none⟩=some (.int .i64 (idT ts (ch k):Int))) (h.cell 4 rfl) (h.cell 5 rfl) (h.cell 6 rfl) (h.cell 7 rfl) (h.cell 8 rfl) (h.cell 9 rfl) (h.cell 10 rfl) (h.cell 11 rfl)
theorem zEf (w:World) (Far:Nat→Prop) (sb:Nat) (most:Int) (ts:List Tr) (t:Tr) (ht:t∈ts) (n:Nat) (hn:n≤12) (hD:Dep n t) (hG:Good ts) (_hlen:ts.length≤1000000000000) (px py pz:Int) (hin:inB ⟨px,py,pz⟩ (zL (2 ^ (n+2)))=true) (hS:StoreIs w Far sb most ts) :
 Calls Tryz.prog 55 #[.pointer (some ⟨sb,0,none⟩),(idT ts t:Int),.int .i64 ((n:Int)+2),.agg #[px,py,pz]] w fun e w'=>e = .returned (.int .i64 (Tr.getT t n ⟨px,py,pz⟩))∧Below w.heap.size w w':=by
 have h1:=Bx.mk (fun W=>zFm (n+2) (by omega) px py pz W)
 rw [hin] at h1;rw [show ((n+2:Nat):Int)=(n:Int)+2 by omega] at h1
 have hp:Bx ((0≤px∧px≤100000)∧(0≤py∧py≤100000)∧(0≤pz∧pz≤100000)):=⟨by
  have hl:=(zn (show n+2≤14 by omega)).2
  have:=zX.1 hin;simp only [zL,Pt.zero] at this;omega⟩
 have HS:=Bx.mk hS;have HG:=Bx.mk hG;obtain ⟨r,hr⟩ : ∃ r,r=Tr.getT t n ⟨px,py,pz⟩:=⟨_,rfl⟩;have HR:Bx (t∈ts∧Dep n t∧Tr.getT t n ⟨px,py,pz⟩=r):=Bx.mk (And.intro ht (And.intro hD hr.symm));rw [←hr];clear hr;clear hin hS hG ht hD;go_enter Tryz.func55,Tryz.ntmps55;go_wp2_with fail;generalize hW:World.alloc w _=W;have hSz:=sz1 hW;have hB:=bl1 hW;have kp:Bk W (w.heap.size) #[px,py,pz] 23:=bk0 hW;clear hW;refine (h1.out _).mono ?_;rintro e w1 ⟨rfl,hb⟩;replace hB:=Bx.mk (hB.trans (hb.mono hB.size));replace kp:=Bx.mk (kp.later hb);clear hb hSz h1;go_wp2_with fail
 go_loopw [1,2] (fun vi vd wr => ∃ (m:Nat) (u:Tr),vi = .int .i64 (idT ts u:Int)∧vd = .int .i64 ((m:Int)+2)∧m≤12∧Bx (u∈ts∧Dep m u∧Tr.getT u m ⟨px,py,pz⟩=r)∧Bx (Below w.heap.size w wr)∧Bx (Bk wr w.heap.size #[px,py,pz] 23)) (fun _ vd _=>(intOf vd).toNat)
 case atStart=>exact ⟨n,t,rfl,rfl,hn,HR,hB,kp⟩
 case round =>
  clear HR hB kp;obtain ⟨m,u,rfl,rfl,hm,HR,hB,kp⟩:=hrel;obtain ⟨hu,hD,hr⟩:=HR.out;have hSr:=HS.out.later hB.out;have hby:=HG.out.bytes u hu;cases hD with
  | uni _ c =>
    obtain ⟨g,cap,mb,ks,hi,hc⟩:=Bx.node hSr hu (k:=1) (c:=c) rfl;have cs1:=ks.cell 1 rfl;have b1:(0:Int)≤(idT ts (.uni c):Int):=by omega
    have b2:(idT ts (.uni c):Int)<(ts.length:Int):=by omega
    have hr:=Bx.mk (show c=r from hr);have d0:wr.cell? ⟨g,idT ts (.uni c) * 12,none⟩=some (.int .i64 1):=hc.out 0 _ (by omega) rfl
    have d1:wr.cell? ⟨g,idT ts (.uni c) * 12+1,none⟩=some (.int .i64 c):=hc.out 1 _ (by omega) rfl
    have d2:wr.cell? ⟨g,idT ts (.uni c) * 12+2,none⟩=some (.string ByteArray.empty):=hc.out 2 _ (by omega) rfl
    have d3:wr.cell? ⟨g,idT ts (.uni c) * 12+3,none⟩=some (.int .i64 0):=hc.out 3 _ (by omega) rfl
    have d4:wr.cell? ⟨g,idT ts (.uni c) * 12+4,none⟩=some (.int .i64 0):=hc.out 4 _ (by omega) rfl
    have d5:wr.cell? ⟨g,idT ts (.uni c) * 12+5,none⟩=some (.int .i64 0):=hc.out 5 _ (by omega) rfl
    have d6:wr.cell? ⟨g,idT ts (.uni c) * 12+6,none⟩=some (.int .i64 0):=hc.out 6 _ (by omega) rfl
    have d7:wr.cell? ⟨g,idT ts (.uni c) * 12+7,none⟩=some (.int .i64 0):=hc.out 7 _ (by omega) rfl
    have d8:wr.cell? ⟨g,idT ts (.uni c) * 12+8,none⟩=some (.int .i64 0):=hc.out 8 _ (by omega) rfl
    have d9:wr.cell? ⟨g,idT ts (.uni c) * 12+9,none⟩=some (.int .i64 0):=hc.out 9 _ (by omega) rfl
    have d10:wr.cell? ⟨g,idT ts (.uni c) * 12+10,none⟩=some (.int .i64 0):=hc.out 10 _ (by omega) rfl
    have d11:wr.cell? ⟨g,idT ts (.uni c) * 12+11,none⟩=some (.int .i64 0):=hc.out 11 _ (by omega) rfl
    clear ks hc HS HG HR hSr hby hu;go_wp2_with fail;go_ret;exact ⟨zt hr.out,hB.out.alloc hB.out.size _⟩
  | brick l =>
    obtain ⟨g,cap,mb,ks,hi,hc⟩:=Bx.node hSr hu (k:=2) (s:=strOfNums l) rfl;have cs1:=ks.cell 1 rfl;have b1:(0:Int)≤(idT ts (.brick l):Int):=by omega
    have b2:(idT ts (.brick l):Int)<(ts.length:Int):=by omega
    have hk:Tr.idx ⟨px,py,pz⟩<l.length:=by rw [(hby.bricks l rfl).1];exact Tr.idx_lt _
    have hx:=List.getElem?_eq_getElem hk
    have hr2:l[Tr.idx ⟨px,py,pz⟩]=r:=by
     rw [←hr];unfold Tr.getT;rw [Tr.getD_el hk]
    rw [hr2] at hx;have hrr:=(hby.bricks l rfl).2 _ (List.mem_of_getElem? hx);have hix:=fun W=>zW (P:=Tryz.prog) 9 Tryz.underlying9 (hby.bricks l rfl).2 hx W;have d0:wr.cell? ⟨g,idT ts (.brick l) * 12,none⟩=some (.int .i64 2):=hc.out 0 _ (by omega) rfl
    have d1:wr.cell? ⟨g,idT ts (.brick l) * 12+1,none⟩=some (.int .i64 0):=hc.out 1 _ (by omega) rfl
    have d2:wr.cell? ⟨g,idT ts (.brick l) * 12+2,none⟩=some (.string (strOfNums l)):=hc.out 2 _ (by omega) rfl
    have d3:wr.cell? ⟨g,idT ts (.brick l) * 12+3,none⟩=some (.int .i64 2):=hc.out 3 _ (by omega) rfl
    have d4:wr.cell? ⟨g,idT ts (.brick l) * 12+4,none⟩=some (.int .i64 0):=hc.out 4 _ (by omega) rfl
    have d5:wr.cell? ⟨g,idT ts (.brick l) * 12+5,none⟩=some (.int .i64 0):=hc.out 5 _ (by omega) rfl
    have d6:wr.cell? ⟨g,idT ts (.brick l) * 12+6,none⟩=some (.int .i64 0):=hc.out 6 _ (by omega) rfl
    have d7:wr.cell? ⟨g,idT ts (.brick l) * 12+7,none⟩=some (.int .i64 0):=hc.out 7 _ (by omega) rfl
    have d8:wr.cell? ⟨g,idT ts (.brick l) * 12+8,none⟩=some (.int .i64 0):=hc.out 8 _ (by omega) rfl
    have d9:wr.cell? ⟨g,idT ts (.brick l) * 12+9,none⟩=some (.int .i64 0):=hc.out 9 _ (by omega) rfl
    have d10:wr.cell? ⟨g,idT ts (.brick l) * 12+10,none⟩=some (.int .i64 0):=hc.out 10 _ (by omega) rfl
    have d11:wr.cell? ⟨g,idT ts (.brick l) * 12+11,none⟩=some (.int .i64 0):=hc.out 11 _ (by omega) rfl
    have hpp:=hp.out;obtain ⟨x4,hx4⟩ : ∃ x4,x4=px % 4:=⟨_,rfl⟩;obtain ⟨y4,hy4⟩ : ∃ y4,y4=py % 4:=⟨_,rfl⟩;obtain ⟨z4,hz4⟩ : ∃ z4,z4=pz % 4:=⟨_,rfl⟩;have e1:bits .and .i64 px 3=x4:=by rw [hx4];exact zFB px (by omega) (by omega)
    have e2:bits .and .i64 py 3=y4:=by rw [hy4];exact zFB py (by omega) (by omega)
    have e3:bits .and .i64 pz 3=z4:=by rw [hz4];exact zFB pz (by omega) (by omega)
    have e4:bits .or .i64 (bits .or .i64 x4 (wrap64 (y4 * 4))) (wrap64 (z4 * 16))=(Tr.idx ⟨px,py,pz⟩:Int):=by
     rw [zIz (by omega) (by omega) (by omega)]
     unfold Tr.idx;simp only [←hx4,←hy4,←hz4];omega
    have hwrap:IntKind.i64.wrap r=r:=IntWalk.i64_in _ (by omega)
    have al0 : ∀ o,(wr.alloc o).cell? ⟨w.heap.size,0,none⟩=some (.int .i64 px):=fun o=>(kp.out.alloc o).cell 0 rfl;have al1 : ∀ o,(wr.alloc o).cell? ⟨w.heap.size,1,none⟩=some (.int .i64 py):=fun o=>(kp.out.alloc o).cell 1 rfl;have al2 : ∀ o,(wr.alloc o).cell? ⟨w.heap.size,2,none⟩=some (.int .i64 pz):=fun o=>(kp.out.alloc o).cell 2 rfl;generalize Tr.idx ⟨px,py,pz⟩=kk at *;generalize strOfNums l=S at *;clear ks hc HS HG HR hSr hby hu hr hk hx hr2 hpp hp hx4 hy4 hz4;go_wp2_with fail;go_ret;exact ⟨rfl,hB.out.alloc hB.out.size _⟩
  | node m ch hch =>
    obtain ⟨g,cap,mb,ks,hi,hc⟩:=Bx.node hSr hu (k:=3) (s:=ByteArray.empty) rfl;have cs1:=ks.cell 1 rfl;have b1:(0:Int)≤(idT ts (.node (m+3) ch):Int):=by omega
    have b2:(idT ts (.node (m+3) ch):Int)<(ts.length:Int):=by omega
    have d0:wr.cell? ⟨g,idT ts (.node (m+3) ch) * 12,none⟩=some (.int .i64 3):=hc.out 0 _ (by omega) rfl
    have d1:wr.cell? ⟨g,idT ts (.node (m+3) ch) * 12+1,none⟩=some (.int .i64 0):=hc.out 1 _ (by omega) rfl
    have d2:wr.cell? ⟨g,idT ts (.node (m+3) ch) * 12+2,none⟩=some (.string ByteArray.empty):=hc.out 2 _ (by omega) rfl
    have d3:wr.cell? ⟨g,idT ts (.node (m+3) ch) * 12+3,none⟩=some (.int .i64 ((m+3:Nat):Int)):=hc.out 3 _ (by omega) rfl
    have d4:wr.cell? ⟨g,idT ts (.node (m+3) ch) * 12+4,none⟩=some (.int .i64 (idT ts (ch 0):Int)):=hc.out 4 _ (by omega) rfl
    have d5:wr.cell? ⟨g,idT ts (.node (m+3) ch) * 12+5,none⟩=some (.int .i64 (idT ts (ch 1):Int)):=hc.out 5 _ (by omega) rfl
    have d6:wr.cell? ⟨g,idT ts (.node (m+3) ch) * 12+6,none⟩=some (.int .i64 (idT ts (ch 2):Int)):=hc.out 6 _ (by omega) rfl
    have d7:wr.cell? ⟨g,idT ts (.node (m+3) ch) * 12+7,none⟩=some (.int .i64 (idT ts (ch 3):Int)):=hc.out 7 _ (by omega) rfl
    have d8:wr.cell? ⟨g,idT ts (.node (m+3) ch) * 12+8,none⟩=some (.int .i64 (idT ts (ch 4):Int)):=hc.out 8 _ (by omega) rfl
    have d9:wr.cell? ⟨g,idT ts (.node (m+3) ch) * 12+9,none⟩=some (.int .i64 (idT ts (ch 5):Int)):=hc.out 9 _ (by omega) rfl
    have d10:wr.cell? ⟨g,idT ts (.node (m+3) ch) * 12+10,none⟩=some (.int .i64 (idT ts (ch 6):Int)):=hc.out 10 _ (by omega) rfl
    have d11:wr.cell? ⟨g,idT ts (.node (m+3) ch) * 12+11,none⟩=some (.int .i64 (idT ts (ch 7):Int)):=hc.out 11 _ (by omega) rfl
    have hpp:=hp.out;have ho:=Bx.mk (fun W dd hd=>zIe m (by omega) dd hd px py pz hpp.1 hpp.2.1 hpp.2.2 W)
    have al0 : ∀ o,(wr.alloc o).cell? ⟨w.heap.size,0,none⟩=some (.int .i64 px):=fun o=>(kp.out.alloc o).cell 0 rfl;have al1 : ∀ o,(wr.alloc o).cell? ⟨w.heap.size,1,none⟩=some (.int .i64 py):=fun o=>(kp.out.alloc o).cell 1 rfl;have al2 : ∀ o,(wr.alloc o).cell? ⟨w.heap.size,2,none⟩=some (.int .i64 pz):=fun o=>(kp.out.alloc o).cell 2 rfl;have HR2:Bx (ch (Tr.oct m ⟨px,py,pz⟩)∈ts∧Dep m (ch (Tr.oct m ⟨px,py,pz⟩))∧Tr.getT (ch (Tr.oct m ⟨px,py,pz⟩)) m ⟨px,py,pz⟩=r):=⟨HG.out.closed.2 _ _ hu _,hch _,hr⟩;have hb0:=Bx.mk (hB.out.alloc hB.out.size (.cells #[(3:Int),(0:Int),.string ByteArray.empty,((m+3:Nat):Int),(idT ts (ch 0):Int),(idT ts (ch 1):Int),(idT ts (ch 2):Int),(idT ts (ch 3):Int),(idT ts (ch 4):Int),(idT ts (ch 5):Int),(idT ts (ch 6):Int),(idT ts (ch 7):Int)] 111));have kp0:=Bx.mk (kp.out.alloc (.cells #[(3:Int),(0:Int),.string ByteArray.empty,((m+3:Nat):Int),(idT ts (ch 0):Int),(idT ts (ch 1):Int),(idT ts (ch 2):Int),(idT ts (ch 3):Int),(idT ts (ch 4):Int),(idT ts (ch 5):Int),(idT ts (ch 6):Int),(idT ts (ch 7):Int)] 111));have kn0:=Bx.mk (Bk.new wr #[(3:Int),(0:Int),.string ByteArray.empty,((m+3:Nat):Int),(idT ts (ch 0):Int),(idT ts (ch 1):Int),(idT ts (ch 2):Int),(idT ts (ch 3):Int),(idT ts (ch 4):Int),(idT ts (ch 5):Int),(idT ts (ch 6):Int),(idT ts (ch 7):Int)] 111);clear ks hc HS HG HR hSr hby hu hr hpp hp hch;go_wp2_with fail;refine (ho.out _ _ (by omega)).mono ?_
    rintro e w2 ⟨rfl,hb2⟩;have kn2:=Bx.mk (zIU (kn0.out.later hb2));replace hb0:=Bx.mk (hb0.out.trans (hb2.mono hb0.out.size));replace kp0:=Bx.mk (kp0.out.later hb2);clear hb2 kn0 ho d0 d1 d2 d3 d4 d5 d6 d7 d8 d9 d10 d11 al0 al1 al2;generalize Tr.oct m ⟨px,py,pz⟩=kk at *;have hkid:=kn2.out kk;have hk8:=kk.isLt;have b3:(0:Int)≤(kk.val:Int):=by omega
    have b4:(kk.val:Int)<8:=by omega
    clear kn2;go_wp2_with fail
    go_roundw
    case rel=>exact ⟨m,_,rfl,by go_num,by omega,HR2,hb0,kp0⟩
    case measure=>simp [intOf];omega
end
end Go.Proofs.YtgnfgblkpnfcnaaGreatDoor
