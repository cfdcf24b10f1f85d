/- M12, M13, M14: joined by program. -/
import Derived.Test.YtfcbajmjaifjlaaGreatM4
import Derived.Laws.CopyOwn
import Derived.Laws.BitsAllLaws
import Derived.Lib.SliceRun
set_option maxHeartbeats 2000000
set_option maxRecDepth 100000
set_option linter.all false
attribute [local simp] Go.Op.operands Go.Call.operands
namespace Go.Proofs.YtfcbajmjaifjlaaGreat
section
open Go.RowKit Go.Sort Go.Maps
open Oct
structure Top (xs:List Int) (m:Int):Prop where
 le : ∀ x∈xs,x≤m
 mem:m∈xs
structure Bot (xs:List Int) (m:Int):Prop where
 le : ∀ x∈xs,m≤x
 mem:m∈xs
theorem zAD {xs:List Int} {k:Nat} {x:Int} (h:xs[k]? = some x):xs.take (k+1)=xs.take k++[x]:=by
 rw [List.take_add_one,h];rfl
theorem Top.step {xs:List Int} {k:Nat} {m x:Int} (h:Top (xs.take k) m) (hx:xs[k]? = some x):Top (xs.take (k+1)) (max m x):=by
 rw [zAD hx];refine ⟨fun y hy=>?_,?_⟩
 · rcases List.mem_append.1 hy with hy | hy
   · have:=h.le y hy;omega
   · rw [List.mem_singleton.1 hy];omega
 · by_cases hm:x≤m
   · rw [show max m x=m by omega];exact List.mem_append_left _ h.mem
   · rw [show max m x=x by omega];simp
theorem Bot.step {xs:List Int} {k:Nat} {m x:Int} (h:Bot (xs.take k) m) (hx:xs[k]? = some x):Bot (xs.take (k+1)) (min m x):=by
 rw [zAD hx];refine ⟨fun y hy=>?_,?_⟩
 · rcases List.mem_append.1 hy with hy | hy
   · have:=h.le y hy;omega
   · rw [List.mem_singleton.1 hy];omega
 · by_cases hm:m≤x
   · rw [show min m x=m by omega];exact List.mem_append_left _ h.mem
   · rw [show min m x=x by omega];simp
theorem zNX {xs:List Int} {a b:Int} (h:Top xs a) (h':Bot xs b):a=b ↔ ∀ x∈xs,x=xs.headD 0:=by
 have Ph:xs ≠ []:=by intro e;have:=h.mem;rw [e] at this;cases this
 obtain ⟨y,r,rfl⟩:=List.exists_cons_of_ne_nil Ph;constructor
 · intro e x hx;have h1:=h.le x hx;have h2:=h'.le x hx;have h3:=h.le y (by simp)
   have h4:=h'.le y (by simp)
   show x=y
   omega
 · intro e;rw [e a h.mem,e b h'.mem]
theorem zMQ (a:Option Addr) (cap:Nat) (xs:List Int) (w:World) (hl:xs.length≤1000000000) (h1:1≤xs.length) (h:Sl w .i64 a xs) :
 Calls Tryz.prog 147 #[.slice a xs.length cap] w fun e w' => ∃ m:Int,e = .returned m∧Bx (Top xs m)∧w=w':=by
 obtain ⟨x0,h0⟩ : ∃ x,xs[0]? = some x:=⟨_,lge (by omega)⟩
 obtain ⟨b,off,rfl,L2⟩:=h 0 x0 h0;have H0:Bx (Top (xs.take 1) x0):=⟨by rw [zAD h0];exact ⟨by simp,by simp⟩⟩
 have Hs:=Bx.mk h;have Hc:=Bx.mk (show Top (xs.take xs.length)=Top xs by rw [List.take_length])
 clear h h0;rw [Nat.add_zero] at L2;generalize hn:xs.length=n at *;have Hn:=Bx.mk hn;clear hn;go_enter Tryz.func147,Tryz.ntmps147;go_wp2
 go_loop [3,4] (fun m i => ∃ k:Nat,∃ z:Int,1≤k∧k≤n∧i = .int .i64 k∧m = .int .i64 z∧Bx (Top (xs.take k) z)) (fun _ i=>n - (intOf i).toNat)
 case atStart=>exact ⟨1,x0,by omega,by omega,rfl,rfl,H0⟩
 case round =>
  obtain ⟨k,z,O5,hk,rfl,rfl,Jd⟩:=hrel;by_cases hlt:k<n
  · obtain ⟨x,hx⟩:=zBY Hn hlt;obtain ⟨b',off',hb,hc⟩:=Hs.o k x hx;simp only [Option.some.injEq,Addr.mk.injEq,and_true] at hb;obtain ⟨rfl,rfl⟩:=hb;have Po:=Bx.mk (Jd.o.step hx);clear hx L2;go_wp2
    all_goals
     go_round
     case rel=>exact ⟨k+1,max z x,by omega,by omega,by go_num,by first | rfl | (congr 1;omega),Po⟩
     case measure=>simp [intOf];omega
  · obtain rfl:k=n:=by omega
    rw [Hc.o] at Jd;go_wp2;go_ret;exact ⟨z,rfl,Jd,rfl⟩
theorem zMR (a:Option Addr) (cap:Nat) (xs:List Int) (w:World) (hl:xs.length≤1000000000) (h1:1≤xs.length) (h:Sl w .i64 a xs) :
 Calls Tryz.prog 148 #[.slice a xs.length cap] w fun e w' => ∃ m:Int,e = .returned m∧Bx (Bot xs m)∧w=w':=by
 obtain ⟨x0,h0⟩ : ∃ x,xs[0]? = some x:=⟨_,lge (by omega)⟩
 obtain ⟨b,off,rfl,L2⟩:=h 0 x0 h0;have H0:Bx (Bot (xs.take 1) x0):=⟨by rw [zAD h0];exact ⟨by simp,by simp⟩⟩
 have Hs:=Bx.mk h;have Hc:=Bx.mk (show Bot (xs.take xs.length)=Bot xs by rw [List.take_length])
 clear h h0;rw [Nat.add_zero] at L2;generalize hn:xs.length=n at *;have Hn:=Bx.mk hn;clear hn;go_enter Tryz.func148,Tryz.ntmps148;go_wp2
 go_loop [3,4] (fun m i => ∃ k:Nat,∃ z:Int,1≤k∧k≤n∧i = .int .i64 k∧m = .int .i64 z∧Bx (Bot (xs.take k) z)) (fun _ i=>n - (intOf i).toNat)
 case atStart=>exact ⟨1,x0,by omega,by omega,rfl,rfl,H0⟩
 case round =>
  obtain ⟨k,z,O5,hk,rfl,rfl,Jd⟩:=hrel;by_cases hlt:k<n
  · obtain ⟨x,hx⟩:=zBY Hn hlt;obtain ⟨b',off',hb,hc⟩:=Hs.o k x hx;simp only [Option.some.injEq,Addr.mk.injEq,and_true] at hb;obtain ⟨rfl,rfl⟩:=hb;have Po:=Bx.mk (Jd.o.step hx);clear hx L2;go_wp2
    all_goals
     go_round
     case rel=>exact ⟨k+1,min z x,by omega,by omega,by go_num,by first | rfl | (congr 1;omega),Po⟩
     case measure=>simp [intOf];omega
  · obtain rfl:k=n:=by omega
    rw [Hc.o] at Jd;go_wp2;go_ret;exact ⟨z,rfl,Jd,rfl⟩
theorem zA5 {xs:List Int} (h:xs.all Pal.cell=true) : ∀ x∈xs,0≤x∧x≤255:=by
 intro x hx;have:=List.all_eq_true.1 h x hx;simpa [Pal.cell] using this
theorem zBp (w:World) (Far:Nat→Prop) (sb:Nat) (UA:Int) (ts:List Tr) (a:Option Addr) (cap:Nat) (xs:List Int) (hn:xs.length=64) (hb:xs.all Pal.cell=true) (h:Sl w .i64 a xs) (hG:Good ts) (Od:ts.length≤1000000000000) (IV : ∀ k,Far k→k<w.heap.size) (hS:StoreIs w Far sb UA ts) :
 Calls Tryz.prog 94 #[.pointer (some ⟨sb,0,none⟩),.slice a 64 cap] w (Grew Far sb UA ts (Tr.add (Tr.mkBrick xs) ts) (Tr.mkBrick xs) w):=by
 have h1:=zDG a cap xs w (by omega) h
 have h2:=zMQ a cap xs w (by omega) (by omega) h
 have h3:=zMR a cap xs w (by omega) (by omega) h
 rw [hn] at h1 h2 h3;rw [hb] at h1;have h1:=Bx.mk h1;have h2:=Bx.mk h2;have h3:=Bx.mk h3;obtain ⟨x0,T9⟩ : ∃ x,xs[0]? = some x:=⟨_,lge (by omega)⟩
 obtain ⟨b,off,rfl,L2⟩:=h 0 x0 T9
 have hd:xs.headD 0=x0:=by cases xs with
  | nil=>simp at T9
  | cons y r=>simpa using T9
 have LQ:=zA5 hb;by_cases Jd : ∀ x∈xs,x=xs.headD 0
 · have hm:Tr.mkBrick xs = .uni x0:=by unfold Tr.mkBrick;rw [if_pos Jd,hd]
   rw [hm];have h4:=Bx.mk (zNx w Far sb UA ts x0 (LQ x0 (List.mem_of_getElem? T9)) hG Od IV hS);have CQ:=Bx.mk Jd;rw [Nat.add_zero] at L2;clear Jd hm LQ hG Od IV hS hn hb h T9 hd;go_enter Tryz.func94,Tryz.ntmps94;go_wp2_with fail;refine h1.o.mono ?_;rintro e w1 ⟨rfl,rfl⟩;go_wp2_with fail;refine h2.o.mono ?_;rintro e w1 ⟨z1,rfl,TR,rfl⟩;go_wp2_with fail;refine h3.o.mono ?_;rintro e w1 ⟨z2,rfl,TS,rfl⟩;obtain rfl:z1=z2:=(zNX TR.o TS.o).2 CQ.o;go_wp2_with fail;refine h4.o.mono ?_;rintro e w2 hg;have Hg:=Bx.mk hg;obtain ⟨-,-,(⟨hf,rfl,hs⟩ | ⟨hf,rfl,us,hs⟩)⟩:=hg
   all_goals
    clear hf hs;go_wp2_with fail
    go_ret2
    exact Hg.o
 · have hm:Tr.mkBrick xs = .brick xs:=by unfold Tr.mkBrick;rw [if_neg Jd]
   rw [hm];have Kz:Bytes (.brick xs):=Bytes.brick ⟨hn,LQ⟩;have OY:Leans ts (.brick xs):=fun d ch h=>by cases h
   have h4:Bx (∀ W,Below w.heap.size w W→Calls Tryz.prog 109 #[.pointer (some ⟨sb,0,none⟩),.agg #[(2:Int),(0:Int),.string (strOfNums xs),(2:Int),(0:Int),(0:Int),(0:Int),(0:Int),(0:Int),(0:Int),(0:Int),(0:Int)]] W (Grew Far sb UA ts (Tr.add (.brick xs) ts) (.brick xs) W)):=⟨fun W hW=>by
    have hV:zo ts (.brick xs)=zIq 2 0 (strOfNums xs) 2 0 0 0 0 0 0 0 0:=rfl;have hk:=zIz Od OY Kz;rw [hV] at hk;rw [Tr.add_brick];exact zIB W Far sb UA ts (.brick xs) 2 0 2 0 0 0 0 0 0 0 0 (strOfNums xs) hV hG OY Kz Od (fun k hk=>nll (IV k hk) hW.size) hk (hS.la hW)⟩
   have CQ:=Bx.mk Jd;have Hs:=Bx.mk h;have Hn:=Bx.mk hn;have Hc:=Bx.mk LQ
   have PU : ∀ W,(Instr.makeSlice 148 (.int .i64 64) (.int .i64 64)).run Tryz.prog W = .ok (.slice (some ⟨W.heap.size,0,none⟩) 64 64) (W.alloc (.cells (madeCells #[.int .u8 0] 64) 5)) :=
    fun W=>run_make_row' (P:=Tryz.prog) 148 5 (.int .u8 0) 1 Tryz.underlying148 (by kernel_rfl) rfl .i64 .i64 64 (by decide) (by decide) W
   clear Jd hm LQ Kz OY hG Od IV hS hn hb h T9 hd L2;go_enter Tryz.func94,Tryz.ntmps94;go_wp2_with fail;refine h1.o.mono ?_;rintro e w1 ⟨rfl,rfl⟩;go_wp2_with fail;refine h2.o.mono ?_;rintro e w1 ⟨z1,rfl,TR,rfl⟩;go_wp2_with fail;refine h3.o.mono ?_;rintro e w1 ⟨z2,rfl,TS,rfl⟩;have Ph:(z1 == z2)=false:=by simpa using fun e=>CQ.o ((zNX TR.o TS.o).1 e)
   clear TR TS h1 h2 h3;go_wp2_with fail
   go_loopw [33] (fun i wr => ∃ k:Nat,k≤64∧i = .int .i64 k∧Bx (wr.rowIs w.heap.size 5 64 (fun j=>.int .u8 (if j<k then xs.getD j 0 else 0)))∧Bx (Below w.heap.size w wr)) (fun i _=>64 - (intOf i).toNat)
   case atStart=>exact ⟨0,Nat.zero_le _,rfl,⟨(World.rowIs_made _ _ _ _).congr (fun i _=>rfl)⟩,⟨bf⟩⟩
   case round =>
    obtain ⟨k,hk,rfl,RJ,hB⟩:=hrel;have J3:=Hs.o.below hB.o;by_cases hlt:k<64
    · obtain ⟨x,hx⟩:=zBY Hn hlt;obtain ⟨b',off',hb,hc⟩:=J3 k x hx;simp only [Option.some.injEq,Addr.mk.injEq,and_true] at hb;obtain ⟨rfl,rfl⟩:=hb;have hr:=Hc.o x (List.mem_of_getElem? hx);have hxg:Bx (xs.getD k 0=x):=⟨by simp [List.getD,hx]⟩
      have b1:(0:Int)≤(k:Int):=by omega
      have b2:(k:Int)<64:=by omega
      have LO:=RJ.o.cell hlt;have Mu:=RJ.o.frozen k;have hw8:IntKind.u8.wrap x=x:=by unfold IntKind.wrap;simp [IntKind.bits,IntKind.signed];omega
      clear J3 hx PU;go_wp2_with fail
      have RL:=Bx.mk ((RJ.o.set k (.int .u8 x)).congr (g:=fun j=>.int .u8 (if j<k+1 then xs.getD j 0 else 0)) (fun j hj=>by
       by_cases e:j=k
       · rw [e];simp only [if_true];rw [if_pos (by omega),hxg.o]
       · simp only [e,if_false];by_cases h5:j<k
         · rw [if_pos h5,if_pos (by omega)]
         · rw [if_neg h5,if_neg (by omega)]))
      have I2:=Bx.mk (show Below w.heap.size w (wr.setCell ⟨w.heap.size,k,none⟩ (.int .u8 x)) from hB.o.setCell nlr _);clear LO Mu
      go_roundw
      case rel=>exact ⟨k+1,by omega,by go_num,RL,I2⟩
      case measure=>simp [intOf];omega
    · obtain rfl:k=64:=by omega
      have Rn:Sl wr .u8 (some ⟨w.heap.size,0,none⟩) xs:=fun i x hx=>⟨w.heap.size,0,rfl,by
       have hi:i<64:=by have:=(List.getElem?_eq_some_iff.1 hx).1;rw [Hn.o] at this;exact this
       have:=RJ.o.cell hi;simp only [hi,if_true] at this;rw [Nat.zero_add,this];simp [List.getD,hx]⟩
      have Lx:=zDM (P:=Tryz.prog) 148 5 9 Tryz.underlying148 Tryz.underlying5 Tryz.underlying9 Rn 64 64 Hn.o.symm;have h5:=Bx.mk (h4.o wr hB.o);clear Rn J3 PU;generalize strOfNums xs=S at *;go_wp2_with fail;refine h5.o.mono ?_;rintro e w2 hg;have Hg:=Bx.mk (hg.since hB.o);obtain ⟨-,-,(⟨hf,rfl,hs⟩ | ⟨hf,rfl,us,hs⟩)⟩:=hg
      all_goals
       clear hf hs;go_wp2_with fail
       go_ret2
       exact Hg.o
def zJV:Tr→List Int
 | .uni c=>[c]
 | .brick l=>l
 | .node _ _=>[]
theorem num8 {x:Int} (h:0≤x∧x≤255):((UInt8.ofNat x.toNat).toNat:Int)=x:=by
 simp only [UInt8.toNat_ofNat'];omega
theorem zDL (W:World) (xs:List Int) (hb : ∀ x∈xs,0≤x∧x≤255) : ∃ W' cap,(convert 9 148 (.string (strOfNums xs))).run Tryz.prog W = .ok (.slice (some ⟨W.heap.size,0,none⟩) xs.length cap) W'∧Below W.heap.size W W'∧Sl W' .u8 (some ⟨W.heap.size,0,none⟩) xs:=by
 have h:=run_bytes_of_string (P:=Tryz.prog) W 9 148 5 (strOfNums xs) Tryz.underlying9 Tryz.underlying148 Tryz.underlying5;rw [strOfNums_size] at h;refine ⟨_,_,h,(br.drew).alloc nlr _,fun i x hx=>⟨_,0,rfl,?_⟩⟩;rw [Nat.zero_add];unfold World.cell?;rw [show W.heap.size=W.drew.heap.size from rfl,heap_alloc_new];have hi:i<xs.length:=(List.getElem?_eq_some_iff.1 hx).1
 have hd:(strOfNums xs).data[i]? = some (UInt8.ofNat x.toNat):=by
  rw [←Array.getElem?_toList,strOfNums_data,List.getElem?_map,hx];rfl
 have hr:=num8 (hb x (List.mem_of_getElem? hx));simp only [bytesRow]
 rw [Array.getElem?_append_left (by
  have:(strOfNums xs).data.size=xs.length:=by rw [←Array.length_toList,strOfNums_data,List.length_map]
  simp [this,hi])]
 have T9:=hb x (List.mem_of_getElem? hx);simp [hd];omega
theorem zCf (w:World) (sb g n cap mb i:Nat) (UA c d y0 y1 y2 y3 y4 y5 y6 y7:Int) (s:ByteArray) (hi:i<n) (_hn:n≤1000000000000) (ks:Bk w sb #[UA,.slice (some ⟨g,0,none⟩) n cap,.map (some mb)] 113) (hc:Bx (∀ j u,j<12→(#[(1:Int),c,.string s,d,y0,y1,y2,y3,y4,y5,y6,y7]:Array Value).toList[j]? = some u→w.cell? ⟨g,i * 12+j,none⟩=some u)) :
 Calls Tryz.prog 41 #[.pointer (some ⟨sb,0,none⟩),(i:Int)] w fun e w' => ∃ v,e = .returned v∧Own w' w.heap.size 3 .i64 v [c]∧Below w.heap.size w w':=by
 have b1:(0:Int)≤(i:Int):=by omega
 have b2:(i:Int)<(n:Int):=by omega
 have Fu:=ks.cell 1 rfl;have d0:w.cell? ⟨g,i * 12,none⟩=some (.int .i64 1):=hc.o 0 _ (by omega) rfl
 have d1:w.cell? ⟨g,i * 12+1,none⟩=some (.int .i64 c):=hc.o 1 _ (by omega) rfl
 have d2:w.cell? ⟨g,i * 12+2,none⟩=some (.string s):=hc.o 2 _ (by omega) rfl
 have d3:w.cell? ⟨g,i * 12+3,none⟩=some (.int .i64 d):=hc.o 3 _ (by omega) rfl
 have d4:w.cell? ⟨g,i * 12+4,none⟩=some (.int .i64 y0):=hc.o 4 _ (by omega) rfl
 have d5:w.cell? ⟨g,i * 12+5,none⟩=some (.int .i64 y1):=hc.o 5 _ (by omega) rfl
 have d6:w.cell? ⟨g,i * 12+6,none⟩=some (.int .i64 y2):=hc.o 6 _ (by omega) rfl
 have d7:w.cell? ⟨g,i * 12+7,none⟩=some (.int .i64 y3):=hc.o 7 _ (by omega) rfl
 have d8:w.cell? ⟨g,i * 12+8,none⟩=some (.int .i64 y4):=hc.o 8 _ (by omega) rfl
 have d9:w.cell? ⟨g,i * 12+9,none⟩=some (.int .i64 y5):=hc.o 9 _ (by omega) rfl
 have G2:w.cell? ⟨g,i * 12+10,none⟩=some (.int .i64 y6):=hc.o 10 _ (by omega) rfl
 have G3:w.cell? ⟨g,i * 12+11,none⟩=some (.int .i64 y7):=hc.o 11 _ (by omega) rfl
 clear ks hc;go_enter Tryz.func41,Tryz.ntmps41;go_upto_region 2 with fail;generalize hW:w.alloc _=W;have JE:=sz1 hW;have hB:=bl1 hW;have kn:Bk W (w.heap.size) #[(1:Int),c,.string s,d,y0,y1,y2,y3,y4,y5,y6,y7] 145:=bk0 hW;clear hW;clear d0 d1 d2 d3 d4 d5 d6 d7 d8 d9 G2 G3 Fu;obtain ⟨cn0,cn1,cn2,cn3,cn4,cn5,cn6,cn7,FX,FZ,FM,FO⟩:=kn.c12;go_wp2_with fail;go_ret;refine ⟨_,rfl,Own.lit W w.heap.size 3 .i64 #[c] [c] 1 hB.size (by simp [maxLen]) rfl rfl,hB.alloc hB.size _⟩
theorem zCe (w:World) (sb g n cap mb i:Nat) (UA kk c d y0 y1 y2 y3 y4 y5 y6 y7:Int) (s:ByteArray) (xs:List Int) (hs:s=strOfNums xs) (hl:xs.length≤64) (hb : ∀ x∈xs,0≤x∧x≤255) (hk:(kk == 1)=false) (hi:i<n) (_hn:n≤1000000000000) (ks:Bk w sb #[UA,.slice (some ⟨g,0,none⟩) n cap,.map (some mb)] 113) (hc:Bx (∀ j u,j<12→(#[kk,c,.string s,d,y0,y1,y2,y3,y4,y5,y6,y7]:Array Value).toList[j]? = some u→w.cell? ⟨g,i * 12+j,none⟩=some u)) :
 Calls Tryz.prog 41 #[.pointer (some ⟨sb,0,none⟩),(i:Int)] w fun e w' => ∃ v,e = .returned v∧Own w' w.heap.size 3 .i64 v xs∧Below w.heap.size w w':=by
 replace hs:=Bx.mk hs;replace hb:=Bx.mk hb;have b1:(0:Int)≤(i:Int):=by omega
 have b2:(i:Int)<(n:Int):=by omega
 have Fu:=ks.cell 1 rfl;have d0:w.cell? ⟨g,i * 12,none⟩=some (.int .i64 kk):=hc.o 0 _ (by omega) rfl
 have d1:w.cell? ⟨g,i * 12+1,none⟩=some (.int .i64 c):=hc.o 1 _ (by omega) rfl
 have d2:w.cell? ⟨g,i * 12+2,none⟩=some (.string s):=hc.o 2 _ (by omega) rfl
 have d3:w.cell? ⟨g,i * 12+3,none⟩=some (.int .i64 d):=hc.o 3 _ (by omega) rfl
 have d4:w.cell? ⟨g,i * 12+4,none⟩=some (.int .i64 y0):=hc.o 4 _ (by omega) rfl
 have d5:w.cell? ⟨g,i * 12+5,none⟩=some (.int .i64 y1):=hc.o 5 _ (by omega) rfl
 have d6:w.cell? ⟨g,i * 12+6,none⟩=some (.int .i64 y2):=hc.o 6 _ (by omega) rfl
 have d7:w.cell? ⟨g,i * 12+7,none⟩=some (.int .i64 y3):=hc.o 7 _ (by omega) rfl
 have d8:w.cell? ⟨g,i * 12+8,none⟩=some (.int .i64 y4):=hc.o 8 _ (by omega) rfl
 have d9:w.cell? ⟨g,i * 12+9,none⟩=some (.int .i64 y5):=hc.o 9 _ (by omega) rfl
 have G2:w.cell? ⟨g,i * 12+10,none⟩=some (.int .i64 y6):=hc.o 10 _ (by omega) rfl
 have G3:w.cell? ⟨g,i * 12+11,none⟩=some (.int .i64 y7):=hc.o 11 _ (by omega) rfl
 clear ks hc;go_enter Tryz.func41,Tryz.ntmps41;go_upto_region 2 with fail;generalize hW:w.alloc _=W;have JE:=sz1 hW;have hB:=bl1 hW;have kn:Bk W (w.heap.size) #[kk,c,.string s,d,y0,y1,y2,y3,y4,y5,y6,y7] 145:=bk0 hW;clear hW;clear d0 d1 d2 d3 d4 d5 d6 d7 d8 d9 G2 G3 Fu;obtain ⟨cn0,cn1,cn2,cn3,cn4,cn5,cn6,cn7,FX,FZ,FM,FO⟩:=kn.c12;obtain ⟨W2,c2,RP,Js,Rn⟩:=zDL W xs hb.o;rw [←hs.o] at RP;have Hs:=Bx.mk Rn;have Hb2:=Bx.mk Js;have hlB:=hB.size;have I2:=Bx.mk (tr hB Js);have Hr:=hb;have TS:w.heap.size≤W2.heap.size:=I2.o.size;have Ht:=Bx.mk (show xs.take xs.length=xs from List.take_length);clear Js Rn hs;generalize Pb:xs.length=m at *;replace Pb:=Bx.mk Pb;go_wp2_with fail;clear cn0 cn1 cn2 cn3 cn4 cn5 cn6 cn7 FX FZ FM FO kn RP hk
 go_loopw [6,26] (fun v i wr => ∃ k:Nat,k≤m∧i = .int .i64 k∧Bx (Own wr W2.heap.size 3 .i64 v (xs.take k))∧Bx (Below w.heap.size w wr)∧Bx (Below W2.heap.size W2 wr)) (fun _ i _=>m - (intOf i).toNat)
 case atStart=>exact ⟨0,Nat.zero_le _,rfl,⟨Own.nil _ _ _ _⟩,I2,⟨br⟩⟩
 case round =>
  obtain ⟨k,hk,rfl,QQ,Ku,Js⟩:=hrel;by_cases hlt:k<m
  · obtain ⟨x,hx⟩:=zBY Pb hlt;obtain ⟨b',off',Ka,hc⟩:=(Hs.o.below Js.o) k x hx;simp only [Option.some.injEq,Addr.mk.injEq,and_true] at Ka;obtain ⟨rfl,rfl⟩:=Ka;rw [Nat.zero_add] at hc;have hr:=Hr.o x (List.mem_of_getElem? hx);have Po:=Bx.mk (zAD hx);have b3:(0:Int)≤(k:Int):=by omega
    have b4:(k:Int)<(m:Int):=by omega
    have T6:IntKind.i64.wrap x=x:=wj _ (by omega)
    have OY:=Ku.o.size;have Oa:W2.heap.size≤wr.heap.size:=Js.o.size;have SG:(xs.take k).length≤1000000000:=by rw [List.length_take];omega
    have Dh:=Bx.mk SG;clear hx SG
    go_wp2_with (first
     | (at_builtin
        refine zAG rfl _ _ 26 rfl 3 .i64 (.int .i64 0) 8 (by omega) Tryz.underlying26 (by kernel_rfl) rfl W2.heap.size _ (xs.take k) rfl (QQ.o.alloc _) x ⟨wr.heap.size,0,none⟩ 1 rfl (zF _ _ _) Dh.o (zk Oa _) ?_
        intro v1 w1 QR N3 _))
    have QS:=Bx.mk QR;rw [←Po.o] at QS;have Kv:=Bx.mk ((Ku.o.alloc OY (.cells #[x] 3)).grown N3 (zk OY _) (fun g hg=>nlt TS (QQ.o.lt g hg).1));have Jv:=Bx.mk ((Js.o.alloc Oa (.cells #[x] 3)).grown N3 (zk Oa _) (fun g hg=>(QQ.o.lt g hg).1));clear QR N3
    go_roundw
    case rel=>exact ⟨k+1,by omega,by go_num,QS,Kv,Jv⟩
    case measure=>simp [intOf];omega
  · obtain rfl:k=m:=by omega
    go_wp2_with fail;go_ret;refine ⟨_,rfl,?_,Ku.o⟩;have:=QQ.o;rw [Ht.o] at this;exact this.base TS
theorem zCc (w:World) (Far:Nat→Prop) (sb:Nat) (UA:Int) (ts:List Tr) (t:Tr) (ht:t∈ts) (hG:Good ts) (Od:ts.length≤1000000000000) (hS:StoreIs w Far sb UA ts) :
 Calls Tryz.prog 41 #[.pointer (some ⟨sb,0,none⟩),(idT ts t:Int)] w fun e w' => ∃ v,e = .returned v∧Own w' w.heap.size 3 .i64 v (zJV t)∧Below w.heap.size w w':=by
 have Kz:=hG.bytes t ht;cases t with
 | uni c =>
   obtain ⟨g,cap,mb,h1,h2,h3⟩:=Bx.node hS ht (k:=1) (c:=c) rfl;exact zCf w sb g ts.length cap mb _ UA c _ _ _ _ _ _ _ _ _ _ h2 Od h1 h3
 | brick l =>
   obtain ⟨g,cap,mb,h1,h2,h3⟩:=Bx.node hS ht (k:=2) (s:=strOfNums l) rfl;exact zCe w sb g ts.length cap mb _ UA 2 _ _ _ _ _ _ _ _ _ _ _ l rfl (by rw [(Kz.bricks l rfl).1];omega) (Kz.bricks l rfl).2 (by decide) h2 Od h1 h3
 | node d ch =>
   obtain ⟨g,cap,mb,h1,h2,h3⟩:=Bx.node hS ht (k:=3) (s:=ByteArray.empty) rfl;exact zCe w sb g ts.length cap mb _ UA 3 _ _ _ _ _ _ _ _ _ _ _ [] rfl (by simp) (by simp) (by decide) h2 Od h1 h3
inductive Dep:Nat→Tr→Prop
 | uni (n:Nat) (c:Int):Dep n (.uni c)
 | brick (l:List Int):Dep 0 (.brick l)
 | node (n:Nat) (ch:Fin 8→Tr) (h : ∀ i,Dep n (ch i)):Dep (n+1) (.node (n+3) ch)
theorem zJD (m:Nat) (hm:m≤12) (dd:Int) (hd:dd=(m:Int)+3) (px py pz:Int) (hx:0≤px∧px≤100000) (hy:0≤py∧py≤100000) (hz:0≤pz∧pz≤100000) (w:World) :
 Calls Tryz.prog 103 #[dd,.agg #[px,py,pz]] w fun e w'=>e = .returned (.int .i64 ((Tr.oct m ⟨px,py,pz⟩).val:Int))∧Below w.heap.size w w':=by
 subst hd;have h:=zJC (m+2) (by omega) px py pz hx hy hz w
 rw [show ((m+2+1:Nat):Int)=(m:Int)+3 by omega] at h
 refine h.mono ?_;rintro e w' ⟨rfl,hb⟩;refine ⟨zLa ?_,hb⟩;unfold Tr.oct Tr.octN;simp only [];omega
end
section
open Oct
theorem WF.bytes {t:Tr} (h:Tr.WF t):Bytes t:=by
 cases t with
 | uni c=>exact Bytes.uni h
 | brick l=>exact Bytes.brick h
 | node d ch=>exact Bytes.node h.1 ch
theorem WF.kid {d:Nat} {ch:Fin 8→Tr} (h:Tr.WF (.node d ch)) (i:Fin 8):Tr.WF (ch i):=h.2 i
theorem zOD {l:List Int} (h:l.length=64) (hb : ∀ x∈l,0≤x∧x≤255):Tr.WF (Tr.mkBrick l):=by
 unfold Tr.mkBrick;split
 · cases l with
   | nil=>simp at h
   | cons x r=>exact hb x (by simp)
 · exact ⟨h,hb⟩
theorem zOE {d:Nat} {ch:Fin 8→Tr} (hd:d≤255) (h : ∀ i,Tr.WF (ch i)):Tr.WF (Tr.mkInner d ch):=by
 unfold Tr.mkInner;split
 · exact h 0
 · exact ⟨hd,h⟩
theorem zAF {f:Pt→Int} (hf : ∀ p,0≤f p∧f p≤255) : ∀ (n:Nat) (a:Pt),n≤200→Tr.WF (Tr.can f n a)
 | 0, a, _ => by
   unfold Tr.can;refine zOD (by simp) fun x hx=>?_
   obtain ⟨k,_,rfl⟩:=List.mem_map.1 hx;exact hf _
 | n + 1, a, hn => by
   unfold Tr.can;exact zOE (by omega) fun i=>zAF hf n _ (by omega)
theorem zEE (l:List Int):Dep 0 (Tr.mkBrick l):=by
 unfold Tr.mkBrick;split
 · exact Dep.uni _ _
 · exact Dep.brick _
theorem zEF {n:Nat} {ch:Fin 8→Tr} (h : ∀ i,Dep n (ch i)):Dep (n+1) (Tr.mkInner (n+3) ch):=by
 unfold Tr.mkInner;split
 · rename_i hc;obtain ⟨⟨c,hc⟩,_⟩:=hc;rw [hc];exact Dep.uni _ _
 · exact Dep.node n ch h
theorem zQ (f:Pt→Int) : ∀ (n:Nat) (a:Pt),Dep n (Tr.can f n a)
 | 0,a=>by unfold Tr.can;exact zEE _
 | n+1,a=>by unfold Tr.can;exact zEF fun i=>zQ f n _
theorem Dep.kid {n:Nat} {t:Tr} (h:Dep (n+1) t) (i:Fin 8):Dep n (t.kid i):=by
 cases h with
 | uni _ c=>exact Dep.uni _ _
 | node _ ch h=>exact h i
theorem zFn : ∀ (t:Tr) {ts:List Tr},Good ts→Tr.WF t→Good (Tr.add t ts):=by
 intro t
 induction t with
 | uni c=>intro ts hG h;rw [Tr.add_uni];exact hG.ins (fun d ch e=>by cases e) (WF.bytes h)
 | brick l=>intro ts hG h;rw [Tr.add_brick];exact hG.ins (fun d ch e=>by cases e) (WF.bytes h)
 | node d ch ih =>
   intro ts hG h;rw [Tr.node_add hG.closed];have hk:=Tr.addK_ind (P:=Good) (fun i a ha=>ih i ha (h.2 i)) 8 nlr ts hG;refine hk.ins (fun d' ch' e i=>?_) (WF.bytes h);injection e with e1 e2;subst e2;exact Tr.addK_mem _ ts 8 nlr i i.isLt
theorem zFo {ch:Fin 8→Tr} {ts:List Tr} (hG:Good ts) (h : ∀ i,Tr.WF (ch i)) (k:Nat) (hk:k≤8):Good (Tr.addK ch k ts):=Tr.addK_ind (P:=Good) (fun i _a ha=>zFn _ ha (h i)) k hk ts hG
def Between (ts ts':List Tr):Prop := ∀ vs,ts <+: vs→vs <+: ts'→Good vs
theorem Between.same {ts:List Tr} (hG:Good ts):Between ts ts:=fun vs h1 h2=>by
 have:=h1.eq_of_length_le h2.length_le;exact this ▸ hG
theorem Between.trans {a b c:List Tr} (h:Between a b) (h':Between b c) (KJ:b <+: c):Between a c:=fun vs h1 h2=>by
 rcases List.prefix_or_prefix_of_prefix h2 KJ with h3 | h3
 · exact h vs h1 h3
 · exact h' vs h3 h2
theorem Between.left {a b c:List Tr} (h:Between a c) (KJ:b <+: c):Between a b:=fun vs h1 h2=>h vs h1 (h2.trans KJ)
theorem zBi {ts:List Tr} {t:Tr} (hG:Good ts) (h2:Good (Tr.ins t ts)):Between ts (Tr.ins t ts):=fun vs h1 h3=>by
 by_cases ht:t∈ts
 · rw [Tr.ins_of_mem ht] at h3;exact (h1.eq_of_length_le h3.length_le) ▸ hG
 · rw [Tr.ins_of_not ht] at h3 h2;by_cases hl:vs.length≤ts.length
   · exact (h1.eq_of_length_le hl) ▸ hG
   · have:=h3.eq_of_length_le (by simp;omega)
     exact this ▸ h2
theorem zBh : ∀ (t:Tr) {ts:List Tr},Good ts→Tr.WF t→Between ts (Tr.add t ts):=by
 intro t
 induction t with
 | uni c=>intro ts hG h;have h2:=zFn _ hG h;rw [Tr.add_uni] at h2 ⊢; exact zBi hG h2
 | brick l=>intro ts hG h;have h2:=zFn _ hG h;rw [Tr.add_brick] at h2 ⊢; exact zBi hG h2
 | node d ch ih =>
   intro ts hG h;have h2:=zFn _ hG h;rw [Tr.node_add hG.closed] at h2 ⊢;have key:=Tr.addK_ind (P:=fun a=>ts <+: a∧Good a∧Between ts a) (fun i a ha=>⟨ha.1.trans (Tr.add_prefix _ _),zFn _ ha.2.1 (h.2 i),ha.2.2.trans (ih i ha.2.1 (h.2 i)) (Tr.add_prefix _ _)⟩) 8 nlr ts ⟨List.prefix_refl _,hG,Between.same hG⟩;exact key.2.2.trans (zBi key.2.1 h2) (Tr.ins_prefix _ _)
theorem zGq (t:Tr) (ts:List Tr):(Tr.ins t ts).length≤ts.length+1:=by
 by_cases h:t∈ts
 · rw [Tr.ins_of_mem h];omega
 · rw [Tr.ins_of_not h];simp
theorem zAr : ∀ (t:Tr) (ts:List Tr),(Tr.add t ts).length≤ts.length+Tr.sz t:=by
 intro t
 induction t with
 | uni c=>intro ts;rw [Tr.add_uni];exact zGq _ _
 | brick l=>intro ts;rw [Tr.add_brick];exact zGq _ _
 | node d ch ih =>
   intro ts
   have key : ∀ k,k≤8→(Tr.addK ch k ts).length≤ts.length+((List.ofFn fun i=>Tr.sz (ch i)).take k).sum:=by
    intro k
    induction k with
    | zero=>intro _;rw [Tr.addK_zero];simp
    | succ k ihk =>
      intro hk;rw [Tr.addK_succ ch (by omega)]
      have h1:=ih ⟨k,by omega⟩ (Tr.addK ch k ts)
      have h2:=ihk (by omega)
      rw [List.take_succ_eq_append_getElem (by simpa using (show k<8 by omega)),List.sum_append]
      simp only [List.getElem_ofFn,List.sum_cons,List.sum_nil];omega
   have h8:=key 8 nlr;rw [List.take_of_length_le (by simp)] at h8
   rw [Tr.add_node];split
   · simp only [Tr.sz];omega
   · simp only [Tr.sz,List.length_append,List.length_singleton];omega
theorem zND (l:List Int):Tr.sz (Tr.mkBrick l)=1:=by unfold Tr.mkBrick;split <;> rfl
theorem sum8 {g:Fin 8→Nat} {m:Nat} (h : ∀ i,g i≤m):(List.ofFn g).sum≤8 * m:=by
 have h0:=h 0;have h1:=h 1;have h2:=h 2;have h3:=h 3;have h4:=h 4;have h5:=h 5;have h6:=h 6;have h7:=h 7;simp only [List.ofFn_succ,List.ofFn_zero,List.sum_cons,List.sum_nil];simp only [Fin.reduceSucc,Fin.isValue] at *;omega
theorem zNE {d:Nat} {ch:Fin 8→Tr} {m:Nat} (h : ∀ i,Tr.sz (ch i)≤m):Tr.sz (Tr.mkInner d ch)≤1+8 * m:=by
 unfold Tr.mkInner;split
 · have:=h 0;omega
 · simp only [Tr.sz];have:=sum8 h;omega
def zIJ:Nat→Nat
 | 0=>1
 | n+1=>1+8 * zIJ n
theorem zNC (f:Pt→Int) : ∀ (n:Nat) (a:Pt),Tr.sz (Tr.can f n a)≤zIJ n
 | 0,a=>by unfold Tr.can;rw [zND];exact Nat.le_refl _
 | n+1,a=>by unfold Tr.can;exact zNE fun i=>zNC f n _
theorem zIK {n:Nat} (hn:n≤12):zIJ n≤80000000000:=by
 have key : ∀ m,m≤n→zIJ m≤zIJ n:=by
  intro m h
  induction n with
  | zero=>rw [show m=0 by omega];exact Nat.le_refl _
  | succ n ih =>
    by_cases e:m=n+1
    · rw [e];exact Nat.le_refl _
    · have:=ih (by omega) (by omega)
      show _≤1+8 * zIJ n
      omega
 have mono : ∀ a b,a≤b→zIJ a≤zIJ b:=by
  intro a b h
  induction b with
  | zero=>rw [show a=0 by omega];exact Nat.le_refl _
  | succ b ih =>
    by_cases e:a=b+1
    · rw [e];exact Nat.le_refl _
    · have:=ih (by omega)
      show _≤1+8 * zIJ b
      omega
 exact nlt (mono n 12 hn) (by decide)
theorem zB5 {f:Pt→Int} {n:Nat} (hn:n≤12) (a:Pt) (ts:List Tr):(Tr.add (Tr.can f n a) ts).length≤ts.length+80000000000 :=
 nlt (zAr _ _) (Nat.add_le_add_left (nlt (zNC f n a) (zIK hn)) _)
theorem zGn {d:Nat} {ch:Fin 8→Tr} {ts:List Tr} (hG:Good ts):(Tr.add (Tr.mkInner d ch) ts).length≤(Tr.addK ch 8 ts).length+1:=by
 rw [Tr.inner_add hG.closed];split
 · omega
 · exact zGq _ _
theorem zB9 : ∀ (n:Nat) (a:Pt) (f:Pt→Int),Tr.Al n a→(∀ p,Tr.InC n a p→f p=0)→Tr.can f n a = .uni 0
 | 0, a, f, ha, h => by
   unfold Tr.can Tr.mkBrick
   have key : ∀ x∈(List.range 64).map fun k=>f (Tr.cellAt a k),x=0:=by
    intro x hx;obtain ⟨k,hk,rfl⟩:=List.mem_map.1 hx;exact h _ (Tr.inC_cell ha (List.mem_range.1 hk) rfl).1
   have h0:((List.range 64).map fun k=>f (Tr.cellAt a k)).headD 0=0:=by
    rw [show List.range 64=0::(List.range 63).map Nat.succ from List.range_succ_eq_map];simp only [List.map_cons,List.headD_cons];exact key _ (List.mem_map.2 ⟨0,by simp,rfl⟩)
   rw [h0,if_pos key]
 | n + 1, a, f, ha, h => by
   have key : ∀ i:Fin 8,Tr.can f n (Tr.cor a n i.val) = .uni 0:=fun i=>zB9 n _ f (Tr.al_cor ha _) fun p hp=>h p (Tr.inC_other ha hp).2;unfold Tr.can Tr.mkInner;rw [if_pos ⟨⟨0,key 0⟩,fun i=>(key i).trans (key 0).symm⟩];exact key 0
theorem zGi {d:Nat} {ch:Fin 8→Tr} {ts:List Tr} (hG:Good ts) (h : ∀ i,Tr.WF (ch i)):Tr.add (Tr.mkInner d ch) (Tr.addK ch 8 ts)=Tr.add (Tr.mkInner d ch) ts:=by
 have Ia:=zFo hG h 8 nlr;have hm : ∀ i,ch i∈Tr.addK ch 8 ts:=fun i=>Tr.addK_mem ch ts 8 nlr i i.isLt;rw [Tr.inner_add Ia.closed,Tr.inner_add hG.closed,zAo hm]
theorem zAn {ch:Fin 8→Tr} {ts:List Tr} {k m:Nat} (OO:k≤m) (hm:m≤8):Tr.addK ch k ts <+: Tr.addK ch m ts:=by
 induction m with
 | zero=>rw [show k=0 by omega];exact List.prefix_refl _
 | succ m ih =>
   by_cases e:k=m+1
   · rw [e];exact List.prefix_refl _
   · rw [Tr.addK_succ ch (by omega)]
     exact (ih (by omega) (by omega)).trans (Tr.add_prefix _ _)
theorem zGo {d:Nat} {ch:Fin 8→Tr} {ts:List Tr} (hG:Good ts):Tr.addK ch 8 ts <+: Tr.add (Tr.mkInner d ch) ts:=by
 rw [Tr.inner_add hG.closed];split
 · exact List.prefix_refl _
 · exact Tr.ins_prefix _ _
end
section
open Go.RowKit Go.Sort
def zN6 (b:Box) (l:List Int):Bool:=okB b && (!zS b || decide (b=Box.zero)) && decide (zAE b≤2097152) && decide (zAE b=l.length) && l.all Pal.cell
def zIj (b:Box) (c:Int):Int:=if okB b=false∨Pal.cell c=false then 1 else if 2097152<zAE b then 2 else 0
theorem zN7 (a b c d e f:Int) (sa:Option Addr) (cap:Nat) (xs:List Int) (w:World) (hl:xs.length≤1000000000) (h:Sl w .i64 sa xs) :
 Calls Tryz.prog 90 #[.agg #[a,b,c,d,e,f,.slice sa xs.length cap]] w fun e' w'=>e' = .returned (.bool (zN6 ⟨⟨a,b,c⟩,⟨d,e,f⟩⟩ xs))∧Below w.heap.size w w':=by
 have hV:=Bx.mk (show zN6 ⟨⟨a,b,c⟩,⟨d,e,f⟩⟩ xs=(okB ⟨⟨a,b,c⟩,⟨d,e,f⟩⟩ && (!zS ⟨⟨a,b,c⟩,⟨d,e,f⟩⟩ || decide (⟨⟨a,b,c⟩,⟨d,e,f⟩⟩=Box.zero)) && decide (zAE ⟨⟨a,b,c⟩,⟨d,e,f⟩⟩≤2097152) && decide (zAE ⟨⟨a,b,c⟩,⟨d,e,f⟩⟩=xs.length) && xs.all Pal.cell) from rfl);have hr:=Bx.mk fun W=>zKk a b c d e f W;have he:=Bx.mk fun W=>zU a b c d e f W;have hq:=fun W=>zIi a b c d e f 0 0 0 0 0 0 W;have Lh:=Bx.mk fun W h=>zDJ sa cap xs W hl h;have Sn:Bx (okB ⟨⟨a,b,c⟩,⟨d,e,f⟩⟩=true → ∀ W,Calls Tryz.prog 143 #[.agg #[a,b,c,d,e,f]] W fun e' w'=>e' = .returned (.int .i64 (zAE ⟨⟨a,b,c⟩,⟨d,e,f⟩⟩))∧Below W.heap.size W w'):=⟨fun h W=>zOA a b c d e f (zJG h) W⟩;generalize hn:xs.length=n at *;clear hn;rw [show decide (⟨⟨a,b,c⟩,⟨d,e,f⟩⟩=Box.zero)=decide ((⟨⟨a,b,c⟩,⟨d,e,f⟩⟩:Box)=⟨⟨0,0,0⟩,⟨0,0,0⟩⟩) from rfl] at hV;generalize okB ⟨⟨a,b,c⟩,⟨d,e,f⟩⟩=r1 at *;generalize zS ⟨⟨a,b,c⟩,⟨d,e,f⟩⟩=r2 at *;generalize decide ((⟨⟨a,b,c⟩,⟨d,e,f⟩⟩:Box)=⟨⟨0,0,0⟩,⟨0,0,0⟩⟩)=r3 at *;generalize zAE ⟨⟨a,b,c⟩,⟨d,e,f⟩⟩=v at *;generalize xs.all Pal.cell=r4 at *;cases r1 with
 | false =>
   clear Sn;go_enter Tryz.func90,Tryz.ntmps90;go_wp2_with fail;generalize hW:w.alloc _=W;have JE:=sz1 hW;have hB:=bl1 hW;have kg:Bk W (w.heap.size) #[a,b,c,d,e,f,.slice sa n cap] 28:=bk0 hW;clear hW;refine (hr.o _).mono ?_;rintro e' w1 ⟨rfl,hb⟩;replace hB:=tr hB hb;replace kg:=kg.la hb;replace JE:=nlt JE hb.size;clear hb;obtain ⟨F4,F5,F6,F7,F8,F9,FA⟩:=kg.c7;go_wp2_with fail;go_ret;exact ⟨zx (by rw [hV.o];simp [*]),hB⟩
 | true =>
   replace Sn:=Bx.mk (Sn.o rfl);cases r2 with
   | false =>
     by_cases h1:2097152<v
     · have Gr:decide (v≤2097152)=false:=by simp;omega
       go_enter Tryz.func90,Tryz.ntmps90;go_wp2_with fail;generalize hW:w.alloc _=W;have JE:=sz1 hW;have hB:=bl1 hW;have kg:Bk W (w.heap.size) #[a,b,c,d,e,f,.slice sa n cap] 28:=bk0 hW;clear hW;refine (hr.o _).mono ?_;rintro e' w1 ⟨rfl,hb⟩;replace hB:=tr hB hb;replace kg:=kg.la hb;replace JE:=nlt JE hb.size;clear hb;obtain ⟨F4,F5,F6,F7,F8,F9,FA⟩:=kg.c7;go_wp2_with fail;refine (he.o _).mono ?_;rintro e' w2 ⟨rfl,hb⟩;clear F4 F5 F6 F7 F8 F9 FA;replace hB:=tr hB hb;replace kg:=kg.la hb;replace JE:=nlt JE hb.size;clear hb;obtain ⟨F4,F5,F6,F7,F8,F9,FA⟩:=kg.c7;go_wp2_with fail;refine (Sn.o _).mono ?_;rintro e' w3 ⟨rfl,hb⟩;clear F4 F5 F6 F7 F8 F9 FA;replace hB:=tr hB hb;replace kg:=kg.la hb;replace JE:=nlt JE hb.size;clear hb;obtain ⟨F4,F5,F6,F7,F8,F9,FA⟩:=kg.c7;go_wp2_with fail;go_ret;exact ⟨zx (by rw [hV.o];simp [*]),hB⟩
     · have Gr:decide (v≤2097152)=true:=by simp;omega
       by_cases h2:v=(n:Int)
       · have Gv:(v == (n:Int))=true:=by simp [h2]
         have Gx:Bx (decide (v=(n:Int))=true):=⟨by simp [h2]⟩
         clear h2;cases r4
         all_goals
          go_enter Tryz.func90,Tryz.ntmps90;go_wp2_with fail;generalize hW:w.alloc _=W;have JE:=sz1 hW;have hB:=bl1 hW;have kg:Bk W (w.heap.size) #[a,b,c,d,e,f,.slice sa n cap] 28:=bk0 hW;clear hW;refine (hr.o _).mono ?_;rintro e' w1 ⟨rfl,hb⟩;replace hB:=tr hB hb;replace kg:=kg.la hb;replace JE:=nlt JE hb.size;clear hb;obtain ⟨F4,F5,F6,F7,F8,F9,FA⟩:=kg.c7;go_wp2_with fail;refine (he.o _).mono ?_;rintro e' w2 ⟨rfl,hb⟩;clear F4 F5 F6 F7 F8 F9 FA;replace hB:=tr hB hb;replace kg:=kg.la hb;replace JE:=nlt JE hb.size;clear hb;obtain ⟨F4,F5,F6,F7,F8,F9,FA⟩:=kg.c7;go_wp2_with fail;refine (Sn.o _).mono ?_;rintro e' w3 ⟨rfl,hb⟩;clear F4 F5 F6 F7 F8 F9 FA;replace hB:=tr hB hb;replace kg:=kg.la hb;replace JE:=nlt JE hb.size;clear hb;obtain ⟨F4,F5,F6,F7,F8,F9,FA⟩:=kg.c7;go_wp2_with fail;refine (Lh.o _ (h.below hB)).mono ?_;rintro e' w4 ⟨rfl,rfl⟩;go_wp2_with fail;go_ret;exact ⟨zx (by rw [hV.o,Gx.o];simp [Gr]),hB⟩
       · have Gv:(v == (n:Int))=false:=by simp [h2]
         have Gx:Bx (decide (v=(n:Int))=false):=⟨by simp [h2]⟩
         clear h2;go_enter Tryz.func90,Tryz.ntmps90;go_wp2_with fail;generalize hW:w.alloc _=W;have JE:=sz1 hW;have hB:=bl1 hW;have kg:Bk W (w.heap.size) #[a,b,c,d,e,f,.slice sa n cap] 28:=bk0 hW;clear hW;refine (hr.o _).mono ?_;rintro e' w1 ⟨rfl,hb⟩;replace hB:=tr hB hb;replace kg:=kg.la hb;replace JE:=nlt JE hb.size;clear hb;obtain ⟨F4,F5,F6,F7,F8,F9,FA⟩:=kg.c7;go_wp2_with fail;refine (he.o _).mono ?_;rintro e' w2 ⟨rfl,hb⟩;clear F4 F5 F6 F7 F8 F9 FA;replace hB:=tr hB hb;replace kg:=kg.la hb;replace JE:=nlt JE hb.size;clear hb;obtain ⟨F4,F5,F6,F7,F8,F9,FA⟩:=kg.c7;go_wp2_with fail;refine (Sn.o _).mono ?_;rintro e' w3 ⟨rfl,hb⟩;clear F4 F5 F6 F7 F8 F9 FA;replace hB:=tr hB hb;replace kg:=kg.la hb;replace JE:=nlt JE hb.size;clear hb;obtain ⟨F4,F5,F6,F7,F8,F9,FA⟩:=kg.c7;go_wp2_with fail;go_ret;exact ⟨zx (by rw [hV.o,Gx.o];simp),hB⟩
   | true =>
     cases r3 with
     | false =>
       go_enter Tryz.func90,Tryz.ntmps90;go_wp2_with fail;generalize hW:w.alloc _=W;have JE:=sz1 hW;have hB:=bl1 hW;have kg:Bk W (w.heap.size) #[a,b,c,d,e,f,.slice sa n cap] 28:=bk0 hW;clear hW;refine (hr.o _).mono ?_;rintro e' w1 ⟨rfl,hb⟩;replace hB:=tr hB hb;replace kg:=kg.la hb;replace JE:=nlt JE hb.size;clear hb;obtain ⟨F4,F5,F6,F7,F8,F9,FA⟩:=kg.c7;go_wp2_with fail;refine (he.o _).mono ?_;rintro e' w2 ⟨rfl,hb⟩;clear F4 F5 F6 F7 F8 F9 FA;replace hB:=tr hB hb;replace kg:=kg.la hb;replace JE:=nlt JE hb.size;clear hb;obtain ⟨F4,F5,F6,F7,F8,F9,FA⟩:=kg.c7;go_wp2_with fail;go_ret;exact ⟨zx (by rw [hV.o];simp [*]),hB⟩
     | true =>
       by_cases h1:2097152<v
       · have Gr:decide (v≤2097152)=false:=by simp;omega
         go_enter Tryz.func90,Tryz.ntmps90;go_wp2_with fail;generalize hW:w.alloc _=W;have JE:=sz1 hW;have hB:=bl1 hW;have kg:Bk W (w.heap.size) #[a,b,c,d,e,f,.slice sa n cap] 28:=bk0 hW;clear hW;refine (hr.o _).mono ?_;rintro e' w1 ⟨rfl,hb⟩;replace hB:=tr hB hb;replace kg:=kg.la hb;replace JE:=nlt JE hb.size;clear hb;obtain ⟨F4,F5,F6,F7,F8,F9,FA⟩:=kg.c7;go_wp2_with fail;refine (he.o _).mono ?_;rintro e' w2 ⟨rfl,hb⟩;clear F4 F5 F6 F7 F8 F9 FA;replace hB:=tr hB hb;replace kg:=kg.la hb;replace JE:=nlt JE hb.size;clear hb;obtain ⟨F4,F5,F6,F7,F8,F9,FA⟩:=kg.c7;go_wp2_with fail;refine (Sn.o _).mono ?_;rintro e' w3 ⟨rfl,hb⟩;clear F4 F5 F6 F7 F8 F9 FA;replace hB:=tr hB hb;replace kg:=kg.la hb;replace JE:=nlt JE hb.size;clear hb;obtain ⟨F4,F5,F6,F7,F8,F9,FA⟩:=kg.c7;go_wp2_with fail;go_ret;exact ⟨zx (by rw [hV.o];simp [*]),hB⟩
       · have Gr:decide (v≤2097152)=true:=by simp;omega
         by_cases h2:v=(n:Int)
         · have Gv:(v == (n:Int))=true:=by simp [h2]
           have Gx:Bx (decide (v=(n:Int))=true):=⟨by simp [h2]⟩
           clear h2;cases r4
           all_goals
            go_enter Tryz.func90,Tryz.ntmps90;go_wp2_with fail;generalize hW:w.alloc _=W;have JE:=sz1 hW;have hB:=bl1 hW;have kg:Bk W (w.heap.size) #[a,b,c,d,e,f,.slice sa n cap] 28:=bk0 hW;clear hW;refine (hr.o _).mono ?_;rintro e' w1 ⟨rfl,hb⟩;replace hB:=tr hB hb;replace kg:=kg.la hb;replace JE:=nlt JE hb.size;clear hb;obtain ⟨F4,F5,F6,F7,F8,F9,FA⟩:=kg.c7;go_wp2_with fail;refine (he.o _).mono ?_;rintro e' w2 ⟨rfl,hb⟩;clear F4 F5 F6 F7 F8 F9 FA;replace hB:=tr hB hb;replace kg:=kg.la hb;replace JE:=nlt JE hb.size;clear hb;obtain ⟨F4,F5,F6,F7,F8,F9,FA⟩:=kg.c7;go_wp2_with fail;refine (Sn.o _).mono ?_;rintro e' w3 ⟨rfl,hb⟩;clear F4 F5 F6 F7 F8 F9 FA;replace hB:=tr hB hb;replace kg:=kg.la hb;replace JE:=nlt JE hb.size;clear hb;obtain ⟨F4,F5,F6,F7,F8,F9,FA⟩:=kg.c7;go_wp2_with fail;refine (Lh.o _ (h.below hB)).mono ?_;rintro e' w4 ⟨rfl,rfl⟩;go_wp2_with fail;go_ret;exact ⟨zx (by rw [hV.o,Gx.o];simp [Gr]),hB⟩
         · have Gv:(v == (n:Int))=false:=by simp [h2]
           have Gx:Bx (decide (v=(n:Int))=false):=⟨by simp [h2]⟩
           clear h2;go_enter Tryz.func90,Tryz.ntmps90;go_wp2_with fail;generalize hW:w.alloc _=W;have JE:=sz1 hW;have hB:=bl1 hW;have kg:Bk W (w.heap.size) #[a,b,c,d,e,f,.slice sa n cap] 28:=bk0 hW;clear hW;refine (hr.o _).mono ?_;rintro e' w1 ⟨rfl,hb⟩;replace hB:=tr hB hb;replace kg:=kg.la hb;replace JE:=nlt JE hb.size;clear hb;obtain ⟨F4,F5,F6,F7,F8,F9,FA⟩:=kg.c7;go_wp2_with fail;refine (he.o _).mono ?_;rintro e' w2 ⟨rfl,hb⟩;clear F4 F5 F6 F7 F8 F9 FA;replace hB:=tr hB hb;replace kg:=kg.la hb;replace JE:=nlt JE hb.size;clear hb;obtain ⟨F4,F5,F6,F7,F8,F9,FA⟩:=kg.c7;go_wp2_with fail;refine (Sn.o _).mono ?_;rintro e' w3 ⟨rfl,hb⟩;clear F4 F5 F6 F7 F8 F9 FA;replace hB:=tr hB hb;replace kg:=kg.la hb;replace JE:=nlt JE hb.size;clear hb;obtain ⟨F4,F5,F6,F7,F8,F9,FA⟩:=kg.c7;go_wp2_with fail;go_ret;exact ⟨zx (by rw [hV.o,Gx.o];simp),hB⟩
theorem zIe (n:Nat) (hn:n≤4194304) (w:World) :
 Calls Tryz.prog 183 #[.int .u64 1,.int .u64 (n:Int)] w fun e w'=>e = .returned (.tuple #[.int .u64 0,.int .u64 (n:Int)])∧w=w':=by
 have b1:bits .and .u64 1 4294967295=1:=by decide
 have b0:bits .and .u64 0 4294967295=0:=by decide
 have bn:bits .and .u64 (n:Int) 4294967295=(n:Int):=by
  have h:=u64_and_nat n 4294967295 (by omega) (by decide)
  have h2:n &&& 4294967295=n:=by
   have:=Nat.and_two_pow_sub_one_eq_mod n 32;rw [show 2 ^ 32 - 1=4294967295 by decide] at this
   rw [this];exact Nat.mod_eq_of_lt (by omega)
  rw [h2] at h;exact h
 have d1:(n:Int) / 4294967296=0:=by omega
 have k1:(0:Int)≤(n:Int):=by omega
 have k2:(n:Int)≤4194304:=by omega
 go_enter Tryz.func183,Tryz.ntmps183;go_wp2_with fail
 go_ret2
 exact ⟨rfl,rfl⟩
theorem zIg (n:Nat) (hn:n≤4194304) (w:World) :
 Calls Tryz.prog 181 #[.int .u64 1,.int .u64 (n:Int)] w fun e w'=>e = .returned (.tuple #[.int .u64 0,.int .u64 (n:Int)])∧w=w':=by
 have hm:=Bx.mk (zIe n hn);go_enter Tryz.func181,Tryz.ntmps181;go_wp2_with fail;refine (hm.o _).mono ?_;rintro e w1 ⟨rfl,rfl⟩;go_wp2_with fail
 go_ret2
 exact ⟨rfl,rfl⟩
def rep (c:Int) (k n:Nat):List Value:=List.replicate k (.int .i64 c)++List.replicate (n - k) (.int .i64 0)
theorem zLV (c:Int) {k n:Nat} (h:k≤n):(rep c k n).length=n:=by simp [rep];omega
theorem zLW (c:Int) (n:Nat):madeCells #[(0:Int)] n=(rep c 0 n).toArray:=by
 apply Array.ext';simp only [madeCells,rep,List.replicate_zero,List.nil_append,Nat.sub_zero];apply List.ext_getElem?;intro i;by_cases h:i<n
 · simp [h,Nat.mod_one]
 · simp [h]
theorem zMk (c:Int) {k m n:Nat} (_h:k+m≤n):splice (rep c k n) k (List.replicate m (.int .i64 c))=rep c (k+m) n:=by
 unfold splice rep;have e1:(List.replicate k (Value.int .i64 c)++List.replicate (n - k) (Value.int .i64 0)).take k=List.replicate k (Value.int .i64 c):=by simp
 have e2:(List.replicate k (Value.int .i64 c)++List.replicate (n - k) (Value.int .i64 0)).drop (k+(List.replicate m (Value.int .i64 c)).length)=List.replicate (n - (k+m)) (Value.int .i64 0):=by
  rw [List.length_replicate,List.drop_append,List.drop_eq_nil_of_le (by simp),List.nil_append,List.drop_replicate]
  congr 1
  simp;omega
 rw [e1,e2,←List.append_assoc,List.replicate_append_replicate]
theorem zLU (c:Int) {k n i:Nat} (hi:i<k):(rep c k n)[i]? = some (.int .i64 c):=by
 simp [rep,List.getElem?_append,hi]
theorem zJe {w:World} {B g:Nat} {c:Int} {n:Nat} (h:Bk w g (rep c n n).toArray 3) (hB:B≤g) (hn:n≤maxLen):Own w B 3 .i64 (.slice (some ⟨g,0,none⟩) n n) (List.replicate n c):=by
 refine ⟨by simp,.inr ⟨g,n,(rep c n n).toArray,by simp,hB,h,by simp,hn,by simp [rep],by simp [rep]⟩⟩
theorem cp_src (w:World) (ad:Addr) (c:Int) (n:Nat) (hc:w.cell? ad=some (.int .i64 c)):0<[Value.int .i64 c].length→(some (⟨w.heap.size,0,none⟩:Addr))=some ⟨w.heap.size,0,none⟩ ∧ ∃ ad',some ad=some ad' ∧
 ∀ j v,[Value.int .i64 c][j]? = some v→(w.alloc (.cells (rep c 0 n).toArray 3)).cell? (ad'.add j)=some v :=
 fun _=>⟨rfl,ad,rfl,fun j v hj=>by
  cases j with
  | zero=>simp at hj;subst hj;simpa [Addr.add] using cell_later bf hc
  | succ j=>simp at hj⟩
theorem zDh (w:World) (g:Nat) (c:Int) (k m n:Nat) (hm:m≤k) (kw:Bx (Bk w g (rep c k n).toArray 3)):0<(List.replicate m (Value.int .i64 c)).length→(some (⟨g,k,none⟩:Addr))=some ⟨g,k,none⟩ ∧ ∃ ad',(some (⟨g,0,none⟩:Addr))=some ad' ∧
 ∀ j v,(List.replicate m (Value.int .i64 c))[j]? = some v→w.cell? (ad'.add j)=some v :=
 fun _=>⟨rfl,⟨g,0,none⟩,rfl,fun j v hj=>by
  rw [List.getElem?_replicate] at hj;split at hj
  · rename_i h;have e:(⟨g,0,none⟩:Addr).add j=⟨g,j,none⟩:=by unfold Addr.add;split <;> simp_all
    rw [e,←hj];exact kw.o.cell j (by simpa using zLU c (by omega))
  · cases hj⟩
theorem cp_len (c:Int) (k m n:Nat) (h:m=min k (n - k)):(List.replicate m (Value.int .i64 c)).length=Nat.min k (n - k):=by rw [List.length_replicate,h]
theorem cp_fit (c:Int) (k m n:Nat) (h:k+m≤n):k+(List.replicate m (Value.int .i64 c)).length≤(rep c k n).length:=by rw [zLV c (by omega),List.length_replicate];exact h
theorem cp_one (c:Int) (m:Nat) : ∀ v∈List.replicate m (Value.int .i64 c),v.oneCell'=true:=by
 intro v hv;rw [(List.mem_replicate.1 hv).2];rfl
theorem zLX (ad:Addr) (cap:Nat) (c:Int) (n:Nat) (h1:1≤n) (hn:n≤4194304) (w:World) (hc:w.cell? ad=some (.int .i64 c)) :
 Calls Tryz.prog 176 #[.slice (some ad) 1 cap,(n:Int)] w fun e w' => ∃ v,e = .returned v∧Own w' w.heap.size 3 .i64 v (List.replicate n c)∧Below w.heap.size w w':=by
 have hm:=Bx.mk (zIg n hn);have k1:(1:Int)≤(n:Int):=by omega
 have k2:(n:Int)≤4194304:=by omega
 have PU : ∀ W,(Instr.makeSlice 26 (.int .i64 (n:Int)) (.int .i64 (n:Int))).run Tryz.prog W = .ok (.slice (some ⟨W.heap.size,0,none⟩) n n) (W.alloc (.cells (rep c 0 n).toArray 3)) :=
  fun W=>by rw [←zLW];exact run_make_row' (P:=Tryz.prog) 26 3 (.int .i64 0) 8 Tryz.underlying26 (by kernel_rfl) rfl .i64 .i64 n (by omega) (by omega) W
 go_enter Tryz.func176,Tryz.ntmps176;go_wp2_with fail;refine (hm.o _).mono ?_;rintro e w1 ⟨rfl,rfl⟩;have Jq:Below w.heap.size w (w.alloc (.cells (rep c 0 n).toArray 3)):=bf;have c1:=Bx.mk (show [Value.int .i64 c].length=Nat.min 1 n by show 1=min 1 n;omega)
 have c3:=Bx.mk (show 0+[Value.int .i64 c].length≤(rep c 0 n).length by rw [zLV c (by omega)];simp;omega)
 have c4:=Bx.mk (show ∀ v∈[Value.int .i64 c],v.oneCell'=true by simp [Value.oneCell'])
 go_wp2_with (refine wpList_copy_splice rfl (.tmp 31) (.tmp 32) 26 26 rfl 3 Tryz.underlying26 (by kernel_rfl) (some ⟨w.heap.size,0,none⟩) (some ad) n n 1 cap rfl rfl w.heap.size 0 (rep c 0 n) 3 (heap_alloc_new w _) [.int .i64 c] c1.o (cp_src w ad c n hc) c3.o c4.o w.heap.size w Jq nlr ?_)
 clear c1 c3 c4 Jq;intro w1 N3 Jr;have kg:Bx (Bk w1 w.heap.size (rep c 1 n).toArray 3):=⟨by have:=N3.out;rw [show [Value.int .i64 c]=List.replicate 1 (.int .i64 c) from rfl,zMk c (by omega)] at this;exact this⟩
 clear N3 PU hm;go_wp2_with fail
 go_loopw [8] (fun i wr => ∃ k:Nat,1≤k∧k≤n∧i = .int .i64 k∧Bk wr w.heap.size (rep c k n).toArray 3∧Below w.heap.size w wr) (fun i _=>n - (intOf i).toNat)
 case atStart=>exact ⟨1,by omega,h1,rfl,kg.o,Jr⟩
 case round =>
  obtain ⟨k,O5,hk,rfl,kw,hB⟩:=hrel;clear kg Jr;have Kw:=Bx.mk kw;clear kw;have b1:(0:Int)≤(k:Int):=by omega
  have b2:(k:Int)≤(n:Int):=by omega
  by_cases hlt:k<n
  · have P9:(k:Int)<(n:Int):=by omega
    have Ph : ¬n=k:=by omega
    obtain ⟨m,hm⟩ : ∃ m,m=min k (n - k):=⟨_,rfl⟩;have PU:m≤k∧k+m≤n∧1≤m:=by omega
    have T4:IntKind.i64.wrap ((k:Int)+(m:Int))=(k:Int)+(m:Int):=wj _ (by omega)
    have Hm:=Bx.mk hm;clear hm;go_wp2_with fail
    go_region_law ((refine step_copy_splice rfl (.tmp 41) (.tmp 44) 26 26 rfl 3 Tryz.underlying26 (by kernel_rfl) (some ⟨w.heap.size,k,none⟩) (some ⟨w.heap.size,0,none⟩) (n - k) (n - k) k n (by simp [Act.eval,Act.put]) (by simp [Act.eval,Act.put]) w.heap.size k (rep c k n) 3 Kw.o (List.replicate m (.int .i64 c)) (cp_len c k m n Hm.o) (zDh wr.drew w.heap.size c k m n PU.1 Kw) (cp_fit c k m n PU.2.1) (cp_one c m) w.heap.size w hB.drew (Nat.le_refl _) ?_;intro w2 N4 Js))
    have kg:Bx (Bk w2 w.heap.size (rep c (k+m) n).toArray 3):=⟨by have:=N4.out;rw [zMk c (by omega)] at this;exact this⟩
    clear N4 Kw;simp only [List.getElem_toArray,List.getElem_cons_succ,List.getElem_cons_zero,Act.put];go_wp2_with fail
    go_frame
    go_roundw
    case rel=>exact ⟨k+m,by omega,by omega,by go_num,kg.o,Js⟩
    case measure=>simp [intOf];omega
  · obtain rfl:k=n:=by omega
    go_wp2_with fail;go_ret;refine ⟨_,rfl,zJe Kw.o (Nat.le_refl _) (by simp only [maxLen];omega),hB⟩
theorem zCk (a b c d e f m:Int) (w:World) :
 Calls Tryz.prog 175 #[.agg #[a,b,c,d,e,f],m] w fun e' w'=>e' = .returned (.int .i64 (zIj ⟨⟨a,b,c⟩,⟨d,e,f⟩⟩ m))∧Below w.heap.size w w':=by
 have hr:=Bx.mk fun W=>zKk a b c d e f W;have hm:=Bx.mk fun W=>zIM m W;have Sn:Bx (okB ⟨⟨a,b,c⟩,⟨d,e,f⟩⟩=true → ∀ W,Calls Tryz.prog 143 #[.agg #[a,b,c,d,e,f]] W fun e' w'=>e' = .returned (.int .i64 (zAE ⟨⟨a,b,c⟩,⟨d,e,f⟩⟩))∧Below W.heap.size W w'):=⟨fun h W=>zOA a b c d e f (zJG h) W⟩;have hE:=Bx.mk (show zIj ⟨⟨a,b,c⟩,⟨d,e,f⟩⟩ m=if okB ⟨⟨a,b,c⟩,⟨d,e,f⟩⟩=false∨Pal.cell m=false then 1 else if 2097152<zAE ⟨⟨a,b,c⟩,⟨d,e,f⟩⟩ then 2 else 0 from rfl);rw [←Pal.cell_eq] at hm;generalize okB ⟨⟨a,b,c⟩,⟨d,e,f⟩⟩=r1 at *;generalize zAE ⟨⟨a,b,c⟩,⟨d,e,f⟩⟩=v at *;generalize Pal.cell m=r2 at *;generalize zIj ⟨⟨a,b,c⟩,⟨d,e,f⟩⟩ m=ee at *;cases r1 with
 | false =>
   clear Sn;go_enter Tryz.func175,Tryz.ntmps175;go_wp2_with fail;generalize hW:w.alloc _=W;have JE:=sz1 hW;have hB:=bl1 hW;have kb:Bk W (w.heap.size) #[a,b,c,d,e,f] 25:=bk0 hW;clear hW;refine (hr.o _).mono ?_;rintro e' w1 ⟨rfl,hb⟩;replace hB:=tr hB hb;replace kb:=kb.la hb;replace JE:=nlt JE hb.size;clear hb;obtain ⟨Ev,cb1,cb2,cb3,Ew,Ex⟩:=kb.c6;go_wp2_with fail;go_ret;exact ⟨zLa (by rw [hE.o];simp),hB⟩
 | true =>
   replace Sn:=Bx.mk (Sn.o rfl);cases r2 with
   | false =>
     go_enter Tryz.func175,Tryz.ntmps175;go_wp2_with fail;generalize hW:w.alloc _=W;have JE:=sz1 hW;have hB:=bl1 hW;have kb:Bk W (w.heap.size) #[a,b,c,d,e,f] 25:=bk0 hW;clear hW;refine (hr.o _).mono ?_;rintro e' w1 ⟨rfl,hb⟩;replace hB:=tr hB hb;replace kb:=kb.la hb;replace JE:=nlt JE hb.size;clear hb;obtain ⟨Ev,cb1,cb2,cb3,Ew,Ex⟩:=kb.c6;go_wp2_with fail;refine (hm.o _).mono ?_;rintro e' w2 ⟨rfl,rfl⟩;go_wp2_with fail;go_ret;exact ⟨zLa (by rw [hE.o];simp),hB⟩
   | true =>
     by_cases hv:2097152<v
     · have IP:Bx (ee=2):=⟨by rw [hE.o];simp [hv]⟩
       go_enter Tryz.func175,Tryz.ntmps175;go_wp2_with fail;generalize hW:w.alloc _=W;have JE:=sz1 hW;have hB:=bl1 hW;have kb:Bk W (w.heap.size) #[a,b,c,d,e,f] 25:=bk0 hW;clear hW;refine (hr.o _).mono ?_;rintro e' w1 ⟨rfl,hb⟩;replace hB:=tr hB hb;replace kb:=kb.la hb;replace JE:=nlt JE hb.size;clear hb;obtain ⟨Ev,cb1,cb2,cb3,Ew,Ex⟩:=kb.c6;go_wp2_with fail;refine (hm.o _).mono ?_;rintro e' w2 ⟨rfl,rfl⟩;go_wp2_with fail;refine (Sn.o _).mono ?_;rintro e' w3 ⟨rfl,hb⟩;clear Ev cb1 cb2 cb3 Ew Ex;replace hB:=tr hB hb;replace kb:=kb.la hb;replace JE:=nlt JE hb.size;clear hb;go_wp2_with fail;go_ret;exact ⟨zLa IP.o.symm,hB⟩
     · have IP:Bx (ee=0):=⟨by rw [hE.o];simp [hv]⟩
       go_enter Tryz.func175,Tryz.ntmps175;go_wp2_with fail;generalize hW:w.alloc _=W;have JE:=sz1 hW;have hB:=bl1 hW;have kb:Bk W (w.heap.size) #[a,b,c,d,e,f] 25:=bk0 hW;clear hW;refine (hr.o _).mono ?_;rintro e' w1 ⟨rfl,hb⟩;replace hB:=tr hB hb;replace kb:=kb.la hb;replace JE:=nlt JE hb.size;clear hb;obtain ⟨Ev,cb1,cb2,cb3,Ew,Ex⟩:=kb.c6;go_wp2_with fail;refine (hm.o _).mono ?_;rintro e' w2 ⟨rfl,rfl⟩;go_wp2_with fail;refine (Sn.o _).mono ?_;rintro e' w3 ⟨rfl,hb⟩;clear Ev cb1 cb2 cb3 Ew Ex;replace hB:=tr hB hb;replace kb:=kb.la hb;replace JE:=nlt JE hb.size;clear hb;go_wp2_with fail;go_ret;exact ⟨zLa IP.o.symm,hB⟩
def RetG (a b c d e f:Int) (xs:List Int) (er:Int) (w:World) (E:Ending) (w':World):Prop :=
 ∃ pa pc,E = .returned (.tuple #[.agg #[a,b,c,d,e,f,.slice pa xs.length pc],er])∧Own w' w.heap.size 3 .i64 (.slice pa xs.length pc) xs∧Below w.heap.size w w'
theorem zIl (a b c d e f m:Int) (h0:zIj ⟨⟨a,b,c⟩,⟨d,e,f⟩⟩ m=0) (MV:zS ⟨⟨a,b,c⟩,⟨d,e,f⟩⟩=false) (n:Nat) (hn:zAE ⟨⟨a,b,c⟩,⟨d,e,f⟩⟩=(n:Int)) (w:World) :
 Calls Tryz.prog 136 #[.agg #[a,b,c,d,e,f],m] w (RetG a b c d e f (List.replicate n m) 0 w):=by
 have hc:=Bx.mk fun W=>zCk a b c d e f m W;have he:=Bx.mk fun W=>zU a b c d e f W
 have QE:okB ⟨⟨a,b,c⟩,⟨d,e,f⟩⟩=true∧zAE ⟨⟨a,b,c⟩,⟨d,e,f⟩⟩≤2097152:=by
  unfold zIj at h0;split at h0
  · cases h0
  · rename_i h1;split at h0
    · cases h0
    · exact ⟨by cases h:okB ⟨⟨a,b,c⟩,⟨d,e,f⟩⟩ <;> simp_all,by omega⟩
 have Sn:=Bx.mk fun W=>zOA a b c d e f (zJG QE.1) W
 have Qn:1≤n:=by
  have h:=zBW MV;omega
 have OY:n≤4194304:=by omega
 rw [hn] at Sn;rw [h0] at hc;rw [MV] at he;clear h0 MV QE hn;go_enter Tryz.func136,Tryz.ntmps136;go_wp2_with fail;generalize hW:(w.alloc _).alloc _=W;have JE:=sz2 hW;have hB:=bl2 hW;have kb:Bk W (w.heap.size) #[a,b,c,d,e,f] 25:=bk1 hW;have kg:Bk W (w.heap.size+1) #[(0:Int),(0:Int),(0:Int),(0:Int),(0:Int),(0:Int),.slice none 0 0] 28:=bk0 hW;clear hW;refine (hc.o _).mono ?_;rintro e' w1 ⟨rfl,hb⟩;replace hB:=tr hB hb;replace kb:=kb.la hb;replace kg:=kg.la hb;replace JE:=nlt JE hb.size;clear hb;obtain ⟨Ev,cb1,cb2,cb3,Ew,Ex⟩:=kb.c6;go_wp2_with fail;refine (he.o _).mono ?_;rintro e' w2 ⟨rfl,hb⟩;clear Ev cb1 cb2 cb3 Ew Ex;replace hB:=tr hB hb;replace kb:=kb.la hb;replace kg:=kg.la hb;replace JE:=nlt JE hb.size;clear hb;obtain ⟨Ev,cb1,cb2,cb3,Ew,Ex⟩:=kb.c6;go_wp2_with fail;have kB:=Bx.mk kb
 refine zOh 7 (fun i v w'=>match i with
  | 0=>v = .agg #[a,b,c,d,e,f]
  | 1=>v = .int .i64 m
  | 2 => ∃ g,v = .slice (some ⟨g,0,none⟩) 1 1∧w'.cell? ⟨g,0,none⟩=some (.int .i64 m)
  | 3=>v = .agg #[a,b,c,d,e,f]
  | 4=>v = .int .i64 (n:Int)
  | 5 => ∃ pa pc,v = .slice pa n pc∧Own w' w2.heap.size 3 .i64 (.slice pa n pc) (List.replicate n m)
  | _ => ∃ pa pc,v = .agg #[a,b,c,d,e,f,.slice pa n pc]∧Own w' w2.heap.size 3 .i64 (.slice pa n pc) (List.replicate n m)) (by kernel_rfl) (by kernel_rfl) 25 (by kernel_rfl) (by rfl) ?_ ?_ ?_
 · intro i hi v u1 u2 hb h
   match i,hi with
   | 0,_=>exact h
   | 1,_=>exact h
   | 2,_=>obtain ⟨g,h1,h2⟩:=h;exact ⟨g,h1,cell_later hb h2⟩
   | 3,_=>exact h
   | 4,_=>exact h
   | 5,_=>obtain ⟨pa,pc,h1,h2⟩:=h;exact ⟨pa,pc,h1,h2.below hb⟩
   | 6,_=>obtain ⟨pa,pc,h1,h2⟩:=h;exact ⟨pa,pc,h1,h2.below hb⟩
 · intro i o hi ho ρ w1 hb L3 L5 L6 hk
   match i,hi with
   | 0, _ =>
     obtain rfl:=osi ho;have h2:ρ (.tmp 2) = .pointer (some ⟨w.heap.size,0,none⟩):=hk 2 (by simp)
     have k1:=kB.o.la hb;obtain ⟨c0,c1,c2,c3,c4,c5⟩:=k1.c6;clear hk hb Sn hc he kg hB;go_simp;exact br
   | 1, _ =>
     obtain rfl:=osi ho;have h2:ρ (.tmp 1) = .int .i64 m:=hk 1 (by simp)
     clear hk hb Sn hc he kg hB;go_simp;exact br
   | 2, _ =>
     obtain rfl:=osi ho;have h2:ρ (.tmp 19) = .int .i64 m:=hk 19 (by simp)
     clear hk hb Sn hc he kg hB;go_simp;exact bf
   | 3, _ =>
     obtain rfl:=osi ho;have h2:ρ (.tmp 2) = .pointer (some ⟨w.heap.size,0,none⟩):=hk 2 (by simp)
     have k1:=kB.o.la hb;obtain ⟨c0,c1,c2,c3,c4,c5⟩:=k1.c6;clear hk hb Sn hc he kg hB;go_simp;exact br
   | 4, _ =>
     obtain rfl:=osi ho;have h2:ρ (.tmp 21) = .agg #[a,b,c,d,e,f]:=hk 21 (by simp)
     have H3:=Bx.mk (Sn.o w1);clear hk hb Sn hc he kg hB;go_simp;exact H3.o
   | 5, _ =>
     obtain rfl:=osi ho;obtain ⟨g,h2,Gv⟩ : ∃ g,ρ (.tmp 20) = .slice (some ⟨g,0,none⟩) 1 1∧w1.cell? ⟨g,0,none⟩=some (.int .i64 m):=hk 20 (by simp)
     have h3:ρ (.tmp 22) = .int .i64 (n:Int):=hk 22 (by simp)
     have h4:=(zLX ⟨g,0,none⟩ 1 m n Qn OY w1 Gv).mono (R':=fun e V0 => ∃ v,e = .returned v∧Below w1.heap.size w1 V0 ∧ ∃ pa pc,v = .slice pa n pc∧Own V0 w2.heap.size 3 .i64 (.slice pa n pc) (List.replicate n m)) (fun e V0 ⟨v,x,y,z⟩=>by
      obtain ⟨pa,pc,hv,_⟩:=y.form;rw [List.length_replicate] at hv;subst hv;exact ⟨_,x,z,pa,pc,rfl,y.base hb.size⟩)
     have H4:=Bx.mk h4;clear hk hb Sn hc he kg hB h4 Gv;go_simp;exact H4.o
   | 6, _ =>
     obtain rfl:=osi ho;have h2:ρ (.tmp 18) = .agg #[a,b,c,d,e,f]:=hk 18 (by simp)
     obtain ⟨pa,pc,h3,h4⟩ : ∃ pa pc,ρ (.tmp 23) = .slice pa n pc∧Own w1 w2.heap.size 3 .i64 (.slice pa n pc) (List.replicate n m):=hk 23 (by simp)
     have H4:=Bx.mk h4;clear hk hb Sn hc he kg hB h4;go_simp;exact ⟨br,pa,pc,⟨rfl,rfl⟩,H4.o⟩
 · intro vs W1 Od hb hR
   match vs,Od with
   | [v0, v1, v2, v3, v4, v5, v6], _ =>
     have r0:v0 = .agg #[a,b,c,d,e,f]:=hR 0 v0 rfl;have r1:v1 = .int .i64 m:=hR 1 v1 rfl;obtain ⟨g2,r2,_⟩ : ∃ g,v2 = .slice (some ⟨g,0,none⟩) 1 1∧W1.cell? ⟨g,0,none⟩=some (.int .i64 m):=hR 2 v2 rfl;have r3:v3 = .agg #[a,b,c,d,e,f]:=hR 3 v3 rfl;have r4:v4 = .int .i64 (n:Int):=hR 4 v4 rfl;obtain ⟨p5,c5,r5,_⟩ : ∃ pa pc,v5 = .slice pa n pc∧Own W1 w2.heap.size 3 .i64 (.slice pa n pc) (List.replicate n m):=hR 5 v5 rfl;obtain ⟨pa,pc,r6,QQ⟩ : ∃ pa pc,v6 = .agg #[a,b,c,d,e,f,.slice pa n pc]∧Own W1 w2.heap.size 3 .i64 (.slice pa n pc) (List.replicate n m):=hR 6 v6 rfl;subst r0 r1 r2 r3 r4 r5 r6;clear hR kb kB;have I7:=hB.size;have Tk:=kg.la hb;have I1:=tr hB hb;have F4:=Tk.cell 0 rfl;have GM:=Tk.frozen 0;have F5:=Tk.cell 1 rfl;have GN:=Tk.frozen 1;have F6:=Tk.cell 2 rfl;have GO:=Tk.frozen 2;have F7:=Tk.cell 3 rfl;have GP:=Tk.frozen 3;have F8:=Tk.cell 4 rfl;have GQ:=Tk.frozen 4;have F9:=Tk.cell 5 rfl;have GR:=Tk.frozen 5;have FA:=Tk.cell 6 rfl;have GS:=Tk.frozen 6;clear kg hb hB Sn hc he;have DK:=Bx.mk QQ;clear QQ;simp only [zKg,List.take_succ_cons,List.take_zero,List.drop_succ_cons,List.drop_zero,List.map_cons,List.map_nil,List.zip_cons_cons,List.zip_nil_right,List.foldl_cons,List.foldl_nil];go_wp2_with fail;replace Tk:=Tk.put7 (.int .i64 a) (.int .i64 b) (.int .i64 c) (.int .i64 d) (.int .i64 e) (.int .i64 f) (.slice pa n pc);obtain ⟨z0,z1,z2,z3,z4,z5,z6⟩:=Tk.c7
     exact bodyPost_ret (v:=.tuple #[.agg #[a,b,c,d,e,f,.slice pa n pc],(0:Int)]) (by simp [results,Tryz.results136,go_sem,z0,z1,z2,z3,z4,z5,z6]) rfl ⟨pa,pc,by simp,by
      have:=DK.o;simp only [List.length_replicate];exact (((((((this.setBelow (by simp;omega) _).setBelow (by simp;omega) _).setBelow (by simp;omega) _).setBelow (by simp;omega) _).setBelow (by simp;omega) _).setBelow (by simp;omega) _).setBelow (by simp;omega) _).base I7,zBn I1 (by omega) _ _ _ _ _ _ _⟩
theorem zMP (a:Option Addr) (cap:Nat) (xs:List Int) (w:World) (hl:xs.length≤100000000) (h:Sl w .i64 a xs) :
 Calls Tryz.prog 178 #[.slice a xs.length cap] w fun e w' => ∃ v,e = .returned v∧Own w' w.heap.size 3 .i64 v xs∧Below w.heap.size w w':=by
 have Mc:=fun (W:World)=>Lib.run_eql_slice_nil (P:=Tryz.prog) W 26 3 a xs.length cap 0 0 Tryz.underlying26;generalize hn:xs.length=n at *;have Hn:=Bx.mk hn;cases a with
 | none =>
   have Pr:xs=[]:=by
    cases xs with
    | nil=>rfl
    | cons x l=>obtain ⟨b,off,h0,_⟩:=h 0 x rfl;cases h0
   have DG:=Bx.mk Pr;clear Pr hn h;go_enter Tryz.func178,Tryz.ntmps178;go_wp2;go_ret;exact ⟨_,rfl,by rw [DG.o];exact Own.nil _ _ _ _,br⟩
 | some ad =>
   clear hn;have h0:Own (w.alloc (.cells #[] 3)) w.heap.size 3 .i64 (.slice (some ⟨w.heap.size,0,none⟩) 0 0) []:=Own.lit w _ _ _ #[] [] 0 (Nat.le_refl _) (by simp [maxLen]) rfl rfl
   have h1:=h.below ((Below.refl w.heap.size w).alloc nlr (.cells #[] 3));go_enter Tryz.func178,Tryz.ntmps178
   go_wp2_with (first
    | (at_builtin
       refine zOW rfl _ _ 26 rfl 3 .i64 (.int .i64 0) 8 (by omega) Tryz.underlying26 (by kernel_rfl) rfl w.heap.size _ [] rfl h0 xs _ _ cap rfl Hn.o.symm h1 (by have:=Hn.o;simp;omega) (zk (Nat.le_refl _) _) ?_
       intro v5 w5 QU N8 _))
   go_ret;exact ⟨_,rfl,by simpa using QU,bf.grown N8 (zk (Nat.le_refl _) _) (fun g hg=>(h0.lt g hg).1)⟩
theorem Own.raw {w:World} {B g n cap:Nat} {e:TypeId} {k:IntKind} {xs:List Int} (h:Own w B e k (.slice (some ⟨g,0,none⟩) n cap) xs) :
 ∃ cur:List Value,w.heap[g]? = some (.cells cur.toArray e (0,0))∧cur.length=cap∧cur.take n=xs.map (Value.int k)∧n≤cap∧cap≤maxLen∧B≤g∧n=xs.length:=by
 obtain ⟨hl,h⟩:=h;rcases h with ⟨h,_⟩ | ⟨g',Et,cur,h1,h2,h3,h4,h5,h6,h7⟩
 · cases h
 · injection h1 with e1 e2 e3;injection e1 with e1;injection e1 with e1;subst e1 e2 e3;refine ⟨cur.toList,by simpa using h3,by simpa using h6,by simpa using h7,h4,h5,h2,rfl⟩
theorem Own.mk' {w:World} {B g n cap:Nat} {e:TypeId} {k:IntKind} {xs:List Int} {cur:List Value} (h1:w.heap[g]? = some (.cells cur.toArray e (0,0))) (h2:cur.length=cap) (h3:cur.take n=xs.map (Value.int k)) (h4:n≤cap) (h5:cap≤maxLen) (h6:B≤g) (h7:n=xs.length) :
 Own w B e k (.slice (some ⟨g,0,none⟩) n cap) xs:=by
 subst h7;exact ⟨by simp,.inr ⟨g,cap,cur.toArray,rfl,h6,h1,h4,h5,by simp [h2],by simpa using h3⟩⟩
def over (ys:List Int) (k:Nat) (cs:List Int):List Int:=splice ys k cs
theorem zJX {ys cs:List Int} {k:Nat} (h:k+cs.length≤ys.length):(over ys k cs).length=ys.length:=length_splice ys k cs h
theorem zMj (cur:List Value) (n:Nat) (ys cs:List Int) (k:Nat) (h:cur.take n=ys.map (Value.int .i64)) (hn:n=ys.length) (hk:k+cs.length≤n) :
 (splice cur k (cs.map (Value.int .i64))).take n=(over ys k cs).map (Value.int .i64):=by
 have LZ:n≤cur.length:=by
  have:=congrArg List.length h;rw [List.length_take,List.length_map] at this;omega
 have hc:cur=ys.map (Value.int .i64)++cur.drop n:=by rw [←h,List.take_append_drop]
 have TN:(ys.map (Value.int .i64)).length=n:=by simp [hn]
 unfold over splice;apply List.ext_getElem?;intro i;by_cases hi:i<n
 · rw [List.getElem?_take,if_pos hi];simp only [List.map_append,List.map_take,List.map_drop,List.getElem?_append,List.length_take,List.length_map,List.getElem?_take,List.getElem?_drop]
   have e1 : ∀ j,j<n→cur[j]? = (ys.map (Value.int .i64))[j]? := fun j hj=>by
    rw [←h,List.getElem?_take,if_pos hj]
   have m1:min k cur.length=k:=by omega
   have m2:min k ys.length=k:=by omega
   rw [m1,m2];split
   · exact e1 i hi
   · split
     · rfl
     · rw [e1 _ (by omega)]
 · rw [List.getElem?_take,if_neg hi];symm;rw [List.getElem?_eq_none];simp;omega
theorem zMp {P:Program} {ops:Array Oper} {o:Oper} {a:Act} {w:World} {K:Act→World→Prop} {Q:Exit→Act→World→Prop} {E:Prop} (NF:o.guard=none) (d s:Operand) (dT sT:TypeId)
 (ho:o.op = .call { callee:=.builtin .copy,args:=#[d,s],argTypes:=#[dT,sT] }) (elem:TypeId) (hu:P.underlying dT=some (.slice elem)) (S9:(P.info? elem).map (·.size)=some 1)
 (g off G5 G4:Nat) (ad:Addr) (Ub Ua:Nat) (hd:a.eval d = .slice (some ⟨g,off,none⟩) G5 G4) (hs:a.eval s = .slice (some ad) Ub Ua)
 (cur:List Value) (t:TypeId) (hg:w.heap[g]? = some (.cells cur.toArray t (0,0))) (cs:List Value) (hn:cs.length=Nat.min Ub G5)
 (S1 : ∀ j v,cs[j]? = some v→w.cell? (ad.add j)=some v) (Mq:off+cs.length≤cur.length) (h1 : ∀ v∈cs,v.oneCell'=true)
 (h : ∀ w',Hid (w'.heap[g]? = some (.cells (splice cur off cs).toArray t (0,0)))→Hid (w.grownBy w' (some g))→K (a.put o.dst (goInt cs.length)) w') :
 if Region.wanted o (yielded ops a.tmps)=true then Oper.wp P o a w K Q else E:=by
 have hw:Region.wanted o (yielded ops a.tmps)=true:=by simp [Region.wanted,NF]
 rw [if_pos hw];have RP:=run_copy_row (P:=P) w dT sT o.type elem g off G5 G4 ad Ub Ua cur.toArray t cs hu S9 hg hn S1 (by simpa using Mq) h1
 unfold Oper.wp;simp [execOp,ho,resolve,invoke,builtin,hd,hs,RP,Result.andThen];exact h _ (show _=_ by simpa [splice] using setRow_heap w g _ _ t _ hg) ⟨rfl,rfl,rfl,by simp [World.setRow],fun k hk Ph=>setRow_other w g k _ (fun e=>Ph (by rw [e]))⟩
theorem zLp {xs:List Int} {from_ n k:Nat} (OY:from_+n≤xs.length):(((xs.drop from_).take n).map (Value.int .i64)).length=Nat.min (((from_:Int)+(n:Int)).toNat - from_) (((k:Int)+(n:Int)).toNat - k):=by
 have e1:((from_:Int)+(n:Int)).toNat - from_=n:=by omega
 have e2:((k:Int)+(n:Int)).toNat - k=n:=by omega
 rw [e1,e2];simp only [List.length_map,List.length_take,List.length_drop,Nat.min_def];split <;> split <;> omega
theorem zLs {w:World} {b off from_ n j:Nat} {v:Value} {xs:List Int} (h:Sl w .i64 (some ⟨b,off,none⟩) xs) (hj:(((xs.drop from_).take n).map (Value.int .i64))[j]? = some v):w.cell? ((⟨b,off+from_,none⟩:Addr).add j)=some v:=by
 rw [List.getElem?_map,Option.map_eq_some_iff] at hj;obtain ⟨x,hx,rfl⟩:=hj;rw [List.getElem?_take] at hx;split at hx
 · rw [List.getElem?_drop] at hx;obtain ⟨b',off',h1,h2⟩:=h _ _ hx;injection h1 with h1;injection h1 with e1 e2;subst e1 e2;have e:(⟨b,off+from_,none⟩:Addr).add j=⟨b,off+(from_+j),none⟩:=by unfold Addr.add;split <;> simp_all [Nat.add_assoc]
   rw [e];exact h2
 · cases hx
theorem zLm {xs:List Int} {from_ n k N cap:Nat} {cur:List Value} (_hle:from_+n≤xs.length) (h:cur.length=cap) (hk:k+n≤N) (hN:N≤cap):k+(((xs.drop from_).take n).map (Value.int .i64)).length≤cur.length:=by
 simp only [List.length_map,List.length_take,List.length_drop];omega
theorem zLr {w:World} {B g N cap k n from_:Nat} {cur:List Value} {ys xs:List Int} (h:Hid (w.heap[g]? = some (.cells (splice cur k (((xs.drop from_).take n).map (Value.int .i64))).toArray 3 (0,0)))) (h2:Bx (cur.length=cap))
 (h3:Bx (cur.take N=ys.map (Value.int .i64))) (h4:Bx (N≤cap)) (h5:cap≤maxLen) (h6:B≤g) (h7:N=ys.length) (OY:from_+n≤xs.length) (OP:k+n≤N) :
 Own w B 3 .i64 (.slice (some ⟨g,0,none⟩) N cap) (over ys k ((xs.drop from_).take n)):=by
 have hn:((xs.drop from_).take n).length=n:=by simp only [List.length_take,List.length_drop];omega
 have:=h4.o;refine Own.mk' h ?_ (zMj cur N ys _ k h3.o h7 (by omega)) h4.o h5 h6 (by rw [zJX (by omega)];exact h7)
 rw [length_splice _ _ _ (by rw [List.length_map,h2.o];omega),h2.o]
theorem zLn {w w1 w2:World} {g:Nat} (hB:Below w.heap.size w w1) (h:w1.drew.grownBy w2 (some g)):w.grownBy w2 (some g) :=
 ⟨h.os.trans hB.os,h.tape.trans hB.tape,h.output.trans hB.output,nlt hB.size h.size,fun k hk Ph=>(h.block k (nll hk hB.size) Ph).trans (hB.block k hk)⟩
theorem zLq {xs:List Int} : ∀ v∈xs.map (Value.int .i64),v.oneCell'=true:=by
 intro v hv;obtain ⟨x,_,rfl⟩:=List.mem_map.1 hv;rfl
theorem zLl (ph pb g k n N cap:Nat) (px py pz a b c d e f:Int) (ha:Option Addr) (hcp:Nat) (xs ys:List Int) (hS:Small ⟨⟨a,b,c⟩,⟨d,e,f⟩⟩ 1048575) (B from_:Nat) (w:World)
 (Mv:ze ⟨⟨a,b,c⟩,⟨d,e,f⟩⟩ ⟨px,py,pz⟩=(from_:Int)) (hn:1≤n) (OY:from_+n≤xs.length) (OP:k+n≤N) (hN:N≤4194304) (TF:xs.length≤4194304) (LF:xs.length≤hcp)
 (kh:Bk w ph #[a,b,c,d,e,f,.slice ha xs.length hcp] 28)
 (kb:Bk w pb #[.slice (some ⟨g,0,none⟩) N cap] 26) (hx:Sl w .i64 ha xs) (ho:Own w B 3 .i64 (.slice (some ⟨g,0,none⟩) N cap) ys) (_hgh:g ≠ ph) (_hgb:g ≠ pb) :
 Calls Tryz.prog 167 #[(k:Int),.agg #[px,py,pz],(n:Int),.pointer (some ⟨ph,0,none⟩),.pointer (some ⟨pb,0,none⟩)] w fun e w' =>
  e = .returned (.tuple #[])∧Own w' B 3 .i64 (.slice (some ⟨g,0,none⟩) N cap) (over ys k ((xs.drop from_).take n))∧w.grownBy w' (some g):=by
 have Nu:=Bx.mk fun W=>zGe a b c d e f px py pz hS W;rw [Mv] at Nu;clear Mv hS;have Tq:=kh.alloc (t:=28) (.cells #[px,py,pz] 23);obtain ⟨FC,FD,FE,FG,FH,FI,FJ⟩:=Tq.c7;go_enter Tryz.func167,Tryz.ntmps167;go_wp2_with fail;generalize hW:w.alloc _=W;have hB:=bl1 hW;clear hW Tq FC FD FE FG FH FI FJ;refine (Nu.o _).mono ?_;rintro e' w1 ⟨rfl,hb⟩;replace hB:=tr hB hb;clear hb Nu;have Ts:=kh.la hB;have Tc:=kb.la hB;have Q7:=ho.below hB;have TB:=hx.below hB;clear kh kb ho hx;obtain ⟨cur,r1,r2,r3,r4,r5,r6,r7⟩:=Q7.raw
 obtain ⟨Jq,Q5,rfl⟩ : ∃ Jq Q5,ha=some ⟨Jq,Q5,none⟩:=by
  obtain ⟨b,off,h0,_⟩:=TB 0 (xs[0]'(by omega)) (by simp)
  exact ⟨b,off,h0⟩
 obtain ⟨FC,FD,FE,FG,FH,FI,FJ⟩:=Ts.c7;have Ev:=Tc.cell 0 rfl;have Kh:=Bx.mk Ts;have Kb:=Bx.mk Tc;have Ho:=Bx.mk Q7;have Hx:=Bx.mk TB;clear Ts Tc Q7 TB;have i1:(0:Int)≤(k:Int):=by omega
 have i5:=wj ((k:Int)+(n:Int)) (by omega)
 have i6:=wj ((from_:Int)+(n:Int)) (by omega)
 have i2:(k:Int)≤(k:Int)+(n:Int):=by omega
 have i3:(k:Int)+(n:Int)≤(cap:Int):=by omega
 have j1:(0:Int)≤(from_:Int):=by omega
 have j2:(from_:Int)≤(from_:Int)+(n:Int):=by omega
 have j3:(from_:Int)+(n:Int)≤(hcp:Int):=by omega
 have L3 : ¬cap=k:=by omega
 have L5 : ¬hcp=from_:=by omega
 have R1:=Bx.mk r1;have R2:=Bx.mk r2;have R3:=Bx.mk r3;have R4:=Bx.mk r4;clear r1 r2 r3 r4;go_wp2_with fail
 go_region_law ((refine zMp rfl (.tmp 18) (.tmp 25) 26 26 rfl 3 Tryz.underlying26 (by kernel_rfl) g k (((k:Int)+(n:Int)).toNat - k) (cap - k) ⟨Jq,Q5+from_,none⟩ (((from_:Int)+(n:Int)).toNat - from_) (hcp - from_) (by simp [Act.eval,Act.put]) (by simp [Act.eval,Act.put]) cur 3 R1.o (((xs.drop from_).take n).map (Value.int .i64)) (zLp OY) (fun j v hj=>zLs Hx.o hj) (zLm OY R2.o OP R4.o) zLq ?_;intro w2 N4 Js))
 all_goals (go_wp2_with fail;go_end0;exact ⟨rfl,zLr N4 R2 R3 R4 r5 r6 r7 OY OP,zLn hB Js.out⟩)
theorem Bk.grown {w w':World} {b g:Nat} {vs:Array Value} {t:TypeId} (h:Bk w b vs t) (hg:w.grownBy w' (some g)) (Ph:b ≠ g):Bk w' b vs t:=by
 have hlt:b<w.heap.size:=(Array.getElem?_eq_some_iff.1 h).1;exact (hg.block b hlt (fun e=>Ph (by injection e))).trans h
theorem zF3 {w w1 w2:World} {g:Nat} (h:w.grownBy w1 (some g)) (hb:Below w1.heap.size w1 w2):w.grownBy w2 (some g) :=
 ⟨hb.os.trans h.os,hb.tape.trans h.tape,hb.output.trans h.output,nlt h.size hb.size,fun k hk Ph=>(hb.block k (nll hk h.size)).trans (h.block k hk Ph)⟩
theorem zF4 {w w1 w2:World} {g:Nat} (h:w.grownBy w1 (some g)) (hb:w1.grownBy w2 (some g)):w.grownBy w2 (some g) :=
 ⟨hb.os.trans h.os,hb.tape.trans h.tape,hb.output.trans h.output,nlt h.size hb.size,fun k hk Ph=>(hb.block k (nll hk h.size) Ph).trans (h.block k hk Ph)⟩
theorem zLu (ph pb g:Nat) (a b c d e f a2 b2 c2 d2 e2 f2 la lb lc ld le lf:Int) (cs:Value) (hS:Small ⟨⟨a,b,c⟩,⟨d,e,f⟩⟩ 1048575)
 (hM:zn ⟨⟨a,b,c⟩,⟨d,e,f⟩⟩ ⟨⟨a2,b2,c2⟩,⟨d2,e2,f2⟩⟩=⟨⟨la,lb,lc⟩,⟨ld,le,lf⟩⟩) (KK : -1048576≤la ∧ -1048576≤lb ∧ -1048576≤lc∧ld≤1048576∧le≤1048576∧lf≤1048576∧la≤ld∧lb≤le∧lc≤lf)
 (I:Int→Int→World→Prop) (w:World) (hg:g<w.heap.size) (hI : ∀ z y W W',I z y W→Below W.heap.size W W'→I z y W') (h0:I lc lb w)
 (LB : ∀ z y W,lc≤z→z<lf→lb≤y→y<le→I z y W→w.grownBy W (some g)→Calls Tryz.prog 167 #[(ze ⟨⟨a,b,c⟩,⟨d,e,f⟩⟩ ⟨la,y,z⟩:Int),.agg #[la,y,z],(ld - la:Int),.pointer (some ⟨ph,0,none⟩),.pointer (some ⟨pb,0,none⟩)] W fun e' W'=>e' = .returned (.tuple #[])∧I z (y+1) W'∧W.grownBy W' (some g))
 (Po : ∀ z W,lc≤z→z<lf→I z le W→I (z+1) lb W) :
 Calls Tryz.prog 162 #[.agg #[a,b,c,d,e,f,cs],.agg #[a2,b2,c2,d2,e2,f2],.func (.func 167) #[] #[.pointer (some ⟨ph,0,none⟩),.pointer (some ⟨pb,0,none⟩)]] w fun e' w'=>e' = .returned (.tuple #[])∧I lf lb w'∧w.grownBy w' (some g):=by
 have HI:=Bx.mk hI;have H0:=Bx.mk h0;have Hc:=Bx.mk LB;have Hn:=Bx.mk Po;have PP:=Bx.mk fun W=>zIN a b c d e f a2 b2 c2 d2 e2 f2 W;rw [hM] at PP;have Nu:=Bx.mk fun y z W=>zGe a b c d e f la y z hS W;clear hI h0 LB Po hM hS;go_enter Tryz.func162,Tryz.ntmps162;go_wp2_with fail;generalize hW:(w.alloc _).alloc _=W;have JE:=sz2 hW;have hB:=bl2 hW;have kg:Bk W (w.heap.size) #[a,b,c,d,e,f,cs] 28:=bk1 hW;have kb:Bk W (w.heap.size+1) #[a2,b2,c2,d2,e2,f2] 25:=bk0 hW;clear hW;obtain ⟨F4,F5,F6,F7,F8,F9,FA⟩:=kg.c7;obtain ⟨Ev,cb1,cb2,cb3,Ew,Ex⟩:=kb.c6;go_wp2_with fail;refine (PP.o _).mono ?_;rintro e' w1 ⟨rfl,hb⟩;clear PP;clear F4 F5 F6 F7 F8 F9 FA Ev cb1 cb2 cb3 Ew Ex;replace hB:=tr hB hb;replace kg:=kg.la hb;replace kb:=kb.la hb;replace JE:=nlt JE hb.size;clear hb;obtain ⟨gm,NL⟩ : ∃ gm,gm=w1.heap.size:=⟨_,rfl⟩;clear kb;have b1:=KK.1;go_wp2_with fail;generalize hW2:w1.alloc _=W2;have km:Bk W2 gm #[la,lb,lc,ld,le,lf] 25:=by rw [NL,←hW2];exact zC _ _ _ rfl
 have hb:=bl1 hW2;rw [←NL];have NH:g<gm:=by omega
 replace hB:=tr hB hb;replace kg:=kg.la hb;have hG:w.grownBy W2 (some g):=⟨hB.os,hB.tape,hB.output,hB.size,fun k hk _=>hB.block k hk⟩;have hJ:=HI.o _ _ _ _ H0.o hB;clear hW2 hb hB H0 JE NL;have CU:=Bx.mk KK;clear KK b1
 go_loopw [7] (fun i wr => ∃ z:Int,lc≤z∧z≤lf∧i = .int .i64 z∧Bk wr w.heap.size #[a,b,c,d,e,f,cs] 28∧Bk wr gm #[la,lb,lc,ld,le,lf] 25∧I z lb wr∧w.grownBy wr (some g)) (fun i _=>(lf - intOf i).toNat)
 case atStart=>exact ⟨lc,by omega,CU.o.2.2.2.2.2.2.2.2,rfl,kg,km,hJ,hG⟩
 case round =>
  clear kg km hJ hG;obtain ⟨z,z1,z2,rfl,kg,km,hJ,hG⟩:=hrel;have Ih:=Bx.mk hJ;have IX:=Bx.mk hG;clear hJ hG;obtain ⟨cm0,cm1,cm2,cm3,cm4,cm5⟩:=km.c6;by_cases hz:z<lf
  · go_wp2_with fail;clear cm0 cm1 cm2 cm3 cm4 cm5;obtain ⟨wo,T3⟩ : ∃ wo:World,wo=wr:=⟨_,rfl⟩;rw [←T3] at kg km Ih IX;have EY:=Bx.mk kg;have EZ:=Bx.mk km;clear kg km
    go_loopw [8] (fun i wr => ∃ y:Int,lb≤y∧y≤le∧i = .int .i64 y∧Bk wr w.heap.size #[a,b,c,d,e,f,cs] 28∧Bk wr gm #[la,lb,lc,ld,le,lf] 25∧I z y wr∧w.grownBy wr (some g)) (fun i _=>(le - intOf i).toNat)
    case atStart=>subst T3;exact ⟨lb,by omega,CU.o.2.2.2.2.2.2.2.1,rfl,EY.o,EZ.o,Ih.o,IX.o⟩
    case round =>
     clear EY EZ Ih IX T3;obtain ⟨y,y1,y2,rfl,kg,km,hJ,hG⟩:=hrel;by_cases hy:y<le
     · have hB:=Below.refl wr.heap.size wr;have JE:=Nat.le_refl wr.heap.size;have NW:w.heap.size≤wr.heap.size:=hG.size;have Ih:=Bx.mk hJ;have IX:=Bx.mk hG;clear hJ hG;obtain ⟨cm0,cm1,cm2,cm3,cm4,cm5⟩:=km.c6;go_wp2_with fail;generalize hW:wr.alloc _=W;have hb:=bl1 hW;have kp:Bk W wr.heap.size #[la,y,z] 23:=bk0 hW rfl;clear hW JE cm0 cm1 cm2 cm3 cm4 cm5;replace hB:=hb;replace kg:=kg.la hb;replace km:=km.la hb;have JE:=hb.size;have i1:=wj (ld - la) (by have:=CU.o;omega)
       obtain ⟨F4,F5,F6,F7,F8,F9,FA⟩:=kg.r7;obtain ⟨cm0,cm1,cm2,cm3,cm4,cm5⟩:=km.r6;obtain ⟨cp0,cp1,cp2⟩:=kp.r3;have q0:=Bx.mk fun dk osk=>rq (Nu.o y z (grow (redrawn W dk) osk));refine zAJ 13 (by kernel_rfl) (by kernel_rfl) ?_
       simp only [List.take_succ_cons,List.take_zero,List.drop_succ_cons,List.drop_zero]
       repeat (first | go_big_quiet_step (with_reducible exact q0.o _ _) | quiet_step (with_reducible exact q0.o _ _))
       refine wq ?_;rintro _ ⟨⟨dq,osq⟩,rfl⟩;have hb:=bq W dq osq;replace hB:=tr hB hb;clear F4 F5 F6 F7 F8 F9 FA;clear cm0 cm1 cm2 cm3 cm4 cm5;clear cp0 cp1 cp2;clear q0;replace kg:=kg.la hb;replace km:=km.la hb;replace kp:=kp.la hb;replace JE:=nlt JE hb.size;clear hb;generalize grow (redrawn W dq) osq=W1 at *;go_wp2_with fail;refine (Hc.o z y W1 z1 hz y1 hy (HI.o _ _ _ _ Ih.o hB) (zF3 IX.o hB)).mono ?_;rintro e' w3 ⟨rfl,hJ,hb⟩;replace kg:=kg.grown hb (by omega)
       replace km:=km.grown hb (by omega)
       have hG:=zF4 (zF3 IX.o hB) hb;have Ih:=Bx.mk hJ;have Kg:=Bx.mk kg;have Km:=Bx.mk km;have HG:=Bx.mk hG;clear hJ hG kg km hb IX hB kp;have i2:=wj (y+1) (by have:=CU.o;omega)
       go_wp2_with fail
       go_roundw
       case rel=>exact ⟨y+1,by omega,by omega,rfl,Kg.o,Km.o,Ih.o,HG.o⟩
       case measure=>simp [intOf];omega
     · obtain rfl:y=le:=by omega
       have hN:=HI.o _ _ _ _ (Hn.o z wr z1 hz hJ) br;have Kg:=Bx.mk kg;have Km:=Bx.mk km;have HN:=Bx.mk hN;have HG:=Bx.mk hG;clear hJ hG kg km hN;have cm:=Km.o;obtain ⟨cm0,cm1,cm2,cm3,cm4,cm5⟩:=cm.c6;clear cm;have i2:=wj (z+1) (by have:=CU.o;omega)
       go_wp2_with fail
       go_roundw
       case rel=>exact ⟨z+1,by omega,by omega,rfl,Kg.o,Km.o,HN.o,HG.o⟩
       case measure=>simp [intOf];omega
  · obtain rfl:z=lf:=by omega
    go_wp2_with fail
    go_end0
    exact ⟨rfl,Ih.o,IX.o⟩
end
end Go.Proofs.YtfcbajmjaifjlaaGreat