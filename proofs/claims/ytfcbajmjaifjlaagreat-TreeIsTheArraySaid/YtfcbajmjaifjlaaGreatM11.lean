/- Brk, Brk2, Cel, Str, Get, Pla: joined by program, for one claim. -/
import Derived.Test.YtfcbajmjaifjlaaGreatM10
import Derived.Laws.IdiomStrings
import Derived.Test.YtfcbajmjaifjlaaGreatM1
import Derived.Test.YtfcbajmjaifjlaaGreatM7
set_option linter.unusedVariables false
set_option linter.unusedSimpArgs false
namespace Go.Proofs.YtfcbajmjaifjlaaGreat
section
open Go.RowKit Go.Sort Go.Maps
open Oct
structure Top (xs:List Int) (m:Int):Prop where
 le : ∀ x∈xs,x≤m
 mem:m∈xs
structure Bot (xs:List Int) (m:Int):Prop where
 le : ∀ x∈xs,m≤x
 mem:m∈xs
theorem take_snoc_at {xs:List Int} {k:Nat} {x:Int} (h:xs[k]? = some x):xs.take (k+1)=xs.take k++[x]:=by
 rw [List.take_add_one,h];rfl
theorem Top.step {xs:List Int} {k:Nat} {m x:Int} (h:Top (xs.take k) m) (hx:xs[k]? = some x):Top (xs.take (k+1)) (max m x):=by
 rw [take_snoc_at hx]
 refine ⟨fun y hy=>?_,?_⟩
 · rcases List.mem_append.1 hy with hy | hy
   · have:=h.le y hy;omega
   · rw [List.mem_singleton.1 hy];omega
 · by_cases hm:x≤m
   · rw [show max m x=m by omega];exact List.mem_append_left _ h.mem
   · rw [show max m x=x by omega];simp
theorem Bot.step {xs:List Int} {k:Nat} {m x:Int} (h:Bot (xs.take k) m) (hx:xs[k]? = some x):Bot (xs.take (k+1)) (min m x):=by
 rw [take_snoc_at hx]
 refine ⟨fun y hy=>?_,?_⟩
 · rcases List.mem_append.1 hy with hy | hy
   · have:=h.le y hy;omega
   · rw [List.mem_singleton.1 hy];omega
 · by_cases hm:m≤x
   · rw [show min m x=m by omega];exact List.mem_append_left _ h.mem
   · rw [show min m x=x by omega];simp
theorem top_bot {xs:List Int} {a b:Int} (h:Top xs a) (h':Bot xs b):a=b ↔ ∀ x∈xs,x=xs.headD 0:=by
 have hne:xs ≠ []:=by intro e;have:=h.mem;rw [e] at this;cases this
 obtain ⟨y,r,rfl⟩:=List.exists_cons_of_ne_nil hne
 constructor
 · intro e x hx
   have h1:=h.le x hx
   have h2:=h'.le x hx
   have h3:=h.le y (by simp)
   have h4:=h'.le y (by simp)
   show x=y
   omega
 · intro e
   rw [e a h.mem,e b h'.mem]
set_option maxHeartbeats 400000 in
theorem slices_max (a:Option Addr) (cap:Nat) (xs:List Int) (w:World) (hl:xs.length≤1000000000) (h1:1≤xs.length) (h:Sl w .i64 a xs) :
 Calls Tryz.prog 147 #[.slice a xs.length cap] w fun e w' => ∃ m:Int,e = .returned (.int .i64 m)∧Bx (Top xs m)∧w=w':=by
 obtain ⟨x0,h0⟩ : ∃ x,xs[0]? = some x:=⟨_,List.getElem?_eq_getElem (by omega)⟩
 obtain ⟨b,off,rfl,hc0⟩:=h 0 x0 h0
 have H0:Bx (Top (xs.take 1) x0):=⟨by rw [take_snoc_at h0];exact ⟨by simp,by simp⟩⟩
 have Hs:=Bx.mk h
 have Hc:=Bx.mk (show Top (xs.take xs.length)=Top xs by rw [List.take_length])
 clear h h0
 rw [Nat.add_zero] at hc0
 generalize hn:xs.length=n at *
 have Hn:=Bx.mk hn;clear hn
 go_enter Tryz.func147,Tryz.ntmps147
 go_wp2
 go_loop [3,4] (fun m i => ∃ k:Nat,∃ z:Int,1≤k∧k≤n∧i = .int .i64 k∧m = .int .i64 z∧Bx (Top (xs.take k) z)) (fun _ i=>n - (intOf i).toNat)
 case atStart=>exact ⟨1,x0,by omega,by omega,rfl,rfl,H0⟩
 case round =>
  obtain ⟨k,z,hk1,hk,rfl,rfl,hall⟩:=hrel
  by_cases hlt:k<n
  · obtain ⟨x,hx⟩:=at_lt Hn hlt
    obtain ⟨b',off',hb,hc⟩:=Hs.out k x hx
    simp only [Option.some.injEq,Addr.mk.injEq,and_true] at hb
    obtain ⟨rfl,rfl⟩:=hb
    have hnext:=Bx.mk (hall.out.step hx)
    clear hx hc0
    go_wp2
    all_goals
     go_round
     case rel=>exact ⟨k+1,max z x,by omega,by omega,by go_num,by first | rfl | (congr 1;omega),hnext⟩
     case measure=>simp [intOf];omega
  · obtain rfl:k=n:=by omega
    rw [Hc.out] at hall
    go_wp2
    go_ret
    exact ⟨z,rfl,hall,rfl⟩
set_option maxHeartbeats 400000 in
theorem slices_min (a:Option Addr) (cap:Nat) (xs:List Int) (w:World) (hl:xs.length≤1000000000) (h1:1≤xs.length) (h:Sl w .i64 a xs) :
 Calls Tryz.prog 148 #[.slice a xs.length cap] w fun e w' => ∃ m:Int,e = .returned (.int .i64 m)∧Bx (Bot xs m)∧w=w':=by
 obtain ⟨x0,h0⟩ : ∃ x,xs[0]? = some x:=⟨_,List.getElem?_eq_getElem (by omega)⟩
 obtain ⟨b,off,rfl,hc0⟩:=h 0 x0 h0
 have H0:Bx (Bot (xs.take 1) x0):=⟨by rw [take_snoc_at h0];exact ⟨by simp,by simp⟩⟩
 have Hs:=Bx.mk h
 have Hc:=Bx.mk (show Bot (xs.take xs.length)=Bot xs by rw [List.take_length])
 clear h h0
 rw [Nat.add_zero] at hc0
 generalize hn:xs.length=n at *
 have Hn:=Bx.mk hn;clear hn
 go_enter Tryz.func148,Tryz.ntmps148
 go_wp2
 go_loop [3,4] (fun m i => ∃ k:Nat,∃ z:Int,1≤k∧k≤n∧i = .int .i64 k∧m = .int .i64 z∧Bx (Bot (xs.take k) z)) (fun _ i=>n - (intOf i).toNat)
 case atStart=>exact ⟨1,x0,by omega,by omega,rfl,rfl,H0⟩
 case round =>
  obtain ⟨k,z,hk1,hk,rfl,rfl,hall⟩:=hrel
  by_cases hlt:k<n
  · obtain ⟨x,hx⟩:=at_lt Hn hlt
    obtain ⟨b',off',hb,hc⟩:=Hs.out k x hx
    simp only [Option.some.injEq,Addr.mk.injEq,and_true] at hb
    obtain ⟨rfl,rfl⟩:=hb
    have hnext:=Bx.mk (hall.out.step hx)
    clear hx hc0
    go_wp2
    all_goals
     go_round
     case rel=>exact ⟨k+1,min z x,by omega,by omega,by go_num,by first | rfl | (congr 1;omega),hnext⟩
     case measure=>simp [intOf];omega
  · obtain rfl:k=n:=by omega
    rw [Hc.out] at hall
    go_wp2
    go_ret
    exact ⟨z,rfl,hall,rfl⟩
end
section
open Go.RowKit Go.Sort Go.Maps
open Oct
theorem all_cell {xs:List Int} (h:xs.all Pal.cell=true) : ∀ x∈xs,0≤x∧x≤255:=by
 intro x hx
 have:=List.all_eq_true.1 h x hx
 simpa [Pal.cell] using this
set_option maxHeartbeats 1000000 in
theorem brick_any (w:World) (Far:Nat→Prop) (sb:Nat) (most:Int) (ts:List Tr) (a:Option Addr) (cap:Nat) (xs:List Int) (hn:xs.length=64) (hb:xs.all Pal.cell=true) (h:Sl w .i64 a xs) (hG:Good ts) (hlen:ts.length≤1000000000000) (hFar : ∀ k,Far k→k<w.heap.size) (hS:StoreIs w Far sb most ts) :
 Calls Tryz.prog 94 #[.pointer (some ⟨sb,0,none⟩),.slice a 64 cap] w (Grew Far sb most ts (Tr.add (Tr.mkBrick xs) ts) (Tr.mkBrick xs) w):=by
 have h1:=contains_b a cap xs w (by omega) h
 have h2:=slices_max a cap xs w (by omega) (by omega) h
 have h3:=slices_min a cap xs w (by omega) (by omega) h
 rw [hn] at h1 h2 h3
 rw [hb] at h1
 have h1:=Bx.mk h1
 have h2:=Bx.mk h2
 have h3:=Bx.mk h3
 obtain ⟨x0,hx0⟩ : ∃ x,xs[0]? = some x:=⟨_,List.getElem?_eq_getElem (by omega)⟩
 obtain ⟨b,off,rfl,hc0⟩:=h 0 x0 hx0
 have hd:xs.headD 0=x0:=by cases xs with
  | nil=>simp at hx0
  | cons y r=>simpa using hx0
 have hcells:=all_cell hb
 by_cases hall : ∀ x∈xs,x=xs.headD 0
 · have hm:Tr.mkBrick xs = .uni x0:=by unfold Tr.mkBrick;rw [if_pos hall,hd]
   rw [hm]
   have h4:=Bx.mk (uniform_any w Far sb most ts x0 (hcells x0 (List.mem_of_getElem? hx0)) hG hlen hFar hS)
   have Hall:=Bx.mk hall
   rw [Nat.add_zero] at hc0
   clear hall hm hcells hG hlen hFar hS hn hb h hx0 hd
   go_enter Tryz.func94,Tryz.ntmps94
   go_wp2_with fail
   refine h1.out.mono ?_
   rintro e w1 ⟨rfl,rfl⟩
   go_wp2_with fail
   refine h2.out.mono ?_
   rintro e w1 ⟨z1,rfl,hz1,rfl⟩
   go_wp2_with fail
   refine h3.out.mono ?_
   rintro e w1 ⟨z2,rfl,hz2,rfl⟩
   obtain rfl:z1=z2:=(top_bot hz1.out hz2.out).2 Hall.out
   go_wp2_with fail
   refine h4.out.mono ?_
   rintro e w2 hg
   have Hg:=Bx.mk hg
   obtain ⟨-,-,(⟨hf,rfl,hs⟩ | ⟨hf,rfl,us,hs⟩)⟩:=hg
   all_goals
    clear hf hs
    go_wp2_with fail
    go_ret2
    exact Hg.out
 · have hm:Tr.mkBrick xs = .brick xs:=by unfold Tr.mkBrick;rw [if_neg hall]
   rw [hm]
   have hby:Bytes (.brick xs):=Bytes.brick ⟨hn,hcells⟩
   have hle:Leans ts (.brick xs):=fun d ch h=>by cases h
   have h4:Bx (∀ W,Below w.heap.size w W→Calls Tryz.prog 109 #[.pointer (some ⟨sb,0,none⟩),.agg #[(2:Int),(0:Int),.string (strOfNums xs),(2:Int),(0:Int),(0:Int),(0:Int),(0:Int),(0:Int),(0:Int),(0:Int),(0:Int)]] W (Grew Far sb most ts (Tr.add (.brick xs) ts) (.brick xs) W)):=⟨fun W hW=>by
    have hV:nodeV ts (.brick xs)=nodeA 2 0 (strOfNums xs) 2 0 0 0 0 0 0 0 0:=rfl
    have hk:=nodeV_key hlen hle hby
    rw [hV] at hk
    rw [Tr.add_brick]
    exact make_any W Far sb most ts (.brick xs) 2 0 2 0 0 0 0 0 0 0 0 (strOfNums xs) hV hG hle hby hlen (fun k hk=>Nat.lt_of_lt_of_le (hFar k hk) hW.size) hk (hS.later hW)⟩
   have Hall:=Bx.mk hall
   have Hs:=Bx.mk h
   have Hn:=Bx.mk hn
   have Hc:=Bx.mk hcells
   have hmk : ∀ W,(Instr.makeSlice 148 (.int .i64 64) (.int .i64 64)).run Tryz.prog W = .ok (.slice (some ⟨W.heap.size,0,none⟩) 64 64) (W.alloc (.cells (madeCells #[.int .u8 0] 64) 5)) :=
    fun W=>run_make_row' (P:=Tryz.prog) 148 5 (.int .u8 0) 1 Tryz.underlying148 (by kernel_rfl) rfl .i64 .i64 64 (by decide) (by decide) W
   clear hall hm hcells hby hle hG hlen hFar hS hn hb h hx0 hd hc0
   go_enter Tryz.func94,Tryz.ntmps94
   go_wp2_with fail
   refine h1.out.mono ?_
   rintro e w1 ⟨rfl,rfl⟩
   go_wp2_with fail
   refine h2.out.mono ?_
   rintro e w1 ⟨z1,rfl,hz1,rfl⟩
   go_wp2_with fail
   refine h3.out.mono ?_
   rintro e w1 ⟨z2,rfl,hz2,rfl⟩
   have hne:(z1 == z2)=false:=by simpa using fun e=>Hall.out ((top_bot hz1.out hz2.out).1 e)
   clear hz1 hz2 h1 h2 h3
   go_wp2_with fail
   go_loopw [33] (fun i wr => ∃ k:Nat,k≤64∧i = .int .i64 k∧Bx (wr.rowIs w.heap.size 5 64 (fun j=>.int .u8 (if j<k then xs.getD j 0 else 0)))∧Bx (Below w.heap.size w wr)) (fun i _=>64 - (intOf i).toNat)
   case atStart=>exact ⟨0,Nat.zero_le _,rfl,⟨(World.rowIs_made _ _ _ _).congr (fun i _=>rfl)⟩,⟨(Below.refl _ _).alloc (Nat.le_refl _) _⟩⟩
   case round =>
    obtain ⟨k,hk,rfl,hrow,hB⟩:=hrel
    have hS1:=Hs.out.below hB.out
    by_cases hlt:k<64
    · obtain ⟨x,hx⟩:=at_lt Hn hlt
      obtain ⟨b',off',hb,hc⟩:=hS1 k x hx
      simp only [Option.some.injEq,Addr.mk.injEq,and_true] at hb
      obtain ⟨rfl,rfl⟩:=hb
      have hr:=Hc.out x (List.mem_of_getElem? hx)
      have hxg:Bx (xs.getD k 0=x):=⟨by simp [List.getD,hx]⟩
      have b1:(0:Int)≤(k:Int):=by omega
      have b2:(k:Int)<64:=by omega
      have hcell:=hrow.out.cell hlt
      have hfr:=hrow.out.frozen k
      have hw8:IntKind.u8.wrap x=x:=by unfold IntKind.wrap;simp [IntKind.bits,IntKind.signed];omega
      clear hS1 hx hmk
      go_wp2_with fail
      have hrow2:=Bx.mk ((hrow.out.set k (.int .u8 x)).congr (g:=fun j=>.int .u8 (if j<k+1 then xs.getD j 0 else 0)) (fun j hj=>by
       by_cases e:j=k
       · rw [e];simp only [if_true];rw [if_pos (by omega),hxg.out]
       · simp only [e,if_false];by_cases h5:j<k
         · rw [if_pos h5,if_pos (by omega)]
         · rw [if_neg h5,if_neg (by omega)]))
      have hB2:=Bx.mk (show Below w.heap.size w (wr.setCell ⟨w.heap.size,k,none⟩ (.int .u8 x)) from hB.out.setCell (Nat.le_refl _) _)
      clear hcell hfr
      go_roundw
      case rel=>exact ⟨k+1,by omega,by go_num,hrow2,hB2⟩
      case measure=>simp [intOf];omega
    · obtain rfl:k=64:=by omega
      have hsl:Sl wr .u8 (some ⟨w.heap.size,0,none⟩) xs:=fun i x hx=>⟨w.heap.size,0,rfl,by
       have hi:i<64:=by have:=(List.getElem?_eq_some_iff.1 hx).1;rw [Hn.out] at this;exact this
       have:=hrow.out.cell hi
       simp only [hi,if_true] at this
       rw [Nat.zero_add,this];simp [List.getD,hx]⟩
      have hcv:=conv_str (P:=Tryz.prog) 148 5 9 Tryz.underlying148 Tryz.underlying5 Tryz.underlying9 hsl 64 64 Hn.out.symm
      have h5:=Bx.mk (h4.out wr hB.out)
      clear hsl hS1 hmk
      generalize strOfNums xs=S at *
      go_wp2_with fail
      refine h5.out.mono ?_
      rintro e w2 hg
      have Hg:=Bx.mk (hg.since hB.out)
      obtain ⟨-,-,(⟨hf,rfl,hs⟩ | ⟨hf,rfl,us,hs⟩)⟩:=hg
      all_goals
       clear hf hs
       go_wp2_with fail
       go_ret2
       exact Hg.out
end
section
open Go.RowKit Go.Sort Go.Maps
open Oct
def outT:Tr→List Int
 | .uni c=>[c]
 | .brick l=>l
 | .node _ _=>[]
theorem num8 {x:Int} (h:0≤x∧x≤255):((UInt8.ofNat x.toNat).toNat:Int)=x:=by
 simp only [UInt8.toNat_ofNat'];omega
theorem conv_bytes (W:World) (xs:List Int) (hb : ∀ x∈xs,0≤x∧x≤255) : ∃ W' cap,(convert 9 148 (.string (strOfNums xs))).run Tryz.prog W = .ok (.slice (some ⟨W.heap.size,0,none⟩) xs.length cap) W'∧Below W.heap.size W W'∧Sl W' .u8 (some ⟨W.heap.size,0,none⟩) xs:=by
 have h:=run_bytes_of_string (P:=Tryz.prog) W 9 148 5 (strOfNums xs) Tryz.underlying9 Tryz.underlying148 Tryz.underlying5
 rw [strOfNums_size] at h
 refine ⟨_,_,h,((Below.refl _ _).drew).alloc (Nat.le_refl _) _,fun i x hx=>⟨_,0,rfl,?_⟩⟩
 rw [Nat.zero_add]
 unfold World.cell?
 rw [show W.heap.size=W.drew.heap.size from rfl,heap_alloc_new]
 have hi:i<xs.length:=(List.getElem?_eq_some_iff.1 hx).1
 have hd:(strOfNums xs).data[i]? = some (UInt8.ofNat x.toNat):=by
  rw [←Array.getElem?_toList,strOfNums_data,List.getElem?_map,hx];rfl
 have hr:=num8 (hb x (List.mem_of_getElem? hx))
 simp only [bytesRow]
 rw [Array.getElem?_append_left (by
  have:(strOfNums xs).data.size=xs.length:=by rw [←Array.length_toList,strOfNums_data,List.length_map]
  simp [this,hi])]
 have hx0:=hb x (List.mem_of_getElem? hx)
 simp [hd]
 omega
set_option maxRecDepth 100000 in
set_option maxHeartbeats 1000000 in
theorem cells_uni (w:World) (sb g n cap mb i:Nat) (most c d y0 y1 y2 y3 y4 y5 y6 y7:Int) (s:ByteArray) (hi:i<n) (_hn:n≤1000000000000) (ks:Bk w sb #[most,.slice (some ⟨g,0,none⟩) n cap,.map (some mb)] 113) (hc:Bx (∀ j u,j<12→(#[(1:Int),c,.string s,d,y0,y1,y2,y3,y4,y5,y6,y7]:Array Value).toList[j]? = some u→w.cell? ⟨g,i * 12+j,none⟩=some u)) :
 Calls Tryz.prog 41 #[.pointer (some ⟨sb,0,none⟩),(i:Int)] w fun e w' => ∃ v,e = .returned v∧Own w' w.heap.size 3 .i64 v [c]∧Below w.heap.size w w':=by
 have b1:(0:Int)≤(i:Int):=by omega
 have b2:(i:Int)<(n:Int):=by omega
 have cs1:=ks.cell 1 rfl
 have d0:w.cell? ⟨g,i * 12,none⟩=some (.int .i64 1):=hc.out 0 _ (by omega) rfl
 have d1:w.cell? ⟨g,i * 12+1,none⟩=some (.int .i64 c):=hc.out 1 _ (by omega) rfl
 have d2:w.cell? ⟨g,i * 12+2,none⟩=some (.string s):=hc.out 2 _ (by omega) rfl
 have d3:w.cell? ⟨g,i * 12+3,none⟩=some (.int .i64 d):=hc.out 3 _ (by omega) rfl
 have d4:w.cell? ⟨g,i * 12+4,none⟩=some (.int .i64 y0):=hc.out 4 _ (by omega) rfl
 have d5:w.cell? ⟨g,i * 12+5,none⟩=some (.int .i64 y1):=hc.out 5 _ (by omega) rfl
 have d6:w.cell? ⟨g,i * 12+6,none⟩=some (.int .i64 y2):=hc.out 6 _ (by omega) rfl
 have d7:w.cell? ⟨g,i * 12+7,none⟩=some (.int .i64 y3):=hc.out 7 _ (by omega) rfl
 have d8:w.cell? ⟨g,i * 12+8,none⟩=some (.int .i64 y4):=hc.out 8 _ (by omega) rfl
 have d9:w.cell? ⟨g,i * 12+9,none⟩=some (.int .i64 y5):=hc.out 9 _ (by omega) rfl
 have d10:w.cell? ⟨g,i * 12+10,none⟩=some (.int .i64 y6):=hc.out 10 _ (by omega) rfl
 have d11:w.cell? ⟨g,i * 12+11,none⟩=some (.int .i64 y7):=hc.out 11 _ (by omega) rfl
 clear ks hc
 go_enter Tryz.func41,Tryz.ntmps41
 go_upto_region 2 with fail
 generalize hW:World.alloc w _=W
 have hSz:=sz1 hW
 have hB:=bl1 hW
 have kn:Bk W (w.heap.size) #[(1:Int),c,.string s,d,y0,y1,y2,y3,y4,y5,y6,y7] 145:=bk0 hW
 clear hW
 clear d0 d1 d2 d3 d4 d5 d6 d7 d8 d9 d10 d11 cs1
 obtain ⟨cn0,cn1,cn2,cn3,cn4,cn5,cn6,cn7,cn8,cn9,cn10,cn11⟩:=kn.c12
 go_wp2_with fail
 go_ret
 refine ⟨_,rfl,Own.lit W w.heap.size 3 .i64 #[c] [c] 1 hB.size (by simp [maxLen]) rfl rfl,hB.alloc hB.size _⟩
set_option maxRecDepth 100000 in
set_option maxHeartbeats 1000000 in
theorem cells_txt (w:World) (sb g n cap mb i:Nat) (most kk c d y0 y1 y2 y3 y4 y5 y6 y7:Int) (s:ByteArray) (xs:List Int) (hs:s=strOfNums xs) (hl:xs.length≤64) (hb : ∀ x∈xs,0≤x∧x≤255) (hk:(kk == 1)=false) (hi:i<n) (_hn:n≤1000000000000) (ks:Bk w sb #[most,.slice (some ⟨g,0,none⟩) n cap,.map (some mb)] 113) (hc:Bx (∀ j u,j<12→(#[kk,c,.string s,d,y0,y1,y2,y3,y4,y5,y6,y7]:Array Value).toList[j]? = some u→w.cell? ⟨g,i * 12+j,none⟩=some u)) :
 Calls Tryz.prog 41 #[.pointer (some ⟨sb,0,none⟩),(i:Int)] w fun e w' => ∃ v,e = .returned v∧Own w' w.heap.size 3 .i64 v xs∧Below w.heap.size w w':=by
 replace hs:=Bx.mk hs
 replace hb:=Bx.mk hb
 have b1:(0:Int)≤(i:Int):=by omega
 have b2:(i:Int)<(n:Int):=by omega
 have cs1:=ks.cell 1 rfl
 have d0:w.cell? ⟨g,i * 12,none⟩=some (.int .i64 kk):=hc.out 0 _ (by omega) rfl
 have d1:w.cell? ⟨g,i * 12+1,none⟩=some (.int .i64 c):=hc.out 1 _ (by omega) rfl
 have d2:w.cell? ⟨g,i * 12+2,none⟩=some (.string s):=hc.out 2 _ (by omega) rfl
 have d3:w.cell? ⟨g,i * 12+3,none⟩=some (.int .i64 d):=hc.out 3 _ (by omega) rfl
 have d4:w.cell? ⟨g,i * 12+4,none⟩=some (.int .i64 y0):=hc.out 4 _ (by omega) rfl
 have d5:w.cell? ⟨g,i * 12+5,none⟩=some (.int .i64 y1):=hc.out 5 _ (by omega) rfl
 have d6:w.cell? ⟨g,i * 12+6,none⟩=some (.int .i64 y2):=hc.out 6 _ (by omega) rfl
 have d7:w.cell? ⟨g,i * 12+7,none⟩=some (.int .i64 y3):=hc.out 7 _ (by omega) rfl
 have d8:w.cell? ⟨g,i * 12+8,none⟩=some (.int .i64 y4):=hc.out 8 _ (by omega) rfl
 have d9:w.cell? ⟨g,i * 12+9,none⟩=some (.int .i64 y5):=hc.out 9 _ (by omega) rfl
 have d10:w.cell? ⟨g,i * 12+10,none⟩=some (.int .i64 y6):=hc.out 10 _ (by omega) rfl
 have d11:w.cell? ⟨g,i * 12+11,none⟩=some (.int .i64 y7):=hc.out 11 _ (by omega) rfl
 clear ks hc
 go_enter Tryz.func41,Tryz.ntmps41
 go_upto_region 2 with fail
 generalize hW:World.alloc w _=W
 have hSz:=sz1 hW
 have hB:=bl1 hW
 have kn:Bk W (w.heap.size) #[kk,c,.string s,d,y0,y1,y2,y3,y4,y5,y6,y7] 145:=bk0 hW
 clear hW
 clear d0 d1 d2 d3 d4 d5 d6 d7 d8 d9 d10 d11 cs1
 obtain ⟨cn0,cn1,cn2,cn3,cn4,cn5,cn6,cn7,cn8,cn9,cn10,cn11⟩:=kn.c12
 obtain ⟨W2,c2,hrun,hb2,hsl⟩:=conv_bytes W xs hb.out
 rw [←hs.out] at hrun
 have Hs:=Bx.mk hsl
 have Hb2:=Bx.mk hb2
 have hlB:=hB.size
 have hB2:=Bx.mk (hB.trans (hb2.mono hB.size))
 have Hr:=hb
 have hz2:w.heap.size≤W2.heap.size:=hB2.out.size
 have Ht:=Bx.mk (show xs.take xs.length=xs from List.take_length)
 clear hb2 hsl hs
 generalize hn2:xs.length=m at *
 replace hn2:=Bx.mk hn2
 go_wp2_with fail
 clear cn0 cn1 cn2 cn3 cn4 cn5 cn6 cn7 cn8 cn9 cn10 cn11 kn hrun hk
 go_loopw [6,26] (fun v i wr => ∃ k:Nat,k≤m∧i = .int .i64 k∧Bx (Own wr W2.heap.size 3 .i64 v (xs.take k))∧Bx (Below w.heap.size w wr)∧Bx (Below W2.heap.size W2 wr)) (fun _ i _=>m - (intOf i).toNat)
 case atStart=>exact ⟨0,Nat.zero_le _,rfl,⟨Own.nil _ _ _ _⟩,hB2,⟨Below.refl _ _⟩⟩
 case round =>
  obtain ⟨k,hk,rfl,hown,hbw,hb2⟩:=hrel
  by_cases hlt:k<m
  · obtain ⟨x,hx⟩:=at_lt hn2 hlt
    obtain ⟨b',off',hbo,hc⟩:=(Hs.out.below hb2.out) k x hx
    simp only [Option.some.injEq,Addr.mk.injEq,and_true] at hbo
    obtain ⟨rfl,rfl⟩:=hbo
    rw [Nat.zero_add] at hc
    have hr:=Hr.out x (List.mem_of_getElem? hx)
    have hnext:=Bx.mk (take_snoc_at hx)
    have b3:(0:Int)≤(k:Int):=by omega
    have b4:(k:Int)<(m:Int):=by omega
    have hwrap:IntKind.i64.wrap x=x:=IntWalk.i64_in _ (by omega)
    have hle:=hbw.out.size
    have hle2:W2.heap.size≤wr.heap.size:=hb2.out.size
    have htl:(xs.take k).length≤1000000000:=by rw [List.length_take];omega
    have Htl:=Bx.mk htl
    clear hx htl
    go_wp2_with (first
     | (at_builtin
        refine wpList_append_int rfl _ _ 26 rfl 3 .i64 (.int .i64 0) 8 (by omega) Tryz.underlying26 (by kernel_rfl) rfl W2.heap.size _ (xs.take k) rfl (hown.out.alloc _) x ⟨wr.heap.size,0,none⟩ 1 rfl (cell_new _ _ _) Htl.out (le_alloc hle2 _) ?_
        intro v1 w1 hown1 hg1 _))
    have hown2:=Bx.mk hown1
    rw [←hnext.out] at hown2
    have hbw2:=Bx.mk ((hbw.out.alloc hle (.cells #[x] 3)).grown hg1 (le_alloc hle _) (fun g hg=>Nat.le_trans hz2 (hown.out.lt g hg).1))
    have hb3:=Bx.mk ((hb2.out.alloc hle2 (.cells #[x] 3)).grown hg1 (le_alloc hle2 _) (fun g hg=>(hown.out.lt g hg).1))
    clear hown1 hg1
    go_roundw
    case rel=>exact ⟨k+1,by omega,by go_num,hown2,hbw2,hb3⟩
    case measure=>simp [intOf];omega
  · obtain rfl:k=m:=by omega
    go_wp2_with fail
    go_ret
    refine ⟨_,rfl,?_,hbw.out⟩
    have:=hown.out
    rw [Ht.out] at this
    exact this.base hz2
theorem cells_any (w:World) (Far:Nat→Prop) (sb:Nat) (most:Int) (ts:List Tr) (t:Tr) (ht:t∈ts) (hG:Good ts) (hlen:ts.length≤1000000000000) (hS:StoreIs w Far sb most ts) :
 Calls Tryz.prog 41 #[.pointer (some ⟨sb,0,none⟩),(idT ts t:Int)] w fun e w' => ∃ v,e = .returned v∧Own w' w.heap.size 3 .i64 v (outT t)∧Below w.heap.size w w':=by
 have hby:=hG.bytes t ht
 cases t with
 | uni c =>
   obtain ⟨g,cap,mb,h1,h2,h3⟩:=Bx.node hS ht (k:=1) (c:=c) rfl
   exact cells_uni w sb g ts.length cap mb _ most c _ _ _ _ _ _ _ _ _ _ h2 hlen h1 h3
 | brick l =>
   obtain ⟨g,cap,mb,h1,h2,h3⟩:=Bx.node hS ht (k:=2) (s:=strOfNums l) rfl
   exact cells_txt w sb g ts.length cap mb _ most 2 _ _ _ _ _ _ _ _ _ _ _ l rfl (by rw [(hby.bricks l rfl).1];omega) (hby.bricks l rfl).2 (by decide) h2 hlen h1 h3
 | node d ch =>
   obtain ⟨g,cap,mb,h1,h2,h3⟩:=Bx.node hS ht (k:=3) (s:=ByteArray.empty) rfl
   exact cells_txt w sb g ts.length cap mb _ most 3 _ _ _ _ _ _ _ _ _ _ _ [] rfl (by simp) (by simp) (by decide) h2 hlen h1 h3
end
section
open Go.RowKit
def Byt (t:List Int):Prop := ∀ x∈t,0≤x∧x≤255
theorem Byt.drop {t:List Int} (h:Byt t) (k:Nat):Byt (t.drop k):=fun x hx=>h x (List.mem_of_mem_drop hx)
theorem Byt.take {t:List Int} (h:Byt t) (k:Nat):Byt (t.take k):=fun x hx=>h x (List.mem_of_mem_take hx)
theorem Byt.append {t u:List Int} (h:Byt t) (h':Byt u):Byt (t++u):=fun x hx=>by
 rcases List.mem_append.1 hx with h1 | h1
 · exact h x h1
 · exact h' x h1
theorem Byt.get {t:List Int} (h:Byt t) {k:Nat} {x:Int} (hx:t[k]? = some x):0≤x∧x≤255:=h x (List.mem_of_getElem? hx)
theorem str_append (t u:List Int):strOfNums t++strOfNums u=strOfNums (t++u):=by
 apply ByteArray.ext
 simp [strOfNums]
theorem str_get {t:List Int} (h:Byt t) {k:Nat} {x:Int} (hx:t[k]? = some x) : ∃ hk:k<(strOfNums t).size,(((strOfNums t)[k]'hk).toNat:Int)=x:=by
 obtain ⟨hk,rfl⟩:=List.getElem?_eq_some_iff.1 hx
 refine ⟨by rw [strOfNums_size];exact hk,?_⟩
 have h1:=h _ (List.getElem_mem hk)
 show (((strOfNums t).data[k]'_).toNat:Int)=t[k]
 simp [strOfNums,UInt8.toNat_ofNat']
 omega
theorem idx_str {P:Program} (T:TypeId) (hu:P.underlying T=some .string) {t:List Int} (hb:Byt t) {k:Nat} {x:Int} (h:t[k]? = some x) (w:World) :
 (Instr.index T (.string (strOfNums t)) (.int .i64 (k:Int))).run P w = .ok (.int .u8 x) w:=by
 obtain ⟨hk,hx⟩:=str_get hb h
 rw [run_index_string w T _ _ _ hu,dif_pos ⟨by omega,by omega⟩]
 simp only [Int.toNat_natCast]
 rw [hx]
end
section
open Go.RowKit Go.Sort Go.Maps
open Oct
inductive Dep:Nat→Tr→Prop
 | uni (n:Nat) (c:Int):Dep n (.uni c)
 | brick (l:List Int):Dep 0 (.brick l)
 | node (n:Nat) (ch:Fin 8→Tr) (h : ∀ i,Dep n (ch i)):Dep (n+1) (.node (n+3) ch)
theorem octant_at (m:Nat) (hm:m≤12) (dd:Int) (hd:dd=(m:Int)+3) (px py pz:Int) (hx:0≤px∧px≤100000) (hy:0≤py∧py≤100000) (hz:0≤pz∧pz≤100000) (w:World) :
 Calls Tryz.prog 103 #[dd,.agg #[px,py,pz]] w fun e w'=>e = .returned (.int .i64 ((Tr.oct m ⟨px,py,pz⟩).val:Int))∧Below w.heap.size w w':=by
 subst hd
 have h:=octant_any (m+2) (by omega) px py pz hx hy hz w
 rw [show ((m+2+1:Nat):Int)=(m:Int)+3 by omega] at h
 refine h.mono ?_
 rintro e w' ⟨rfl,hb⟩
 refine ⟨ret_int ?_,hb⟩
 unfold Tr.oct Tr.octN
 simp only []
 omega
end
section
open Oct
theorem WF.bytes {t:Tr} (h:Tr.WF t):Bytes t:=by
 cases t with
 | uni c=>exact Bytes.uni h
 | brick l=>exact Bytes.brick h
 | node d ch=>exact Bytes.node h.1 ch
theorem WF.kid {d:Nat} {ch:Fin 8→Tr} (h:Tr.WF (.node d ch)) (i:Fin 8):Tr.WF (ch i):=h.2 i
theorem wf_mkBrick {l:List Int} (h:l.length=64) (hb : ∀ x∈l,0≤x∧x≤255):Tr.WF (Tr.mkBrick l):=by
 unfold Tr.mkBrick
 split
 · cases l with
   | nil=>simp at h
   | cons x r=>exact hb x (by simp)
 · exact ⟨h,hb⟩
theorem wf_mkInner {d:Nat} {ch:Fin 8→Tr} (hd:d≤255) (h : ∀ i,Tr.WF (ch i)):Tr.WF (Tr.mkInner d ch):=by
 unfold Tr.mkInner
 split
 · exact h 0
 · exact ⟨hd,h⟩
theorem wf_can {f:Pt→Int} (hf : ∀ p,0≤f p∧f p≤255) : ∀ (n:Nat) (a:Pt),n≤200→Tr.WF (Tr.can f n a)
 | 0, a, _ => by
   unfold Tr.can
   refine wf_mkBrick (by simp) fun x hx=>?_
   obtain ⟨k,_,rfl⟩:=List.mem_map.1 hx
   exact hf _
 | n + 1, a, hn => by
   unfold Tr.can
   exact wf_mkInner (by omega) fun i=>wf_can hf n _ (by omega)
theorem dep_mkBrick (l:List Int):Dep 0 (Tr.mkBrick l):=by
 unfold Tr.mkBrick
 split
 · exact Dep.uni _ _
 · exact Dep.brick _
theorem dep_mkInner {n:Nat} {ch:Fin 8→Tr} (h : ∀ i,Dep n (ch i)):Dep (n+1) (Tr.mkInner (n+3) ch):=by
 unfold Tr.mkInner
 split
 · rename_i hc
   obtain ⟨⟨c,hc⟩,_⟩:=hc
   rw [hc];exact Dep.uni _ _
 · exact Dep.node n ch h
theorem dep_can (f:Pt→Int) : ∀ (n:Nat) (a:Pt),Dep n (Tr.can f n a)
 | 0,a=>by unfold Tr.can;exact dep_mkBrick _
 | n+1,a=>by unfold Tr.can;exact dep_mkInner fun i=>dep_can f n _
theorem Dep.kid {n:Nat} {t:Tr} (h:Dep (n+1) t) (i:Fin 8):Dep n (t.kid i):=by
 cases h with
 | uni _ c=>exact Dep.uni _ _
 | node _ ch h=>exact h i
theorem good_add : ∀ (t:Tr) {ts:List Tr},Good ts→Tr.WF t→Good (Tr.add t ts):=by
 intro t
 induction t with
 | uni c=>intro ts hG h;rw [Tr.add_uni];exact hG.ins (fun d ch e=>by cases e) (WF.bytes h)
 | brick l=>intro ts hG h;rw [Tr.add_brick];exact hG.ins (fun d ch e=>by cases e) (WF.bytes h)
 | node d ch ih =>
   intro ts hG h
   rw [Tr.node_add hG.closed]
   have hk:=Tr.addK_ind (P:=Good) (fun i a ha=>ih i ha (h.2 i)) 8 (Nat.le_refl _) ts hG
   refine hk.ins (fun d' ch' e i=>?_) (WF.bytes h)
   injection e with e1 e2
   subst e2
   exact Tr.addK_mem _ ts 8 (Nat.le_refl _) i i.isLt
theorem good_addK {ch:Fin 8→Tr} {ts:List Tr} (hG:Good ts) (h : ∀ i,Tr.WF (ch i)) (k:Nat) (hk:k≤8):Good (Tr.addK ch k ts):=Tr.addK_ind (P:=Good) (fun i _a ha=>good_add _ ha (h i)) k hk ts hG
def Between (ts ts':List Tr):Prop := ∀ vs,ts <+: vs→vs <+: ts'→Good vs
theorem Between.same {ts:List Tr} (hG:Good ts):Between ts ts:=fun vs h1 h2=>by
 have:=h1.eq_of_length_le h2.length_le
 exact this ▸ hG
theorem Between.trans {a b c:List Tr} (h:Between a b) (h':Between b c) (hbc:b <+: c):Between a c:=fun vs h1 h2=>by
 rcases List.prefix_or_prefix_of_prefix h2 hbc with h3 | h3
 · exact h vs h1 h3
 · exact h' vs h3 h2
theorem Between.left {a b c:List Tr} (h:Between a c) (hbc:b <+: c):Between a b:=fun vs h1 h2=>h vs h1 (h2.trans hbc)
theorem between_ins {ts:List Tr} {t:Tr} (hG:Good ts) (h2:Good (Tr.ins t ts)):Between ts (Tr.ins t ts):=fun vs h1 h3=>by
 by_cases ht:t∈ts
 · rw [Tr.ins_of_mem ht] at h3
   exact (h1.eq_of_length_le h3.length_le) ▸ hG
 · rw [Tr.ins_of_not ht] at h3 h2
   by_cases hl:vs.length≤ts.length
   · exact (h1.eq_of_length_le hl) ▸ hG
   · have:=h3.eq_of_length_le (by simp;omega)
     exact this ▸ h2
theorem between_add : ∀ (t:Tr) {ts:List Tr},Good ts→Tr.WF t→Between ts (Tr.add t ts):=by
 intro t
 induction t with
 | uni c=>intro ts hG h;have h2:=good_add _ hG h;rw [Tr.add_uni] at h2 ⊢; exact between_ins hG h2
 | brick l=>intro ts hG h;have h2:=good_add _ hG h;rw [Tr.add_brick] at h2 ⊢; exact between_ins hG h2
 | node d ch ih =>
   intro ts hG h
   have h2:=good_add _ hG h
   rw [Tr.node_add hG.closed] at h2 ⊢
   have key:=Tr.addK_ind (P:=fun a=>ts <+: a∧Good a∧Between ts a) (fun i a ha=>⟨ha.1.trans (Tr.add_prefix _ _),good_add _ ha.2.1 (h.2 i),ha.2.2.trans (ih i ha.2.1 (h.2 i)) (Tr.add_prefix _ _)⟩) 8 (Nat.le_refl _) ts ⟨List.prefix_refl _,hG,Between.same hG⟩
   exact key.2.2.trans (between_ins key.2.1 h2) (Tr.ins_prefix _ _)
theorem ins_len (t:Tr) (ts:List Tr):(Tr.ins t ts).length≤ts.length+1:=by
 by_cases h:t∈ts
 · rw [Tr.ins_of_mem h];omega
 · rw [Tr.ins_of_not h];simp
theorem add_len : ∀ (t:Tr) (ts:List Tr),(Tr.add t ts).length≤ts.length+Tr.sz t:=by
 intro t
 induction t with
 | uni c=>intro ts;rw [Tr.add_uni];exact ins_len _ _
 | brick l=>intro ts;rw [Tr.add_brick];exact ins_len _ _
 | node d ch ih =>
   intro ts
   have key : ∀ k,k≤8→(Tr.addK ch k ts).length≤ts.length+((List.ofFn fun i=>Tr.sz (ch i)).take k).sum:=by
    intro k
    induction k with
    | zero=>intro _;rw [Tr.addK_zero];simp
    | succ k ihk =>
      intro hk
      rw [Tr.addK_succ ch (by omega)]
      have h1:=ih ⟨k,by omega⟩ (Tr.addK ch k ts)
      have h2:=ihk (by omega)
      rw [List.take_succ_eq_append_getElem (by simpa using (show k<8 by omega)),List.sum_append]
      simp only [List.getElem_ofFn,List.sum_cons,List.sum_nil]
      omega
   have h8:=key 8 (Nat.le_refl _)
   rw [List.take_of_length_le (by simp)] at h8
   rw [Tr.add_node]
   split
   · simp only [Tr.sz];omega
   · simp only [Tr.sz,List.length_append,List.length_singleton];omega
theorem sz_mkBrick (l:List Int):Tr.sz (Tr.mkBrick l)=1:=by unfold Tr.mkBrick;split <;> rfl
theorem sum8 {g:Fin 8→Nat} {m:Nat} (h : ∀ i,g i≤m):(List.ofFn g).sum≤8 * m:=by
 have h0:=h 0
 have h1:=h 1
 have h2:=h 2
 have h3:=h 3
 have h4:=h 4
 have h5:=h 5
 have h6:=h 6
 have h7:=h 7
 simp only [List.ofFn_succ,List.ofFn_zero,List.sum_cons,List.sum_nil]
 simp only [Fin.reduceSucc,Fin.isValue] at *
 omega
theorem sz_mkInner {d:Nat} {ch:Fin 8→Tr} {m:Nat} (h : ∀ i,Tr.sz (ch i)≤m):Tr.sz (Tr.mkInner d ch)≤1+8 * m:=by
 unfold Tr.mkInner
 split
 · have:=h 0;omega
 · simp only [Tr.sz]
   have:=sum8 h
   omega
def many:Nat→Nat
 | 0=>1
 | n+1=>1+8 * many n
theorem sz_can (f:Pt→Int) : ∀ (n:Nat) (a:Pt),Tr.sz (Tr.can f n a)≤many n
 | 0,a=>by unfold Tr.can;rw [sz_mkBrick];exact Nat.le_refl _
 | n+1,a=>by unfold Tr.can;exact sz_mkInner fun i=>sz_can f n _
theorem many_le {n:Nat} (hn:n≤12):many n≤80000000000:=by
 have key : ∀ m,m≤n→many m≤many n:=by
  intro m h
  induction n with
  | zero=>rw [show m=0 by omega];exact Nat.le_refl _
  | succ n ih =>
    by_cases e:m=n+1
    · rw [e];exact Nat.le_refl _
    · have:=ih (by omega) (by omega)
      show _≤1+8 * many n
      omega
 have mono : ∀ a b,a≤b→many a≤many b:=by
  intro a b h
  induction b with
  | zero=>rw [show a=0 by omega];exact Nat.le_refl _
  | succ b ih =>
    by_cases e:a=b+1
    · rw [e];exact Nat.le_refl _
    · have:=ih (by omega)
      show _≤1+8 * many b
      omega
 exact Nat.le_trans (mono n 12 hn) (by decide)
theorem can_len {f:Pt→Int} {n:Nat} (hn:n≤12) (a:Pt) (ts:List Tr):(Tr.add (Tr.can f n a) ts).length≤ts.length+80000000000 :=
 Nat.le_trans (add_len _ _) (Nat.add_le_add_left (Nat.le_trans (sz_can f n a) (many_le hn)) _)
theorem inner_len {d:Nat} {ch:Fin 8→Tr} {ts:List Tr} (hG:Good ts):(Tr.add (Tr.mkInner d ch) ts).length≤(Tr.addK ch 8 ts).length+1:=by
 rw [Tr.inner_add hG.closed]
 split
 · omega
 · exact ins_len _ _
theorem can_zero : ∀ (n:Nat) (a:Pt) (f:Pt→Int),Tr.Al n a→(∀ p,Tr.InC n a p→f p=0)→Tr.can f n a = .uni 0
 | 0, a, f, ha, h => by
   unfold Tr.can Tr.mkBrick
   have key : ∀ x∈(List.range 64).map fun k=>f (Tr.cellAt a k),x=0:=by
    intro x hx
    obtain ⟨k,hk,rfl⟩:=List.mem_map.1 hx
    exact h _ (Tr.inC_cell ha (List.mem_range.1 hk) rfl).1
   have h0:((List.range 64).map fun k=>f (Tr.cellAt a k)).headD 0=0:=by
    rw [show List.range 64=0::(List.range 63).map Nat.succ from List.range_succ_eq_map]
    simp only [List.map_cons,List.headD_cons]
    exact key _ (List.mem_map.2 ⟨0,by simp,rfl⟩)
   rw [h0,if_pos key]
 | n + 1, a, f, ha, h => by
   have key : ∀ i:Fin 8,Tr.can f n (Tr.cor a n i.val) = .uni 0:=fun i=>can_zero n _ f (Tr.al_cor ha _) fun p hp=>h p (Tr.inC_other ha hp).2
   unfold Tr.can Tr.mkInner
   rw [if_pos ⟨⟨0,key 0⟩,fun i=>(key i).trans (key 0).symm⟩]
   exact key 0
theorem inner_again {d:Nat} {ch:Fin 8→Tr} {ts:List Tr} (hG:Good ts) (h : ∀ i,Tr.WF (ch i)):Tr.add (Tr.mkInner d ch) (Tr.addK ch 8 ts)=Tr.add (Tr.mkInner d ch) ts:=by
 have hG8:=good_addK hG h 8 (Nat.le_refl _)
 have hm : ∀ i,ch i∈Tr.addK ch 8 ts:=fun i=>Tr.addK_mem ch ts 8 (Nat.le_refl _) i i.isLt
 rw [Tr.inner_add hG8.closed,Tr.inner_add hG.closed,addK_same hm]
theorem addK_pre {ch:Fin 8→Tr} {ts:List Tr} {k m:Nat} (hkm:k≤m) (hm:m≤8):Tr.addK ch k ts <+: Tr.addK ch m ts:=by
 induction m with
 | zero=>rw [show k=0 by omega];exact List.prefix_refl _
 | succ m ih =>
   by_cases e:k=m+1
   · rw [e];exact List.prefix_refl _
   · rw [Tr.addK_succ ch (by omega)]
     exact (ih (by omega) (by omega)).trans (Tr.add_prefix _ _)
theorem inner_pre {d:Nat} {ch:Fin 8→Tr} {ts:List Tr} (hG:Good ts):Tr.addK ch 8 ts <+: Tr.add (Tr.mkInner d ch) ts:=by
 rw [Tr.inner_add hG.closed]
 split
 · exact List.prefix_refl _
 · exact Tr.ins_prefix _ _
end
end Go.Proofs.YtfcbajmjaifjlaaGreat
