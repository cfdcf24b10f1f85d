/- Ptg, Pen, Mnt, Cln, Rdk, Rro, Op, Pgr: joined by program, for one claim. -/
import Derived.Test.YtajhkncolbgkbaaDoorM6
import Derived.Sort.OwnSortedInts
import Derived.Test.YtajhkncolbgkbaaDoorM4
import Derived.Test.YtajhkncolbgkbaaDoorM2
import Derived.Laws.IdiomCopy
import Derived.Deep.RegionLaw
import Derived.Maps.AppendAt
import Derived.Deep.AppendLies
set_option linter.unusedVariables false
set_option linter.unusedSimpArgs false
namespace Go.Proofs.YtajhkncolbgkbaaDoor
section
open Go.RowKit Go.Sort Go.Maps
def ints64 (l:List Nat):List Int:=l.map fun (x:Nat)=>(x:Int)
theorem ints64_len (l:List Nat):(ints64 l).length=l.length:=by simp [ints64]
theorem ints64_snoc (l:List Nat) (x:Nat):ints64 l++[(x:Int)]=ints64 (l++[x]):=by simp [ints64]
theorem word2_lt {D:List Int} (h:Byts D) (j:Nat):word2 D j<65536:=by
 have key : ∀ i,(D.getD i 0).toNat≤255:=fun i=>by
  rw [List.getD_eq_getElem?_getD]
  cases e:D[i]? with
  | none=>simp
  | some x=>have:=h x (List.mem_of_getElem? e);simp;omega
 have h1:=key (1+2 * j)
 have h2:=key (2+2 * j)
 unfold word2;omega
theorem tg_step {im:List (List Int)} {t:Nat} {D:List Int} {j:Nat} {ls:List Nat} (h:tgGo im t D j=some ls) :
 tgGo im t D (j+1)=if goodP (im.getD (1+j) [])∧numP (im.getD (1+j) [])=t∧word2 D j+17<im.length∧(0<j→ls.getD (j - 1) 0<word2 D j) then some (ls++[word2 D j]) else none:=by
 show (match tgGo im t D j with | none=>none | some l=>_)=_
 rw [h]
theorem tg_stay {im:List (List Int)} {t:Nat} {D:List Int} {j:Nat} (h:tgGo im t D j=none) : ∀ k,j≤k→tgGo im t D k=none
 | 0, hk => by obtain rfl : j = 0 := by omega
               exact h
 | k + 1, hk => by
   by_cases e:j=k+1
   · rw [←e];exact h
   · show (match tgGo im t D k with | none=>none | some l=>_)=none
     rw [tg_stay h k (by omega)]
theorem tg_small {im:List (List Int)} {t:Nat} {D:List Int} (hD:Byts D) : ∀ {k:Nat} {l:List Nat},tgGo im t D k=some l → ∀ x∈l,x<65536
 | 0,l,h=>by simp only [tgGo,Option.some.injEq] at h;subst h;intro x hx;cases hx
 | k + 1, l, h => by
   cases e:tgGo im t D k with
   | none=>rw [tg_stay e (k+1) (by omega)] at h;cases h
   | some ls =>
     rw [tg_step e] at h
     split at h
     · simp only [Option.some.injEq] at h;subst h
       intro x hx
       rcases List.mem_append.1 hx with hx | hx
       · exact tg_small hD e x hx
       · rw [List.mem_singleton.1 hx];exact word2_lt hD k
     · cases h
set_option maxRecDepth 100000 in
set_option maxHeartbeats 4000000 in
theorem targets_any (a:Option Addr) (cap:Nat) (im:List (List Int)) (h17:17<im.length) (hle:im.length≤5000) (hp : ∀ x∈im,x.length=128∧Byts x) (w:World) (hs:Slv w a (strs im)) :
 Calls Tryd.prog 41 #[.slice a im.length cap] w fun e w' => ∃ v,e = .returned v∧Own w' w.heap.size 3 .i64 v (ints64 (targetsP im))∧Below w.heap.size w w':=by
 have hat : ∀ i,i<im.length → ∃ p,im[i]? = some p∧im.getD i []=p∧p.length=128∧Byts p:=fun i hi=>by
  have h1:=List.getElem?_eq_getElem hi
  refine ⟨_,h1,by rw [List.getD_eq_getElem?_getD,h1];rfl,(hp _ (List.getElem_mem hi)).1,(hp _ (List.getElem_mem hi)).2⟩
 obtain ⟨p0,hp0,hg0,hl0,hb0⟩:=hat 0 (by omega)
 obtain ⟨b,off,rfl,hc0⟩:=hs 0 _ (strs_at hp0)
 rw [Nat.add_zero] at hc0
 have HS:=Bx.mk fun W (hb:Below w.heap.size w W) i q (hq:im[i]? = some q)=>(show W.cell? ⟨b,off+i,none⟩=some (.string (strOfNums q)) by
  obtain ⟨b',off',e,hc⟩:=hs i _ (strs_at hq)
  simp only [Option.some.injEq,Addr.mk.injEq,and_true] at e
  obtain ⟨rfl,rfl⟩:=e
  exact cell_later hb hc)
 have hu0:=Bx.mk fun W=>unseal_any p0 hb0 (by omega) W
 have HAT:=Bx.mk hat
 have Hp:=Bx.mk hp
 obtain ⟨nl,hnl⟩ : ∃ n,n=im.length:=⟨_,rfl⟩
 have HNL:=Bx.mk hnl
 rw [←hnl] at h17 hle ⊢
 have b0:(0:Int)<(nl:Int):=by omega
 have TP:targetsP im=if numOf p0=0∨logK im<1∨16<logK im then [] else match tgGo im (numOf p0) (dataP p0) (logK im) with
  | none=>[]
  | some l=>if recP l=dataP p0 then l else []:=by unfold targetsP;rw [hg0];rfl
 clear hat hs hp hnl
 unfold unV at hu0
 by_cases hg:goodP p0
 · have hk:logK im=((dataP p0).getD 0 0).toNat:=by unfold logK;rw [hg0,if_pos hg]
   have hno:numOf p0=numP p0:=by unfold numOf;rw [if_pos hg]
   have hdo:datOf p0=dataP p0:=by unfold datOf;rw [if_pos hg]
   rw [hno,hdo,decide_eq_true hg] at hu0
   rw [hno,hk] at TP
   have hDl:(dataP p0).length=116:=by unfold dataP;simp [hl0]
   have hDb:Byts (dataP p0):=fun x hx=>hb0 x (List.mem_of_mem_drop (List.mem_of_mem_take hx))
   generalize dataP p0=D at *
   generalize numP p0=t at *
   obtain ⟨k0,hk0⟩ : ∃ x,D[0]? = some x:=⟨_,List.getElem?_eq_getElem (by omega)⟩
   have hkb:=hDb k0 (List.mem_of_getElem? hk0)
   have hkd:D.getD 0 0=k0:=by rw [List.getD_eq_getElem?_getD,hk0];rfl
   rw [hkd] at TP
   obtain ⟨kN,rfl⟩:=Int.eq_ofNat_of_zero_le hkb.1
   have hix : ∀ W:World,(Instr.index 9 (.string (strOfNums D)) (.int .i64 0)).run Tryd.prog W = .ok (.int .u8 (kN:Int)) W:=fun W=>idx_str (P:=Tryd.prog) 9 Tryd.underlying9 hDb hk0 W
   have f8:IntKind.i64.wrap (kN:Int)=(kN:Int):=IntWalk.i64_in _ (by omega)
   simp only [Int.toNat_natCast] at TP
   clear hk hno hdo hkd hk0 hg
   have HTP:=Bx.mk TP
   clear TP hb0 hl0
   by_cases hbad:t=0∨kN<1∨16<kN
   · have e:Bx (targetsP im=[]):=⟨by rw [HTP.out,if_pos hbad]⟩
     clear hDb hDl hkb
     rcases Nat.eq_zero_or_pos t with ht | ht
     · subst ht
       go_enter Tryd.func41,Tryd.ntmps41
       go_wp2_with fail
       refine (hu0.out _).mono ?_
       rintro _ w1 ⟨rfl,hb1⟩
       have HB1:=Bx.mk hb1
       clear hb1 hc0
       have t1:(((0:Nat):Int) == 0)=true:=by decide
       go_wp2_with fail
       go_ret
       exact ⟨_,rfl,by rw [e.out];exact Own.nil _ _ _ _,HB1.out⟩
     · have t1:((t:Int) == 0)=false:=by simp;omega
       have t1b : ¬(t:Int)=0:=by omega
       by_cases h1:kN<1
       · have t2:decide ((kN:Int)<1)=true:=by simp;omega
         have t2b:decide (kN=0)=true:=by simp;omega
         have t2c:kN=0:=by omega
         go_enter Tryd.func41,Tryd.ntmps41
         go_wp2_with fail
         refine (hu0.out _).mono ?_
         rintro _ w1 ⟨rfl,hb1⟩
         have HB1:=Bx.mk hb1
         clear hb1 hc0
         go_wp2_with fail
         go_ret
         exact ⟨_,rfl,by rw [e.out];exact Own.nil _ _ _ _,HB1.out⟩
       · have h2:16<kN:=by omega
         have t2:decide ((kN:Int)<1)=false:=by simp;omega
         have t2c : ¬kN=0:=by omega
         have t3:decide ((kN:Int) > 16)=true:=by simp;omega
         have t3b:decide (16<kN)=true:=by simp;omega
         go_enter Tryd.func41,Tryd.ntmps41
         go_wp2_with fail
         refine (hu0.out _).mono ?_
         rintro _ w1 ⟨rfl,hb1⟩
         have HB1:=Bx.mk hb1
         clear hb1 hc0
         go_wp2_with fail
         go_ret
         exact ⟨_,rfl,by rw [e.out];exact Own.nil _ _ _ _,HB1.out⟩
   · have hT:Bx (targetsP im=match tgGo im t D kN with
      | none=>[]
      | some l=>if recP l=D then l else []):=⟨by rw [HTP.out,if_neg hbad]⟩
     have ht:0<t∧1≤kN∧kN≤16:=by omega
     obtain ⟨ht1,hk1,hk16⟩:=ht
     clear HTP hbad hkb
     have t1:((t:Int) == 0)=false:=by simp;omega
     have t1b : ¬(t:Int)=0:=by omega
     have t2:decide ((kN:Int)<1)=false:=by simp;omega
     have t2c : ¬kN=0:=by omega
     have t3:decide ((kN:Int) > 16)=false:=by simp;omega
     have t3b:decide (16<kN)=false:=by simp;omega
     have hDz:(strOfNums D).size=116:=by rw [strOfNums_size,hDl]
     have HD:=Bx.mk hDb
     have HDl:=Bx.mk hDl
     clear hDb hDl
     go_enter Tryd.func41,Tryd.ntmps41
     go_wp2_with fail
     refine (hu0.out _).mono ?_
     rintro _ w1 ⟨rfl,hb1⟩
     have HB1:=Bx.mk hb1
     clear hb1 hc0 hu0
     go_wp2_with fail
     clear t1 t1b t2 t2c t3 t3b hix f8
     go_loopw [2,35] (fun v2 v35 wr => ∃ (j:Nat) (ls:List Nat),j≤kN∧v35 = .int .i64 j∧Bx (tgGo im t D j=some ls)∧Bx (Own wr w.heap.size 3 .i64 v2 (ints64 ls))∧Bx (Below w.heap.size w wr)) (fun _ i _=>kN - (intOf i).toNat)
     case atStart=>exact ⟨0,[],Nat.zero_le _,rfl,⟨rfl⟩,⟨Own.nil _ _ _ _⟩,HB1⟩
     case round =>
      clear HB1
      obtain ⟨j,ls,hj,rfl,HG,HO,HW⟩:=hrel
      by_cases hlt:j<kN
      · have t0:decide ((j:Int)<(kN:Int))=true:=by simp;omega
        have t0b:decide (j<kN)=true:=by simpa using hlt
        obtain ⟨pj,hpj,hgj,hlj,hbj⟩:=HAT.out (1+j) (by rw [←HNL.out];omega)
        have c1:=HS.out wr HW.out (1+j) pj hpj
        have hst:=Bx.mk (tg_step HG.out)
        rw [hgj] at hst
        have hll:=Bx.mk (tg_len HG.out)
        obtain ⟨y2,hy2⟩ : ∃ y:Int,y=2 * (j:Int):=⟨_,rfl⟩
        obtain ⟨lo,hlo⟩ : ∃ n:Nat,n=1+2 * j:=⟨_,rfl⟩
        obtain ⟨hi,hhi⟩ : ∃ n:Nat,n=3+2 * j:=⟨_,rfl⟩
        have e1:IntKind.i64.wrap (2 * (j:Int))=y2:=by rw [hy2];exact IntWalk.i64_in _ (by omega)
        have e2:IntKind.i64.wrap (1+y2)=(lo:Int):=by rw [hlo,hy2,show (1+2 * (j:Int))=((1+2 * j:Nat):Int) by omega];exact IntWalk.i64_in _ (by omega)
        have e3:IntKind.i64.wrap (3+y2)=(hi:Int):=by rw [hhi,hy2,show (3+2 * (j:Int))=((3+2 * j:Nat):Int) by omega];exact IntWalk.i64_in _ (by omega)
        have hnb:=Bx.mk fun W=>number_any ((D.drop lo).take 2) (fun x hx=>HD.out x (List.mem_of_mem_drop (List.mem_of_mem_take hx))) (by simp;omega) W
        have hwd:numK ((D.drop lo).take 2)=word2 D j:=by rw [numK_two (by rw [HDl.out];omega),hlo];unfold word2;rw [show 1+2 * j+1=2+2 * j by omega]
        have hex:strOfNums ((D.drop lo).take 2)=(strOfNums D).extract lo hi:=by rw [str_extract,show hi - lo=2 by omega]
        rw [hwd,hex] at hnb
        have hxl:=word2_lt HD.out j
        have l1:lo≤100∧hi≤116∧lo≤hi:=by omega
        obtain ⟨l1,l2,l3⟩:=l1
        obtain ⟨i1,hi1⟩ : ∃ n:Nat,n=1+j:=⟨_,rfl⟩
        have e4:IntKind.i64.wrap (1+(j:Int))=(i1:Int):=by rw [hi1,show (1+(j:Int))=((1+j:Nat):Int) by omega];exact IntWalk.i64_in _ (by omega)
        have b1:(0:Int)≤(i1:Int):=by omega
        have b2:(i1:Int)<(nl:Int):=by omega
        rw [←hi1] at c1
        obtain ⟨q,hq⟩ : ∃ n:Nat,n=nl - 17:=⟨_,rfl⟩
        have e5:IntKind.i64.wrap ((nl:Int) - 17)=(q:Int):=by rw [show (nl:Int) - 17=(q:Int) by omega];exact IntWalk.i64_in _ (by omega)
        have hqx:Bx (word2 D j+17<im.length ↔ word2 D j<q):=⟨by rw [←HNL.out];omega⟩
        have huj:=Bx.mk fun W=>unseal_any pj hbj (by omega) W
        unfold unV at huj
        have Hgd:Bx (decide (goodP pj)=true ↔ goodP pj):=⟨by simp⟩
        have Hnm:Bx (goodP pj→numOf pj=numP pj):=⟨fun h=>by unfold numOf;rw [if_pos h]⟩
        generalize word2 D j=x at *
        generalize decide (goodP pj)=gj at *
        generalize strOfNums (datOf pj)=Sj at *
        have Hlt:=Bx.mk hlt
        have HT:Bx (tgGo im t D (j+1)=none→targetsP im=[]):=⟨fun h=>by rw [hT.out,tg_stay h kN (by have:=Hlt.out;omega)]⟩
        clear hgj hlj hbj hwd hex hy2 hlo hhi hi1 hq hpj hlt
        go_wp2_with fail
        refine (hnb.out _).mono ?_
        rintro _ w2 ⟨rfl,hb2⟩
        have HB2:=Bx.mk (HW.out.trans (hb2.mono HW.out.size))
        have HO2:=Bx.mk (HO.out.below hb2)
        have c1:=cell_later hb2 c1
        clear hb2 hnb HW HO e1 e2 e3 l1 l2 l3
        go_wp2_with fail
        refine (huj.out _).mono ?_
        rintro _ w3 ⟨rfl,hb3⟩
        have HB3:=Bx.mk (HB2.out.trans (hb3.mono HB2.out.size))
        have HO3:=Bx.mk (HO2.out.below hb3)
        clear hb3 huj HB2 HO2 c1 e4
        cases gj with
        | false =>
          have hn:Bx (targetsP im=[]):=⟨HT.out (by rw [hst.out,if_neg];intro h;have:=Hgd.out.2 h.1;cases this)⟩
          go_wp2_with fail
          go_ret
          exact ⟨_,rfl,by rw [hn.out];exact Own.nil _ _ _ _,HB3.out⟩
        | true =>
          have hgood:goodP pj:=Hgd.out.1 (by first | rfl | trivial)
          have hnm:=Hnm.out hgood
          rw [hnm]
          have HGood:=Bx.mk hgood
          clear hgood hnm Hnm Hgd
          by_cases hnt:numP pj=t
          · have n1:((numP pj:Int) != (t:Int))=false:=by rw [hnt];simp
            have Hnt:=Bx.mk hnt
            clear hnt
            generalize (numP pj:Int)=nj at *
            by_cases hxq:x<q
            · have n2:decide ((x:Int) ≥ (q:Int))=false:=by simp;omega
              have n2b:decide (q≤x)=false:=by simp;omega
              have Hxq:=Bx.mk hxq
              rcases Nat.eq_zero_or_pos j with hj0 | hj0
              · have n3:decide ((j:Int) > 0)=false:=by simp;omega
                have n3b:decide (0<j)=false:=by simp;omega
                have n3c:j=0:=hj0
                have hstp:tgGo im t D (j+1)=some (ls++[x]):=by rw [hst.out,if_pos ⟨HGood.out,Hnt.out,hqx.out.2 Hxq.out,fun h=>absurd h (by omega)⟩]
                have HST:=Bx.mk hstp
                clear hstp hxq
                have hown:=HO3.out
                have hB:=HB3.out
                have hln:(ints64 ls).length≤1000000000:=by rw [ints64_len,hll.out];omega
                have hle2:=hB.size
                go_wp2_with (first
                 | (at_builtin
                    refine wpList_append_int rfl _ _ 33 rfl 3 .i64 (.int .i64 0) 8 (by omega) Tryd.underlying33 (by kernel_rfl) rfl w.heap.size _ (ints64 ls) rfl (hown.alloc _) (x:Int) ⟨w3.heap.size,0,none⟩ 1 rfl (cell_new _ _ _) hln (le_alloc hle2 _) ?_
                    intro v1 w4 hown1 hg1 _))
                rw [ints64_snoc] at hown1
                have HO6:=Bx.mk hown1
                have HI6:=Bx.mk ((hB.alloc hle2 _).grown hg1 (le_alloc hle2 _) (fun g hg=>(hown.lt g hg).1))
                clear hown1 hg1 hown hB hln hle2
                go_roundw
                case rel=>exact ⟨j+1,ls++[x],by have:=Hlt.out;omega,by go_num,HST,HO6,HI6⟩
                case measure=>have:=Hlt.out;simp [intOf];omega
              · have n3:decide ((j:Int) > 0)=true:=by simp;omega
                have n3b:decide (0<j)=true:=by simp;omega
                obtain ⟨jm,hjm⟩ : ∃ n:Nat,n=j - 1:=⟨_,rfl⟩
                have e6:IntKind.i64.wrap ((j:Int) - 1)=(jm:Int):=by rw [show (j:Int) - 1=(jm:Int) by omega];exact IntWalk.i64_in _ (by omega)
                have hls:=hll.out
                obtain ⟨y,hy⟩ : ∃ y,ls[jm]? = some y:=⟨_,List.getElem?_eq_getElem (by omega)⟩
                have Hy:=Bx.mk (show ls.getD (j - 1) 0=y by rw [List.getD_eq_getElem?_getD,←hjm,hy];rfl)
                obtain ⟨g2,cap2,rfl,-,-,hcl,-,-⟩:=HO3.out.at (by rw [ints64_len,hls];exact hj0)
                have c2:=hcl jm (y:Int) (by unfold ints64;rw [List.getElem?_map,hy];rfl)
                have hl2:(ints64 ls).length=j:=by rw [ints64_len,hls]
                rw [hl2] at HO3 ⊢
                have b3:(0:Int)≤(jm:Int):=by omega
                have b4:(jm:Int)<(j:Int):=by omega
                have Hj0:=Bx.mk hj0
                clear hcl hl2 hjm hy hls hj0
                by_cases hyx:y<x
                · have n4:decide ((y:Int) ≥ (x:Int))=false:=by simp;omega
                  have n4b:decide (x≤y)=false:=by simp;omega
                  have Hyx:=Bx.mk hyx
                  clear hyx
                  have hstp:tgGo im t D (j+1)=some (ls++[x]):=by rw [hst.out,if_pos ⟨HGood.out,Hnt.out,hqx.out.2 Hxq.out,fun _=>by rw [Hy.out];exact Hyx.out⟩]
                  have HST:=Bx.mk hstp
                  clear hstp hxq
                  have hown:=HO3.out
                  have hB:=HB3.out
                  have hln:(ints64 ls).length≤1000000000:=by rw [ints64_len,hll.out];omega
                  have hle2:=hB.size
                  go_wp2_with (first
                   | (at_builtin
                      refine wpList_append_int rfl _ _ 33 rfl 3 .i64 (.int .i64 0) 8 (by omega) Tryd.underlying33 (by kernel_rfl) rfl w.heap.size _ (ints64 ls) rfl (hown.alloc _) (x:Int) ⟨w3.heap.size,0,none⟩ 1 rfl (cell_new _ _ _) hln (le_alloc hle2 _) ?_
                      intro v1 w4 hown1 hg1 _))
                  rw [ints64_snoc] at hown1
                  have HO6:=Bx.mk hown1
                  have HI6:=Bx.mk ((hB.alloc hle2 _).grown hg1 (le_alloc hle2 _) (fun g hg=>(hown.lt g hg).1))
                  clear hown1 hg1 hown hB hln hle2
                  go_roundw
                  case rel=>exact ⟨j+1,ls++[x],by have:=Hlt.out;omega,by go_num,HST,HO6,HI6⟩
                  case measure=>have:=Hlt.out;simp [intOf];omega
                · have n4:decide ((y:Int) ≥ (x:Int))=true:=by simp;omega
                  have n4b:decide (x≤y)=true:=by simp;omega
                  have Hyx:=Bx.mk hyx
                  have hn:Bx (targetsP im=[]):=⟨HT.out (by rw [hst.out,if_neg];intro h;have:=h.2.2.2 Hj0.out;rw [Hy.out] at this;exact Hyx.out this)⟩
                  clear hyx hxq
                  go_wp2_with fail
                  go_ret
                  exact ⟨_,rfl,by rw [hn.out];exact Own.nil _ _ _ _,HB3.out⟩
            · have n2:decide ((x:Int) ≥ (q:Int))=true:=by simp;omega
              have n2b:decide (q≤x)=true:=by simp;omega
              have Hxq:=Bx.mk hxq
              have hn:Bx (targetsP im=[]):=⟨HT.out (by rw [hst.out,if_neg];intro h;exact Hxq.out (hqx.out.1 h.2.2.1))⟩
              clear hxq
              go_wp2_with fail
              go_ret
              exact ⟨_,rfl,by rw [hn.out];exact Own.nil _ _ _ _,HB3.out⟩
          · have n1:((numP pj:Int) != (t:Int))=true:=by simp;omega
            have Hnt:=Bx.mk hnt
            have hn:Bx (targetsP im=[]):=⟨HT.out (by rw [hst.out,if_neg];intro h;exact Hnt.out h.2.1)⟩
            clear hnt
            go_wp2_with fail
            go_ret
            exact ⟨_,rfl,by rw [hn.out];exact Own.nil _ _ _ _,HB3.out⟩
      · obtain rfl:j=kN:=by omega
        have t0:decide ((j:Int)<(j:Int))=false:=by simp
        have t0b:decide (j<j)=false:=by simp
        obtain ⟨a2,c2,rfl,hsl⟩:=HO.out.form
        have hll:=tg_len HG.out
        have hrc:=Bx.mk (record_any a2 c2 ls (by omega) (tg_small HD.out HG.out) wr hsl)
        have hln:(ints64 ls).length=j:=by rw [ints64_len,hll]
        rw [hll] at hrc
        rw [hln] at HO ⊢
        have hTg:Bx (targetsP im=if recP ls=D then ls else []):=⟨by rw [hT.out,HG.out]⟩
        have hri:strOfNums (recP ls)=strOfNums D ↔ recP ls=D:=⟨fun e=>strOfNums_inj (rec_byts ls) HD.out e,fun e=>congrArg _ e⟩
        generalize strOfNums (recP ls)=Sr at *
        generalize strOfNums D=Sd at *
        clear hT hsl hll hln HAT HS Hp HNL HG
        by_cases hre:recP ls=D
        · have n5:(Sr.toList == Sd.toList)=true:=(strEq_iff _ _).2 (hri.2 hre)
          have hn:Bx (targetsP im=ls):=⟨by rw [hTg.out,if_pos hre]⟩
          clear hri hre hTg
          go_wp2_with fail
          refine hrc.out.mono ?_
          rintro _ w2 ⟨rfl,hb2⟩
          have HB2:=Bx.mk (HW.out.trans (hb2.mono HW.out.size))
          have HO2:=Bx.mk (HO.out.below hb2)
          clear hb2 hrc HO HW
          go_wp2_with fail
          go_ret
          exact ⟨_,rfl,by rw [hn.out];exact HO2.out,HB2.out⟩
        · have n5:(Sr.toList == Sd.toList)=false:=strNe fun e=>hre (hri.1 e)
          have hn:Bx (targetsP im=[]):=⟨by rw [hTg.out,if_neg hre]⟩
          clear hri hre hTg
          go_wp2_with fail
          refine hrc.out.mono ?_
          rintro _ w2 ⟨rfl,hb2⟩
          have HB2:=Bx.mk (HW.out.trans (hb2.mono HW.out.size))
          clear hb2 hrc HO HW
          go_wp2_with fail
          go_ret
          exact ⟨_,rfl,by rw [hn.out];exact Own.nil _ _ _ _,HB2.out⟩
 · have hno:numOf p0=0:=by unfold numOf;rw [if_neg hg]
   rw [hno,decide_eq_false hg] at hu0
   have e:Bx (targetsP im=[]):=⟨by rw [TP,if_pos (.inl hno)]⟩
   clear TP hno hg hb0 hl0
   go_enter Tryd.func41,Tryd.ntmps41
   go_wp2_with fail
   refine (hu0.out _).mono ?_
   rintro _ w1 ⟨rfl,hb1⟩
   have HB1:=Bx.mk hb1
   clear hb1 hc0
   have t1:(((0:Nat):Int) == 0)=true:=by decide
   go_wp2_with fail
   go_ret
   exact ⟨_,rfl,by rw [e.out];exact Own.nil _ _ _ _,HB1.out⟩
end
section
open Go.RowKit Go.Sort
def ints (l:List Nat):List Int:=l.map fun (n:Nat)=>(n:Int)
structure Col (p:List Pg) (L:Nat→Bool) (xs:List Nat):Prop where
 nodup:xs.Nodup
 mem : ∀ i,i∈xs ↔ i<p.length∧isPend p i=true∧L i=false
theorem col_step {p:List Pg} {L:Nat→Bool} {xs:List Nat} {i:Nat} (h:Col p L xs) (hi:i<p.length) (hp:isPend p i=true) (hL:L i=true):Col p (fun j=>L j && !decide (j=i)) (xs++[i]):=by
 refine ⟨List.nodup_append.2 ⟨h.nodup,by simp,fun a ha b hb=>?_⟩,fun j=>?_⟩
 · rw [List.mem_singleton] at hb
   subst hb
   intro e
   subst e
   have:=((h.mem a).1 ha).2.2
   rw [hL] at this;cases this
 · rw [List.mem_append,List.mem_singleton,h.mem j]
   by_cases e:j=i
   · subst e;simp [hi,hp]
   · simp [e]
structure PdI (w:World) (mb m r:Nat) (p:List Pg) (L:Nat→Bool) (cnt:Nat) (xs:List Nat) (v:Value) (wr:World):Prop where
 rng:PgRng wr mb r m p L cnt
 own:Own wr w.heap.size 3 .i64 v (ints xs)
 col:Col p L xs
 bel:Below w.heap.size w wr
 hr:w.heap.size≤r
 ne:v.ownBlock ≠ some r
theorem Chg.ofRow {w w':World} {row:Option Nat} (h:w.grownBy w' row):Chg (fun k=>row=some k) w w':=⟨h.os,h.tape,h.output,h.size,fun k hk hn=>h.block k hk (fun e=>hn e.symm)⟩
theorem Chg.toRow {w w':World} {b:Nat} (h:Chg (· = b) w w'):w.grownBy w' (some b):=⟨h.os,h.tape,h.output,h.size,fun k hk hn=>h.block k hk (fun e=>hn (by rw [e]))⟩
theorem PdI.step {w wr w3 w4:World} {mb m r cnt cnt3 i:Nat} {p:List Pg} {L:Nat→Bool} {xs:List Nat} {v v':Value} {o:Obj} (h:PdI w mb m r p L cnt xs v wr) (hmb:mb<r) (hwr:w.heap.size=r) (hi:i<p.length) (hp:isPend p i=true) (hL:L i=true)
 (hrg:PgRng w3 mb r m p (fun j=>L j && !decide (j=i)) cnt3) (hc:Chg (· = r) wr w3) (ho:Own w4 w.heap.size 3 .i64 v' (ints xs++[(i:Int)])) (hg:(w3.alloc o).grownBy w4 v.ownBlock)
 (hv:v'.ownBlock=v.ownBlock∨v'.ownBlock=some (w3.heap.size+1)):PdI w mb m r p (fun j=>L j && !decide (j=i)) cnt3 (xs++[i]) v' w4:=by
 have hown:=h.own.lt
 have hs3:=hc.size
 have hlr:=hrg.lt
 have hal:Below w3.heap.size w3 (w3.alloc o):=(Below.refl _ _).alloc (Nat.le_refl _) _
 have hz:(w3.alloc o).heap.size=w3.heap.size+1:=by simp
 refine ⟨?_,?_,col_step h.col hi hp hL,?_,h.hr,?_⟩
 · refine (hrg.chg (.ofBelow hal (fun _=>False)) (fun e=>e) (fun e=>e)).chg (Chg.ofRow hg) (fun e=>?_) (fun e=>h.ne e)
   have:=(hown mb e).1
   omega
 · unfold ints at ho ⊢
   rw [List.map_append];exact ho
 · have h1:Below w.heap.size wr w3:=hc.below h.bel.size (fun k hk e=>by omega)
   have h2:Below w.heap.size (w3.alloc o) w4:=(Chg.ofRow hg).below (by have:=h.bel.size;omega) (fun k hk e=>by have:=(hown k e).1;omega)
   exact ((h.bel.trans h1).trans (hal.mono (by have:=h.bel.size;omega))).trans h2
 · intro e
   rcases hv with h1 | h1
   · exact h.ne (h1 ▸ e)
   · rw [h1] at e
     injection e with e
     omega
end
section
open Go.RowKit Go.Sort
theorem Sl.chg {S:Nat→Prop} {w w':World} {k:IntKind} {a:Option Addr} {xs:List Int} (h:Sl w k a xs) (hc:Chg S w w') (hn : ∀ b o,a=some ⟨b,o,none⟩→0<xs.length → ¬S b):Sl w' k a xs:=by
 intro i x hx
 obtain ⟨b,off,rfl,hcell⟩:=h i x hx
 exact ⟨b,off,rfl,(cell_of_heap (hc.block b (block_lt_of_cell hcell) (hn b off rfl (by have:=(List.getElem?_eq_some_iff.1 hx).1;omega))) _).trans hcell⟩
end
section
open Go.RowKit Go.Sort
def part (p:List Pg) (L:Nat→Bool):List Pg:=p.mapIdx fun i x=>(x.1,if L i=true then none else x.2)
structure ClI (w:World) (p2 g2 mb2 cap2 m2:Nat) (d:Dk) (q:List Pg) (wr:World):Prop where
 kp:Bk wr p2 #[.slice (some ⟨g2,0,none⟩) d.p.length cap2,.map (some mb2),.bool d.off,.int .i64 d.trip] 79
 pg:Pages wr g2 d.p
 km:PgMap wr mb2 m2 q
 ne:p2 ≠ g2∧g2 ≠ mb2∧p2 ≠ mb2
 cap:d.p.length≤cap2∧cap2≤maxLen
 lo:w.heap.size≤p2∧w.heap.size≤g2∧w.heap.size≤mb2
 bel:Below w.heap.size w wr
theorem ClI.chg {w wr wr':World} {p2 g2 mb2 cap2 m2:Nat} {d:Dk} {q:List Pg} {S:Nat→Prop} (h:ClI w p2 g2 mb2 cap2 m2 d q wr) (hc:Chg S wr wr') (hn : ∀ k,In3 p2 g2 mb2 k → ¬S k) (hB : ∀ k,k<w.heap.size → ¬S k):ClI w p2 g2 mb2 cap2 m2 d q wr' :=
 ⟨h.kp.chg hc (hn _ (.inl rfl)),h.pg.chg hc (hn _ (.inr (.inl rfl))),h.km.chg hc (hn _ (.inr (.inr rfl))),h.ne,h.cap,h.lo,h.bel.trans (hc.below h.bel.size hB)⟩
theorem ClI.later {w wr wr':World} {p2 g2 mb2 cap2 m2:Nat} {d:Dk} {q:List Pg} (h:ClI w p2 g2 mb2 cap2 m2 d q wr) (hb:Below wr.heap.size wr wr'):ClI w p2 g2 mb2 cap2 m2 d q wr' :=
 h.chg (.ofBelow hb (fun _=>False)) (fun _ _ e=>e) (fun _ _ e=>e)
end
section
open Go.RowKit Go.Sort
structure RC (w:World) (g n:Nat) (F:Nat→Nat→Value):Prop where
 at_ : ∀ i j,i<n→j<3→w.cell? ⟨g,i * 3+j,none⟩=some (F i j)
 free : ∀ i j,i<n→j<3→w.frozen? ⟨g,i * 3+j,none⟩=false
 lt:g<w.heap.size
def upd (F:Nat→Nat→Value) (i j:Nat) (v:Value):Nat→Nat→Value:=fun a b=>if a=i∧b=j then v else F a b
section
variable {w w':World} {g n:Nat} {F G:Nat→Nat→Value}
theorem RC.congr (h:RC w g n F) (hFG : ∀ i j,i<n→j<3→F i j=G i j):RC w g n G:=⟨fun i j hi hj=>by rw [←hFG i j hi hj];exact h.at_ i j hi hj,h.free,h.lt⟩
theorem RC.set (h:RC w g n F) {i j:Nat} (hi:i<n) (hj:j<3) (v:Value):RC (w.setCell ⟨g,i * 3+j,none⟩ v) g n (upd F i j v):=by
 refine ⟨fun a b ha hb=>?_,fun a b ha hb=>by rw [World.frozen?_setCell];exact h.free a b ha hb,by simpa [World.setCell] using h.lt⟩
 unfold upd
 by_cases e:a=i∧b=j
 · obtain ⟨rfl,rfl⟩:=e
   rw [if_pos ⟨rfl,rfl⟩]
   exact World.cell?_setCell_same w _ _ (h.at_ a b ha hb)
 · rw [if_neg e,World.cell?_setCell_other w _ _ _ (fun he=>by
    injection he with h1 h2 h3
    exact e (by omega))]
   exact h.at_ a b ha hb
theorem RC.of_heap (h:RC w g n F) (he:w'.heap[g]? = w.heap[g]?) (hs:w.heap.size≤w'.heap.size):RC w' g n F :=
 ⟨fun i j hi hj=>(cell_of_heap he _).trans (h.at_ i j hi hj),fun i j hi hj=>(frozen_of_heap he _).trans (h.free i j hi hj),Nat.lt_of_lt_of_le h.lt hs⟩
theorem RC.chg {S:Nat→Prop} (h:RC w g n F) (hc:Chg S w w') (hn : ¬S g):RC w' g n F:=h.of_heap (hc.block g h.lt hn) hc.size
end
section
variable {w w':World} {q g cap:Nat} {d:Dk}
end
end
section
open Go.RowKit Go.Sort
theorem Sl.put {w:World} {b:Nat} {xs:List Int} {i:Nat} (h:Sl w .u8 (some ⟨b,0,none⟩) xs) (hi:i<xs.length) (z:Int):Sl (w.setCell ⟨b,i,none⟩ (.int .u8 z)) .u8 (some ⟨b,0,none⟩) (xs.set i z):=by
 intro j x hx
 refine ⟨b,0,rfl,?_⟩
 rw [Nat.zero_add]
 rw [List.getElem?_set] at hx
 by_cases e:i=j
 · subst e
   rw [if_pos rfl,if_pos hi] at hx
   injection hx with hx
   subst hx
   obtain ⟨_,_,he,hc⟩:=h i _ (List.getElem?_eq_getElem hi)
   simp only [Option.some.injEq,Addr.mk.injEq,and_true] at he
   obtain ⟨rfl,rfl⟩:=he
   rw [Nat.zero_add] at hc
   exact World.cell?_setCell_same w _ _ hc
 · rw [if_neg e] at hx
   obtain ⟨_,_,he,hc⟩:=h j _ hx
   simp only [Option.some.injEq,Addr.mk.injEq,and_true] at he
   obtain ⟨rfl,rfl⟩:=he
   rw [Nat.zero_add] at hc
   rw [World.cell?_setCell_other w _ _ _ (fun he=>by injection he with h1 h2 h3;exact e h2)]
   exact hc
end
section
open Go.RowKit Go.Sort
theorem write_any (w:World) (p g mb cap m:Nat) (d:Dk) (h:DkIs w p g mb cap m d) (hm:m<1000000) (i at_:Int) (s:List Int) (hs:Byt s) (hl:s.length≤300) (hat : -9223372036854775808≤at_∧at_≤9223372036854775807) :
 Calls Tryd.prog 67 #[.pointer (some ⟨p,0,none⟩),.int .i64 i,.int .i64 at_,.string (strOfNums s)] w (WritePost p g mb cap (m+1) w (d.write i at_ s).1 (d.write i at_ s).2):=by
 unfold Dk.write eDown eArg
 by_cases ho:d.off=true
 · rw [if_pos ho]
   have:=write_bad w p g mb cap m d h i at_ s hl hat (.inl ho)
   rw [if_pos ho] at this
   exact this.mono fun e w' ⟨h1,h2,h3⟩=>⟨h1,h2.mono (by omega),h3⟩
 · rw [if_neg ho]
   by_cases hb:(d.is i && decide (0≤at_) && decide (at_≤128) && decide ((s.length:Int)≤128 - at_))=false
   · rw [if_pos hb]
     have:=write_bad w p g mb cap m d h i at_ s hl hat (.inr hb)
     rw [if_neg ho] at this
     exact this.mono fun e w' ⟨h1,h2,h3⟩=>⟨h1,h2.mono (by omega),h3⟩
   · rw [if_neg hb]
     rw [Bool.not_eq_false] at hb
     simp only [Bool.and_eq_true,decide_eq_true_eq] at hb
     obtain ⟨⟨⟨hi,h0⟩,h1⟩,h2⟩:=hb
     obtain ⟨k,x,rfl,hx⟩:=is_at hi
     obtain ⟨j,rfl⟩:=Int.eq_ofNat_of_zero_le h0
     have hof:d.off=false:=by simpa using ho
     by_cases hst:d.step.2=false
     · rw [if_pos hst]
       exact (write_down w p g mb cap m d h k j s hof hi (by omega) hst).mono fun e w' ⟨h1,h2,h3⟩=>⟨h1,h2.mono (by omega),h3⟩
     · rw [if_neg hst]
       have:=write_ok w p g mb cap m d h hm k j x hx s hs hof (by omega) (by simpa using hst)
       rw [step_p] at this
       exact this
theorem flush_any (w:World) (p g mb cap m:Nat) (d:Dk) (h:DkIs w p g mb cap m d) :
 Calls Tryd.prog 43 #[.pointer (some ⟨p,0,none⟩)] w (WritePost p g mb cap m w d.flush.1 d.flush.2):=by
 unfold Dk.flush eDown
 by_cases ho:d.off=true
 · rw [if_pos ho];exact flush_off w p g mb cap m d h ho
 · rw [if_neg ho]
   have hof:d.off=false:=by simpa using ho
   by_cases hst:d.step.2=false
   · rw [if_pos hst];exact flush_down w p g mb cap m d h hof hst
   · rw [if_neg hst]
     have:=flush_ok w p g mb cap m d h hof (by simpa using hst)
     rw [step_p] at this
     exact this
structure Opn where
 kind:Int
 i:Int
 at_:Int
 text:List Int
 a:Option Addr
 c:Nat
 picks:List Int
def Opn.v (x:Opn):Value:=.agg #[.int .i64 x.kind,.int .i64 x.i,.int .i64 x.at_,.string (strOfNums x.text),.slice x.a x.picks.length x.c]
theorem Chg.after {S:Nat→Prop} {w w1 w':World} {B:Nat} (hb:Below B w w1) (hB:B=w.heap.size) (h:Chg S w1 w'):Chg S w w':=by
 subst hB
 exact (Chg.ofBelow hb S).trans h (fun _ _ e=>e)
end
section
open Go.RowKit Go.Sort Go.Maps
def PS (w:World) (pp dp N:Nat) (bv:Value) (cl:Bool):Prop:=Bk w pp #[.pointer (some ⟨dp,0,none⟩),.int .i64 (N:Int),bv,.bool cl] 81
theorem PS.later {w w':World} {pp dp N:Nat} {bv:Value} {cl:Bool} (h:PS w pp dp N bv cl) (hb:Below w.heap.size w w'):PS w' pp dp N bv cl:=Bk.later h hb
theorem read_byts {d:Dk} (h:DkOk d) (i:Int):Byts (d.read i).1∧(d.read i).1.length≤128:=by
 unfold Dk.read
 split
 · exact ⟨(fun x hx=>by cases hx),Nat.zero_le _⟩
 · split
   · exact ⟨(fun x hx=>by cases hx),Nat.zero_le _⟩
   · cases e:d.p[i.toNat]? with
     | none=>exact ⟨(fun x hx=>by cases hx),Nat.zero_le _⟩
     | some x =>
       have:=(h.pages x (List.mem_of_getElem? e)).now
       exact ⟨this.2,by show x.now.length≤128;omega⟩
def readP (d:Dk) (cl:Bool) (i:Int):List Int × Int :=
 if cl=true then ([],20) else if i<0∨(d.p.length:Int) - 17≤i then ([],1) else if (d.read (17+i)).2 ≠ 0 then ([],(d.read (17+i)).2) else if goodP (d.read (17+i)).1 then (dataP (d.read (17+i)).1,0) else ([],7)
set_option maxRecDepth 100000 in
set_option maxHeartbeats 1000000 in
theorem plen_any (w:World) (pp dp N g mb cap m:Nat) (bv:Value) (cl:Bool) (d:Dk) (hp:PS w pp dp N bv cl) (h:DkIs w dp g mb cap m d) :
 Calls Tryd.prog 26 #[.pointer (some ⟨pp,0,none⟩)] w fun e w'=>e = .returned (.int .i64 ((d.p.length:Int) - 17))∧w=w':=by
 have c0:=hp.cell 0 rfl
 have hl:=Bx.mk (dklen_any w dp g mb cap m d h)
 have hf:=h.ok.few
 have e1:IntKind.i64.wrap ((d.p.length:Int) - 17)=(d.p.length:Int) - 17:=IntWalk.i64_in _ (by omega)
 clear hp h
 go_enter Tryd.func26,Tryd.ntmps26
 go_wp2_with fail
 refine hl.out.mono ?_
 rintro _ _ ⟨rfl,rfl⟩
 go_wp2_with fail
 go_ret
 exact ⟨rfl,rfl⟩
set_option maxRecDepth 100000 in
set_option maxHeartbeats 2000000 in
theorem pread_any (w:World) (pp dp N g mb cap m:Nat) (bv:Value) (cl:Bool) (d:Dk) (hp:PS w pp dp N bv cl) (h:DkIs w dp g mb cap m d) (i:Int) (hi : -9223372036854775808≤i∧i≤9223372036854775807) :
 Calls Tryd.prog 27 #[.pointer (some ⟨pp,0,none⟩),.int .i64 i] w fun e w'=>e = .returned (.tuple #[.string (strOfNums (readP d cl i).1),.int .i64 (readP d cl i).2])∧Below w.heap.size w w':=by
 have c0:=hp.cell 0 rfl
 have c3:=hp.cell 3 rfl
 have hl:=Bx.mk (plen_any w pp dp N g mb cap m bv cl d hp h)
 have hr:=Bx.mk (read_any w dp g mb cap m d h (17+i))
 have hf:=h.ok.few
 have hbb:=read_byts h.ok (17+i)
 have hu:=Bx.mk fun W=>unseal_any (d.read (17+i)).1 hbb.1 (by omega) W
 clear hp h hbb
 obtain ⟨n,hn⟩ : ∃ n:Int,n=(d.p.length:Int) - 17:=⟨_,rfl⟩
 cases cl with
 | true =>
   have hv:readP d true i=([],20):=rfl
   rw [hv]
   clear hl hr hu hn hv
   go_enter Tryd.func27,Tryd.ntmps27
   go_wp2_with fail
   go_ret2
   exact ⟨rfl,Below.refl _ _⟩
 | false =>
   unfold readP
   rw [if_neg (by decide),←hn]
   rw [←hn] at hl
   by_cases h0:i<0
   · have t0:decide (i<0)=true:=by simpa using h0
     rw [if_pos (.inl h0)]
     clear hl hr hu hn
     go_enter Tryd.func27,Tryd.ntmps27
     go_wp2_with fail
     go_ret2
     exact ⟨rfl,Below.refl _ _⟩
   · have t0:decide (i<0)=false:=by simpa using h0
     by_cases h1:n≤i
     · have t1:decide (i ≥ n)=true:=by simpa using h1
       rw [if_pos (.inr h1)]
       clear hr hu hn
       go_enter Tryd.func27,Tryd.ntmps27
       go_wp2_with fail
       refine hl.out.mono ?_
       rintro _ _ ⟨rfl,rfl⟩
       go_wp2_with fail
       go_ret2
       exact ⟨rfl,Below.refl _ _⟩
     · have t1:decide (i ≥ n)=false:=by simpa using h1
       rw [if_neg (by omega)]
       have e1:IntKind.i64.wrap (17+i)=17+i:=IntWalk.i64_in _ (by omega)
       obtain ⟨q,hq⟩ : ∃ q,q=17+i:=⟨_,rfl⟩
       rw [←hq] at hr hu e1 ⊢
       replace e1:IntKind.i64.wrap (17+i)=q:=by rw [hq] at e1 ⊢; exact e1
       clear hq hn h0 h1 hi
       generalize hrr:d.read q=r at *
       obtain ⟨s,er⟩:=r
       clear hrr
       simp only at hr hu ⊢
       unfold unV at hu
       by_cases h2:er=0
       · subst h2
         rw [if_neg (by simp)]
         by_cases hg:goodP s
         · rw [if_pos hg]
           rw [decide_eq_true hg] at hu
           have hd:datOf s=dataP s:=by unfold datOf;rw [if_pos hg]
           rw [hd] at hu
           clear hg hd
           go_enter Tryd.func27,Tryd.ntmps27
           go_wp2_with fail
           refine hl.out.mono ?_
           rintro _ _ ⟨rfl,rfl⟩
           go_wp2_with fail
           refine hr.out.mono ?_
           rintro _ w1 ⟨rfl,hb1⟩
           have HB1:=Bx.mk hb1
           clear hb1 c0 c3
           go_wp2_with fail
           refine (hu.out _).mono ?_
           rintro _ w2 ⟨rfl,hb2⟩
           have HB2:=Bx.mk (HB1.out.trans (hb2.mono HB1.out.size))
           clear hb2
           go_wp2_with fail
           go_ret2
           exact ⟨rfl,HB2.out⟩
         · rw [if_neg hg]
           rw [decide_eq_false hg] at hu
           clear hg
           go_enter Tryd.func27,Tryd.ntmps27
           go_wp2_with fail
           refine hl.out.mono ?_
           rintro _ _ ⟨rfl,rfl⟩
           go_wp2_with fail
           refine hr.out.mono ?_
           rintro _ w1 ⟨rfl,hb1⟩
           have HB1:=Bx.mk hb1
           clear hb1 c0 c3
           go_wp2_with fail
           refine (hu.out _).mono ?_
           rintro _ w2 ⟨rfl,hb2⟩
           have HB2:=Bx.mk (HB1.out.trans (hb2.mono HB1.out.size))
           clear hb2
           go_wp2_with fail
           go_ret2
           exact ⟨rfl,HB2.out⟩
       · rw [if_pos h2]
         have n1:(er != 0)=true:=by simpa using h2
         have n2:(er == 0)=false:=by simpa using h2
         clear h2 hu
         go_enter Tryd.func27,Tryd.ntmps27
         go_wp2_with fail
         refine hl.out.mono ?_
         rintro _ _ ⟨rfl,rfl⟩
         go_wp2_with fail
         refine hr.out.mono ?_
         rintro _ w1 ⟨rfl,hb1⟩
         have HB1:=Bx.mk hb1
         clear hb1 c0 c3
         go_wp2_with fail
         go_ret2
         exact ⟨rfl,HB1.out⟩
end
end Go.Proofs.YtajhkncolbgkbaaDoor
