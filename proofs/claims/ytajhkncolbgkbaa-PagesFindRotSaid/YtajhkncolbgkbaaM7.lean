/- Prd, Ptg, Pen: joined by program, for one claim. -/
import Derived.Test.YtajhkncolbgkbaaM6
import Derived.Sort.OwnSortedInts
set_option linter.unusedVariables false
set_option linter.unusedSimpArgs false
namespace Go.Proofs.Ytajhkncolbgkbaa
section
open Go.RowKit Go.Sort Go.Maps
def two (x:Nat):List Int:=[((x % 256:Nat):Int),((x / 256 % 256:Nat):Int)]
def recG (l:List Nat) (k:Nat):List Int:=((l.length % 256:Nat):Int)::(l.take k).flatMap two
theorem recG_len {l:List Nat} {k:Nat} (h:k≤l.length):(recG l k).length=1+2 * k:=by
 have : ∀ m:List Nat,(m.flatMap two).length=2 * m.length:=fun m=>by
  induction m with
  | nil=>rfl
  | cons x m ih=>rw [List.flatMap_cons,List.length_append,ih,List.length_cons];simp [two];omega
 unfold recG
 rw [List.length_cons,this,List.length_take];omega
theorem recG_succ {l:List Nat} {k x:Nat} (h:l[k]? = some x):recG l k++two x=recG l (k+1):=by
 have hk:k<l.length:=(List.getElem?_eq_some_iff.1 h).1
 unfold recG
 rw [List.take_succ_eq_append_getElem hk,List.flatMap_append,List.cons_append]
 rw [List.getElem?_eq_getElem hk] at h
 rw [Option.some.inj h];simp
theorem recG_rec (l:List Nat):recG l l.length++zerosP (115 - 2 * l.length)=recP l:=by
 unfold recG recP
 rw [List.take_of_length_le (Nat.le_refl _)];rfl
set_option maxRecDepth 100000 in
set_option maxHeartbeats 1000000 in
theorem record_any (a:Option Addr) (cap:Nat) (l:List Nat) (hl:l.length≤57) (hx : ∀ x∈l,x<65536) (w:World) (hs:Sl w .i64 a (l.map fun (x:Nat)=>(x:Int))) :
 Calls Try.prog 45 #[.slice a l.length cap] w fun e w'=>e = .returned (.string (strOfNums (recP l)))∧Below w.heap.size w w':=by
 obtain ⟨n,hn⟩ : ∃ n,n=l.length:=⟨_,rfl⟩
 have f1:IntKind.u8.wrap ((n:Nat):Int)=((n % 256:Nat):Int):=by rw [IntKind.wrap_u8];omega
 obtain ⟨n8,hn8⟩ : ∃ x:Int,x=((n % 256:Nat):Int):=⟨_,rfl⟩
 rw [←hn8] at f1
 have hsl1:Sl (w.alloc (.cells #[.int .u8 n8] 5)) .u8 (some ⟨w.heap.size,0,none⟩) [n8]:=fun i x hx=>⟨w.heap.size,0,rfl,by
  have hk:Bk (w.alloc (.cells #[.int .u8 n8] 5)) w.heap.size #[.int .u8 n8] 5:=Bk.new _ _ _
  rw [Nat.zero_add]
  match i,hx with
  | 0,hx=>obtain rfl:=Option.some.inj hx;exact hk.cell 0 rfl
  | i+1,hx=>cases hx⟩
 have hcv:=conv_str (P:=Try.prog) 66 5 9 Try.underlying66 Try.underlying5 Try.underlying9 hsl1 1 1 rfl
 have hr0:[n8]=recG l 0:=by unfold recG;rw [List.take_zero,hn8,hn];rfl
 rw [hr0] at hcv
 have hby:Bx (∀ (x:Nat) W,Calls Try.prog 33 #[.int .i64 (x:Int),.int .i64 2] W fun e w'=>e = .returned (.string (strOfNums (two x)))∧Below W.heap.size W w'):=⟨fun x W=>by
  have:=bytes_any x 2 (by decide) W
  rwa [bytes_two] at this⟩
 have HS:=Bx.mk hs
 have HX:=Bx.mk hx
 have Hn:=Bx.mk hn
 obtain ⟨q,hq⟩ : ∃ q:Nat,q=115 - 2 * n:=⟨_,rfl⟩
 obtain ⟨z,hz⟩ : ∃ z:Nat,z=1+2 * n:=⟨_,rfl⟩
 have hbl:=Bx.mk fun W=>blank_any q (by omega) W
 have hfin:Bx (strOfNums (recG l n)++strOfNums (zerosP q)=strOfNums (recP l)):=⟨by rw [str_append,hq,hn,recG_rec]⟩
 have zfin:Bx ((strOfNums (zerosP q)).size=q):=⟨by rw [strOfNums_size];simp [zerosP]⟩
 have zn:Bx ((strOfNums (recG l n)).size=z):=⟨by rw [strOfNums_size,recG_len (by omega),hz]⟩
 have ez:Bx (IntKind.i64.wrap (116 - (z:Int))=(q:Int)):=⟨by rw [show 116 - (z:Int)=(q:Int) by omega];exact IntWalk.i64_in _ (by omega)⟩
 have lz:Bx (z≤200∧q≤200):=⟨by omega⟩
 rw [←hn] at hl
 rw [←hn]
 clear hsl1 hr0 hn8 hs hx hn hq hz
 go_enter Try.func45,Try.ntmps45
 go_wp2_with fail
 clear hcv f1
 go_loopw [3,13] (fun v3 v13 wr => ∃ k:Nat,k≤n∧v13 = .int .i64 k∧v3 = .string (strOfNums (recG l k))∧Bx (Below w.heap.size w wr)) (fun _ i _=>n - (intOf i).toNat)
 case atStart=>exact ⟨0,Nat.zero_le _,rfl,rfl,⟨(Below.refl _ _).alloc (Nat.le_refl _) _⟩⟩
 case round =>
  obtain ⟨k,hk,rfl,rfl,HW⟩:=hrel
  by_cases hlt:k<n
  · have t0:decide ((k:Int)<(n:Int))=true:=by simp;omega
    have hkl:k<l.length:=by rw [←Hn.out];exact hlt
    obtain ⟨x,hx⟩ : ∃ x,l[k]? = some x:=⟨_,List.getElem?_eq_getElem hkl⟩
    obtain ⟨b,off,rfl,hc⟩:=HS.out k (x:Int) (by rw [List.getElem?_map,hx];rfl)
    have c0:=cell_later HW.out hc
    have hadd:strOfNums (recG l k)++strOfNums (two x)=strOfNums (recG l (k+1)):=by rw [str_append,recG_succ hx]
    have z1:(strOfNums (recG l k)).size=1+2 * k:=by rw [strOfNums_size,recG_len (by omega)]
    have z2:(strOfNums (two x)).size=2:=by rw [strOfNums_size];rfl
    have hb:=Bx.mk (hby.out x)
    have b1:(0:Int)≤(k:Int):=by omega
    have b2:(k:Int)<(n:Int):=by omega
    clear hx hc hkl
    obtain ⟨S2,hS2⟩ : ∃ S2,S2=strOfNums (recG l (k+1)):=⟨_,rfl⟩
    rw [←hS2] at hadd
    have HS2:=Bx.mk hS2
    clear hS2
    generalize strOfNums (recG l k)=S1 at *
    generalize strOfNums (two x)=S0 at *
    go_wp2_with fail
    refine (hb.out _).mono ?_
    rintro _ w2 ⟨rfl,hw2⟩
    have HB2:=Bx.mk (HW.out.trans (hw2.mono HW.out.size))
    clear hw2 hb c0
    go_wp2_with fail
    go_roundw
    case rel=>exact ⟨k+1,by omega,by go_num,by rw [←HS2.out],HB2⟩
    case measure=>simp [intOf];omega
  · obtain rfl:k=n:=by omega
    have t0:decide ((k:Int)<(k:Int))=false:=by simp
    have hf:=hfin.out
    have z1:=zn.out
    have z2:=zfin.out
    have e1:=ez.out
    obtain ⟨l1,l2⟩:=lz.out
    generalize strOfNums (recG l k)=S1 at *
    generalize strOfNums (zerosP q)=S0 at *
    clear hby HS HX hfin zn zfin ez lz
    go_wp2_with fail
    refine (hbl.out _).mono ?_
    rintro _ w2 ⟨rfl,hw2⟩
    have HB2:=Bx.mk (HW.out.trans (hw2.mono HW.out.size))
    clear hw2 hbl
    go_wp2_with fail
    go_ret
    exact ⟨by first | rfl | rw [hf],HB2.out⟩
end
section
open Go.RowKit Go.Sort Go.Maps
def ints64 (l:List Nat):List Int:=l.map fun (x:Nat)=>(x:Int)
theorem ints64_len (l:List Nat):(ints64 l).length=l.length:=by simp [ints64]
theorem ints64_snoc (l:List Nat) (x:Nat):ints64 l++[(x:Int)]=ints64 (l++[x]):=by simp [ints64]
theorem word2_lt {D:List Int} (h:Byts D) (j:Nat):word2 D j<65536:=by
 have key : ∀ i,(D.getD i 0).toNat≤255:=fun i=>by
  rw [List.getD_eq_getElem?_getD]
  cases e:D[i]? with
  | none=>simp
  | some x=>have:=h x (List.mem_of_getElem? e);simp;omega
 have h1:=key (1+2 * j)
 have h2:=key (2+2 * j)
 unfold word2;omega
theorem tg_step {im:List (List Int)} {t:Nat} {D:List Int} {j:Nat} {ls:List Nat} (h:tgGo im t D j=some ls) :
 tgGo im t D (j+1)=if goodP (im.getD (1+j) [])∧numP (im.getD (1+j) [])=t∧word2 D j+17<im.length∧(0<j→ls.getD (j - 1) 0<word2 D j) then some (ls++[word2 D j]) else none:=by
 show (match tgGo im t D j with | none=>none | some l=>_)=_
 rw [h]
theorem tg_stay {im:List (List Int)} {t:Nat} {D:List Int} {j:Nat} (h:tgGo im t D j=none) : ∀ k,j≤k→tgGo im t D k=none
 | 0, hk => by obtain rfl : j = 0 := by omega
               exact h
 | k + 1, hk => by
   by_cases e:j=k+1
   · rw [←e];exact h
   · show (match tgGo im t D k with | none=>none | some l=>_)=none
     rw [tg_stay h k (by omega)]
theorem tg_small {im:List (List Int)} {t:Nat} {D:List Int} (hD:Byts D) : ∀ {k:Nat} {l:List Nat},tgGo im t D k=some l → ∀ x∈l,x<65536
 | 0,l,h=>by simp only [tgGo,Option.some.injEq] at h;subst h;intro x hx;cases hx
 | k + 1, l, h => by
   cases e:tgGo im t D k with
   | none=>rw [tg_stay e (k+1) (by omega)] at h;cases h
   | some ls =>
     rw [tg_step e] at h
     split at h
     · simp only [Option.some.injEq] at h;subst h
       intro x hx
       rcases List.mem_append.1 hx with hx | hx
       · exact tg_small hD e x hx
       · rw [List.mem_singleton.1 hx];exact word2_lt hD k
     · cases h
set_option maxRecDepth 100000 in
set_option maxHeartbeats 4000000 in
theorem targets_any (a:Option Addr) (cap:Nat) (im:List (List Int)) (h17:17<im.length) (hle:im.length≤5000) (hp : ∀ x∈im,x.length=128∧Byts x) (w:World) (hs:Slv w a (strs im)) :
 Calls Try.prog 38 #[.slice a im.length cap] w fun e w' => ∃ v,e = .returned v∧Own w' w.heap.size 3 .i64 v (ints64 (targetsP im))∧Below w.heap.size w w':=by
 have hat : ∀ i,i<im.length → ∃ p,im[i]? = some p∧im.getD i []=p∧p.length=128∧Byts p:=fun i hi=>by
  have h1:=List.getElem?_eq_getElem hi
  refine ⟨_,h1,by rw [List.getD_eq_getElem?_getD,h1];rfl,(hp _ (List.getElem_mem hi)).1,(hp _ (List.getElem_mem hi)).2⟩
 obtain ⟨p0,hp0,hg0,hl0,hb0⟩:=hat 0 (by omega)
 obtain ⟨b,off,rfl,hc0⟩:=hs 0 _ (strs_at hp0)
 rw [Nat.add_zero] at hc0
 have HS:=Bx.mk fun W (hb:Below w.heap.size w W) i q (hq:im[i]? = some q)=>(show W.cell? ⟨b,off+i,none⟩=some (.string (strOfNums q)) by
  obtain ⟨b',off',e,hc⟩:=hs i _ (strs_at hq)
  simp only [Option.some.injEq,Addr.mk.injEq,and_true] at e
  obtain ⟨rfl,rfl⟩:=e
  exact cell_later hb hc)
 have hu0:=Bx.mk fun W=>unseal_any p0 hb0 (by omega) W
 have HAT:=Bx.mk hat
 have Hp:=Bx.mk hp
 obtain ⟨nl,hnl⟩ : ∃ n,n=im.length:=⟨_,rfl⟩
 have HNL:=Bx.mk hnl
 rw [←hnl] at h17 hle ⊢
 have b0:(0:Int)<(nl:Int):=by omega
 have TP:targetsP im=if numOf p0=0∨logK im<1∨16<logK im then [] else match tgGo im (numOf p0) (dataP p0) (logK im) with
  | none=>[]
  | some l=>if recP l=dataP p0 then l else []:=by unfold targetsP;rw [hg0];rfl
 clear hat hs hp hnl
 unfold unV at hu0
 by_cases hg:goodP p0
 · have hk:logK im=((dataP p0).getD 0 0).toNat:=by unfold logK;rw [hg0,if_pos hg]
   have hno:numOf p0=numP p0:=by unfold numOf;rw [if_pos hg]
   have hdo:datOf p0=dataP p0:=by unfold datOf;rw [if_pos hg]
   rw [hno,hdo,decide_eq_true hg] at hu0
   rw [hno,hk] at TP
   have hDl:(dataP p0).length=116:=by unfold dataP;simp [hl0]
   have hDb:Byts (dataP p0):=fun x hx=>hb0 x (List.mem_of_mem_drop (List.mem_of_mem_take hx))
   generalize dataP p0=D at *
   generalize numP p0=t at *
   obtain ⟨k0,hk0⟩ : ∃ x,D[0]? = some x:=⟨_,List.getElem?_eq_getElem (by omega)⟩
   have hkb:=hDb k0 (List.mem_of_getElem? hk0)
   have hkd:D.getD 0 0=k0:=by rw [List.getD_eq_getElem?_getD,hk0];rfl
   rw [hkd] at TP
   obtain ⟨kN,rfl⟩:=Int.eq_ofNat_of_zero_le hkb.1
   have hix : ∀ W:World,(Instr.index 9 (.string (strOfNums D)) (.int .i64 0)).run Try.prog W = .ok (.int .u8 (kN:Int)) W:=fun W=>idx_str (P:=Try.prog) 9 Try.underlying9 hDb hk0 W
   have f8:IntKind.i64.wrap (kN:Int)=(kN:Int):=IntWalk.i64_in _ (by omega)
   simp only [Int.toNat_natCast] at TP
   clear hk hno hdo hkd hk0 hg
   have HTP:=Bx.mk TP
   clear TP hb0 hl0
   by_cases hbad:t=0∨kN<1∨16<kN
   · have e:Bx (targetsP im=[]):=⟨by rw [HTP.out,if_pos hbad]⟩
     clear hDb hDl hkb
     rcases Nat.eq_zero_or_pos t with ht | ht
     · subst ht
       go_enter Try.func38,Try.ntmps38
       go_wp2_with fail
       refine (hu0.out _).mono ?_
       rintro _ w1 ⟨rfl,hb1⟩
       have HB1:=Bx.mk hb1
       clear hb1 hc0
       have t1:(((0:Nat):Int) == 0)=true:=by decide
       go_wp2_with fail
       go_ret
       exact ⟨_,rfl,by rw [e.out];exact Own.nil _ _ _ _,HB1.out⟩
     · have t1:((t:Int) == 0)=false:=by simp;omega
       have t1b : ¬(t:Int)=0:=by omega
       by_cases h1:kN<1
       · have t2:decide ((kN:Int)<1)=true:=by simp;omega
         have t2b:decide (kN=0)=true:=by simp;omega
         have t2c:kN=0:=by omega
         go_enter Try.func38,Try.ntmps38
         go_wp2_with fail
         refine (hu0.out _).mono ?_
         rintro _ w1 ⟨rfl,hb1⟩
         have HB1:=Bx.mk hb1
         clear hb1 hc0
         go_wp2_with fail
         go_ret
         exact ⟨_,rfl,by rw [e.out];exact Own.nil _ _ _ _,HB1.out⟩
       · have h2:16<kN:=by omega
         have t2:decide ((kN:Int)<1)=false:=by simp;omega
         have t2c : ¬kN=0:=by omega
         have t3:decide ((kN:Int) > 16)=true:=by simp;omega
         have t3b:decide (16<kN)=true:=by simp;omega
         go_enter Try.func38,Try.ntmps38
         go_wp2_with fail
         refine (hu0.out _).mono ?_
         rintro _ w1 ⟨rfl,hb1⟩
         have HB1:=Bx.mk hb1
         clear hb1 hc0
         go_wp2_with fail
         go_ret
         exact ⟨_,rfl,by rw [e.out];exact Own.nil _ _ _ _,HB1.out⟩
   · have hT:Bx (targetsP im=match tgGo im t D kN with
      | none=>[]
      | some l=>if recP l=D then l else []):=⟨by rw [HTP.out,if_neg hbad]⟩
     have ht:0<t∧1≤kN∧kN≤16:=by omega
     obtain ⟨ht1,hk1,hk16⟩:=ht
     clear HTP hbad hkb
     have t1:((t:Int) == 0)=false:=by simp;omega
     have t1b : ¬(t:Int)=0:=by omega
     have t2:decide ((kN:Int)<1)=false:=by simp;omega
     have t2c : ¬kN=0:=by omega
     have t3:decide ((kN:Int) > 16)=false:=by simp;omega
     have t3b:decide (16<kN)=false:=by simp;omega
     have hDz:(strOfNums D).size=116:=by rw [strOfNums_size,hDl]
     have HD:=Bx.mk hDb
     have HDl:=Bx.mk hDl
     clear hDb hDl
     go_enter Try.func38,Try.ntmps38
     go_wp2_with fail
     refine (hu0.out _).mono ?_
     rintro _ w1 ⟨rfl,hb1⟩
     have HB1:=Bx.mk hb1
     clear hb1 hc0 hu0
     go_wp2_with fail
     clear t1 t1b t2 t2c t3 t3b hix f8
     go_loopw [2,35] (fun v2 v35 wr => ∃ (j:Nat) (ls:List Nat),j≤kN∧v35 = .int .i64 j∧Bx (tgGo im t D j=some ls)∧Bx (Own wr w.heap.size 3 .i64 v2 (ints64 ls))∧Bx (Below w.heap.size w wr)) (fun _ i _=>kN - (intOf i).toNat)
     case atStart=>exact ⟨0,[],Nat.zero_le _,rfl,⟨rfl⟩,⟨Own.nil _ _ _ _⟩,HB1⟩
     case round =>
      clear HB1
      obtain ⟨j,ls,hj,rfl,HG,HO,HW⟩:=hrel
      by_cases hlt:j<kN
      · have t0:decide ((j:Int)<(kN:Int))=true:=by simp;omega
        have t0b:decide (j<kN)=true:=by simpa using hlt
        obtain ⟨pj,hpj,hgj,hlj,hbj⟩:=HAT.out (1+j) (by rw [←HNL.out];omega)
        have c1:=HS.out wr HW.out (1+j) pj hpj
        have hst:=Bx.mk (tg_step HG.out)
        rw [hgj] at hst
        have hll:=Bx.mk (tg_len HG.out)
        obtain ⟨y2,hy2⟩ : ∃ y:Int,y=2 * (j:Int):=⟨_,rfl⟩
        obtain ⟨lo,hlo⟩ : ∃ n:Nat,n=1+2 * j:=⟨_,rfl⟩
        obtain ⟨hi,hhi⟩ : ∃ n:Nat,n=3+2 * j:=⟨_,rfl⟩
        have e1:IntKind.i64.wrap (2 * (j:Int))=y2:=by rw [hy2];exact IntWalk.i64_in _ (by omega)
        have e2:IntKind.i64.wrap (1+y2)=(lo:Int):=by rw [hlo,hy2,show (1+2 * (j:Int))=((1+2 * j:Nat):Int) by omega];exact IntWalk.i64_in _ (by omega)
        have e3:IntKind.i64.wrap (3+y2)=(hi:Int):=by rw [hhi,hy2,show (3+2 * (j:Int))=((3+2 * j:Nat):Int) by omega];exact IntWalk.i64_in _ (by omega)
        have hnb:=Bx.mk fun W=>number_any ((D.drop lo).take 2) (fun x hx=>HD.out x (List.mem_of_mem_drop (List.mem_of_mem_take hx))) (by simp;omega) W
        have hwd:numK ((D.drop lo).take 2)=word2 D j:=by rw [numK_two (by rw [HDl.out];omega),hlo];unfold word2;rw [show 1+2 * j+1=2+2 * j by omega]
        have hex:strOfNums ((D.drop lo).take 2)=(strOfNums D).extract lo hi:=by rw [str_extract,show hi - lo=2 by omega]
        rw [hwd,hex] at hnb
        have hxl:=word2_lt HD.out j
        have l1:lo≤100∧hi≤116∧lo≤hi:=by omega
        obtain ⟨l1,l2,l3⟩:=l1
        obtain ⟨i1,hi1⟩ : ∃ n:Nat,n=1+j:=⟨_,rfl⟩
        have e4:IntKind.i64.wrap (1+(j:Int))=(i1:Int):=by rw [hi1,show (1+(j:Int))=((1+j:Nat):Int) by omega];exact IntWalk.i64_in _ (by omega)
        have b1:(0:Int)≤(i1:Int):=by omega
        have b2:(i1:Int)<(nl:Int):=by omega
        rw [←hi1] at c1
        obtain ⟨q,hq⟩ : ∃ n:Nat,n=nl - 17:=⟨_,rfl⟩
        have e5:IntKind.i64.wrap ((nl:Int) - 17)=(q:Int):=by rw [show (nl:Int) - 17=(q:Int) by omega];exact IntWalk.i64_in _ (by omega)
        have hqx:Bx (word2 D j+17<im.length ↔ word2 D j<q):=⟨by rw [←HNL.out];omega⟩
        have huj:=Bx.mk fun W=>unseal_any pj hbj (by omega) W
        unfold unV at huj
        have Hgd:Bx (decide (goodP pj)=true ↔ goodP pj):=⟨by simp⟩
        have Hnm:Bx (goodP pj→numOf pj=numP pj):=⟨fun h=>by unfold numOf;rw [if_pos h]⟩
        generalize word2 D j=x at *
        generalize decide (goodP pj)=gj at *
        generalize strOfNums (datOf pj)=Sj at *
        have Hlt:=Bx.mk hlt
        have HT:Bx (tgGo im t D (j+1)=none→targetsP im=[]):=⟨fun h=>by rw [hT.out,tg_stay h kN (by have:=Hlt.out;omega)]⟩
        clear hgj hlj hbj hwd hex hy2 hlo hhi hi1 hq hpj hlt
        go_wp2_with fail
        refine (hnb.out _).mono ?_
        rintro _ w2 ⟨rfl,hb2⟩
        have HB2:=Bx.mk (HW.out.trans (hb2.mono HW.out.size))
        have HO2:=Bx.mk (HO.out.below hb2)
        have c1:=cell_later hb2 c1
        clear hb2 hnb HW HO e1 e2 e3 l1 l2 l3
        go_wp2_with fail
        refine (huj.out _).mono ?_
        rintro _ w3 ⟨rfl,hb3⟩
        have HB3:=Bx.mk (HB2.out.trans (hb3.mono HB2.out.size))
        have HO3:=Bx.mk (HO2.out.below hb3)
        clear hb3 huj HB2 HO2 c1 e4
        cases gj with
        | false =>
          have hn:Bx (targetsP im=[]):=⟨HT.out (by rw [hst.out,if_neg];intro h;have:=Hgd.out.2 h.1;cases this)⟩
          go_wp2_with fail
          go_ret
          exact ⟨_,rfl,by rw [hn.out];exact Own.nil _ _ _ _,HB3.out⟩
        | true =>
          have hgood:goodP pj:=Hgd.out.1 (by first | rfl | trivial)
          have hnm:=Hnm.out hgood
          rw [hnm]
          have HGood:=Bx.mk hgood
          clear hgood hnm Hnm Hgd
          by_cases hnt:numP pj=t
          · have n1:((numP pj:Int) != (t:Int))=false:=by rw [hnt];simp
            have Hnt:=Bx.mk hnt
            clear hnt
            generalize (numP pj:Int)=nj at *
            by_cases hxq:x<q
            · have n2:decide ((x:Int) ≥ (q:Int))=false:=by simp;omega
              have n2b:decide (q≤x)=false:=by simp;omega
              have Hxq:=Bx.mk hxq
              rcases Nat.eq_zero_or_pos j with hj0 | hj0
              · have n3:decide ((j:Int) > 0)=false:=by simp;omega
                have n3b:decide (0<j)=false:=by simp;omega
                have n3c:j=0:=hj0
                have hstp:tgGo im t D (j+1)=some (ls++[x]):=by rw [hst.out,if_pos ⟨HGood.out,Hnt.out,hqx.out.2 Hxq.out,fun h=>absurd h (by omega)⟩]
                have HST:=Bx.mk hstp
                clear hstp hxq
                have hown:=HO3.out
                have hB:=HB3.out
                have hln:(ints64 ls).length≤1000000000:=by rw [ints64_len,hll.out];omega
                have hle2:=hB.size
                go_wp2_with (first
                 | (at_builtin
                    refine wpList_append_int rfl _ _ 41 rfl 3 .i64 (.int .i64 0) 8 (by omega) Try.underlying41 (by kernel_rfl) rfl w.heap.size _ (ints64 ls) rfl (hown.alloc _) (x:Int) ⟨w3.heap.size,0,none⟩ 1 rfl (cell_new _ _ _) hln (le_alloc hle2 _) ?_
                    intro v1 w4 hown1 hg1 _))
                rw [ints64_snoc] at hown1
                have HO6:=Bx.mk hown1
                have HI6:=Bx.mk ((hB.alloc hle2 _).grown hg1 (le_alloc hle2 _) (fun g hg=>(hown.lt g hg).1))
                clear hown1 hg1 hown hB hln hle2
                go_roundw
                case rel=>exact ⟨j+1,ls++[x],by have:=Hlt.out;omega,by go_num,HST,HO6,HI6⟩
                case measure=>have:=Hlt.out;simp [intOf];omega
              · have n3:decide ((j:Int) > 0)=true:=by simp;omega
                have n3b:decide (0<j)=true:=by simp;omega
                obtain ⟨jm,hjm⟩ : ∃ n:Nat,n=j - 1:=⟨_,rfl⟩
                have e6:IntKind.i64.wrap ((j:Int) - 1)=(jm:Int):=by rw [show (j:Int) - 1=(jm:Int) by omega];exact IntWalk.i64_in _ (by omega)
                have hls:=hll.out
                obtain ⟨y,hy⟩ : ∃ y,ls[jm]? = some y:=⟨_,List.getElem?_eq_getElem (by omega)⟩
                have Hy:=Bx.mk (show ls.getD (j - 1) 0=y by rw [List.getD_eq_getElem?_getD,←hjm,hy];rfl)
                obtain ⟨g2,cap2,rfl,-,-,hcl,-,-⟩:=HO3.out.at (by rw [ints64_len,hls];exact hj0)
                have c2:=hcl jm (y:Int) (by unfold ints64;rw [List.getElem?_map,hy];rfl)
                have hl2:(ints64 ls).length=j:=by rw [ints64_len,hls]
                rw [hl2] at HO3 ⊢
                have b3:(0:Int)≤(jm:Int):=by omega
                have b4:(jm:Int)<(j:Int):=by omega
                have Hj0:=Bx.mk hj0
                clear hcl hl2 hjm hy hls hj0
                by_cases hyx:y<x
                · have n4:decide ((y:Int) ≥ (x:Int))=false:=by simp;omega
                  have n4b:decide (x≤y)=false:=by simp;omega
                  have Hyx:=Bx.mk hyx
                  clear hyx
                  have hstp:tgGo im t D (j+1)=some (ls++[x]):=by rw [hst.out,if_pos ⟨HGood.out,Hnt.out,hqx.out.2 Hxq.out,fun _=>by rw [Hy.out];exact Hyx.out⟩]
                  have HST:=Bx.mk hstp
                  clear hstp hxq
                  have hown:=HO3.out
                  have hB:=HB3.out
                  have hln:(ints64 ls).length≤1000000000:=by rw [ints64_len,hll.out];omega
                  have hle2:=hB.size
                  go_wp2_with (first
                   | (at_builtin
                      refine wpList_append_int rfl _ _ 41 rfl 3 .i64 (.int .i64 0) 8 (by omega) Try.underlying41 (by kernel_rfl) rfl w.heap.size _ (ints64 ls) rfl (hown.alloc _) (x:Int) ⟨w3.heap.size,0,none⟩ 1 rfl (cell_new _ _ _) hln (le_alloc hle2 _) ?_
                      intro v1 w4 hown1 hg1 _))
                  rw [ints64_snoc] at hown1
                  have HO6:=Bx.mk hown1
                  have HI6:=Bx.mk ((hB.alloc hle2 _).grown hg1 (le_alloc hle2 _) (fun g hg=>(hown.lt g hg).1))
                  clear hown1 hg1 hown hB hln hle2
                  go_roundw
                  case rel=>exact ⟨j+1,ls++[x],by have:=Hlt.out;omega,by go_num,HST,HO6,HI6⟩
                  case measure=>have:=Hlt.out;simp [intOf];omega
                · have n4:decide ((y:Int) ≥ (x:Int))=true:=by simp;omega
                  have n4b:decide (x≤y)=true:=by simp;omega
                  have Hyx:=Bx.mk hyx
                  have hn:Bx (targetsP im=[]):=⟨HT.out (by rw [hst.out,if_neg];intro h;have:=h.2.2.2 Hj0.out;rw [Hy.out] at this;exact Hyx.out this)⟩
                  clear hyx hxq
                  go_wp2_with fail
                  go_ret
                  exact ⟨_,rfl,by rw [hn.out];exact Own.nil _ _ _ _,HB3.out⟩
            · have n2:decide ((x:Int) ≥ (q:Int))=true:=by simp;omega
              have n2b:decide (q≤x)=true:=by simp;omega
              have Hxq:=Bx.mk hxq
              have hn:Bx (targetsP im=[]):=⟨HT.out (by rw [hst.out,if_neg];intro h;exact Hxq.out (hqx.out.1 h.2.2.1))⟩
              clear hxq
              go_wp2_with fail
              go_ret
              exact ⟨_,rfl,by rw [hn.out];exact Own.nil _ _ _ _,HB3.out⟩
          · have n1:((numP pj:Int) != (t:Int))=true:=by simp;omega
            have Hnt:=Bx.mk hnt
            have hn:Bx (targetsP im=[]):=⟨HT.out (by rw [hst.out,if_neg];intro h;exact Hnt.out h.2.1)⟩
            clear hnt
            go_wp2_with fail
            go_ret
            exact ⟨_,rfl,by rw [hn.out];exact Own.nil _ _ _ _,HB3.out⟩
      · obtain rfl:j=kN:=by omega
        have t0:decide ((j:Int)<(j:Int))=false:=by simp
        have t0b:decide (j<j)=false:=by simp
        obtain ⟨a2,c2,rfl,hsl⟩:=HO.out.form
        have hll:=tg_len HG.out
        have hrc:=Bx.mk (record_any a2 c2 ls (by omega) (tg_small HD.out HG.out) wr hsl)
        have hln:(ints64 ls).length=j:=by rw [ints64_len,hll]
        rw [hll] at hrc
        rw [hln] at HO ⊢
        have hTg:Bx (targetsP im=if recP ls=D then ls else []):=⟨by rw [hT.out,HG.out]⟩
        have hri:strOfNums (recP ls)=strOfNums D ↔ recP ls=D:=⟨fun e=>strOfNums_inj (rec_byts ls) HD.out e,fun e=>congrArg _ e⟩
        generalize strOfNums (recP ls)=Sr at *
        generalize strOfNums D=Sd at *
        clear hT hsl hll hln HAT HS Hp HNL HG
        by_cases hre:recP ls=D
        · have n5:(Sr.toList == Sd.toList)=true:=(strEq_iff _ _).2 (hri.2 hre)
          have hn:Bx (targetsP im=ls):=⟨by rw [hTg.out,if_pos hre]⟩
          clear hri hre hTg
          go_wp2_with fail
          refine hrc.out.mono ?_
          rintro _ w2 ⟨rfl,hb2⟩
          have HB2:=Bx.mk (HW.out.trans (hb2.mono HW.out.size))
          have HO2:=Bx.mk (HO.out.below hb2)
          clear hb2 hrc HO HW
          go_wp2_with fail
          go_ret
          exact ⟨_,rfl,by rw [hn.out];exact HO2.out,HB2.out⟩
        · have n5:(Sr.toList == Sd.toList)=false:=strNe fun e=>hre (hri.1 e)
          have hn:Bx (targetsP im=[]):=⟨by rw [hTg.out,if_neg hre]⟩
          clear hri hre hTg
          go_wp2_with fail
          refine hrc.out.mono ?_
          rintro _ w2 ⟨rfl,hb2⟩
          have HB2:=Bx.mk (HW.out.trans (hb2.mono HW.out.size))
          clear hb2 hrc HO HW
          go_wp2_with fail
          go_ret
          exact ⟨_,rfl,by rw [hn.out];exact Own.nil _ _ _ _,HB2.out⟩
 · have hno:numOf p0=0:=by unfold numOf;rw [if_neg hg]
   rw [hno,decide_eq_false hg] at hu0
   have e:Bx (targetsP im=[]):=⟨by rw [TP,if_pos (.inl hno)]⟩
   clear TP hno hg hb0 hl0
   go_enter Try.func38,Try.ntmps38
   go_wp2_with fail
   refine (hu0.out _).mono ?_
   rintro _ w1 ⟨rfl,hb1⟩
   have HB1:=Bx.mk hb1
   clear hb1 hc0
   have t1:(((0:Nat):Int) == 0)=true:=by decide
   go_wp2_with fail
   go_ret
   exact ⟨_,rfl,by rw [e.out];exact Own.nil _ _ _ _,HB1.out⟩
end
section
open Go.RowKit Go.Sort
def ints (l:List Nat):List Int:=l.map fun (n:Nat)=>(n:Int)
structure Col (p:List Pg) (L:Nat→Bool) (xs:List Nat):Prop where
 nodup:xs.Nodup
 mem : ∀ i,i∈xs ↔ i<p.length∧isPend p i=true∧L i=false
theorem col_start (p:List Pg):Col p (fun i=>(p[i]?.bind (·.2)).isSome) []:=by
 refine ⟨List.nodup_nil,fun i=>⟨fun h=>(by cases h),fun h=>?_⟩⟩
 obtain ⟨_,h1,h2⟩:=h
 unfold isPend at h1
 rw [h1] at h2;cases h2
theorem col_step {p:List Pg} {L:Nat→Bool} {xs:List Nat} {i:Nat} (h:Col p L xs) (hi:i<p.length) (hp:isPend p i=true) (hL:L i=true):Col p (fun j=>L j && !decide (j=i)) (xs++[i]):=by
 refine ⟨List.nodup_append.2 ⟨h.nodup,by simp,fun a ha b hb=>?_⟩,fun j=>?_⟩
 · rw [List.mem_singleton] at hb
   subst hb
   intro e
   subst e
   have:=((h.mem a).1 ha).2.2
   rw [hL] at this;cases this
 · rw [List.mem_append,List.mem_singleton,h.mem j]
   by_cases e:j=i
   · subst e;simp [hi,hp]
   · simp [e]
theorem sorted_uniq : ∀ {l l':List Nat},l.Pairwise (· < ·)→l'.Pairwise (· < ·)→(∀ x,x∈l ↔ x∈l')→l=l'
 | [],[],_,_,_=>rfl
 | [],b::l',_,_,h=>by have:=(h b).2 (by simp);cases this
 | a::l,[],_,_,h=>by have:=(h a).1 (by simp);cases this
 | a :: l, b :: l', h1, h2, h => by
   rw [List.pairwise_cons] at h1 h2
   have hab:a=b:=by
    have h3:=(h a).1 (by simp)
    have h4:=(h b).2 (by simp)
    rw [List.mem_cons] at h3 h4
    rcases h3 with h3 | h3
    · exact h3
    · rcases h4 with h4 | h4
      · exact h4.symm
      · have:=h1.1 b h4
        have:=h2.1 a h3
        omega
   subst hab
   rw [sorted_uniq h1.2 h2.2 fun x=>⟨fun hx=>?_,fun hx=>?_⟩]
   · have h3:=(h x).1 (List.mem_cons_of_mem _ hx)
     rw [List.mem_cons] at h3
     rcases h3 with h3 | h3
     · have:=h1.1 x hx;omega
     · exact h3
   · have h3:=(h x).2 (List.mem_cons_of_mem _ hx)
     rw [List.mem_cons] at h3
     rcases h3 with h3 | h3
     · have:=h2.1 x hx;omega
     · exact h3
theorem col_sorted {p:List Pg} {L:Nat→Bool} {xs:List Nat} (h:Col p L xs) (hL : ∀ i,i<p.length→L i=false):(ints xs).mergeSort (fun x y=>decide (x≤y))=ints (pendOf p):=by
 have hs:(ints xs).mergeSort (fun x y=>decide (x≤y))=ints (xs.mergeSort fun x y=>decide (x≤y)):=by
  unfold ints
  exact (List.map_mergeSort (r:=fun x y:Nat=>decide (x≤y)) (fun a _ b _=>by simp)).symm
 rw [hs]
 congr 1
 have hp:=List.mergeSort_perm xs (fun x y=>decide (x≤y))
 have hsrt:=List.pairwise_mergeSort (le:=fun x y:Nat=>decide (x≤y)) (fun a b c=>by simp;omega) (fun a b=>by simp;omega) xs
 refine sorted_uniq ?_ (pend_sorted p) fun i=>?_
 · have hnd:=hp.nodup_iff.2 h.nodup
   refine (List.pairwise_and_iff.2 ⟨hsrt,hnd⟩).imp fun {a b} hab=>?_
   have h1:a≤b:=by simpa using hab.1
   have h2:a ≠ b:=hab.2
   omega
 · rw [hp.mem_iff,h.mem,mem_pend]
   exact ⟨fun hh=>hh.2.1,fun hh=>⟨isPend_lt hh,hh,hL i (isPend_lt hh)⟩⟩
theorem col_len {p:List Pg} {L:Nat→Bool} {xs:List Nat} (h:Col p L xs):xs.length≤p.length:=by
 have:=List.Nodup.length_le_of_subset h.nodup (l₂:=List.range p.length) fun i hi=>List.mem_range.2 ((h.mem i).1 hi).1
 rwa [List.length_range] at this
def PendPost (w:World) (p:List Pg) (e:Ending) (w':World):Prop := ∃ v,e = .returned v∧Own w' w.heap.size 3 .i64 v (ints (pendOf p))∧Below w.heap.size w w'
structure PdI (w:World) (mb m r:Nat) (p:List Pg) (L:Nat→Bool) (cnt:Nat) (xs:List Nat) (v:Value) (wr:World):Prop where
 rng:PgRng wr mb r m p L cnt
 own:Own wr w.heap.size 3 .i64 v (ints xs)
 col:Col p L xs
 bel:Below w.heap.size w wr
 hr:w.heap.size≤r
 ne:v.ownBlock ≠ some r
theorem Chg.ofRow {w w':World} {row:Option Nat} (h:w.grownBy w' row):Chg (fun k=>row=some k) w w':=⟨h.os,h.tape,h.output,h.size,fun k hk hn=>h.block k hk (fun e=>hn e.symm)⟩
theorem Chg.toRow {w w':World} {b:Nat} (h:Chg (· = b) w w'):w.grownBy w' (some b):=⟨h.os,h.tape,h.output,h.size,fun k hk hn=>h.block k hk (fun e=>hn (by rw [e]))⟩
theorem PdI.step {w wr w3 w4:World} {mb m r cnt cnt3 i:Nat} {p:List Pg} {L:Nat→Bool} {xs:List Nat} {v v':Value} {o:Obj} (h:PdI w mb m r p L cnt xs v wr) (hmb:mb<r) (hwr:w.heap.size=r) (hi:i<p.length) (hp:isPend p i=true) (hL:L i=true)
 (hrg:PgRng w3 mb r m p (fun j=>L j && !decide (j=i)) cnt3) (hc:Chg (· = r) wr w3) (ho:Own w4 w.heap.size 3 .i64 v' (ints xs++[(i:Int)])) (hg:(w3.alloc o).grownBy w4 v.ownBlock)
 (hv:v'.ownBlock=v.ownBlock∨v'.ownBlock=some (w3.heap.size+1)):PdI w mb m r p (fun j=>L j && !decide (j=i)) cnt3 (xs++[i]) v' w4:=by
 have hown:=h.own.lt
 have hs3:=hc.size
 have hlr:=hrg.lt
 have hal:Below w3.heap.size w3 (w3.alloc o):=(Below.refl _ _).alloc (Nat.le_refl _) _
 have hz:(w3.alloc o).heap.size=w3.heap.size+1:=by simp
 refine ⟨?_,?_,col_step h.col hi hp hL,?_,h.hr,?_⟩
 · refine (hrg.chg (.ofBelow hal (fun _=>False)) (fun e=>e) (fun e=>e)).chg (Chg.ofRow hg) (fun e=>?_) (fun e=>h.ne e)
   have:=(hown mb e).1
   omega
 · unfold ints at ho ⊢
   rw [List.map_append];exact ho
 · have h1:Below w.heap.size wr w3:=hc.below h.bel.size (fun k hk e=>by omega)
   have h2:Below w.heap.size (w3.alloc o) w4:=(Chg.ofRow hg).below (by have:=h.bel.size;omega) (fun k hk e=>by have:=(hown k e).1;omega)
   exact ((h.bel.trans h1).trans (hal.mono (by have:=h.bel.size;omega))).trans h2
 · intro e
   rcases hv with h1 | h1
   · exact h.ne (h1 ▸ e)
   · rw [h1] at e
     injection e with e
     omega
set_option maxRecDepth 100000 in
theorem pend_any (w:World) (p g mb cap m:Nat) (d:Dk) (h:DkIs w p g mb cap m d):Calls Try.prog 47 #[.pointer (some ⟨p,0,none⟩)] w (PendPost w d.p):=by
 have hfew:=h.ok.few
 obtain ⟨w2,cnt,hrun,hrg,hb2,hz2,-⟩:=h.km.range (by omega)
 have c1:=h.kp.cell 1 rfl
 have hmb:=Bx.mk h.lt.2.2
 have HI:Bx (PdI w mb m w.heap.size d.p (fun i=>(d.p[i]?.bind (·.2)).isSome) cnt [] (.slice none 0 0) w2):=⟨hrg,Own.nil _ _ _ _,col_start _,hb2,Nat.le_refl _,by simp [Value.ownBlock]⟩
 clear h hrg hb2 hz2
 generalize hr:w.heap.size=r at *
 replace hr:=Bx.mk hr
 go_enter Try.func47,Try.ntmps47
 go_wp2_with fail
 go_loopw [3] (fun v3 wr => ∃ L cnt xs,Bx (PdI w mb m r d.p L cnt xs v3 wr)) (fun _ wr=>wr.rangeLeft mb r)
 case atStart=>exact ⟨_,_,_,HI⟩
 case round =>
  clear HI hrun c1
  obtain ⟨L,cnt,xs,HI⟩:=hrel
  rcases HI.out.rng.next (by omega) 0 with ⟨-,hL,hrun⟩ | ⟨i,n,w3,cnt3,hi,hn,hL,hrun,hrg3,hlt3,hc3,hz3,hen⟩
  · have hrun : ∀ ty,(Instr.next (.pointer (some ⟨r,0,none⟩)) false ty).run Try.prog _=_:=fun _=>hrun
    have hcs:=col_sorted HI.out.col hL
    have hlen:(ints xs).length<4611686018427387904:=by have:=col_len HI.out.col;unfold ints;rw [List.length_map];omega
    have hbel:=Bx.mk HI.out.bel
    rcases HI.out.own.2 with ⟨rfl,hz⟩ | ⟨g2,cap2,cur,rfl,hb,hg,hnc,hcm,hcz,ht⟩
    · have hx:ints xs=[]:=List.eq_nil_of_length_eq_zero hz
      rw [hx] at hcs
      have hpo:Bx (ints (pendOf d.p)=[]):=⟨hcs.symm.trans (by simp)⟩
      clear hcs hx hlen HI
      go_wp2_with (go_at_call 58;refine (Try.slices_Sort_int_none none 0 _).mono ?_;rintro _ _ ⟨rfl,rfl⟩)
      go_ret
      exact ⟨_,rfl,by rw [hpo.out];exact Own.nil _ _ _ _,hbel.out⟩
    · have hH:=Bx.mk (holds_of_blockI (ss:=ints xs) hg (by rw [Nat.mul_one] at ht;exact ht))
      have hgl:=Bx.mk (Array.getElem?_eq_some_iff.1 hg).1
      have hO:=Bx.mk fun (n:Nat) (os:Array Obj)=>ownsRow_sortedI (n:=n) (os:=os) (ss:=ints xs) (ts:=ints (pendOf d.p)) (by rw [←hcs,List.length_mergeSort]) hb hg hnc hcm hcz
      have hBB:=Bx.mk fun (n:Nat) (os:Array Obj)=>(Chg.ofRow (grownBy_sortedI (w:=wr) (g:=g2) (n:=n) (os:=os) (ints (pendOf d.p)).toArray)).below hbel.out.size (fun k hk e=>by injection e with e;omega)
      have hle2:=Bx.mk (show (ints (pendOf d.p)).length=(ints xs).length by rw [←hcs,List.length_mergeSort])
      replace hcs:=Bx.mk hcs
      replace hlen:=Bx.mk hlen
      clear hg hb hnc hcm hcz ht HI
      generalize hxz:ints xs=zs at *
      replace hxz:=Bx.mk hxz
      go_wp2_with (go_at_call 58;refine (Try.slices_Sort_int g2 0 cap2 zs _ hH.out hgl.out hlen.out).mono ?_;rintro _ _ ⟨rfl,n,os,rfl⟩)
      rw [hcs.out]
      have hOo:=Bx.mk (hO.out n os)
      have hBo:=Bx.mk (hBB.out n os)
      generalize grow _ os=w5 at *
      go_wp2_with fail
      go_ret
      exact ⟨.slice (some ⟨g2,0,none⟩) zs.length cap2,rfl,by unfold Own;rw [hle2.out];exact hOo.out,hbel.out.trans hBo.out⟩
  · have hrun : ∀ ty,(Instr.next (.pointer (some ⟨r,0,none⟩)) false ty).run Try.prog _=_:=fun _=>hrun
    have hown:=Bx.mk (HI.out.own.grown hc3.toRow (.inr HI.out.ne))
    have hlen:=Bx.mk (show (ints xs).length≤1000000000 by have:=col_len HI.out.col;unfold ints;rw [List.length_map];omega)
    have hsz3:=Bx.mk (show w.heap.size≤w3.heap.size from Nat.le_trans HI.out.bel.size hc3.size)
    have hle:=Bx.mk HI.out.rng.left_eq
    have hpi:Bx (isPend d.p i=true):=⟨by unfold isPend;rw [hn];rfl⟩
    replace hc3:=Bx.mk hc3
    replace hz3:=Bx.mk hz3
    replace hrg3:=Bx.mk hrg3
    replace hL:=Bx.mk hL
    clear hn
    go_wp2_with (at_builtin;refine wpList_append_int rfl _ _ _ rfl 3 .i64 (.int .i64 0) 8 (by decide) Try.underlying41 (by kernel_rfl) rfl w.heap.size _ (ints xs) rfl (hown.out.alloc _) (i:Int) ⟨w3.heap.size,0,none⟩ 1 rfl (cell_new _ _ _) hlen.out (le_alloc hsz3.out _) ?_)
    intro v' w4 ho hg hv
    have HI4:=Bx.mk (HI.out.step hmb.out hr.out hi hpi.out hL.out hrg3.out hc3.out ho hg hv)
    clear ho hg hv HI hown hrg3 hc3
    go_wp2_with fail
    go_roundw
    case rel=>exact ⟨_,_,_,HI4⟩
    case measure=>rw [HI4.out.rng.left_eq,hle.out];omega
end
end Go.Proofs.Ytajhkncolbgkbaa
