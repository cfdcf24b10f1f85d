/- Lhr, Sch, Idx: joined by program, for one claim. -/
import Derived.Test.YtgnfgblkpnfcnaaGreatDoorM35
import Derived.Deep.CutRange
set_option maxHeartbeats 1000000
set_option maxRecDepth 100000
set_option linter.unusedVariables false
set_option linter.unusedSimpArgs false
namespace Go.Proofs.YtgnfgblkpnfcnaaGreatDoor
section
open Go.RowKit Go.Sort Go.Maps
open Oct
theorem Own.farL {w w':World} {Far:Nat→Prop} {B:Nat} {e:TypeId} {k:IntKind} {v:Value} {xs:List Int} (h:Own w B e k v xs) (hk:Keeps Far w w') (hf : ∀ g,v.ownBlock=some g→Far g):Own w' B e k v xs:=by
 refine ⟨h.1,?_⟩;rcases h.2 with hn | ⟨g,cap,cur,rfl,hb,hgg,rest⟩
 · exact .inl hn
 · exact .inr ⟨g,cap,cur,rfl,hb,by rw [hk.block g (hf g rfl) (Array.getElem?_eq_some_iff.1 hgg).1];exact hgg,rest⟩
theorem zEw {s:Int→Bool} {f:Pt→Int} (hf : ∀ p,0≤f p∧f p≤255) : ∀ p,0≤zT s f p∧zT s f p≤255:=fun p=>by
 obtain ⟨q,e,_⟩:=zg (zEy s f p).mem;rw [e];exact hf q
theorem zHY {s:Int→Bool} {f:Pt→Int} (hf : ∀ p,0≤f p∧f p≤255) : ∀ k p,0≤zHT s f k p∧zHT s f k p≤255
 | 0=>hf
 | k+1=>zEw (zHY hf k)
theorem zGV {s:Int→Bool} {N:Nat} {f:Pt→Int} (hN:N≤12) (hf:FnC N f) {ts:List Tr} (hG:Good ts) : ∀ k,k≤N→Between ts (lvS s N f ts k)
 | 0,_=>Between.same hG
 | k+1,hk=>(zGV hN hf hG k (by omega)).trans (zBa _ (zGX hN hf hG k (by omega)) (zAD (zHV hf (k+1) hk).range _ _ (by omega))) (zA6 _ _ _)
noncomputable def lvX (s:Int→Bool) (N:Nat) (f:Pt→Int) (ts:List Tr) (k:Nat):Int:=idn (lvS s N f ts k) (N - k) (zHT s f k)
def FR (F0:Nat→Prop) (pO:Nat) (v:Value):Nat→Prop:=fun x=>F0 x∨x=pO∨v.ownBlock=some x
structure PJ (w:World) (Far:Nat→Prop) (sb:Nat) (most:Int) (ta:Option Addr) (tc:Nat) (L:List Mat) (N:Nat) (f:Pt→Int) (ts:List Tr) (k m:Nat) (v:Value) (W:World):Prop where
 st:StoreIs W (FR (fun x=>Far x∨(w.heap.size≤x∧x<w.heap.size+3)) (w.heap.size+4) v) sb most (lvS (zx L) N f ts k)
 size:w.heap.size+5≤W.heap.size
 tb:SlM W ta L
 own:Own W w.heap.size 3 .i64 v ((List.range m).map (lvX (zx L) N f ts))
 nv : ∀ g,v.ownBlock=some g → ¬(Far g∨(w.heap.size≤g∧g<w.heap.size+3))∧g ≠ w.heap.size+4
 keeps:Keeps Far w W
 kd:Bk W (w.heap.size+2) #[.int .i64 ((N:Int)+2)] 3
 ks:Bk W w.heap.size #[.pointer (some ⟨sb,0,none⟩)] 31
 kt:Bk W (w.heap.size+1) #[.slice ta L.length tc] 29
 ko:Bk W (w.heap.size+4) #[v] 26
 fits:Tr.Fits most ts (lvS (zx L) N f ts k)
theorem PJ.later {w W W':World} {Far:Nat→Prop} {sb:Nat} {most:Int} {ta:Option Addr} {tc:Nat} {L:List Mat} {N:Nat} {f:Pt→Int} {ts:List Tr} {k m:Nat} {v:Value} (h:PJ w Far sb most ta tc L N f ts k m v W) (hb:Below W.heap.size W W'):PJ w Far sb most ta tc L N f ts k m v W' :=
 ⟨h.st.later hb,Nat.le_trans h.size hb.size,h.tb.below hb,h.own.below hb,h.nv,h.keeps.trans (Keeps.below hb),h.kd.later hb,h.ks.later hb,h.kt.later hb,h.ko.later hb,h.fits⟩
structure PyrDone (w:World) (Far:Nat→Prop) (sb:Nat) (most:Int) (L:List Mat) (N:Nat) (f:Pt→Int) (ts:List Tr) (e:Ending) (w':World):Prop where
 keeps:Keeps Far w w'
 way:(Tr.Fits most ts (lvS (zx L) N f ts N) ∧ ∃ v,e = .returned (.tuple #[v,(0:Int)])∧Own w' w.heap.size 3 .i64 v ((List.range (N+1)).map (lvX (zx L) N f ts))∧StoreIs w' (fun x=>Far x∨v.ownBlock=some x) sb most (lvS (zx L) N f ts N)) ∨
  (¬Tr.Fits most ts (lvS (zx L) N f ts N)∧e = .returned (.tuple #[.slice none 0 0,(14:Int)])∧StoreIs w' Far sb most ts)
theorem zGi (w:World) (Far:Nat→Prop) (sb:Nat) (ta:Option Addr) (tc:Nat) (L:List Mat) (hl:L.length≤1000000000) (most:Int) (ts:List Tr) (st:StoreIs w Far sb most ts) (lt : ∀ k,Far k→k<w.heap.size) (tb:SlM w ta L) (ft:L ≠ [] → ∀ b,ta.map (·.block)=some b→Far b)
 (hG:Good ts) (N:Nat) (hN:N≤12) (f:Pt→Int) (hf:FnC N f) (hT:trF N f∈ts) (hlen:(lvS (zx L) N f ts N).length≤4000000) :
 Calls Tryz.prog 12 #[.pointer (some ⟨sb,0,none⟩),.slice ta L.length tc,.int .i64 (idn ts N f),.int .i64 ((N:Int)+2)] w (PyrDone w Far sb most L N f ts):=by
 have hF0 : ∀ k,(Far k∨(w.heap.size≤k∧k<w.heap.size+3))→k<w.heap.size+3:=fun k hk=>by
  rcases hk with hk | hk
  · have:=lt k hk;omega
  · exact hk.2
 have hn4 : ∀ g,some (w.heap.size+4)=some g → ¬Far g:=fun g e hg=>by injection e with e;have:=lt g hg;omega
 refine (zGh sb ta L.length tc ts.length N hN (lvX (zx L) N f ts) w (PJ w Far sb most ta tc L N f ts)
  (fun w'=>¬Tr.Fits most ts (lvS (zx L) N f ts N)∧(∃ vs,ts <+: vs∧vs <+: lvS (zx L) N f ts N∧StoreIs w' Far sb most vs)∧Keeps Far w w')
  (fun w'=>¬Tr.Fits most ts (lvS (zx L) N f ts N)∧StoreIs w' Far sb most ts∧Keeps Far w w')
  ⟨fun W hb=>zGO Far sb most ts W (st.later hb)⟩ ⟨fun W hb hsz ks kt kd kr ko=>?_⟩ ⟨fun k m v W h=>?_⟩ ⟨fun k m v W W' h hb=>h.later hb⟩ ⟨fun k v W W1 mb hk h hb hm kc hmv=>?_⟩ ⟨fun k v v1 W w1 h hown hg hwh=>?_⟩ ⟨fun w' hQ=>?_⟩).mono ?_
 · refine ⟨?_,by omega,tb.below hb,kr,fun g hg=>?_,Keeps.below hb,kd,ks,kt,ko,.inl rfl⟩
   · exact (st.widen fun k hk=>by
      rcases hk with (hk | hk) | hk | hk
      · exact .inl hk
      · exact .inr hk.1
      · exact .inr (by omega)
      · have hk2:w.heap.size+3=k:=by injection hk
        exact .inr (by omega)).later hb
   · obtain rfl:w.heap.size+3=g:=by injection hg
     refine ⟨?_,by omega⟩
     rintro (h | h)
     · have:=lt _ h;omega
     · omega
 · exact ⟨by have:=h.size;omega,fun g hg=>(h.nv g hg).2,h.kd,h.ks,h.kt,h.ko,h.own⟩
 · obtain ⟨n,hn⟩ : ∃ n,N - k=n+1:=⟨N - k - 1,by omega⟩
   have hn':N - (k+1)=n:=by omega
   have hus:lvS (zx L) N f ts (k+1)=Tr.add (trF n (zT (zx L) (zHT (zx L) f k))) (lvS (zx L) N f ts k):=by
    show Tr.add (trF (N - (k+1)) (zT (zx L) (zHT (zx L) f k))) _=_
    rw [hn']
   have hlt : ∀ x,FR (fun x=>Far x∨(w.heap.size≤x∧x<w.heap.size+3)) (w.heap.size+4) v x→x<W.heap.size:=fun x hx=>by
    have:=h.size;rcases hx with hx | hx | hx
    · have:=hF0 x hx;omega
    · omega
    · exact (h.own.lt x hx).2
   have hmem:trF (n+1) (zHT (zx L) f k)∈lvS (zx L) N f ts k:=by rw [←hn];exact zGZ hT (Nat.le_refl k)
   have hpre:=zGa (s:=zx L) (N:=N) (f:=f) (ts:=ts) (j:=k+1) (k:=N) (by omega)
   have hc:=zG1 (FR (fun x=>Far x∨(w.heap.size≤x∧x<w.heap.size+3)) (w.heap.size+4) v) W W1 mb sb ta tc L hl most (lvS (zx L) N f ts k) h.st hlt h.tb (fun a b c=>.inl (.inl (ft a b c))) hb hm kc hmv (zGX hN hf hG k (by omega)) n (by omega) (zHT (zx L) f k) (zHY hf.range k) hmem (by rw [←hus];exact Nat.le_trans hpre.length_le hlen)
   rw [←hus] at hc;have e1:lvX (zx L) N f ts k=(idT (lvS (zx L) N f ts k) (trF (n+1) (zHT (zx L) f k)):Int):=by unfold lvX idn;rw [hn]
   have e2:lvX (zx L) N f ts (k+1)=(idT (lvS (zx L) N f ts (k+1)) (trF n (zT (zx L) (zHT (zx L) f k))):Int):=by unfold lvX idn;rw [hn'];rfl
   have e3:(N:Int)+2 - (k:Int)=(n:Int)+3:=by omega
   rw [e1,e2,e3];refine hc.mono ?_;rintro e w' ⟨hkp,(⟨g1,g2,g3⟩ | ⟨g1,g2,us,u1,u2,u3,u4⟩)⟩
   · refine .inl ⟨g2,g3,Nat.le_trans h.size hkp.size,h.tb.far hkp (fun a b c=>.inl (.inl (ft a b c))),h.own.farL hkp (fun g hg=>.inr (.inr hg)),h.nv,h.keeps.trans (hkp.less fun x hx=>.inl (.inl hx)),h.kd.far hkp (.inl (.inr ⟨by omega,by omega⟩)),h.ks.far hkp (.inl (.inr ⟨by omega,by omega⟩)),h.kt.far hkp (.inl (.inr ⟨by omega,by omega⟩)),h.ko.far hkp (.inr (.inl rfl)),?_⟩
     exact Tr.fits_trans (zGa (Nat.zero_le k)) (by rw [hus];exact Tr.add_prefix _ _) h.fits g1
   · refine .inr ⟨g2,?_,⟨us,(zGa (Nat.zero_le k)).trans u2,u3.trans hpre,u4.less fun x hx=>.inl (.inl hx)⟩,h.keeps.trans (hkp.less fun x hx=>.inl (.inl hx))⟩;have p1:=zGa (s:=zx L) (N:=N) (f:=f) (ts:=ts) (Nat.zero_le k);have p2:lvS (zx L) N f ts k <+: lvS (zx L) N f ts (k+1):=zGa (Nat.le_succ k);exact Tr.not_fits_mono (p1.trans p2) hpre (Tr.not_fits_later p1 p2 g1)
 · have hsz:=h.size;have hgl : ∀ g,v.ownBlock=some g→w.heap.size≤g∧g<W.heap.size:=h.own.lt
   obtain ⟨gv,hgv⟩ : ∃ g,v.ownBlock=some g:=by
    obtain ⟨g,cap,rfl,-⟩:=h.own.at (by simp)
    exact ⟨g,rfl⟩
   rw [hgv] at hg;obtain ⟨hv1,hv2⟩:=h.nv gv hgv;have hpO:w.heap.size+4<w1.heap.size:=by have:=hg.size;omega
   have hg2:=zS w1 ⟨w.heap.size+4,0,none⟩ v1;have st1:StoreIs W (fun x=>FR (fun x=>Far x∨(w.heap.size≤x∧x<w.heap.size+3)) (w.heap.size+4) v x∨x=W.heap.size) sb most (lvS (zx L) N f ts (k+1)):=h.st.widen fun x hx=>hx.imp id fun e=>by omega
   have st2:=(st1.apart hg (.inl (.inr (.inr hgv)))).apart hg2 (.inl (.inr (.inl rfl)));have hkp:Keeps (fun x=>Far x∨(w.heap.size≤x∧x<w.heap.size+3)) W (w1.setCell ⟨w.heap.size+4,0,none⟩ v1):=(Keeps.grown hg fun g e hf=>by injection e with e;exact hv1 (e ▸ hf)).trans (Keeps.grown hg2 fun g e hf=>by have e2:w.heap.size+4=g:=Option.some.inj e;have:=hF0 g hf;omega)
   have hnv : ∀ g,v1.ownBlock=some g → ¬(Far g∨(w.heap.size≤g∧g<w.heap.size+3))∧g ≠ w.heap.size+4:=fun g hg1=>by
    rcases hwh with e | e
    · exact h.nv g (e ▸ hg1)
    · rw [e] at hg1;injection hg1 with hg1;refine ⟨fun hf=>?_,by omega⟩
      have:=hF0 g hf;omega
   refine ⟨st2.less fun x hx=>?_,by have:=hg.size;rw [zMD];omega,h.tb.far hkp (fun a b c=>.inl (ft a b c)),?_,hnv,h.keeps.trans (hkp.less fun x hx=>.inl hx),h.kd.far hkp (.inr ⟨by omega,by omega⟩),h.ks.far hkp (.inr ⟨by omega,by omega⟩),h.kt.far hkp (.inr ⟨by omega,by omega⟩),?_,h.fits⟩
   · rcases hx with hx | hx | hx
     · exact .inl (.inl hx)
     · exact .inl (.inr (.inl hx))
     · rcases hwh with e | e
       · exact .inl (.inr (.inr (e ▸ hx)))
       · rw [e] at hx;injection hx with hx;exact .inr hx.symm
   · refine hown.grown hg2 (.inr fun e=>?_);exact (hnv _ e).2 rfl
   · exact zJw ((hg.block _ (by omega) (fun e=>hv2 (Option.some.inj e).symm)).trans h.ko) v1
 · obtain ⟨g1,⟨us,u1,u2,u3⟩,g3⟩:=hQ;have:=u2.length_le;refine (zNP w' Far sb most ts us u1 (fun vs a b=>zGV hN hf hG N (Nat.le_refl N) vs a (b.trans u2)) (by omega) u3).mono ?_
   rintro e w2 ⟨rfl,s2,k2⟩;exact ⟨rfl,g1,s2,g3.trans k2⟩
 · rintro e w' (⟨v,rfl,h⟩ | ⟨rfl,g1,g3,g4⟩)
   · refine ⟨h.keeps,.inl ⟨h.fits,v,rfl,h.own,h.st.less fun x hx=>?_⟩⟩;rcases hx with hx | hx
     · exact .inl (.inl hx)
     · exact .inr (.inr hx)
   · exact ⟨g4,.inr ⟨g1,rfl,g3⟩⟩
end
section
open Go.RowKit Go.Sort Go.Maps
def sg0 (x:Int):Int:=bits .xor .u32 (bits .xor .u32 (rot x 7) (rot x 18)) (x / 2 ^ 3)
def sg1 (x:Int):Int:=bits .xor .u32 (bits .xor .u32 (rot x 17) (rot x 19)) (x / 2 ^ 10)
def be (bs:List Int) (t:Nat):Nat→Int
 | 0=>0
 | j+1=>be bs t j * 256+bs.getD (4 * t+j) 0
def nxt (l:List Int):Int:=(l.getD (l.length - 16) 0+sg0 (l.getD (l.length - 15) 0)+l.getD (l.length - 7) 0+sg1 (l.getD (l.length - 2) 0)) % 4294967296
def sch (bs:List Int):Nat→List Int
 | 0=>[]
 | n+1=>sch bs n++[if n<16 then be bs n 4 else nxt (sch bs n)]
theorem zu (bs:List Int) : ∀ n,(sch bs n).length=n
 | 0=>rfl
 | n+1=>by unfold sch;rw [List.length_append,zu bs n];rfl
theorem be_bd {bs:List Int} (hb : ∀ x∈bs,0≤x∧x≤255) (t:Nat) : ∀ j,0≤be bs t j∧be bs t j<256 ^ j
 | 0=>by unfold be;decide
 | j + 1 => by
   have h:=be_bd hb t j
   have hx:0≤bs.getD (4 * t+j) 0∧bs.getD (4 * t+j) 0≤255:=by
    rw [List.getD_eq_getElem?_getD];cases h1:bs[4 * t+j]? with
    | none=>exact ⟨Int.le_refl 0,by decide⟩
    | some x=>exact hb x (List.mem_of_getElem? h1)
   unfold be;rw [Int.pow_succ];generalize (256:Int) ^ j=p at *;omega
theorem zIx {x y:Int} (hx:0≤x∧x<16777216) (hy:0≤y∧y≤255):bits .or .u32 (x * 256) y=x * 256+y :=
 bits_join .u32 32 (by decide) wraps_u32 8 _ _ (by omega) (by have:(2:Int) ^ 8=256:=(by decide);omega) (by have:(2:Int) ^ 32=4294967296:=(by decide);omega) (by omega) (by have:(2:Int) ^ 8=256:=(by decide);omega) (by have:(2:Int) ^ 32=4294967296:=(by decide);omega)
theorem zLz (bs:List Int) (t:Nat) (x y:Int) (r:List Int):(sch bs t++x::r).set t y=sch bs t++y::r:=by
 rw [List.set_append_right _ _ (by rw [zu];omega),zu,Nat.sub_self,List.set_cons_zero]
theorem zLx (bs:List Int) (t:Nat) (x:Int) (r:List Int):(sch bs t++x::r)[t]? = some x:=by
 rw [List.getElem?_append_right (by rw [zu];omega),zu,Nat.sub_self];rfl
theorem zLy (bs:List Int) (t i:Nat) (hi:i<t) (r:List Int):(sch bs t++r)[i]? = some ((sch bs t).getD i 0):=by
 rw [List.getElem?_append_left (by rw [zu];exact hi),List.getD_eq_getElem?_getD,List.getElem?_eq_getElem (by rw [zu];exact hi)];rfl
theorem zLG {t:Nat} (h:t<64):List.replicate (64 - t) (0:Int)=0::List.replicate (63 - t) 0:=by
 rw [show 64 - t=(63 - t)+1 by omega,List.replicate_succ]
structure SchI (w:World) (bs:List Int) (t:Nat) (r:List Int) (wr:World):Prop where
 bel:Below w.heap.size w wr
 kr:Bl wr w.heap.size .u32 (List.replicate 64 0) 188
 kw:Bl wr (w.heap.size+1) .u32 (sch bs t++r) 188
theorem SchI.put {w wr:World} {bs:List Int} {t:Nat} {x:Int} {r:List Int} (h:SchI w bs t (x::r) wr) (y:Int):SchI w bs t (y::r) (wr.setCell ⟨w.heap.size+1,t,none⟩ (.int .u32 y)):=by
 refine ⟨h.bel.setCell (by simp) _,h.kr.other _ _ (by simp),?_⟩
 have:=h.kw.put t y;rwa [zLz] at this
theorem SchI.later {w wr w':World} {bs:List Int} {t:Nat} {r:List Int} (h:SchI w bs t r wr) (hb:Below wr.heap.size wr w'):SchI w bs t r w':=⟨h.bel.trans (hb.mono h.bel.size),h.kr.later hb,h.kw.later hb⟩
theorem SchI.next {w wr:World} {bs:List Int} {t:Nat} {x:Int} {r:List Int} (h:SchI w bs t (x::r) wr) (hx:x=if t<16 then be bs t 4 else nxt (sch bs t)):SchI w bs (t+1) r wr:=by
 refine ⟨h.bel,h.kr,?_⟩
 have e:sch bs (t+1)++r=sch bs t++x::r:=by
  rw [hx,sch,List.append_assoc];rfl
 rw [e];exact h.kw
theorem zLw (a:Option Addr) (cap:Nat) (bs:List Int) (hn:bs.length=64) (hcap:64≤cap) (hb : ∀ x∈bs,0≤x∧x≤255) (w:World) (hs:Sl w .u8 a bs) :
 Calls Tryz.prog 178 #[.slice a 64 cap] w fun e w'=>e = .returned (zBP .u32 (sch bs 64))∧Below w.heap.size w w':=by
 have Hs:=Bx.mk hs;have Hb:=Bx.mk hb;have Hn:=Bx.mk hn;obtain ⟨x0,hx0⟩ : ∃ x,bs[0]? = some x:=⟨_,List.getElem?_eq_getElem (by omega)⟩
 obtain ⟨pb,po,rfl,-⟩:=hs 0 x0 hx0;clear hs hb hn hx0;go_enter Tryz.func178,Tryz.ntmps178;go_wp2_with fail;generalize hW:World.alloc (World.alloc w _) _=W;have HI:Bx (SchI w bs 0 (List.replicate (64 - 0) 0) W):=⟨by rw [←hW];exact ((Below.refl _ _).alloc (Nat.le_refl _) _).alloc (by simp) _,by rw [←hW];exact zE (zD _ _ _ (by simp)),by rw [←hW];exact zD _ _ _ (by simp)⟩
 clear hW
 go_loopw [11] (fun v11 wr => ∃ t:Nat,t≤64∧v11 = .int .i64 t∧Bx (SchI w bs t (List.replicate (64 - t) 0) wr)) (fun i _=>64 - (intOf i).toNat)
 case atStart=>exact ⟨0,Nat.zero_le _,rfl,HI⟩
 case round =>
  clear HI;obtain ⟨t,ht,rfl,HI⟩:=hrel;by_cases hlt:t<64
  · have t0:decide ((t:Int)<64)=true:=by simp;omega
    rw [zLG hlt] at HI;generalize hr:List.replicate (63 - t) (0:Int)=r at *;have hr:=Bx.mk hr;by_cases h16:t<16
    · have t1:decide ((t:Int)<16)=true:=by simp;omega
      have h4:4 * t+4 - 4 * t=4:=by omega
      go_wp2_with fail;have HJ:Bx (SchI w bs t (be bs t 0::r) wr):=HI
      go_loopw [24] (fun v24 wj => ∃ j:Nat,j≤4∧v24 = .int .i64 j∧Bx (SchI w bs t (be bs t j::r) wj)) (fun i _=>4 - (intOf i).toNat)
      case atStart=>exact ⟨0,Nat.zero_le _,rfl,HJ⟩
      case round =>
       clear HI HJ;obtain ⟨j,hj,rfl,HJ⟩:=hrel;by_cases hlt4:j<4
       · have t2:decide ((j:Int)<4)=true:=by simp;omega
         have b1:(0:Int)≤(j:Int):=by omega
         have b2:(j:Int)<4:=by omega
         have b3:(0:Int)≤(t:Int):=by omega
         have b4:(t:Int)<64:=by omega
         obtain ⟨x,hx⟩ : ∃ x,bs[4 * t+j]? = some x:=⟨_,List.getElem?_eq_getElem (by have:=Hn.out;omega)⟩
         obtain ⟨pb',po',he,hck⟩:=(Hs.out.below HJ.out.bel) (4 * t+j) x hx;simp only [Option.some.injEq,Addr.mk.injEq,and_true] at he;obtain ⟨rfl,rfl⟩:=he;rw [←Nat.add_assoc] at hck;have hxb:=Hb.out x (List.mem_of_getElem? hx);have hbd:=be_bd Hb.out t j
         have hbd2:be bs t j<16777216:=Int.lt_of_lt_of_le hbd.2 (by
          rcases (show j=0∨j=1∨j=2∨j=3 by omega) with rfl | rfl | rfl | rfl <;> decide)
         have e0:be bs t (j+1)=be bs t j * 256+x:=by
          rw [be,List.getD_eq_getElem?_getD,hx];rfl
         have e2:bits .or .u32 (be bs t j * 256) x=be bs t (j+1):=by rw [e0];exact zIx ⟨hbd.1,hbd2⟩ hxb
         have e1:be bs t j * 256 % 4294967296=be bs t j * 256:=by omega
         have cw:=HJ.out.kw.cell (zLx bs t (be bs t j) r);have fw:=HJ.out.kw.frozen t;have HJ2:=Bx.mk (HJ.out.put (be bs t (j+1)));clear HJ e0 hbd hbd2 hx;generalize hy:be bs t (j+1)=y' at *;have hy:=Bx.mk hy;generalize be bs t j=y at *;go_wp2_with fail
         go_roundw
         case rel=>exact ⟨j+1,by omega,by go_num,by rw [hy.out];exact HJ2⟩
         case measure=>simp [intOf];omega
       · obtain rfl:j=4:=by omega
         have t2:decide (((4:Nat):Int)<4)=false:=by decide
         have HI2:=Bx.mk (HJ.out.next (by rw [if_pos h16]))
         clear HJ;go_wp2_with fail
         go_roundw
         case rel=>exact ⟨t+1,by omega,by go_num,by rw [show 64 - (t+1)=63 - t by omega,hr.out];exact HI2⟩
         case measure=>simp [intOf];omega
    · have t1:decide ((t:Int)<16)=false:=by simp;omega
      have n1:(t:Int) - 15=((t - 15:Nat):Int):=by omega
      have n2:(t:Int) - 2=((t - 2:Nat):Int):=by omega
      have n3:(t:Int) - 16=((t - 16:Nat):Int):=by omega
      have n4:(t:Int) - 7=((t - 7:Nat):Int):=by omega
      have l1:((t - 15:Nat):Int)<64:=by omega
      have l2:((t - 2:Nat):Int)<64:=by omega
      have l3:((t - 16:Nat):Int)<64:=by omega
      have l4:((t - 7:Nat):Int)<64:=by omega
      have l5:(t:Int)<64:=by omega
      have hnx:Bx (nxt (sch bs t)=((sch bs t).getD (t - 16) 0+sg0 ((sch bs t).getD (t - 15) 0)+(sch bs t).getD (t - 7) 0+sg1 ((sch bs t).getD (t - 2) 0)) % 4294967296):=⟨by unfold nxt;rw [zu]⟩
      have k1:=HI.out.kw.cell (zLy bs t (t - 15) (by omega) (0::r))
      have k2:=HI.out.kw.cell (zLy bs t (t - 2) (by omega) (0::r))
      have k3:=HI.out.kw.cell (zLy bs t (t - 16) (by omega) (0::r))
      have k4:=HI.out.kw.cell (zLy bs t (t - 7) (by omega) (0::r))
      have k1:=Bx.mk k1;have k2:=Bx.mk k2;have k3:=Bx.mk k3;have k4:=Bx.mk k4;generalize (sch bs t).getD (t - 15) 0=x1 at *;generalize (sch bs t).getD (t - 2) 0=x2 at *;generalize (sch bs t).getD (t - 16) 0=x3 at *;generalize (sch bs t).getD (t - 7) 0=x4 at *;go_wp2_with fail;have c1 : ∀ dk osk,(grow (redrawn wr dk) osk).cell? ⟨w.heap.size+1,t - 15,none⟩=some (.int .u32 x1):=cell_regrown k1.out;have c2 : ∀ dk osk,(grow (redrawn wr dk) osk).cell? ⟨w.heap.size+1,t - 2,none⟩=some (.int .u32 x2):=cell_regrown k2.out;refine wp_region_quiet_below (by kernel_rfl) (by kernel_rfl) ?_
      repeat (first | go_big_quiet_step (fail) | quiet_step (fail))
      refine wpQuiet_nil ?_;rintro _ ⟨⟨dq,osq⟩,rfl⟩;have hb0:=below_regrown wr dq osq;have HI2:=Bx.mk (HI.out.later hb0);replace k3:=Bx.mk (cell_later hb0 k3.out);replace k4:=Bx.mk (cell_later hb0 k4.out);clear c1 c2 HI hb0 k1 k2;generalize grow (redrawn wr dq) osq=w1 at *;go_wp2_with fail;have hx:Bx (bits .xor .u32 (bits .xor .u32 (rot x1 7) (rot x1 18)) (x1 / 8)=sg0 x1):=⟨rfl⟩;have hy:Bx (bits .xor .u32 (bits .xor .u32 (rot x2 17) (rot x2 19)) (x2 / 1024)=sg1 x2):=⟨rfl⟩;have q1:=Bx.mk fun W=>zLS x1 7 (by decide) W
      have q2:=Bx.mk fun W=>zLS x1 18 (by decide) W
      have q3:=Bx.mk fun W=>zLS x2 17 (by decide) W
      have q4:=Bx.mk fun W=>zLS x2 19 (by decide) W
      generalize rot x1 7=a1 at *;generalize rot x1 18=a2 at *;generalize rot x2 17=a3 at *;generalize rot x2 19=a4 at *;generalize sg0 x1=s1 at *;generalize sg1 x2=s2 at *;refine (q1.out _).mono ?_;rintro _ _ ⟨rfl,rfl⟩;go_wp2_with fail;refine (q2.out _).mono ?_;rintro _ _ ⟨rfl,rfl⟩;go_wp2_with fail;refine (q3.out _).mono ?_;rintro _ _ ⟨rfl,rfl⟩;go_wp2_with fail;refine (q4.out _).mono ?_;rintro _ _ ⟨rfl,rfl⟩;have hx:=hx.out;have hy:=hy.out;go_wp2_with fail;have c3 : ∀ dk osk,(grow (redrawn w1 dk) osk).cell? ⟨w.heap.size+1,t - 16,none⟩=some (.int .u32 x3):=cell_regrown k3.out;have c4 : ∀ dk osk,(grow (redrawn w1 dk) osk).cell? ⟨w.heap.size+1,t - 7,none⟩=some (.int .u32 x4):=cell_regrown k4.out;refine zAM 15 (by kernel_rfl) (by kernel_rfl) ?_
      simp only [List.take_succ_cons,List.take_zero,List.drop_succ_cons,List.drop_zero]
      repeat (first | go_big_quiet_step (fail) | quiet_step (fail))
      refine wpQuiet_nil ?_;rintro _ ⟨⟨dq,osq⟩,rfl⟩;have HI3:=Bx.mk (HI2.out.later (below_regrown w1 dq osq));clear c3 c4 HI2 k3 k4;generalize grow (redrawn w1 dq) osq=w2 at *;have cw:=HI3.out.kw.cell (zLx bs t 0 r);have fw:=HI3.out.kw.frozen t;have HI4:=Bx.mk ((HI3.out.put (nxt (sch bs t))).next (by rw [if_neg h16]))
      rw [hnx.out] at HI4;clear HI3 hnx;go_wp2_with fail
      go_roundw
      case rel=>exact ⟨t+1,by omega,by go_num,by rw [show 64 - (t+1)=63 - t by omega,hr.out];exact HI4⟩
      case measure=>simp [intOf];omega
  · have t0:decide ((t:Int)<64)=false:=by simp;omega
    obtain rfl:t=64:=by omega
    rw [Nat.sub_self,List.replicate_zero] at HI;have hsz:(((sch bs 64++[]).map (Value.int .u32)).toArray).size=64:=by rw [List.append_nil,List.size_toArray,List.length_map,zu]
    have hs2:(((List.replicate 64 (0:Int)).map (Value.int .u32)).toArray).size=(((sch bs 64++[]).map (Value.int .u32)).toArray).size:=by rw [hsz];rfl
    have H1:=Bx.mk (show ∀ cs:Array Value,cs.size=64→(Tryz.prog.info? 188).map (·.size)=some cs.size from fun cs h=>by rw [h];kernel_rfl)
    have hkw:=Bx.mk HI.out.kw;have hkr:=Bx.mk HI.out.kr;have hsz:=Bx.mk hsz;have hs2:=Bx.mk hs2;go_upto_region 16 with fail
    go_wp2_with (first
     | refine zAI rfl _ _ rfl (w.heap.size+1) rfl _ _ hkw.out _ Tryz.underlying188 rfl (H1.out _ hsz.out) ?_
     | refine zAJ rfl _ _ _ rfl w.heap.size rfl _ _ rfl _ hkr.out (H1.out _ hsz.out) hs2.out (zl _ _) ?_)
    refine bodyPost_ret (v:=zBP .u32 (sch bs 64++[])) (results_cell_row rfl _ _ w.heap.size 188 _ (0,0) _ rfl (hkr.out.whole _) Tryz.underlying188 rfl (H1.out _ hsz.out)) rfl ⟨by rw [List.append_nil],below_setRow HI.out.bel (Nat.le_refl _) _⟩
end
section
open Go.RowKit
theorem idx64 (xs:List Int) (k:Nat) (x:Int) (hk:k<64) (hx:xs[k]? = some x) (W:World):(Instr.index 188 (.agg (xs.map (Value.int .u32)).toArray) (.int .i64 (k:Int))).run Tryz.prog W = .ok (.int .u32 x) W:=by
 have hu:=Tryz.underlying188;have h1 : Tryz.prog.cellsOf 154=1:=by kernel_rfl
 have hc:((xs.map (Value.int .u32)).toArray)[k]? = some (.int .u32 x):=by rw [List.getElem?_toArray,List.getElem?_map,hx];rfl
 have h0:(0:Int)≤(k:Int)∧(k:Int)<64:=by omega
 generalize (xs.map (Value.int .u32)).toArray=cs at *;simp [Instr.index,run_underlying hu,asIntOf,h0,go_sem];rw [if_pos hk,hc];rfl
end
end Go.Proofs.YtgnfgblkpnfcnaaGreatDoor
