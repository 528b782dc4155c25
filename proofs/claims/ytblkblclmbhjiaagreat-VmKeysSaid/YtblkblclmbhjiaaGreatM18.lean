import Derived.Test.YtblkblclmbhjiaaGreatM17
import Derived.Maps.OwnSet
import Derived.Maps.OwnIn
import Derived.RangeFuncOwn
import Derived.Great.BuildSlice
set_option linter.unusedVariables false
set_option linter.unusedSimpArgs false
set_option maxHeartbeats 40000000
set_option maxRecDepth 100000
open Go.Proofs.Tryz
namespace Go.Proofs.YtblkblclmbhjiaaGreat.Ma
open Go.RowKit ak.Vm
open ak hiding aL an aj
structure TB (V:World) (lo:Nat) (CA:Co) (RA:List Nat) (CB:Co) (RB:List Nat) (p:aO) (c:Cp) (sA sB:St) (uA uB:Int) (Bx:List Nat):Prop where
 two:Two V lo CA RA CB RB p c sA sB uA uB
 lo:lo<=V.heap.size
 off:∀b,b∈Bx->b < V.heap.size/\b∉CA.l/\b∉CB.l
section
variable {V V':World} {lo:Nat} {CA I7 CB CB':Co} {RA RB:List Nat} {p:aO} {c:Cp} {sA sA' sB sB':St} {uA uA' uB uB':Int} {tv:Value} {Bx:List Nat}
theorem TB.symm (h:TB V lo CA RA CB RB p c sA sB uA uB Bx):TB V lo CB RB CA RA p c sB sA uB uA Bx:=⟨h.two.symm,h.lo,fun b hb=>⟨(h.off b hb).1,(h.off b hb).2.2,(h.off b hb).2.1⟩⟩
theorem TB.later (h:TB V lo CA RA CB RB p c sA sB uA uB Bx) (b:Below V.heap.size V V'):TB V' lo CA RA CB RB p c sA sB uA uB Bx:=
 ⟨h.two.later b,afM h.lo b.size,fun x hx=>⟨afQ (h.off x hx).1 b.size,(h.off x hx).2⟩⟩
theorem TB.box (h:TB V lo CA RA CB RB p c sA sB uA uB Bx) (o:Obj):TB (V.alloc o) lo CA RA CB RB p c sA sB uA uB (V.heap.size::Bx):=by
 have h1:=h.later ((afL _ V).alloc (afF _) o);refine ⟨h1.two,h1.lo,fun b hb=>?_⟩;rcases List.mem_cons.1 hb with rfl|hb
 ·exact ⟨smm,fun hc=>absurd (h.two.a.lt (b:=V.heap.size) (by simp [hc])) (agl _),fun hc=>absurd (h.two.b.lt (b:=V.heap.size) (by simp [hc])) (agl _)⟩
 ·exact h1.off b hb
theorem TB.sub (h:TB V lo CA RA CB RB p c sA sB uA uB Bx) {By:List Nat} (hs:∀b,b∈By->b∈Bx):TB V lo CA RA CB RB p c sA sB uA uB By:=⟨h.two,h.lo,fun b hb=>h.off b (hs b hb)⟩
theorem TB.aB (h:TB V lo CA RA CB RB p c sA sB uA uB Bx) {S:List Nat} (f:da S V V') (ha:∀b,b∈CA.l++RA->b∉S) (hb:∀b,b∈CB.l++RB->b∉S):TB V' lo CA RA CB RB p c sA sB uA uB Bx:=
 ⟨h.two.aB f ha hb,afM h.lo f.size,fun b hb=>⟨afQ (h.off b hb).1 f.size,(h.off b hb).2⟩⟩
theorem TB.oh (h:TB V lo CA RA CB RB p c sA sB uA uB Bx) (k:bu V V' CA I7) (m:NE V' I7 RA p c sA' uA'):TB V' lo I7 RA CB RB p c sA' sB uA' uB Bx/\(∀b,b∈Bx->V'.heap[b]? =V.heap[b]?)/\Below lo V V':=
 ⟨⟨h.two.oh h.lo k m,afM h.lo k.f.size,fun b hb=>⟨afQ (h.off b hb).1 k.f.size,fun hc=>by
   rcases k.c b hc with h1|h1
   ·exact (h.off b hb).2.1 h1
   ·have:=(h.off b hb).1;omega,(h.off b hb).2.2⟩⟩,fun b hb=>k.f.block b (h.off b hb).1 (h.off b hb).2.1,h.two.low h.lo k⟩
theorem TB.rem (h:TB V lo CA RA CB RB p c sA sB uA uB Bx) (key:Nat):Calls prog 26 #[ρ CA.mb,.int .u64 key] V
 (fun e V'=>e= .returned (ι (gT p c sA key))/\∃I7,I7.mb=CA.mb/\TB V' lo I7 RA CB RB p c (gX p c sA key) sB uA uB Bx/\(∀b,b∈Bx->V'.heap[b]? =V.heap[b]?)/\Below lo V V'):=by
 refine (afg h.two.a key).mono ?_;rintro e V' ⟨rfl,C',k,m⟩;exact ⟨rfl,C',k.mb,h.oh k m⟩
theorem TB.acc (h:TB V lo CA RA CB RB p c sA sB uA uB Bx) {key:Nat} (hk:key < 18446744073709551616):Calls prog 17 #[ρ CA.mb,.int .u64 key] V
 (fun e V'=>∃tv I7,e= .returned (.agg #[.bool (Fa p c sA key),tv,ι (dE p c sA key)])/\I7.mb=CA.mb/\TB V' lo I7 RA CB RB p c (dF p c sA key) sB ((lD p c sA key).1:Nat) uB (vb tv++Bx)/\(∀b,b∈Bx->V'.heap[b]? =V.heap[b]?)/\Below lo V V'/\
   TK V' tv (rk p c sA key).length (fun i=>(rk p c sA key).getD i 0)/\(∀b,b∈vb tv->b∉I7.l++RA/\b∉CB.l++RB/\b∉Bx/\lo<=b)):=by
 refine (aeE h.two.a hk).mono ?_;rintro e V' ⟨tv,C',rfl,k,m,ht,hb⟩;obtain ⟨h1,h2,h3⟩:=h.oh k m;have key:∀b,b∈vb tv->b∉C'.l++RA/\b∉CB.l++RB/\b∉Bx/\lo<=b:=fun b iN=>by
  obtain ⟨g1,g2⟩:=hb b iN;obtain ⟨k1,k2⟩:=h.two.told g1 g2;refine ⟨k1,k2,fun hc=>g2 (nE.2 ⟨(h.off b hc).1,(h.off b hc).2.1⟩),?_⟩;by_cases hl:b < V.heap.size
  ·by_cases hc:b∈CA.l
   ·exact h.two.la b (by simp [hc])
   ·exact absurd (nE.2 ⟨hl,hc⟩) g2
  ·have:=h.lo;omega
 refine ⟨tv,C',rfl,k.mb,⟨h1.two,h1.lo,fun b iN=>?_⟩,h2,h3,TK.of ht,key⟩;rcases List.mem_append.1 iN with iN|iN
 ·refine ⟨?_,fun hc=>(key b iN).1 (by simp [hc]),fun hc=>(key b iN).2.1 (by simp [hc])⟩;rcases ht with ⟨h,-⟩|⟨b',cs,h,hblk,-⟩
  ·rw [h] at iN;simp [vb,Value.ownBlock] at iN
  ·rw [h] at iN;simp [vb,Value.ownBlock] at iN;subst iN;exact hblk.lt
 ·exact h1.off b iN
theorem TB.used (h:TB V lo CA RA CB RB p c sA sB uA uB Bx):Calls prog 28 #[ρ CA.mb] V (fun e V'=>e= .returned (ι uA)/\V=V'):=ae5 h.two.a
theorem TB.state (h:TB V lo CA RA CB RB p c sA sB uA uB Bx):Calls prog 20 #[ρ CA.mb] V (FI V (nL p sA)):=aeN h.two.a
theorem aeP {C:Co} {RO:List Nat} {s:St} {used:Int} (h:NE V C RO p c s used) {key:Nat} (hk:key < 18446744073709551616):(rk p c s key).length<=20000/\∀x,x∈rk p c s key->x < 18446744073709551616:=by
 obtain ⟨K,T,t,h1,M,E,hS,hI⟩:=h;obtain ⟨z1,z2,-,-,z5,-⟩:=Gb E hS hI hk;unfold rk;split
 ·refine ⟨?_,z1.told⟩;have:=z5.told;unfold gD at z2;unfold gK;omega
 ·exact ⟨smm,fun x hx=>by simp at hx⟩
theorem aeQ {C:Co} {RO:List Nat} {s:St} {used:Int} (h:NE V C RO p c s used):(nL p s).aI.length<=256/\(∀q,q < (nL p s).aI.length->((nL p s).aI.getD q []).length<=1000000000)/\(∀q,q < (nL p s).aI.length->∀i,i < ((nL p s).aI.getD q []).length->(((nL p s).aI.getD q []).getD i ⟨0,[]⟩).key < 18446744073709551616):=by
 obtain ⟨K,T,t,h1,M,E,hS,hI⟩:=h;have tb:=(cK M.check).1;have hl:(nL p s).aI.length=p.ap.length:=by simp [nL]
 have hq:∀q,q < p.ap.length->(nL p s).aI.getD q []=oG p s q:=fun q hq=>by unfold nL;exact sY _ _ hq
 rw [hl];refine ⟨by have:=tb.g;omega,fun q h=>?_,fun q h i hi=>?_⟩
 ·rw [hq q h];have h2:=hI.len q h;have h3:=(E.gQ.q1 q h).2;have h4:(aw p c).cq q=(c.aI.getD q 0).toNat:=rfl;have h5:(oG p s q).length=(s.a.ls q).length:=by simp [oG]
  omega
 ·rw [hq q h] at hi ⊢;have h5:(oG p s q).length=(s.a.ls q).length:=by simp [oG]
  rw [h5] at hi;have e:(oG p s q).getD i ⟨0,[]⟩=FQ p (s.a.val (s.a.ls q)[i]):=by simp [oG,List.getD,hi]
  rw [e];exact hI.key q _ h (af6 hi)
theorem jY.ren {w:World} {lo hi:Nat} {qv vv:Value} {lv:Nat->Value} {tv:Nat->Nat->Value} {k:Nat} (hr:uD (fun x=>x ^^^ k) (aw p c).nq sA sB) (h:jY w lo hi qv vv (nL p sB) lv tv):
 ps w lo hi qv vv (nL p sA) (fun q i=>(((nL p sA).aI.getD q []).getD i ⟨0,[]⟩).key ^^^ k) lv tv:=by
 have hl:∀s,(nL p s).aI.length=p.ap.length:=fun s=>by simp [nL]
 have hq:∀s q,q < p.ap.length->(nL p s).aI.getD q []=oG p s q:=fun s q hq=>by unfold nL;exact sY _ _ hq
 have hx:∀s q,(oG p s q).length=(s.a.ls q).length:=fun s q=>by simp [oG]
 have he:∀s q i (hi:i < (s.a.ls q).length),(oG p s q).getD i ⟨0,[]⟩=FQ p (s.a.val (s.a.ls q)[i]):=fun s q i hi=>by simp [oG,List.getD,hi]
 have hv:∀q i (hq:q < p.ap.length) (hi:i < (sA.a.ls q).length),(oG p sB q).getD i ⟨0,[]⟩=FQ p (I6 (fun x=>x ^^^ k) (sA.a.val (sA.a.ls q)[i])):=fun q i hq hi=>by
  have hi':i < (sB.a.ls q).length:=by rw [hr.ls];exact hi
  rw [he sB q i hi'];have e1:(sB.a.ls q)[i]=(sA.a.ls q)[i]:=by simp [hr.ls]
  rw [e1,hr.val q _ hq (af6 hi)]
 refine h.toK (by rw [hl,hl]) (fun q h'=>?_) (fun q h' i hi=>?_) (fun q h' i hi=>?_) (by unfold nL;rw [hr.vars])
 all_goals rw [hl] at h'
 ·rw [hq _ q h',hq _ q h',hx,hx,hr.ls]
 ·rw [hq _ q h',hx] at hi;rw [hq _ q h',hq _ q h',hv q i h' hi,he sA q i hi];rfl
 ·rw [hq _ q h',hx] at hi;rw [hq _ q h',hq _ q h',hv q i h' hi,he sA q i hi];rfl
end
end Go.Proofs.YtblkblclmbhjiaaGreat.Ma
namespace Go.Proofs.YtblkblclmbhjiaaGreat.Ma
open Go.RowKit ak.Vm
open ak hiding aL an aj
open Vf (Kp fP pV aV cV)
theorem px {w:World} {b n size:Nat} {E:TypeId} {cs:Array Value} {g:Nat->Value} (h:ay w b E cs) (hc:cs=((List.range (n*size)).map g).toArray) (hm:n<=maxLen):aV w size (.slice (some (π b 0)) n n) n g:=by refine .inr ⟨_,_,rfl,afF _,hm,fun o ho=>⟨rfl,?_⟩⟩;rw [h.cell,hc,Nat.zero_add];simp [ho]
def Qi (w:World) (e:Ending) (w':World):Prop:=∃xg xo xc,e= .returned (pV ⟨.slice xg 1 1,ν,ν,.slice xo 1 1,.slice xc 9 9⟩ gj)/\fP w' ⟨.slice xg 1 1,ν,ν,.slice xo 1 1,.slice xc 9 9⟩ gj/\Below w.heap.size w w'
theorem Zz (w:World):Calls prog 51 #[] w (Qi w):=by
 obtain ⟨Wf,Uy⟩:∃Wf,Wf=(((w.alloc (.cells #[.slice (some (π (w.heap.size+1) 0)) 1 1,ν,ν,.slice (some (π (w.heap.size+1+1) 0)) 1 1,ι 2,.slice (some (π (w.heap.size+1+1+1) 0)) 9 9] 27)).alloc (.cells #[.bool false] 4)).alloc (.cells #[ι 0] 3)).alloc (.cells #[ι 32,ι 0,ι 0,ι 0,ι 0,ι 0,ι 0,ι 0,ι 0,ι 0,ι 4,ι 0,ι 0,ι 0,ι 0,ι 5,ι 0,ι 0,ι 0,ι 0,ι 19,ι 0,ι 0,ι 0,ι 0,ι 23,ι 7,ι 0,ι 0,ι 0,ι 40,ι 0,ι 1,ι 0,ι 0,ι 31,ι 0,ι 0,ι 0,ι 0,ι 0,ι 0,ι 0,ι 0,ι 0] 40):=⟨_,rfl⟩;have k0:ay Wf w.heap.size 27 #[.slice (some (π (w.heap.size+1) 0)) 1 1,ν,ν,.slice (some (π (w.heap.size+1+1) 0)) 1 1,ι 2,.slice (some (π (w.heap.size+1+1+1) 0)) 9 9]:=by rw [Uy];exact (((ay.new _ _ _).alloc _).alloc _).alloc _
 have k1:ay Wf (w.heap.size+1) 4 #[.bool false]:=by rw [Uy];exact ((ay.a_ smm).alloc _).alloc _
 have k2:ay Wf (w.heap.size+1+1) 3 #[ι 0]:=by rw [Uy];exact (ay.a_ smm).alloc _
 have k3:ay Wf (w.heap.size+1+1+1) 40 #[ι 32,ι 0,ι 0,ι 0,ι 0,ι 0,ι 0,ι 0,ι 0,ι 0,ι 4,ι 0,ι 0,ι 0,ι 0,ι 5,ι 0,ι 0,ι 0,ι 0,ι 19,ι 0,ι 0,ι 0,ι 0,ι 23,ι 7,ι 0,ι 0,ι 0,ι 40,ι 0,ι 1,ι 0,ι 0,ι 31,ι 0,ι 0,ι 0,ι 0,ι 0,ι 0,ι 0,ι 0,ι 0]:=by rw [Uy];exact ay.a_ smm
 have hb:Below w.heap.size w Wf:=by rw [Uy];exact ((((afL _ _).alloc (afF _) _).alloc smm _).alloc sso _).alloc sso _
 obtain ⟨c0,c1,c2,c3,c4,c5⟩:=k0.c6;go_enter func51,ntmps51;go_wp2_with fail;rw [<-Uy];clear Uy;refine afI (v:= .agg #[.slice (some (π (w.heap.size+1) 0)) 1 1,ν,ν,.slice (some (π (w.heap.size+1+1) 0)) 1 1,ι 2,.slice (some (π (w.heap.size+1+1+1) 0)) 9 9]) ?_ rfl ⟨_,_,_,rfl,⟨px k1 rfl dee,.inl ⟨rfl,rfl⟩,.inl ⟨rfl,rfl⟩,px k2 rfl dee,px k3 krr dee⟩,hb⟩;simp [results,results51,go_sem,c0,c1,c2,c3,c4,c5]
theorem ZA:(aZ gj).1=0:=by rw [yF]
theorem Uz:kH gj iX=true:=by decide
theorem ZC:bH (aw gj iX)=2:=by decide
theorem ZD:(aZ YW).1≠0:=by rw [MN];decide
theorem I5:ci gj k4 2 [(7,0),(9,1)]=⟨[[1,0]],[],[7,9],[0,1]⟩:=by decide
theorem Au {L:List (Nat×Nat)} (h:Ix.mE k4.f L):L=[(7,0),(9,1)]:=h.pS ⟨smm,fun k v=>by
 rw [E3];simp⟩
theorem Qj {w:World} {v:Value} {l:List Nat} (h:vX w v l):∃x n c,v= .slice x n c:=by rcases h with ⟨h,-⟩|⟨b,cs,h,-⟩<;>exact ⟨_,_,_,h⟩
theorem Ni {w:World} {v:Value} {x:Nat} (h:vX w v [x]):∃b cs,v= .slice (some (π b 0)) 1 1/\ay w b 46 cs/\cs[0]? =some (.int .u64 x):=by
 rcases h with ⟨-,h⟩|⟨b,cs,h,hk,hc⟩
 ·cases h
 ·exact ⟨b,cs,h,hk,hc 0 smm⟩
theorem rX {w:World} {C:Co} {lo:Nat} {p:aO} {c:Cp} {s:St} (h:∃t u,jX w C lo p c s t u) (hl:lo<=w.heap.size) {key:Nat} (hk:key < 18446744073709551616) {mb:Nat} (hm:C.mb=mb):
 Calls prog 17 #[ρ mb,.int .u64 key] w (fun e w'=>∃(VE:Bool) (tv:Value) (br used:Int) (C':Co),e= .returned (.agg #[.bool VE,tv,ι br])/\C'.mb=mb/\Below lo w w'/\(∃x n c,tv= .slice x n c)/\(∃t,jX w' C' lo p c (dF p c s key) t used)/\
  Hid (VE=(if dE p c s key=0 then sH p c s key else false)/\br=dE p c s key/\used=(lD p c s key).1/\vX w' tv (if dE p c s key=0 then gK p c s key else [])/\bu w w' C C')):=by
 obtain ⟨t,u,h⟩:=h;subst hm;refine (Nb h hl hk).mono ?_;rintro e w' ⟨tv,C',rfl,k,v,ht,-⟩;exact ⟨_,tv,_,_,C',rfl,k.mb,k.low (fun b hb=>(h.lt hb).1) hl,Qj ht,⟨_,v⟩,ae ⟨rfl,rfl,rfl,ht,k⟩⟩
theorem Qk (w:World):Calls prog 11 #[] w (fun e w'=>e= .returned (.bool true)/\Below w.heap.size w w'):=by
 go_enter func11,ntmps11;go_wp2_with fail;refine (Zz w).mono ?_;rintro e W1 ⟨xg,xo,xc,rfl,hp,eN⟩;have hq:aV (W1.alloc (.cells #[ι 2] 3)) 1 (.slice (some (π W1.heap.size 0)) 1 1) iX.aI.length (aU iX.aI):=px (n:=1) (ay.new _ _ _) rfl dee;have HN:=E_ (w:=W1.alloc (.cells #[ι 2] 3)) (c:=iX) (hp.aB ((da.refl [] _).alloc _)) hq (fun _ _=>pk);have dC:=ae (eN.alloc eN.size (.cells #[ι 2] 3));unfold pV cV at HN;unfold pV;dsimp only [gj,iX] at HN ⊢;change Calls _ _ _ _ (Uw _ gj iX) at HN;have rM:=ae HN;clear hq hp eN HN;go_wp2_with fail;refine rM.o.mono ?_;rintro e W2 ⟨dn,⟨h1,-⟩|⟨-,-,C,rfl,hv⟩⟩
 ·exact absurd ⟨ZA,Uz⟩ h1
 have fg:=ae (dC.o.trans (dn.mono dC.o.size));have iF:(W1.alloc (.cells #[ι 2] 3)).heap.size=W1.heap.size+1:=by simp
 rw [iF] at hv;have sL:=ae (show w.heap.size<=W1.heap.size+1/\W1.heap.size+1<=W2.heap.size from ⟨by have:=dC.o.size;simp only [aE] at this;exact this,by have:=dn.size;simp only [aE] at this;exact this⟩);generalize W1.heap.size+1=lo at*;have HV:=ae hv;clear dn hv iF dC rM;have hp2:fP (W2.alloc (.cells #[ι 1,ι 0,ι 0,ι 0,ι 0] 40)) ⟨ν,ν,ν,ν,.slice (some (π W2.heap.size 0)) 1 1⟩ YW:=⟨.inl ⟨rfl,rfl⟩,.inl ⟨rfl,rfl⟩,.inl ⟨rfl,rfl⟩,.inl ⟨rfl,rfl⟩,px (n:=1) (ay.new _ _ _) rfl dee⟩;have Jy:=E_ (c:=⟨1,[]⟩) (qv:=ν) hp2 (.inl ⟨rfl,rfl⟩) (fun h _=>absurd h ZD);unfold pV cV at Jy;dsimp only [YW] at Jy;change Calls _ _ _ _ (Uw _ YW ⟨1,[]⟩) at Jy;have rM:=ae Jy;have LJ:=ae ((afL W2.heap.size W2).alloc (afF _) (.cells #[ι 1,ι 0,ι 0,ι 0,ι 0] 40));clear hp2 Jy;go_wp2_with fail;refine rM.o.mono ?_;rintro e W3 ⟨wN,hn3⟩;obtain ⟨er,Vi,rfl⟩:∃er:Int,er≠0/\e= .returned (.tuple #[.pointer none,ι er]):=by
  rcases hn3 with ⟨-,h⟩|⟨h1,-⟩
  ·exact h
  ·exact absurd h1 ZD
 clear hn3;have Ql:=LJ.o.trans (wN.mono LJ.o.size);have ki:=ae (fg.o.trans (Ql.mono fg.o.size));have HL3:=ae (afM sL.o.2 Ql.size);have HV3:=ae (show ∃t u,jX W3 C lo gj iX (xx gj) t u from ⟨_,_,HV.o.later Ql⟩);have he0:(er==0)=false:=by simpa using Vi
 obtain ⟨mb,kX⟩:∃mb,C.mb=mb:=⟨_,rfl⟩;rw [kX];have qN:=ae kX;clear wN Ql Vi kX rM LJ HV;go_wp2_with fail;refine (rX HV3.o HL3.o dee qN.o).mono ?_;rintro e W4 ⟨abq,tv4,tr4,us4,C4,rfl,Wd,wQ,⟨xa4,xb4,xc4,rfl⟩,⟨t4,v4⟩,-⟩;have mU:=ae (ki.o.trans (wQ.mono sL.o.1));have Om:=ae (afM HL3.o wQ.size);have Qm:=ae (show ∃t u,jX W4 C4 lo gj iX k1 t u from ⟨_,_,v4⟩);have UA:=ae Wd;clear Wd wQ v4 HV3 qN;go_wp2_with fail;refine (rX Qm.o Om.o dee UA.o).mono ?_;rintro e W5 ⟨abr,tv5,tr5,us5,C5,rfl,GJ,BG,⟨xa5,xb5,xc5,rfl⟩,⟨t5,v5⟩,-⟩;have nA:=ae (mU.o.trans (BG.mono sL.o.1));have HL5:=ae (afM Om.o BG.size);have On:=ae (show ∃t u,jX W5 C5 lo gj iX k2 t u from ⟨_,_,v5⟩);have HM5:=ae GJ;clear GJ BG v5 Qm UA;go_wp2_with fail;refine (rX On.o HL5.o dee HM5.o).mono ?_;rintro e W6 ⟨abt,tv6,Qn,us6,C6,rfl,hm6,uw,⟨Qo,Qp,Qq,rfl⟩,⟨t6,v6⟩,WR⟩;obtain ⟨e1,-,e3,-,-⟩:=WR.o;rw [sV.2.2,afE rfl,sV.1] at e1;rw [sV.2.1] at e3;subst e1 e3;have AM:=ae (nA.o.trans (uw.mono sL.o.1));have HL6:=ae (afM HL5.o uw.size);have jg:=ae ((afL W6.heap.size W6).alloc (afF _) (.cells #[.bool true,.slice Qo Qp Qq,ι Qn] 44));have HV6:=ae (show ∃t,jX (W6.alloc (.cells #[.bool true,.slice Qo Qp Qq,ι Qn] 44)) C6 lo gj iX k3 t (2:Nat) from ⟨_,v6.later jg.o⟩);have HU6:=ae (show Calls prog 28 #[ρ mb] (W6.alloc (.cells #[.bool true,.slice Qo Qp Qq,ι Qn] 44)) (fun e w'=>e= .returned (ι 2)/\w'=W6.alloc (.cells #[.bool true,.slice Qo Qp Qq,ι Qn] 44)) by
  obtain ⟨t,hv⟩:=HV6.o;rw [<-hm6];exact GN hv)
 have HC6:=ae (show ∀b,b∈C6.l->b < W6.heap.size from fun b hb=>(v6.lt hb).2);have K6:=ae (ay.new W6 44 #[.bool true,.slice Qo Qp Qq,ι Qn]);have Zd:=ae hm6;have NZ:=ae (AM.o.trans (jg.o.mono AM.o.size));have HL7:=ae (show lo<=(W6.alloc (.cells #[.bool true,.slice Qo Qp Qq,ι Qn] 44)).heap.size by simp only [aE];have:=HL6.o;omega);clear hm6 uw v6 On HM5 WR;go_wp2_with fail;refine HU6.o.mono ?_;rintro e W7 ⟨rfl,rfl⟩;have V8:=ae (show W6.heap.size < (W6.alloc (.cells #[.bool true,.slice Qo Qp Qq,ι Qn] 44)).heap.size by simp);generalize W6.alloc (.cells #[.bool true,.slice Qo Qp Qq,ι Qn] 44)=W7 at*;clear HU6;go_wp2_with fail;refine (rX (by obtain ⟨t,h⟩:=HV6.o;exact ⟨_,_,h⟩) HL7.o dee Zd.o).mono ?_;rintro e W8 ⟨abu,tv8,tr8,us8,C8,rfl,hm8,qM,-,⟨t8,v8⟩,hx8⟩;obtain ⟨e1,-,e3,e4,k8⟩:=hx8.o;rw [lH.2.2.1,afE rfl,lH.1] at e1;rw [lH.2.1] at e3;rw [lH.2.2.1,afE rfl,lH.2.2.2] at e4;obtain ⟨tb,ts,rfl,GO,VB⟩:=Ni e4;subst e1 e3;have RW:=ae (NZ.o.trans (qM.mono sL.o.1));have HS8:=ae (show W6.heap.size < W8.heap.size from afQ V8.o qM.size);obtain ⟨WX,Wl⟩:∃WX,WX=W8.alloc (.cells #[.bool false,.slice (some (π tb 0)) 1 1,ι tr8] 44):=⟨_,rfl⟩;have jg:=ae (show Below W8.heap.size W8 WX by rw [Wl];exact (afL _ _).alloc (afF _) _);have K7:=ae (show ay WX W6.heap.size 44 #[.bool true,.slice Qo Qp Qq,ι Qn] by rw [Wl];exact (K6.o.aB k8.f fun hc=>absurd (HC6.o _ hc) (agl _)).alloc _);have K8:=ae (show ay WX W8.heap.size 44 #[.bool false,.slice (some (π tb 0)) 1 1,ι tr8] by rw [Wl];exact ay.new _ _ _);have K9:=ae (show ay WX tb 46 ts by rw [Wl];exact GO.alloc _);have HV9:=ae (show ∃t,jX WX C8 lo gj iX k4 t (7:Nat) from ⟨_,v8.later jg.o⟩);have Oo:=ae (show Calls prog 19 #[ρ mb] WX (rW WX gj k4 2) by
  obtain ⟨t,hv⟩:=HV9.o;rw [<-hm8,<-ZC];exact E8 hv)
 have Dp:=ae (RW.o.trans (jg.o.mono RW.o.size));have HM8:=ae hm8;have HTC:=ae VB;clear hm8 qM v8 HV6 Zd hx8 e4 k8 GO VB K6;go_wp2_with fail;rw [<-Wl];clear Wl jg;refine Oo.o.mono ?_;rintro e W9 ⟨L,a,b,c,d,h1,h2,lv,Wm,rfl,ui,hl⟩;rw [Au Wm,I5] at hl;have r0:Row W9 24 1 a 1 lv:=hl.ls.row;have r1:Row W9 3 1 b 0 (aU []):=hl.fr.row;have r2:Row W9 46 1 c 2 (nK [7,9]):=hl.ks.row;have r3:Row W9 3 1 d 2 (aU [0,1]):=hl.ns.row;have r4:Row W9 3 1 (lv 0) 2 (aU [1,0]):=(hl.ls.q 0 dee).row;obtain ⟨xa,ya,rfl,-,-,-⟩:=r0.some dee;obtain ⟨xb,yb,rfl,-,-⟩:=ej r1;obtain ⟨xc,yc,rfl,-,-,-⟩:=r2.some dee;obtain ⟨xd,yd,rfl,-,-,-⟩:=r3.some dee;obtain ⟨xe,ye,ee,-,-,-⟩:=r4.some dee;rw [ee] at r4;obtain ⟨WY,Qr⟩:∃WY,WY=W9.alloc (.cells #[.slice (some (π xa 0)) 1 ya,.slice xb 0 yb,.slice (some (π xc 0)) 2 yc,.slice (some (π xd 0)) 2 yd] 52):=⟨_,rfl⟩;have UB:=ae (show Below WX.heap.size WX WY by rw [Qr];exact ui.alloc ui.size _);have f0:WY.cell? (π W6.heap.size 0)=some (.bool true):=(K7.o.aB (da.ah (S:=[]) UB.o) smm).cell 0;have f1:WY.cell? (π W8.heap.size 0)=some (.bool false):=(K8.o.aB (da.ah (S:=[]) UB.o) smm).cell 0;have f2:WY.cell? (π W8.heap.size 1)=some (.slice (some (π tb 0)) 1 1):=(K8.o.aB (da.ah (S:=[]) UB.o) smm).cell 1;have f3:WY.cell? (π tb 0)=some (.int .u64 8):=((K9.o.aB (da.ah (S:=[]) UB.o) smm).cell 0).trans HTC.o;have f4:WY.cell? (π xa 0)=some (.slice (some (π xe 0)) 2 ye):=by rw [Qr,<-ee];exact (r0.alloc _).cell (o:=0) dee
 have f5:WY.cell? (π xe 0)=some (ι 1):=by rw [Qr];exact (r4.alloc _).cell (o:=0) dee
 have f6:WY.cell? (π xc 0)=some (.int .u64 7):=by rw [Qr];exact (r2.alloc _).cell (o:=0) dee
 have f7:WY.cell? (π xc 1)=some (.int .u64 9):=by rw [Qr];exact (r2.alloc _).cell (o:=1) dee
 have f8:WY.cell? (π xd 1)=some (ι 1):=by rw [Qr];exact (r3.alloc _).cell (o:=1) dee
 have NO:ay WY W9.heap.size 52 #[.slice (some (π xa 0)) 1 ya,.slice xb 0 yb,.slice (some (π xc 0)) 2 yc,.slice (some (π xd 0)) 2 yd]:=by rw [Qr];exact ay.new _ _ _
 obtain ⟨g0,g1,g2,g3⟩:=NO.c4;have HU:=ae (show Calls prog 28 #[ρ mb] WY.drew (fun e w'=>e= .returned (ι 7)/\w'=WY.drew) by
  obtain ⟨t,hv⟩:=HV9.o;rw [<-HM8.o];exact GN (hv.later (UB.o.drew)))
 have HBZ:=ae (Dp.o.trans (UB.o.mono Dp.o.size));clear NO hl ui r0 r1 r2 r3 r4 ee UB Wm;go_wp2_with fail;rw [<-Qr];clear Qr;refine wp_region_still_tail 82 krr krr ?_;simp only [List.append_eq,List.cons_append,List.nil_append];simp only [List.take_succ_cons,List.take_zero,List.drop_succ_cons,List.drop_zero]
 iterate 26 still_step
 still_call HU.o
 iterate 55 still_step
 refine wpStill_nil ?_;change wpList _ _ _ _ _ (WY.drewN 1);go_wp2;refine Vf.eP rfl ⟨rfl,HBZ.o.drew⟩
end Go.Proofs.YtblkblclmbhjiaaGreat.Ma
namespace ak
open Go Go.RowKit Go.ChangeMaps Go.WideShapes
open Go.Maps (Keyed)
section
structure Typed (P:Program) (t k e:TypeId) (qk qe:IntKind):Prop where
 ht:P.underlying t=some (.map k e)
 hk:P.underlying k=some (.int qk)
 he:P.underlying e=some (.int qe)
 hz:∀w,(zeroValue e).run P w= .ok (.int qe 0) w
variable {P:Program} {t k e:TypeId} {qk qe:IntKind} {W:World} {B c:Nat} {f:Int->Option Int}
section
variable (w:World) {ops:Array Oper} {rest:List Oper} {o:Oper} {a:Act} {Q:Exit->Act->World->Prop}
variable {F:Fence} {nF:Nat}
end
end
end ak
namespace Go.Proofs.YtblkblclmbhjiaaGreat.Ma
open Go.RowKit ak.Vm
open ak hiding aL an aj
theorem eJ {w w':World} {B:Nat} (h:w.grownBy w' (some B)):da [B] w w':=⟨h.os,h.tape,h.output,h.size,fun k hk hs=>h.block k hk (fun e=>hs (by cases e;simp))⟩
section
variable {W2:World} {sv mv a b c d:Value} {i0 lb B:Nat} {L:List (Nat×Nat)} {Q:Exit->Act->World->Prop}
def GR (w:World) (a:Option Addr) (n:Nat):Prop:=
 n<=maxLen/\∀i,i < n->∃b off,a=some (π b off)/\∃(kind:Int) (key:Nat),key < 18446744073709551616/\w.cell? (π b (off+i*2))=some (ι kind)/\w.cell? (π b (off+i*2+1))=some (.int .u64 key)
end
section
variable {w w':World} {C:Co} {lo:Nat} {p:aO} {c:Cp} {s:St} {t:fI} {used:Int}
variable {sa:Option Addr} {sn sc mb:Nat} {Q:Exit->Act->World->Prop}
def KV (w:World) (sv:Value) (k n mA mB:Nat) (p:aO) (c:Cp) (m:Nat) (a:Act) (W:World):Prop:=∃(J:Nat->Value) (i:Nat),a=FV J/\J 2=sv/\J 3= .int .u64 k/\J 9=ρ mA/\J 11=ρ mB/\J 13=ι i/\i<=n/\m+i=n+1/\
 Hid (Below w.heap.size w W/\∃CA RA CB RB sA sB uA uB,CA.mb=mA/\CB.mb=mB/\TB W w.heap.size CA RA CB RB p c sA sB uA uB []/\uD (fun x=>x ^^^ k) (aw p c).nq sA sB)
def R14 (w:World) (sv:Value) (k mA mB i:Nat) (RA RB:List Nat) (p:aO) (c:Cp) (sA sB:St) (uA uB:Int) (bx:Nat) (a:Act) (W:World):Prop:=∃(J:Nat->Value) (CA CB:Co),a=FV J/\J 2=sv/\J 3= .int .u64 k/\J 9=ρ mA/\J 11=ρ mB/\J 13=ι i/\J 86= .bool false/\
 Hid (CA.mb=mA/\CB.mb=mB/\TB W w.heap.size CA RA CB RB p c sA sB uA uB [bx]/\Below w.heap.size w W)
theorem jY.later {w w':World} {lo hi:Nat} {qv vv:Value} {S:PS} {lv:Nat->Value} {tv:Nat->Nat->Value} (h:jY w lo hi qv vv S lv tv) (b:Below w.heap.size w w'):jY w' lo hi qv vv S lv tv:=by have f:=da.ah (S:=[]) b;exact ⟨⟨h.qs.row.aB f smm,h.qs.jy,fun q hq=>⟨(h.qs.q q hq).row.aB f smm,(h.qs.q q hq).jy,fun i hi=>⟨((h.qs.q q hq).aW i hi).row.aB f smm,((h.qs.q q hq).aW i hi).jy⟩⟩,h.qs.sep⟩,⟨h.vs.row.aB f smm,h.vs.jy⟩⟩
variable {V:World} {mA:Nat} {CA CB:Co} {RA RB:List Nat} {sA sB:St} {uA uB:Int} {Bx:List Nat}
theorem aew {k:Nat} (hk:k < 18446744073709551616) (hA:NE V CA RA p c sA uA) {key:Nat} (si:key < 18446744073709551616) (hR:uD (fun x=>x ^^^ k) (aw p c).nq sA sB):
 Fa p c sB (key ^^^ k)=Fa p c sA key/\dE p c sB (key ^^^ k)=dE p c sA key/\(lD p c sB (key ^^^ k)).1=(lD p c sA key).1/\rk p c sB (key ^^^ k)=(rk p c sA key).map (fun x=>x ^^^ k)/\uD (fun x=>x ^^^ k) (aw p c).nq (dF p c sA key) (dF p c sB (key ^^^ k)):=by
 obtain ⟨T,E⟩:=hA.env;obtain ⟨h1,h2,h3,h4,h5⟩:=ae4 (σ:=fun x=>x ^^^ k) (fun x=>Qv x k) E hA.inv si hR
 (try dsimp only at h1 h2 h3 h4 h5)
 refine ⟨?_,h3,h2,?_,h5⟩
 ·unfold Fa;rw [h3,h1]
 ·unfold rk;rw [h3,h4];split<;>simp
theorem TK.ae6 {W W':World} {tv:Value} {n:Nat} {f:Nat->Nat} (h:TK W tv n f) (hb:∀b,b∈vb tv->W'.heap[b]? =W.heap[b]?):TK W' tv n f:=by
 rcases h with h|⟨b,cs,rfl,hk,hc⟩
 ·exact .inl h
 ·exact .inr ⟨b,cs,rfl,hk.of (hb b (by simp [vb,Value.ownBlock])),hc⟩
theorem TK.sl {W:World} {tv:Value} {n:Nat} {f:Nat->Nat} (h:TK W tv n f):∃a m cap,tv= .slice a m cap:=by
 rcases h with ⟨h,-⟩|⟨b,cs,h,-⟩
 ·exact ⟨_,_,_,h⟩
 ·exact ⟨_,_,_,h⟩
theorem TB.afm (h:TB V lo CA RA CB RB p c sA sB uA uB Bx) (e:CA.mb=mA) (key:Nat):Calls prog 26 #[ρ mA,.int .u64 key] V
 (fun e V'=>e= .returned (ι (gT p c sA key))/\∃I7,I7.mb=mA/\TB V' lo I7 RA CB RB p c (gX p c sA key) sB uA uB Bx/\(∀b,b∈Bx->V'.heap[b]? =V.heap[b]?)/\Below lo V V'):=by subst e;exact h.rem key
theorem TB.afn (h:TB V lo CA RA CB RB p c sA sB uA uB Bx) (e:CA.mb=mA) {key:Nat} (hk:key < 18446744073709551616):Calls prog 17 #[ρ mA,.int .u64 key] V
 (fun e V'=>∃tv I7,e= .returned (.agg #[.bool (Fa p c sA key),tv,ι (dE p c sA key)])/\I7.mb=mA/\TB V' lo I7 RA CB RB p c (dF p c sA key) sB ((lD p c sA key).1:Nat) uB (vb tv++Bx)/\(∀b,b∈Bx->V'.heap[b]? =V.heap[b]?)/\Below lo V V'/\
   TK V' tv (rk p c sA key).length (fun i=>(rk p c sA key).getD i 0)/\(∀b,b∈vb tv->b∉I7.l++RA/\b∉CB.l++RB/\b∉Bx/\lo<=b)):=by subst e;exact h.acc hk
theorem TB.ae0 (h:TB V lo CA RA CB RB p c sA sB uA uB Bx) (e:CA.mb=mA):Calls prog 28 #[ρ mA] V (fun e V'=>e= .returned (ι uA)/\V=V'):=by subst e;exact h.used
theorem TB.aeI (h:TB V lo CA RA CB RB p c sA sB uA uB Bx) (e:CA.mb=mA):Calls prog 20 #[ρ mA] V (FI V (nL p sA)):=by subst e;exact h.state
end
section
variable {w:World} {sa:Option Addr} {sn sc mA mB k:Nat} {p:aO} {c:Cp} {Q:Exit->Act->World->Prop}
theorem afo {p:Prop} (h:p:=by
 go_wp2_with fail;exact Eq.mpr (afK (fun a=>Q (.exit 0) a W) (FV.of _ rfl)) (eZ _ W EP.o)):p:=h
theorem aeR (HS:Hid (GR w sa sn)) (hk:k < 18446744073709551616)
 (eZ:∀(J:Nat->Value) W,Below w.heap.size w W->Q (.exit 0) (FV J) W)
 {a0:Act} {W0:World} (h:KV w (.slice sa sn sc) k (min sn 200) mA mB p c (min sn 200+1) a0 W0):(Code.loop vkO).wp prog Q a0 W0:=by
 refine Mk.aP (fun m a W=>KV w (.slice sa sn sc) k (min sn 200) mA mB p c m a W) (min sn 200+1) h ?_ ?_
 ·exact agT
 rintro m a9 W ⟨J,i,rfl,j2,j3,j9,qY,Dr,hi,hm,HW⟩;unfold FV
 conv=>arg 2;whnf
 rw [j2,j3,j9,qY,Dr];clear j2 j3 j9 qY Dr;by_cases a8:i < sn/\i < 200
 ·obtain ⟨JB,EM⟩:=a8;have AK:=ae JB;have Iw:=ae EM;obtain ⟨wP,CA,RA,CB,RB,sA,sB,uA,uB,hmA,hmB,hT,hR⟩:=HW.o;have w2:=ag5 i omm;obtain ⟨sb,so,e0,kind,key,si,g0,g1⟩:=HS.o.2 i JB;subst e0;have c0:=(afG (wP.block _ (aS g0))).trans g0;have c1:=(afG (wP.block _ (aS g1))).trans g1;have ls:sb < W.heap.size:=aS c0;have EP:=ae wP;have HT:=ae hT;have HR:=ae hR;have PR:=ae hmA;have qN:=ae hmB;have UE:=ae si;have HNm:=ae hm;have hx:bits .xor .u64 key k=((key ^^^ k:Nat):Int):=ZL si hk;clear wP hT hR hmA hmB g0 g1 HW hm;by_cases k1:kind=1
  ·subst k1;go_wp2_with fail;have T1:=HT.o.box (.cells #[ι 1,.int .u64 key] 48);have eN:ay (W.alloc (.cells #[ι 1,.int .u64 key] 48)) W.heap.size 48 #[ι 1,.int .u64 key]:=ay.new _ _ _;have jg:=ae (EP.o.alloc EP.o.size (.cells #[ι 1,.int .u64 key] 48));generalize W.alloc (.cells #[ι 1,.int .u64 key] 48)=W1 at*;generalize W.heap.size=bx at*;have su:W1.drew.cell? (π bx 1)=some (.int .u64 key):=eN.cell 1;replace T1:=show TB W1.drew _ _ _ _ _ _ _ _ _ _ _ _ from T1.later (au _ W1 1);replace jg:=ae (show Below w.heap.size w W1.drew from jg.o.trans (au _ W1 1));obtain ⟨hrr,hrs⟩:=adq (σ:=fun x=>x ^^^ k) (fun x=>Qv x k) T1.two.a.inv key HR.o;have hrx:gT p c sB (key ^^^ k)=gT p c sA key:=hrr;have HRS:=ae hrs;have hmA:=PR.o;have hmB:=qN.o;clear eN hrr hrs c0 c1 ls;refine wp_mono (Q:=fun e a V=>e=Exit.normal/\R14 w (.slice (some (π sb so)) sn sc) k mA mB i RA RB p c (gX p c sA key) (gX p c sB (key ^^^ k)) uA uB bx a V) ?_ ?_
   ·refine Mk.bF (S:=fun wx=>wx.cell? (π bx 1)=some (.int .u64 key)) krr su (fun al=>?_);generalize W1.drew=V0 at*;refine Mk.bL 0 ?_;refine Mk.bL 1 ?_;refine Mk.bL 2 ?_;refine Mk.bL 4 ?_;refine Mk.bL 5 ?_;refine Mk.bL 6 ?_;refine Mk.bL 7 ?_;refine Mk.bL 8 ?_;refine Mk.nW (rs:=[3]) (afJ rfl (fun K9 hK=>?_) af1);refine QX ?_;go_simp;go_at_call 26;refine (T1.afm hmA key).mono ?_;rintro e V1 ⟨rfl,C1,m1,t1,g1,b1⟩;clear al;refine hK.out _ _ (by (try dsimp only);exact ((afG (g1 bx smm)).trans su)) (fun al=>?_);clear hK K9;refine Mk.pt ?_;refine Mk.nW (rs:=[9]) (afJ rfl (fun K9 hK=>?_) af1);refine QX ?_;go_simp;go_at_call 26;refine (t1.symm.afm hmB (key ^^^ k)).mono ?_;rintro e V2 ⟨rfl,C2,m2,t2,g2,b2⟩;rw [hrx];clear al;refine hK.out _ _ (by (try dsimp only);exact ((afG (g2 bx smm)).trans ((afG (g1 bx smm)).trans su))) (fun al=>?_);clear hK K9;refine Mk.pt ?_;refine Mk.bL 10 ?_;refine afZ krr ⟨rfl,rfl,_,_,_,FV.of _ rfl,rfl,rfl,rfl,rfl,rfl,rfl,ae ⟨m1,m2,t2.symm,jg.o.trans (b1.trans b2)⟩⟩ _
   rintro e a V ⟨rfl,J,I7,CB',rfl,j2,j3,j9,qY,Dr,j86,HV⟩;unfold FV;rw [j2,j3,j9,qY,Dr,j86];clear j2 j3 j9 qY Dr j86;go_wp2_with fail;refine ⟨_,i+1,FV.of _ rfl,rfl,rfl,rfl,rfl,?_,omm,by have:=HNm.o;omega,ae ⟨HV.o.2.2.2,I7,RA,CB',RB,_,_,_,_,HV.o.1,HV.o.2.1,HV.o.2.2.1.sub smm,HRS.o⟩⟩
   first|rfl|exact afK (Value.int .i64) (show (i:Int)+1=((i+1:Nat):Int) by omega)
  ·have d1:(kind==1)=false:=by simpa using k1
   have HE:=ae (aew hk HT.o.two.a UE.o HR.o);go_wp2_with fail;have T1:=HT.o.box (.cells #[ι kind,.int .u64 key] 48);have eN:ay (W.alloc (.cells #[ι kind,.int .u64 key] 48)) W.heap.size 48 #[ι kind,.int .u64 key]:=ay.new _ _ _;have dC:=ae (EP.o.alloc EP.o.size (.cells #[ι kind,.int .u64 key] 48));generalize W.alloc (.cells #[ι kind,.int .u64 key] 48)=W1 at*;generalize W.heap.size=bx at*;have su:W1.cell? (π bx 1)=some (.int .u64 key):=eN.cell 1;clear eN c0 c1 ls k1 d1;refine (T1.afn PR.o UE.o).mono ?_;rintro e V1 ⟨tv,I7,rfl,mA1,t1,g1,b1,o1,n1⟩;have y1:V1.cell? (π bx 1)=some (.int .u64 key):=(afG (g1 bx smm)).trans su;have ly:bx < V1.heap.size:=aS y1;have fg:=ae (dC.o.trans b1);have Jp:=ae t1;have B7:=ae o1;have Db:=ae mA1;have N8:=ae (show rk p c sA key=rk p c sA key from rfl);obtain ⟨xa,xn,xc,rfl⟩:=TK.sl o1;clear su g1 b1 t1 o1 mA1 n1 T1 dC N8;go_wp2_with fail;have T2:=Jp.o.box (.cells #[.bool (Fa p c sA key),.slice xa xn xc,ι (dE p c sA key)] 44);have pZ:=ae (ay.new V1 44 #[.bool (Fa p c sA key),.slice xa xn xc,ι (dE p c sA key)]);have ki:=ae (fg.o.alloc fg.o.size (.cells #[.bool (Fa p c sA key),.slice xa xn xc,ι (dE p c sA key)] 44));have ux:=ae (B7.o.aB ((da.refl [] V1).alloc (.cells #[.bool (Fa p c sA key),.slice xa xn xc,ι (dE p c sA key)] 44)) smm);generalize V1.alloc (.cells #[.bool (Fa p c sA key),.slice xa xn xc,ι (dE p c sA key)] 44)=W2 at*;generalize V1.heap.size=ax at*;clear y1 ly B7 fg;refine (T2.symm.afn qN.o (adO UE.o hk)).mono ?_;rintro e V2 ⟨tw,CB',rfl,mB1,t2,g2,b2,o3,n2⟩;rw [HE.o.1,HE.o.2.1];obtain ⟨ya,yn,yc,rfl⟩:=TK.sl o3;go_wp2_with fail;obtain ⟨uG,ot⟩:=aeP HT.o.two.a UE.o;have HT3:=ae (t2.symm.box (.cells #[.bool (Fa p c sA key),.slice ya yn yc,ι (dE p c sA key)] 44));have kY:=ae (ay.new V2 44 #[.bool (Fa p c sA key),.slice ya yn yc,ι (dE p c sA key)]);have Nf:=ae ((pZ.o.of (g2 ax smm)).alloc (.cells #[.bool (Fa p c sA key),.slice ya yn yc,ι (dE p c sA key)] 44));have B7:=ae ((ux.o.ae6 (fun b hb=>g2 b (by simp [hb]))).aB ((da.refl [] V2).alloc (.cells #[.bool (Fa p c sA key),.slice ya yn yc,ι (dE p c sA key)] 44)) smm);have LC:=ae (show TK (V2.alloc (.cells #[.bool (Fa p c sA key),.slice ya yn yc,ι (dE p c sA key)] 44)) (.slice ya yn yc) (rk p c sA key).length (fun i=>(rk p c sA key).getD i 0 ^^^ k) from by
    have h:=o3.aB ((da.refl [] V2).alloc (.cells #[.bool (Fa p c sA key),.slice ya yn yc,ι (dE p c sA key)] 44)) smm;rw [HE.o.2.2.2.1,List.length_map] at h;exact h.congr fun i hi=>by simp [List.getD,hi])
   have nA:=ae ((ki.o.trans b2).alloc (afM (ki.o.trans b2).size (afF _)) (.cells #[.bool (Fa p c sA key),.slice ya yn yc,ι (dE p c sA key)] 44));have NO:=ae (show V2.heap.size∉vb (.slice ya yn yc) from fun hc=>absurd (t2.off _ (by simp [hc])).1 (agl _));have Jy:=ae n2;have Vp:=ae (show V2.heap.size∉(vb (.slice ya yn yc):List Nat)/\ax < V2.heap.size from ⟨NO.o,(t2.off ax smm).1⟩);have HG:=ae (show ∀i,i < (rk p c sA key).length->(rk p c sA key).getD i 0 ^^^ k < 18446744073709551616 from fun i hi=>adO (ot _ (by simp [List.getD,hi])) hk);generalize V2.alloc (.cells #[.bool (Fa p c sA key),.slice ya yn yc,ι (dE p c sA key)] 44)=W3 at*;generalize V2.heap.size=bb at*;clear t2 g2 b2 o3 n2 T2 pZ ux ki ot;refine aeO (W0:=W3) (bb:=bb) (n:=(rk p c sA key).length) (g:=fun i=>(rk p c sA key).getD i 0 ^^^ k) (tv:= .slice ya yn yc) (x2:= .slice (some (π sb so)) sn sc) (k:=k) (x9:=ρ mA) (x11:=ρ mB) (x13:=ι i) (x15:=ρ ax) kY NO hk omm HG (fun J W5 j2 j3 j9 qY Dr ZG j16 f5 k5=>?_) ⟨_,0,FV.of _ rfl,rfl,rfl,rfl,rfl,rfl,rfl,rfl,rfl,afO _,omm,ae ⟨da.refl _ _,LC.o.congr fun i hi=>by (try dsimp only);rw [abH (Nat.not_lt_zero _)]⟩⟩;have Wn:=ae (HT3.o.aB f5 (fun b hb hc=>(Jy.o b hc).2.1 hb) (fun b hb hc=>(Jy.o b hc).1 hb));have AM:=ae (nA.o.trans (f5.below HT3.o.lo (fun b hb=>(Jy.o b hb).2.2.2)));have L5:=Nf.o.aB f5 (fun hc=>(Jy.o _ hc).2.2.1 smm);have hkb:=kY.o.aB f5 NO.o;have HRA:=ae ((B7.o.aB f5 (fun b hb hc=>(Jy.o b hc).2.2.1 (by simp [hb]))).row (by unfold maxLen;omega));have Df:=ae ((k5.congr (g:=fun i=>(rk p c sA key).getD i 0) fun i hi=>by (try dsimp only);rw [Qv]).row (by unfold maxLen;omega));clear f5 k5 B7 LC Nf kY HG HT3 nA;simp only [Exit.inBlock,Exit.then]
   try apply_assumption
   unfold FV;rw [j2,j3,j9,qY,Dr,ZG,j16];clear j2 j3 j9 qY Dr ZG j16;obtain ⟨a0,a1,a2⟩:=L5.c3;obtain ⟨q0,q1,q2⟩:=hkb.c3;have la:=L5.lt;have lb:=hkb.lt;clear L5 hkb;go_wp2_with fail;refine (aeH HRA.o Df.o).mono ?_;rintro e W6 ⟨rfl,uw⟩;have HT6:=ae (Wn.o.later uw);have NZ:=ae (AM.o.trans (uw.mono AM.o.size));clear a0 a1 a2 q0 q1 q2 la lb uw Wn AM HRA Df;go_wp2_with fail;refine (HT6.o.ae0 Db.o).mono ?_;rintro e W7 ⟨rfl,rfl⟩;go_wp2_with fail;refine (HT6.o.symm.ae0 mB1).mono ?_;rintro e W7 ⟨rfl,rfl⟩;rw [HE.o.2.2.1];go_wp2_with fail;refine (HT6.o.symm.aeI mB1).mono ?_;rintro e W8 ⟨qv,vv,lv,tv,rfl,qM,fj⟩;obtain ⟨qa,qc,rfl,-,-⟩:=ej fj.qs.row;obtain ⟨va,vc,rfl,-,-⟩:=ej fj.vs.row;have afC:=ae mB1;have RW:=ae qM;have HSK:=ae (jY.ren HE.o.2.2.2.2 fj);have oH:=ae (aeQ HT6.o.two.a);clear qM fj mB1;go_wp2_with fail;generalize (nL p (dF p c sB (key ^^^ k))).aI.length=qn at*;generalize (nL p (dF p c sB (key ^^^ k))).vars.length=vn at*;have Dp:=ae (RW.o.alloc RW.o.size (.cells #[.slice qa qn qc,.slice va vn vc] 56));have Wj:=ae (ay.new W8 56 #[.slice qa qn qc,.slice va vn vc]);have afp:=ae (HSK.o.later ((afL _ W8).alloc (afF _) (.cells #[.slice qa qn qc,.slice va vn vc] 56)));have afq:=ae Dp.o.size;generalize W8.alloc (.cells #[.slice qa qn qc,.slice va vn vc] 56)=W9 at*;generalize W8.heap.size=tb at*;clear HSK RW;refine afl (W0:=W9) (sb:=tb) (x2:= .slice (some (π sb so)) sn sc) (k:=k) (x9:=ρ mA) (x11:=ρ mB) (x13:=ι i) (x15:=ρ ax) (S:=nL p (dF p c sA key)) hk oH.o.1 (ae oH.o.2.1) (ae fun q hq i hi=>adO (oH.o.2.2 q hq i hi) hk) afq (fun J W10 j2 j3 j9 qY Dr ZG j18 ae7 afr afs=>?_) ⟨_,0,FV.of _ rfl,rfl,rfl,rfl,rfl,rfl,rfl,rfl,rfl,afO _,omm,ae ⟨afL _ _,Wj.o,afp.o.congr fun q hq i hi=>by (try dsimp only);rw [abH (Nat.not_lt_zero _)]⟩⟩;have aft:=ae (HT6.o.later (Dp.o.trans ae7));have Mu:=ae (NZ.o.trans ((Dp.o.trans ae7).mono NZ.o.size));have afu:=ae (afs.at fun q hq i hi=>by (try dsimp only);rw [Qv]);obtain ⟨s0,s1⟩:=afr.c2;clear ae7 afr afs afp Wj Dp afq;simp only [Exit.inBlock,Exit.then]
   try apply_assumption
   unfold FV;rw [j2,j3,j9,qY,Dr,ZG,j18];clear j2 j3 j9 qY Dr ZG j18;go_wp2_with fail;have afv:=ae (show TB W10.drew _ _ _ _ _ _ _ _ _ _ _ _ from aft.o.later (au _ W10 1));have afw:=ae (show Below w.heap.size w W10.drew from Mu.o.trans (au _ W10 1));have aaH:=ae (show jY W10.drew _ _ _ _ _ _ _ from afu.o.later (au _ W10 1));have z0:W10.drew.cell? (π tb 0)=some (.slice qa qn qc):=s0;have z1:W10.drew.cell? (π tb 1)=some (.slice va vn vc):=s1;clear s0 s1 aft Mu afu;refine Mk.bF (S:=fun wx=>wx.cell? (π tb 0)=some (.slice qa qn qc)/\wx.cell? (π tb 1)=some (.slice va vn vc)) krr ⟨z0,z1⟩ (fun al=>?_);generalize W10.drew=V0 at*;refine Mk.bL 0 ?_;refine Mk.bL 2 ?_;refine Mk.nW (rs:=[1]) (afJ rfl (fun K9 hK=>?_) af1);refine QX ?_;go_simp;refine (afv.o.aeI Db.o).mono ?_;rintro e V1 ⟨pv,uv,lw,tw,rfl,Wy,fj⟩;have kV:=ae fj;have Ls:=ae Wy;clear al fj Wy;refine hK.out _ _ ⟨(afG (Ls.o.block _ (aS z0))).trans z0,(afG (Ls.o.block _ (aS z1))).trans z1⟩ (fun al=>?_);clear hK K9;refine Mk.pt ?_;refine Mk.nW (rs:=[3]) (afJ rfl (fun K9 hK=>?_) af1);refine QX ?_;go_simp;refine (adY kV.o (aaH.o.later Ls.o)).mono ?_;rintro e V2 ⟨rfl,afx⟩;have aeS:=ae (Ls.o.trans (afx.mono Ls.o.size));clear al afx;refine hK.out _ _ ⟨(afG (aeS.o.block _ (aS z0))).trans z0,(afG (aeS.o.block _ (aS z1))).trans z1⟩ (fun al=>?_);clear hK K9;refine Mk.pt ?_;refine Mk.bL 4 ?_;refine afZ krr ⟨rfl,?_⟩ _;clear al z0 z1;go_wp2_with fail;refine ⟨_,i+1,FV.of _ rfl,rfl,rfl,rfl,rfl,?_,omm,by have:=HNm.o;omega,ae ⟨afw.o.trans (aeS.o.mono afw.o.size),I7,RA,CB',RB,_,_,_,_,Db.o,afC.o,(afv.o.later aeS.o).sub smm,HE.o.2.2.2.2⟩⟩
   first|rfl|exact afK (Value.int .i64) (show (i:Int)+1=((i+1:Nat):Int) by omega)
 ·have h9:i=min sn 200:=omm;obtain ⟨wP,-⟩:=HW.o;have EP:=ae wP;clear wP HW hm;by_cases e1:i < sn
  ·have e2:¬i < 200:=omm;exact afo
  ·exact afo
end
end Go.Proofs.YtblkblclmbhjiaaGreat.Ma
namespace Go.Proofs.YtblkblclmbhjiaaGreat.Rv
open Go.RowKit ak.Vm
open ak hiding aL an aj
def yJ (t:Nat):UInt8:=if t=1 then 110 else if t=2 then 98 else 63
def nM (ty:List Nat):ByteArray:=⟨(ty.reverse.map yJ).toArray⟩
theorem lJ (ty:List Nat):(nM ty).size=ty.length:=by simp [nM,ByteArray.size]
theorem No (ty:List Nat) (k:Nat):(nM ty).extract 0 (ty.length - k)=nM (ty.drop k):=by apply ByteArray.ext;simp only [nM,ByteArray.data_extract,List.extract_toArray,List.extract_eq_take_drop,List.drop_zero,Nat.sub_zero];congr 1;rw [List.reverse_drop,List.map_take]
theorem Np (ty:List Nat) {k:Nat} (h:k<=ty.length):(nM ty).extract (ty.length - k) ty.length=nM (ty.take k):=by apply ByteArray.ext;simp only [nM,ByteArray.data_extract,List.extract_toArray,List.extract_eq_take_drop];congr 1;rw [List.reverse_take,List.map_drop];exact List.take_of_length_le smm
theorem Qx (a b:List Nat):nM a++nM b=nM (b++a):=by apply ByteArray.ext;simp [nM,ByteArray.data_append]
theorem GS {a b:Nat} (ha:a=1\/a=2) (hb:b=1\/b=2):yJ a=yJ b↔a=b:=by rcases ha with rfl|rfl<;>rcases hb with rfl|rfl<;>decide
theorem Qy {a b:List Nat} (ha:eI a) (hb:eI b) (h:nM a=nM b):a=b:=by
 have e:a.reverse.map yJ=b.reverse.map yJ:=by have:=afK ByteArray.data h;simpa [nM] using this
 have key:∀(l m:List Nat),eI l->eI m->l.map yJ=m.map yJ->l=m:=by
  intro l
  induction l with
  |nil=>intro m _ _ h;cases m with
   |nil=>rfl
   |cons _ _=>simp at h
  |cons x l ih=>
   intro m hl hm h;cases m with
   |nil=>simp at h
   |cons y m=>simp only [List.map_cons,List.cons.injEq] at h;rw [(GS (hl x smm) (hm y smm)).1 h.1,ih m (fun t ht=>hl t (by simp [ht])) (fun t ht=>hm t (by simp [ht])) h.2]
 have:=key a.reverse b.reverse (fun t ht=>ha t (by simpa using ht)) (fun t ht=>hb t (by simpa using ht)) e;exact List.reverse_inj.1 this
theorem Fe {a b:List Nat} (ha:eI a) (hb:eI b):((nM a).toList=(nM b).toList)=(a=b):=propext ⟨fun h=>Qy ha hb (by
 rw [ByteArray.toList_eq,ByteArray.toList_eq] at h;exact ByteArray.ext (Array.toList_inj.1 h)),fun h=>by rw [h]⟩
theorem zM (w:World) {op:Int} (h0:0<=op) (h1:op < 42):Calls prog 317 #[ι op] w (fun e w'=>e= .returned (.string (nM (bO op.toNat)))/\w'=w):=by
 obtain ⟨n,rfl⟩:=afN h0;have e:n=0\/n=1\/n=2\/n=3\/n=4\/n=5\/n=6\/n=7\/n=8\/n=9\/n=10\/n=11\/n=12\/n=13\/n=14\/n=15\/n=16\/n=17\/n=18\/n=19\/n=20\/n=21\/n=22\/n=23\/n=24\/n=25\/n=26\/n=27\/n=28\/n=29\/n=30\/n=31\/n=32\/n=33\/n=34\/n=35\/n=36\/n=37\/n=38\/n=39\/n=40\/n=41:=omm;clear h0 h1;rcases e with rfl|rfl|rfl|rfl|rfl|rfl|rfl|rfl|rfl|rfl|rfl|rfl|rfl|rfl|rfl|rfl|rfl|rfl|rfl|rfl|rfl|rfl|rfl|rfl|rfl|rfl|rfl|rfl|rfl|rfl|rfl|rfl|rfl|rfl|rfl|rfl|rfl|rfl|rfl|rfl|rfl|rfl
 all_goals
  go_enter func317,ntmps317;go_wp2_with fail;exact agJ
def eL (op:Nat):List Nat:=if aR op=0 then [] else [aR op]
theorem rJ (w:World) {op:Int} (h0:0<=op) (h1:op < 42):Calls prog 318 #[ι op] w (fun e w'=>e= .returned (.string (nM (eL op.toNat)))/\w'=w):=by
 obtain ⟨n,rfl⟩:=afN h0;have e:n=0\/n=1\/n=2\/n=3\/n=4\/n=5\/n=6\/n=7\/n=8\/n=9\/n=10\/n=11\/n=12\/n=13\/n=14\/n=15\/n=16\/n=17\/n=18\/n=19\/n=20\/n=21\/n=22\/n=23\/n=24\/n=25\/n=26\/n=27\/n=28\/n=29\/n=30\/n=31\/n=32\/n=33\/n=34\/n=35\/n=36\/n=37\/n=38\/n=39\/n=40\/n=41:=omm;clear h0 h1;rcases e with rfl|rfl|rfl|rfl|rfl|rfl|rfl|rfl|rfl|rfl|rfl|rfl|rfl|rfl|rfl|rfl|rfl|rfl|rfl|rfl|rfl|rfl|rfl|rfl|rfl|rfl|rfl|rfl|rfl|rfl|rfl|rfl|rfl|rfl|rfl|rfl|rfl|rfl|rfl|rfl|rfl|rfl
 all_goals
  go_enter func318,ntmps318;go_wp2_with fail;exact agJ
theorem Gm (w:World) (a b:Nat) (ha:a<=MS) (hb:b<=MS):Calls prog 233 #[ι a,ι b] w fun e w'=>e= .returned (ι (bC a b))/\w'=w:=by
 unfold MS at ha hb;have w1:IntKind.i64.wrap (4611686018427387904 - (b:Int))=4611686018427387904 - (b:Int):=afU _ coo;by_cases h:4611686018427387904 - b < a
 ·have e:bC a b=4611686018427387904:=by unfold bC MS;rw [afE h]
  have h2:((4611686018427387904:Int) - b < a)=True:=by simp;omega
  rw [e];clear e h;go_enter func233,ntmps233;go_wp2_with fail;exact agJ
 ·have e:bC a b=a+b:=by unfold bC MS;rw [abH h]
  have h2:((4611686018427387904:Int) - b < a)=False:=by simp;omega
  have w2:IntKind.i64.wrap ((a:Int)+(b:Int))=((a+b:Nat):Int):=by rw [afU _ coo];omega
  rw [e];clear e h;go_enter func233,ntmps233;go_wp2_with fail;go_ret;exact ⟨smm,rfl⟩
theorem Ff {a b:Nat} (ha:0 < a):MS / a < b↔¬a*b<=MS:=by rw [Nat.div_lt_iff_lt_mul ha,Nat.not_le,Nat.mul_comm]
theorem ac2 {p:Prop} (h:p:=by
 go_enter func234,ntmps234;go_wp2_with fail;go_ret;exact ⟨smm,rfl⟩):p:=h
theorem ZM (w:World) (a b:Nat) (ha:a<=MS) (hb:b<=MS):Calls prog 234 #[ι a,ι b] w fun e w'=>e= .returned (ι (dV a b))/\w'=w:=by
 by_cases h0:a=0
 ·subst h0;have e:dV 0 b=0:=by unfold dV;rw [Nat.zero_mul];rfl
  have w2:IntKind.i64.wrap ((0:Int)*(b:Int))=0:=by rw [Int.zero_mul];rfl
  unfold MS at hb;rw [e];clear e ha;exact ac2
 ·have zI:0 < a:=omm;have ht:=Ff (a:=a) (b:=b) zI;have hp2:(0:Int) < a:=omm;have hd:(4611686018427387904:Int) / (a:Int)=((4611686018427387904 / a:Nat):Int):=by simp
  have hle:4611686018427387904 / a<=4611686018427387904:=Nat.div_le_self _ _;unfold MS at ha hb ht;generalize 4611686018427387904 / a=q at*;by_cases h:a*b<=4611686018427387904
  ·have e:dV a b=a*b:=by unfold dV MS;rw [afE h]
   have h2:¬q < b:=fun h'=>ht.1 h' h;have w2:IntKind.i64.wrap ((a:Int)*(b:Int))=((a*b:Nat):Int):=by rw [<-Int.natCast_mul,afU _ coo]
   rw [e];have h3:(q < b)=False:=by simpa using h2
   generalize a*b=x at*;clear e ht h h2;exact ac2
  ·have e:dV a b=4611686018427387904:=by unfold dV MS;rw [abH h]
   have h2:q < b:=ht.2 h;have h3:(q < b)=True:=by simpa using h2
   rw [e];clear e ht h h2;exact ac2
end Go.Proofs.YtblkblclmbhjiaaGreat.Rv
namespace Go.Proofs.YtblkblclmbhjiaaGreat.Rv
open Go.RowKit ak.Vm
open ak hiding aL an aj
open Ma (dx bQ aU vb aA aQ)
open Vf (Kp fP pV qu bw aV)
def uj (K:Kp) (p:aO) (iz j_ jA:Value):Array Value:=#[K.g,K.v,K.t,K.o,ι p.aJ,K.c,iz,j_,jA]
section
variable {w:World} {K:Kp} {p:aO} {iz j_ jA:Value} {lb:Nat} {x:Ins} {ha:Nat}
theorem ad5 {p:Prop} (h:p:=by
 rcases hh with rfl|rfl|rfl|rfl
 all_goals
  go_enter func291,ntmps291;go_wp2_with fail;go_ret2;exact ⟨by simp [dZ],HB.o _ _⟩):p:=h
theorem ad4 {p:Prop} (h:p:=by
 go_enter func291,ntmps291;go_wp2_with fail;go_quiet (fail);go_wp2_with fail;go_quiet (fail);go_wp2_with fail;go_ret2;exact ⟨by rw [H16.o];rfl,by first|exact HC.o _ _ _|exact (HC.o _ _ _).trans (au _ _ _)⟩):p:=h
theorem UF (h:fP w K p) (hl:ay w lb 260 (uj K p iz j_ jA)) (hq:x.op=35\/x.op=34->qu p x.a) (h3:ha<=3):
 Calls prog 291 #[ρ lb,aQ x,ι ha] w (fun e w'=>e= .returned (.tuple #[.bool (dZ p x ha).1,ι (dZ p x ha).2])/\Below w.heap.size w w'):=by
 obtain ⟨op,xa,xb,xc,xd⟩:=x;unfold aQ aA;dsimp only at hq ⊢;have hB:=ag6 w;have hC:∀cs T k,Below w.heap.size w ((w.alloc (.cells cs T)).drewN k):=fun cs T k=>(hB cs T).trans (au _ _ k);have ll:=hl.lt;have v0:=hl.c1;have hh:ha=0\/ha=1\/ha=2\/ha=3:=omm;have HB:=ae hB;have HC:=ae hC;clear hB hC h3 hl;by_cases o1:op=36
 ·subst o1;clear hq v0 ll;exact ad5
 by_cases o2:op=37
 ·subst o2;clear hq v0 ll;exact ad5
 by_cases o3:op=35\/op=34
 ·obtain ⟨m,gb,off,cap,rfl,hm,hk,rl,gc⟩:=bw h (hq o3);rw [hk] at v0;clear hk h hq;generalize hg:bj p m=g at*;have HG:=ae hg;clear hg;rcases o3 with rfl|rfl
  ·have e35:((35:Int)==34)=false:=rfl;cases g
   all_goals
    rcases hh with rfl|rfl|rfl|rfl
    all_goals
     go_enter func291,ntmps291;go_wp2_with fail;go_quiet (fail);go_wp2_with fail;go_ret2;exact ⟨by simp [dZ,HG.o],HC.o _ _ _⟩
  ·have e35:((34:Int)==35)=false:=rfl;cases g
   all_goals
    rcases hh with rfl|rfl|rfl|rfl
    all_goals
     go_enter func291,ntmps291;go_wp2_with fail;go_quiet (fail);go_wp2_with fail;go_quiet (fail);go_wp2_with fail;go_ret2;exact ⟨by simp [dZ,HG.o],by first|exact HC.o _ _ _|exact (HC.o _ _ _).trans (au _ _ _)⟩
 clear h hq v0 ll;have e36:(op==36)=false:=by simpa using o1
 have e37:(op==37)=false:=by simpa using o2
 have e35:(op==35)=false:=by simp;exact fun h=>o3 (.inl h)
 have e34:(op==34)=false:=by simp;exact fun h=>o3 (.inr h)
 have Wo:∀n:Int,dZ p ⟨op,xa,xb,xc,xd⟩ n=if (1<=op/\op<=21)\/op=28\/op=29\/op=30 then (true,n) else (decide (n=0),0):=by intro n;unfold dZ;dsimp only;rw [abH o1,abH o2,abH (fun h=>o3 (.inl h)),abH (fun h=>o3 (.inr h))]
 clear o1 o2 o3;by_cases r:(1<=op/\op<=21)\/op=28\/op=29\/op=30
 ·simp only [afE r] at Wo;have H16:=ae Wo;clear Wo hh;rcases r with ⟨r1,r2⟩|rfl|rfl|rfl
  all_goals
   exact ad4
 ·simp only [abH r] at Wo;have H16:=ae Wo;simp only [not_or] at r;obtain ⟨r1,r2,r3,r4⟩:=r;have r5:op < 1\/21 < op:=omm;have e28:(op==28)=false:=by simpa using r2
  have e29:(op==29)=false:=by simpa using r3
  have e30:(op==30)=false:=by simpa using r4
  clear Wo r1 r2 r3 r4;rcases hh with rfl|rfl|rfl|rfl
  all_goals
   rcases r5 with r5|r5
   all_goals
    exact ad4
variable {vb:Nat}
theorem ac4 {p:Prop} (h:p:=by
 go_enter func293,ntmps293;go_wp2_with fail;go_ret;exact ⟨rfl,hB _ _⟩):p:=h
theorem ac3 {p:Prop} (h:p:=by
 obtain ⟨m,gb,off,cap,rfl,hm,hk,rl,gc⟩:=bw h hq;have v0:=hv.c1;rw [hk] at v0;rw [hf];clear hf hk h hv hq kO;generalize bj p m=g1 at*;cases g1
 all_goals
  exact ac4):p:=h
theorem Nq (h:fP w K p) (hv:ay w vb 260 (uj K p iz j_ jA)) (hq:x.op=32\/x.op=40\/x.op=41\/x.op=38\/x.op=39->qu p x.a) (kO:x.op=38\/x.op=39->qu p x.c):Calls prog 293 #[ρ vb,aQ x] w (fun e w'=>e= .returned (.bool (cJ p x))/\Below w.heap.size w w'):=by
 obtain ⟨op,xa,xb,xc,xd⟩:=x;unfold aQ aA;dsimp only;have hB:=ag6 w;have hC:∀cs T k,Below w.heap.size w ((w.alloc (.cells cs T)).drewN k):=fun cs T k=>(hB cs T).trans (au _ _ k);have lv:=hv.lt;dsimp only at hq kO;by_cases o1:op=32
 ·subst o1;have hf:∀n:Int,cJ p ⟨32,n,xb,xc,xd⟩= !bj p n:=fun n=>by simp [cJ]
  replace hq:=hq smm;exact ac3
 by_cases o2:op=40
 ·subst o2;have hf:∀n:Int,cJ p ⟨40,n,xb,xc,xd⟩= !bj p n:=fun n=>by simp [cJ]
  replace hq:=hq smm;exact ac3
 by_cases o3:op=41
 ·subst o3;have hf:∀n:Int,cJ p ⟨41,n,xb,xc,xd⟩=bj p n:=fun n=>by simp [cJ]
  replace hq:=hq smm;exact ac3
 by_cases o4:op=38
 ·subst o4;have hf:∀n n2:Int,cJ p ⟨38,n,xb,n2,xd⟩=(bj p n==bj p n2):=fun n n2=>by simp [cJ]
  replace hq:=hq smm;replace kO:=kO smm;obtain ⟨m,gb,off,cap,rfl,hm,hk,rl,gc⟩:=bw h hq;obtain ⟨m2,gb2,EJ,z_,rfl,qV,jd,TF,gc2⟩:=bw h kO;have v0:=hv.c1;rw [hk] at v0 jd;simp only [afH,af5,Addr.mk.injEq] at jd;obtain ⟨⟨rfl,rfl,-⟩,-,rfl⟩:=jd;rw [hf];clear hf hk h hv hq kO;generalize bj p m=g1 at*;generalize bj p m2=g2 at*;cases g1
  all_goals
   cases g2
   all_goals
    go_enter func293,ntmps293;go_wp2_with fail;go_quiet (fail);go_wp2_with fail;go_ret;exact ⟨rfl,hC _ _ _⟩
 by_cases o5:op=39
 ·subst o5;have hf:∀n n2:Int,cJ p ⟨39,n,xb,n2,xd⟩=(!bj p n&&bj p n2):=fun n n2=>by simp [cJ]
  replace hq:=hq smm;replace kO:=kO smm;obtain ⟨m,gb,off,cap,rfl,hm,hk,rl,gc⟩:=bw h hq;obtain ⟨m2,gb2,EJ,z_,rfl,qV,jd,TF,gc2⟩:=bw h kO;have v0:=hv.c1;rw [hk] at v0 jd;simp only [afH,af5,Addr.mk.injEq] at jd;obtain ⟨⟨rfl,rfl,-⟩,-,rfl⟩:=jd;rw [hf];clear hf hk h hv hq kO;generalize bj p m=g1 at*;generalize bj p m2=g2 at*;cases g1
  all_goals
   cases g2
   all_goals
    exact ac4
 ·have hf:cJ p ⟨op,xa,xb,xc,xd⟩=true:=by simp [cJ,o1,o2,o3,o4,o5]
  obtain ⟨ga,gcp,hk,-,-⟩:=h.g.val;have v0:=hv.c1;rw [hk] at v0;rw [hf];clear hf hk h hv hq kO;exact ac4
theorem aes {p:Prop} (h:p:=by
 go_enter func319,ntmps319;go_wp2_with fail;go_ret;exact ⟨rfl,rfl⟩):p:=h
theorem Ev (h:fP w K p) (hv:ay w vb 260 (uj K p iz j_ jA)) (n:Int):Calls prog 319 #[ρ vb,ι n] w (fun e w'=>e= .returned (.bool (gE p n))/\w'=w):=by
 have v5:w.cell? (π vb 5)=some K.c:=hv.cell 5;have lv:=hv.lt;obtain ⟨ca,cc,kc,q1,q2⟩:=aV.val h.cd;rw [kc] at v5;by_cases h0:0<=n
 ·obtain ⟨m,rfl⟩:=afN h0;by_cases h1:m < p.code.length
  ·obtain ⟨b,off,cap,e,q3,q4,c0,-⟩:=h.ins h1;rw [kc] at e;simp only [afH] at e;obtain ⟨rfl,-,rfl⟩:=e;have ht:gE p m=decide ((ai p m).op=25):=by unfold gE;simp [h1]
   rw [ht];have lb:=aS c0;generalize (ai p m).op=op at*;clear ht kc hv h;by_cases o:op=25
   ·subst o;exact aes
   ·have hd:decide (op=25)=false:=by simpa using o
    rw [hd];go_enter func319,ntmps319;go_wp2_with fail;go_ret;exact ⟨by simp [o],rfl⟩
  ·have ht:gE p m=false:=by unfold gE;simp [h1]
   rw [ht];clear ht kc hv h;exact aes
 ·have ht:gE p n=false:=by unfold gE;simp [h0]
  rw [ht];clear ht kc hv h;exact aes
theorem aeh {p:Prop} (h:p:=by
 have HF:=ae (show aY p 7 n=false by unfold aY aF dM dN;simp;omega);exact abE):p:=h
theorem aeg {p:Prop} (h:p:=by
 have HF:=ae (show aY p 5 n=false by unfold aY aF dM dN;simp;omega);exact abE):p:=h
theorem aef {p:Prop} (h:p:=by
 have HF:=ae (show aY p 8 n=false by unfold aY aF dM dN;simp;omega);exact abE):p:=h
theorem aee {p:Prop} (h:p:=by
 have HF:=ae (show aY p 3 n=false by unfold aY aF dM dN;simp;omega);exact abE):p:=h
theorem aed {p:Prop} (h:p:=by
 have HF:=ae (show aY p 2 n=false by unfold aY aF dM dN;simp;omega);exact abE):p:=h
theorem aec {p:Prop} (h:p:=by
 have HF:=ae (show aY p 1 n=false by unfold aY aF dM dN;simp;omega);exact abE):p:=h
theorem abE {p:Prop} (h:p:=by
 go_enter func290,ntmps290;go_wp2_with fail;go_ret;exact ⟨by rw [HF.o];rfl,HB.o _ _⟩):p:=h
theorem E0 (h:fP w K p) (kind:Nat) (n:Int) (hk:kind<=8):Calls prog 290 #[pV K p,ι kind,ι n] w (fun e w'=>e= .returned (.bool (aY p kind n))/\Below w.heap.size w w'):=by
 obtain ⟨⟨ga,gc,g1,g2,g3⟩,⟨va,vc,v1,v2,v3⟩,⟨ta,tc,t1,t2,t3⟩,⟨oa,oc,o1,o2,o3⟩,⟨ca,cc,c1,c2,c3⟩⟩:=h.sl;unfold pV;rw [g1,v1,t1,o1,c1];have hB:=ag6 w;have HB:=ae hB;clear g1 g2 g3 v1 v2 v3 t1 t2 t3 o1 o2 o3 c1 c2 c3 h hB;have e:kind=0\/(kind=1\/kind=2\/kind=3\/kind=8)\/(kind=4\/kind=6)\/kind=5\/kind=7:=omm;clear hk;rcases e with rfl|(rfl|rfl|rfl|rfl)|(rfl|rfl)|rfl|rfl
 ·by_cases h0:n=0
  ·subst h0;have HF:=ae (show aY p 0 0=true by unfold aY aF dM dN;simp);exact abE
  ·have e0:(n==0)=false:=by simpa using h0
   have HF:=ae (show aY p 0 n=false by unfold aY aF dM dN;simp;omega);clear h0;exact abE
 ·by_cases h0:0<=n
  ·by_cases h1:n < p.ap.length
   ·have HF:=ae (show aY p 1 n=true by unfold aY aF dM dN;simp;omega);exact abE
   ·exact aec
  ·exact aec
 ·by_cases h0:0<=n
  ·by_cases h1:n < p.vars.length
   ·have HF:=ae (show aY p 2 n=true by unfold aY aF dM dN;simp;omega);exact abE
   ·exact aed
  ·exact aed
 ·by_cases h0:0<=n
  ·by_cases h1:n < p.aW.length
   ·have HF:=ae (show aY p 3 n=true by unfold aY aF dM dN;simp;omega);exact abE
   ·exact aee
  ·exact aee
 ·by_cases h0:0<=n
  ·by_cases h1:n < p.code.length
   ·have HF:=ae (show aY p 8 n=true by unfold aY aF dM dN;simp;omega);exact abE
   ·exact aef
  ·exact aef
 ·by_cases h0:n=0
  ·subst h0;have HF:=ae (show aY p 4 0=true by unfold aY aF dM dN;simp);exact abE
  ·have e0:(n==0)=false:=by simpa using h0
   by_cases h1:n=1
   ·subst h1;have HF:=ae (show aY p 4 1=true by unfold aY aF dM dN;simp);exact abE
   ·have e1:(n==1)=false:=by simpa using h1
    have HF:=ae (show aY p 4 n=false by unfold aY aF dM dN;simp;omega);clear h0 h1;exact abE
 ·by_cases h0:n=0
  ·subst h0;have HF:=ae (show aY p 6 0=true by unfold aY aF dM dN;simp);exact abE
  ·have e0:(n==0)=false:=by simpa using h0
   by_cases h1:n=1
   ·subst h1;have HF:=ae (show aY p 6 1=true by unfold aY aF dM dN;simp);exact abE
   ·have e1:(n==1)=false:=by simpa using h1
    have HF:=ae (show aY p 6 n=false by unfold aY aF dM dN;simp;omega);clear h0 h1;exact abE
 ·by_cases h0: -1073741824<=n
  ·by_cases h1:n<=1073741824
   ·have HF:=ae (show aY p 5 n=true by unfold aY aF dM dN;simp;omega);exact abE
   ·exact aeg
  ·exact aeg
 ·by_cases h0:0<=n
  ·by_cases h1:n<=4194304
   ·have HF:=ae (show aY p 7 n=true by unfold aY aF dM dN;simp;omega);exact abE
   ·exact aeh
  ·exact aeh
def FrV (v:Value) (i:Nat) (a:Act):Prop:=∃J:Nat->Value,a={tmps:=#[v,J 1,J 2,ι i,J 4,J 5,J 6,J 7,J 8,J 9,J 10,J 11,J 12,J 13,J 14,J 15,J 16,J 17,J 18,J 19,J 20,J 21,J 22,J 23,J 24,J 25,J 26,J 27,J 28,J 29,J 30,J 31,J 32,J 33,J 34,J 35,J 36,J 37,J 38,J 39,J 40,J 41,J 42,J 43,J 44,J 45,J 46,J 47,J 48,J 49],defers:=[]}
def LV (w:World) (p:aO) (v:Value) (m:Nat) (a:Act) (W:World):Prop:=∃i,i<=p.vars.length/\m+i=p.vars.length+1/\FrV v i a/\Hid (∃k,W=w.drewN k)/\Hid (∀j,j < i->me (p.vars.getD j ⟨0,0,0⟩)=true)
theorem acs {p:Prop} (h:p:=by
 go_wp2_with fail;go_quiet (fail);go_wp2_with fail;go_ret;exact ⟨by rw [HF.o];rfl,⟨_,by rw [agq]⟩⟩):p:=h
theorem UJ (h:fP w K p) (hl:p.vars.length<=16):Calls prog 286 #[K.v] w (fun e w'=>e= .returned (.bool (p.vars.all me))/\∃k,w'=w.drewN k):=by
 obtain ⟨va,vc,v1,-,-⟩:=aV.val h.v;have H:=ae h;have HV:=ae v1;rw [v1];clear h v1;go_enter func286,ntmps286;go_wp2_with fail;refine Mk.aP (LV w p (.slice va p.vars.length vc)) (p.vars.length+1) ⟨0,afO _,omm,pC rfl,ae ⟨0,rfl⟩,ae (fun j hj=>absurd hj omm)⟩ (fun a W hh=>by obtain ⟨i,h1,h2,-⟩:=hh;omega) ?_;rintro m a W ⟨i,hi,hm,⟨J,rfl⟩,HW,HA⟩;obtain ⟨k0,rfl⟩:=HW.o;have w2:=ag5 i omm;by_cases a8:i < p.vars.length
 ·obtain ⟨b,off,cap,hv,q1,q2,sr,c0,c1,c2⟩:=H.o.vr a8;rw [HV.o] at hv;simp only [afH] at hv;obtain ⟨rfl,-,rfl⟩:=hv;have dh:=ae a8;have bad:∀r,me (p.vars.getD i ⟨0,0,0⟩)=r->(r=false->p.vars.all me=false):=fun r e hr=>by subst hr;rw [agk];intro fF;rw [agb] at fF;have:=fF (p.vars.getD i ⟨0,0,0⟩) (by rw [afS,afP a8];exact af6 a8);rw [this] at e;cases e
  have Ay:=ae bad;generalize hx:p.vars.getD i ⟨0,0,0⟩=x at*;have HX:=ae hx;have JC:me x=(decide (x.lo<=x.init)&&decide (x.init<=x.hi)&&decide (-1073741824<=x.lo)&&decide (x.hi<=1073741824)):=rfl;have xz:=ae JC;clear bad hx JC;by_cases k1:x.lo<=x.init
  case neg=>have HF:=ae (Ay.o false (by rw [xz.o];simp [k1]) rfl);exact acs
  by_cases k2:x.init<=x.hi
  case neg=>have HF:=ae (Ay.o false (by rw [xz.o];simp [k2]) rfl);exact acs
  by_cases k3: -1073741824<=x.lo
  case neg=>have HF:=ae (Ay.o false (by rw [xz.o];simp [k3]) rfl);exact acs
  by_cases k4:x.hi<=1073741824
  case neg=>have HF:=ae (Ay.o false (by rw [xz.o];simp [k4]) rfl);exact acs
  go_wp2_with fail;go_quiet (fail);go_wp2_with fail;refine ⟨i+1,dh.o,omm,pC rfl,ae ⟨_,by first|rfl|rw [agq]⟩,ae fun j hj=>?_⟩;by_cases e:j=i
  ·subst e;rw [HX.o,xz.o];simp [k1,k2,k3,k4]
  ·exact HA.o j omm
 ·obtain rfl:i=p.vars.length:=omm;have HF:=ae (show p.vars.all me=true from by
   rw [agb];intro v hv;obtain ⟨j,hj,e⟩:=agd hv;have:=HA.o j hj;rw [afS,afP hj] at this;simpa [e] using this)
  clear a8;go_wp2_with fail;go_ret;exact ⟨by rw [HF.o];rfl,⟨_,rfl⟩⟩
theorem QE (w:World) (x:Ins):Calls prog 289 #[aQ x] w (fun e w'=>e= .returned (.agg #[ι x.a,ι x.b,ι x.c,ι x.d])/\Below w.heap.size w w'):=by unfold aQ aA;go_enter func289,ntmps289;go_wp2_with fail;exact afI (v:= .agg #[ι x.a,ι x.b,ι x.c,ι x.d]) (by simp [results,results289,go_sem]) rfl ⟨rfl,((afL _ _).alloc (afF _) _).alloc smm _⟩
def FW (J:Nat->Value):Act:={tmps:=#[J 0,J 1,J 2,J 3,J 4,J 5,J 6,J 7,J 8,J 9,J 10,J 11,J 12,J 13,J 14,J 15,J 16,J 17,J 18,J 19,J 20,J 21,J 22],defers:=[]}
theorem FW.of (A:Array Value) (h:A=(FW fun k=>A.getD k undef).tmps):({tmps:=A,defers:=[]}:Act)=FW fun k=>A.getD k undef:=by rw [h];rfl
def kC (g:Nat->Int) (i j:Nat):Value:=ι (if j < i then g j else 0)
def Az (nm:ByteArray) (g:Nat->Int) (i:Nat):Array Value:=#[.string nm,kC g i 0,kC g i 1,kC g i 2,kC g i 3]
theorem Nx (nm:ByteArray) (g:Nat->Int) {i:Nat} (h:i < 4):(Az nm g i).setIfInBounds (1+i) (ι (g i))=Az nm g (i+1):=by have:i=0\/i=1\/i=2\/i=3:=omm;rcases this with rfl|rfl|rfl|rfl<;>simp [Az,kC]
def ZU (w:World) (nm:ByteArray) (v:Value) (n:Nat) (g:Nat->Int) (m:Nat) (a:Act) (W:World):Prop:=∃(J:Nat->Value) (i:Nat),a=FW J/\J 1=v/\J 4=ρ w.heap.size/\J 5=ρ (w.heap.size+1)/\J 6=ι i/\i<=n/\m+i=n+1/\Hid (Below w.heap.size w W)/\
 Hid (ay W (w.heap.size+1) 306 (Az nm g i))/\Hid (ay W w.heap.size 306 #[.string ⟨#[]⟩,ι 0,ι 0,ι 0,ι 0])
theorem CU {w:World} (nm:ByteArray) {v:Value} {n:Nat} {g:Nat->Int} (h:aV w 1 v n (fun i=> ι (g i))) (hn:n<=4):
 Calls prog 316 #[.string nm,v] w (fun e w'=>e= .returned (.agg (Az nm g n))/\Below w.heap.size w w'):=by
 have HR:=ae h;obtain ⟨va,vc,rfl,-,-⟩:=aV.val h;have k0:ay ((w.alloc (.cells #[.string ⟨#[]⟩,ι 0,ι 0,ι 0,ι 0] 306)).alloc (.cells #[.string nm,ι 0,ι 0,ι 0,ι 0] 306)) w.heap.size 306 #[.string ⟨#[]⟩,ι 0,ι 0,ι 0,ι 0]:=(ay.new w _ _).alloc _;have k1:ay ((w.alloc (.cells #[.string ⟨#[]⟩,ι 0,ι 0,ι 0,ι 0] 306)).alloc (.cells #[.string nm,ι 0,ι 0,ι 0,ι 0] 306)) (w.heap.size+1) 306 (Az nm g 0):=ay.a_ smm;have K0:=ae k0;have K1:=ae k1;clear h k0 k1;go_enter func316,ntmps316;go_wp2_with fail;refine Mk.aP (ZU w nm (.slice va n vc) n g) (n+1) ⟨_,0,FW.of _ rfl,rfl,rfl,rfl,rfl,afO _,omm,ae (((afL _ _).alloc (afF _) _).alloc smm _),K1,K0⟩ (fun a W hh=>by obtain ⟨J,i,-,-,-,-,-,h1,h2,-⟩:=hh;omega) ?_;rintro m a W ⟨J,i,rfl,j1,j4,j5,j6,hi,hm,HB,HK,HZ⟩;have w2:=ag5 i omm;unfold FW;rw [j1,j4,j5,j6];clear j1 j4 j5 j6 K0 K1;by_cases a8:i < n
 ·obtain ⟨b,off,cap,hv,-,-,hb,hc⟩:=aV.some (HR.o.aB (da.ah HB.o)) omm omm;simp only [afH] at hv;obtain ⟨rfl,-,rfl⟩:=hv;have c0:W.cell? (π b (off+i))=some (ι (g i)):=hc i omm;have lb:=aS c0;have ho:∃u,W.cell? (π (w.heap.size+1) (1+i))=some u:=by have hz:(Az nm g i).size=5:=rfl;exact ⟨_,(HK.o.cell (1+i)).trans (ago (show 1+i < (Az nm g i).size by omega))⟩
  obtain ⟨u,hu⟩:=ho;have fz:=HK.o.frozen;have lx:=HK.o.lt;have HS:=ae (HK.o.set (1+i) (ι (g i)));have dh:=ae a8;have NV:(i:Int) < 4:=omm;clear hc;go_wp2_with fail;refine ⟨_,i+1,FW.of _ rfl,rfl,rfl,rfl,rfl,dh.o,omm,ae (HB.o.setCell (p:=(π (w.heap.size+1) (1+i))) smm _),ae ?_,ae (HZ.o.other omm _ _)⟩;rw [<-Nx nm g omm];exact HS.o
 ·obtain rfl:i=n:=omm;have HF:=ae (show Az nm g i=#[.string nm,ι (if 0 < i then g 0 else 0),ι (if 1 < i then g 1 else 0),ι (if 2 < i then g 2 else 0),ι (if 3 < i then g 3 else 0)] from rfl);have hk:=HK.o;rw [HF.o] at hk;generalize (if 0 < i then g 0 else 0)=g0 at*;generalize (if 1 < i then g 1 else 0)=g1 at*;generalize (if 2 < i then g 2 else 0)=g2 at*;generalize (if 3 < i then g 3 else 0)=g3 at*;obtain ⟨c0,c1,c2,c3,c4⟩:=hk.c5;obtain ⟨z0,z1,z2,z3,z4⟩:=HZ.o.c5;have fz:=HZ.o.frozen;have lz:=HZ.o.lt;clear a8 hk;go_wp2_with fail;refine afI (v:= .agg #[.string nm,ι g0,ι g1,ι g2,ι g3]) ?_ rfl ⟨by rw [HF.o],((((HB.o.setCell (p:=(π w.heap.size 0)) (afF _) _).setCell (p:=(π w.heap.size 1)) (afF _) _).setCell (p:=(π w.heap.size 2)) (afF _) _).setCell (p:=(π w.heap.size 3)) (afF _) _).setCell (p:=(π w.heap.size 4)) (afF _) _⟩;simp [results,results316,go_sem,c0,c1,c2,c3,c4,z0,z1,z2,z3,z4]
theorem UK (W:World) (nm:ByteArray):Calls prog 316 #[.string nm,ν] W (fun e w'=>e= .returned (.agg #[.string nm,ι 0,ι 0,ι 0,ι 0])/\Below W.heap.size W w'):=
 CU nm (g:=fun _=>0) (.inl ⟨rfl,rfl⟩) omm
theorem eE {W:World} {l:List Int} {cs:Array Value} (hc:cs=(l.map (Value.int .i64)).toArray) (hl:l.length<=4):aV (W.alloc (.cells cs 3)) 1 (.slice (some (π W.heap.size 0)) l.length l.length) l.length (fun i=> ι (l.getD i 0)):=by refine .inr ⟨_,_,rfl,afF _,by unfold maxLen;omega,fun o ho=>⟨rfl,?_⟩⟩;have h1:ay (W.alloc (.cells cs 3)) W.heap.size 3 cs:=ay.new _ _ _;have h2:=h1.cell (0+o);rw [h2,hc,Nat.zero_add];have:o < l.length:=omm;simp [afS,this]
theorem pQ {W w':World} {x:Obj} (h:Below (W.alloc x).heap.size (W.alloc x) w'):Below W.heap.size W w':=((afL _ _).alloc (afF _) _).trans (h.mono smm)
theorem UL (W:World) (nm:ByteArray) (a:Int):Calls prog 316 #[.string nm,.slice (some (π W.heap.size 0)) 1 1] (W.alloc (.cells #[ι a] 3)) (fun e w'=>e= .returned (.agg #[.string nm,ι a,ι 0,ι 0,ι 0])/\Below W.heap.size W w'):=
 (CU nm (eE (l:=[a]) rfl smm) smm).mono fun e w' h=>⟨h.1,pQ h.2⟩
theorem UM (W:World) (nm:ByteArray) (a b:Int):Calls prog 316 #[.string nm,.slice (some (π W.heap.size 0)) 2 2] (W.alloc (.cells #[ι a,ι b] 3)) (fun e w'=>e= .returned (.agg #[.string nm,ι a,ι b,ι 0,ι 0])/\Below W.heap.size W w'):=
 (CU nm (eE (l:=[a,b]) rfl smm) smm).mono fun e w' h=>⟨h.1,pQ h.2⟩
theorem UN (W:World) (nm:ByteArray) (a b c:Int):Calls prog 316 #[.string nm,.slice (some (π W.heap.size 0)) 3 3] (W.alloc (.cells #[ι a,ι b,ι c] 3)) (fun e w'=>e= .returned (.agg #[.string nm,ι a,ι b,ι c,ι 0])/\Below W.heap.size W w'):=
 (CU nm (eE (l:=[a,b,c]) rfl smm) smm).mono fun e w' h=>⟨h.1,pQ h.2⟩
theorem UO (W:World) (nm:ByteArray) (a b c d:Int):Calls prog 316 #[.string nm,.slice (some (π W.heap.size 0)) 4 4] (W.alloc (.cells #[ι a,ι b,ι c,ι d] 3)) (fun e w'=>e= .returned (.agg #[.string nm,ι a,ι b,ι c,ι d])/\Below W.heap.size W w'):=
 (CU nm (eE (l:=[a,b,c,d]) rfl smm) smm).mono fun e w' h=>⟨h.1,pQ h.2⟩
def nmB:List ByteArray:=[⟨#[101,110,100]⟩,⟨#[110,117,109]⟩,⟨#[98,111,111,108]⟩,⟨#[118,97,114]⟩,⟨#[108,101,110]⟩,⟨#[99,97,112]⟩,⟨#[115,105,122,101]⟩,⟨#[116,111,116,97,108]⟩,⟨#[97,116]⟩,⟨#[116,97,103,120]⟩,⟨#[116,97,103,101,110,100]⟩,⟨#[109,105,110]⟩,⟨#[109,97,120]⟩,⟨#[110,101,103]⟩,⟨#[110,111,116]⟩,⟨#[109,117,108]⟩,⟨#[100,105,118]⟩,⟨#[97,100,100]⟩,⟨#[115,117,98]⟩,⟨#[101,113]⟩,⟨#[108,116]⟩,⟨#[108,101]⟩,⟨#[106,117,109,112]⟩,⟨#[101,108,115,101]⟩,⟨#[108,111,111,112]⟩,⟨#[116,117,114,110]⟩,⟨#[113,117,105,116]⟩,⟨#[97,103,97,105,110]⟩,⟨#[115,101,116]⟩,⟨#[109,97,114,107,120]⟩,⟨#[109,97,114,107,101,110,100]⟩,⟨#[105,110,115,101,114,116]⟩,⟨#[109,111,118,101]⟩,⟨#[102,111,114,103,101,116]⟩,⟨#[116,97,107,101]⟩,⟨#[103,105,118,101]⟩,⟨#[116,101,108,108]⟩,⟨#[108,111,111,115,101]⟩,⟨#[115,104,105,102,116]⟩,⟨#[115,112,105,108,108]⟩,⟨#[101,118,105,99,116]⟩,⟨#[100,114,111,112]⟩]
def ixL:List Nat:=[1,3,5,7,9,11,12,13,15,17,19,20,21,22,23,24,25,26,27,28,29,30,32,34,36,38,40,42,44,46,48,50,52,53,55,57,58,59,61,63,65,67]
def UP (i:Nat):Value:= .agg #[.string (nmB.getD i ⟨#[]⟩),ι ((bY i).getD 0 0:Nat),ι ((bY i).getD 1 0:Nat),ι ((bY i).getD 2 0:Nat),ι ((bY i).getD 3 0:Nat)]
def mH:List Value:=(List.range 42).map UP
def CW (o:Nat):Value:=if o % 5=0 then .string (nmB.getD (o / 5) ⟨#[]⟩) else ι ((bY (o / 5)).getD (o % 5 - 1) 0:Nat)
theorem Je:mH.length=42:=by simp [mH]
theorem yL:∀v∈mH,v.cells.size=5:=by intro v hv;obtain ⟨i,-,rfl⟩:=List.mem_map.1 hv;rfl
theorem QF {o:Nat} (ho:o < 42*5):(mH.flatMap fun v=>v.cells.toList).toArray[o]? =some (CW o):=by
 have h:=Great.flat_get (s:=5) omm mH yL o;have h1:mH[o / 5]? =some (UP (o / 5)):=by have:o / 5 < 42:=omm;simp [mH,this]
 have e:(mH.flatMap fun v=>v.cells.toList).toArray[o]? =(mH.flatMap fun v=>v.cells.toList)[o]? :=by simp
 rw [e,h,h1];have:o % 5=0\/o % 5=1\/o % 5=2\/o % 5=3\/o % 5=4:=omm;rcases this with h|h|h|h|h<;>simp [CW,UP,h,Value.cells]
def Jf (w:World) (e:Ending) (w':World):Prop:=∃b,e= .returned (.slice (some (π b 0)) 42 42)/\aV w' 5 (.slice (some (π b 0)) 42 42) 42 CW/\Below w.heap.size w w'
theorem rm:(prog.info? 306).map (·.size)=some 5:=by kernel_rfl
theorem Ny:((prog.info? 306).bind (·.zero)).isSome=true:=by kernel_rfl
theorem QG:prog.underlying 301=some (.slice 306):=by kernel_rfl
theorem QH {o:Oper} {a:Act} {w0 w:World} {K:Act->World->Prop} {Q:Exit->Act->World->Prop} (parts:Array (Nat×Operand)) (ho:o.op= .buildSlice 301 42 parts) (hB:Below w0.heap.size w0 w)
 (UQ:parts.toList=(List.range 42).map fun i=>(i,Operand.tmp (ixL.getD i 0))) (sT:(List.range 42).map (fun i=>a.eval (.tmp (ixL.getD i 0)))=mH)
 (h:∀W' b,aV W' 5 (.slice (some (π b 0)) 42 42) 42 CW->Below w0.heap.size w0 W'->K (a.put o.dst (.slice (some (π b 0)) 42 42)) W'):o.wp prog a w K Q:=by
 cases X_:prog.info? 306 with
 |none=>have:=rm;simp [X_] at this
 |some ie=>
  have kN:=rm;have hz:=Ny;simp only [X_,Option.map_some,af5,Option.bind_some] at kN hz;obtain ⟨z,hzz⟩:=Option.isSome_iff_exists.1 hz;refine wp_buildSlice 301 306 42 parts ho (mH.flatMap fun v=>v.cells.toList).toArray ie z QG X_ hzz (by rw [kN];omega) (by rw [kN];omega) ?_ ?_
  ·have e1:(parts.map fun (i,x)=>(i,a.eval x)).toList=(mH.zipIdx 0).map fun x=>(x.2,x.1):=by
    rw [Array.toList_map,UQ,List.map_map,<-sT];apply List.ext_getElem
    ·simp
    ·intro i h1 h2;simp
   rw [e1,kN];exact Great.fill_whole omm mH _ yL (by rw [Je];simp)
  refine h _ _ (.inr ⟨_,_,rfl,afF _,by unfold maxLen;omega,fun o ho=>⟨rfl,?_⟩⟩) (hB.alloc hB.size _);have h1:=(ay.new w 306 (mH.flatMap fun v=>v.cells.toList).toArray).cell (0+o);rw [h1,Nat.zero_add];exact QF ho
theorem Aq (w:World):Calls prog 288 #[] w (Jf w):=by have hB:=afL w.heap.size w;go_enter func288,ntmps288;go_wp2_with (first|(with_reducible refine (UK _ _).mono ?_;rintro e W9 ⟨rfl,hb⟩;replace hB:=hB.trans (hb.mono hB.size);clear hb)|(with_reducible refine (UL _ _ _).mono ?_;rintro e W9 ⟨rfl,hb⟩;replace hB:=hB.trans (hb.mono hB.size);clear hb)|(with_reducible refine (UM _ _ _ _).mono ?_;rintro e W9 ⟨rfl,hb⟩;replace hB:=hB.trans (hb.mono hB.size);clear hb)|(with_reducible refine (UN _ _ _ _ _).mono ?_;rintro e W9 ⟨rfl,hb⟩;replace hB:=hB.trans (hb.mono hB.size);clear hb)|(with_reducible refine (UO _ _ _ _ _ _).mono ?_;rintro e W9 ⟨rfl,hb⟩;replace hB:=hB.trans (hb.mono hB.size);clear hb));refine QH (w0:=w) _ rfl hB krr krr ?_;intro W' b hR hB';have HB:=ae hB';have HR:=ae hR;clear hB' hR hB;go_wp2_with fail;go_ret;exact ⟨_,rfl,HR.o,HB.o⟩
theorem aej {p:Prop} (h:p:=by
 have HF:=ae (show aF n 1 255=false by unfold aF;simp;omega);go_enter func315,ntmps315;exact acu):p:=h
theorem acu {p:Prop} (h:p:=by
 go_wp2_with fail;go_ret;exact ⟨by rw [HF.o];rfl,rfl⟩):p:=h
theorem aaY (w:World) (n:Int):Calls prog 315 #[ι n,ι 1,ι 255] w (fun e w'=>e= .returned (.bool (aF n 1 255))/\w'=w):=by
 by_cases h1:1<=n
 ·by_cases h2:n<=255
  ·have HF:=ae (show aF n 1 255=true by unfold aF;simp;omega);go_enter func315,ntmps315;exact acu
  ·exact aej
 ·exact aej
def FT (J:Nat->Value):Act:={tmps:=#[J 0,J 1,J 2,J 3,J 4,J 5,J 6,J 7,J 8,J 9,J 10,J 11,J 12,J 13,J 14,J 15],defers:=[]}
theorem FT.of (A:Array Value) (h:A=(FT fun k=>A.getD k undef).tmps):({tmps:=A,defers:=[]}:Act)=FT fun k=>A.getD k undef:=by rw [h];rfl
def LW (w:World) (p:aO) (v:Value) (m:Nat) (a:Act) (W:World):Prop:=∃(J:Nat->Value) (i:Nat),a=FT J/\J 0=v/\J 3=ι i/\i<=p.aW.length/\m+i=p.aW.length+1/\W=w/\Hid (∀j,j < i->aF (p.aW.getD j 0) 1 255=true)
theorem UY (h:fP w K p) (hl:p.aW.length<=4):Calls prog 287 #[K.t] w (fun e w'=>e= .returned (.bool (p.aW.all fun t=>aF t 1 255))/\w'=w):=by
 have HT:=ae h.t;obtain ⟨ta,tc,t1,-,-⟩:=aV.val h.t;have HV:=ae t1;rw [t1] at HT ⊢;clear h t1;go_enter func287,ntmps287;go_wp2_with fail;refine Mk.aP (LW w p (.slice ta p.aW.length tc)) (p.aW.length+1) ⟨_,0,FT.of _ rfl,rfl,rfl,afO _,omm,rfl,ae (fun j hj=>absurd hj omm)⟩ (fun a W hh=>by obtain ⟨J,i,-,-,-,h1,h2,-⟩:=hh;omega) ?_;rintro m a W ⟨J,i,rfl,j0,j3,hi,hm,rfl,HA⟩;have w2:=ag5 i omm;unfold FT;rw [j0,j3];clear j0 j3;by_cases a8:i < p.aW.length
 ·obtain ⟨b,off,cap,hv,-,-,hb,hc⟩:=aV.some HT.o omm omm;simp only [afH] at hv;obtain ⟨rfl,-,rfl⟩:=hv;have c0:W.cell? (π b (off+i))=some (ι (p.aW.getD i 0)):=hc i omm;clear hc;have dh:=ae a8;obtain ⟨x,hx⟩:∃x,p.aW.getD i 0=x:=⟨_,rfl⟩;rw [hx] at c0;have HX:=ae hx;clear hx;obtain ⟨r,hr⟩:∃r,aF x 1 255=r:=⟨_,rfl⟩;have VQ:=ae (fun V=>hr▸aaY V x);have HR:=ae hr;clear hr;go_wp2_with fail;refine (VQ.o _).mono ?_;rintro e W1 ⟨rfl,rfl⟩;cases r with
  |false=>
   have HF:=ae (show (p.aW.all fun t=>aF t 1 255)=false from by
    rw [agk];intro fF;rw [agb] at fF;have:=fF (p.aW.getD i 0) (by rw [afS,afP dh.o];exact af6 dh.o);rw [HX.o,HR.o] at this;cases this)
   exact acu
  |true=>
   go_wp2_with fail;refine ⟨_,i+1,FT.of _ rfl,rfl,rfl,dh.o,omm,rfl,ae fun j hj=>?_⟩;by_cases e:j=i
   ·subst e;rw [HX.o];exact HR.o
   ·exact HA.o j omm
 ·obtain rfl:i=p.aW.length:=omm;have HF:=ae (show (p.aW.all fun t=>aF t 1 255)=true from by
   rw [agb];intro v hv;obtain ⟨j,hj,e⟩:=agd hv;have:=HA.o j hj;rw [afS,afP hj] at this;simpa [e] using this)
  clear a8;exact acu
end
end Go.Proofs.YtblkblclmbhjiaaGreat.Rv
