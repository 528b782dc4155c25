import Derived.Test.YtblkblclmbhjiaaGreatM9
import Derived.Laws.Tables
set_option linter.unusedVariables false
set_option linter.unusedSimpArgs false
set_option maxHeartbeats 40000000
set_option maxRecDepth 100000
open Go.Proofs.Tryz
theorem qX0 {p:Prop} (h:p:=by
 have Zf:(z.2.2.br==0)=false:=by simpa using gB
 generalize Cf:z.2.2.br=tt at*;obtain ⟨MU,MV,MX⟩:=HO.o.b4.c3;have MT:∀o,w7.frozen? (π (bx+1) o)=false:=HO.o.b4.frozen;go_wp2_with fail;rw [eK HO.o.b4 rfl,eK HO.o.b4 rfl,eK HO.o.b4 rfl];have sT:=Gb HV.o HS.o HI.o hk;rw [HZ.o] at sT;obtain ⟨pq,MZ,-,-,pw,-⟩:=sT;have N9:z.2.2.bm.length < 1000000:=by have:=pw.bm;unfold gD at MZ;omega
 have R5:=vV (s0:=s) (b2:=bx) (b5:=bx+1+1+1) (b4:=bx+1) (by rw [HO.o.mb];exact HM.o) HA.o.2 pq.inv pq.Nl (by rw [Cf];exact gB) N9 (by rw [HO.o.mb];exact HO.o.b2) (by rw [HA.o.1];exact HO.o.b5) HO.o.b4 (HO.o.ro _ smm) (HO.o.ro _ smm);refine leaves_cons (f:=61) (args:=#[ρ bx,ρ (bx+1+1+1),ρ (bx+1)]) smm (by simp [go_sem]) ?_;refine R5.mono ?_;rintro e u' w9 ⟨rfl,rfl,C2,wz,k1,k2,kf,kb⟩;obtain ⟨k3,m3⟩:=HO.o.zQ HH.o k1 k2;obtain ⟨k4,m4⟩:=pf HH.o HO.o.at_ k3 m3 (k2.cr (HO.o.ro _ smm)) kf;have iY:dE p c s key=tt:=by unfold dE;rw [HZ.o,Cf]
 have ot:dF p c s key=s:=by unfold dF;rw [iY,abH gB]
 obtain ⟨a0,a1,a2⟩:=kb.c3;rw [Cf] at a2;have fy:=ae (show eD w C RO K p c t s key (.returned (.agg #[.bool false,ν,ι tt])) w9 from by
  refine ⟨ν,C2,?_,k4,?_,?_,?_⟩
  ·rw [iY,abH gB]
  ·rw [ot,iY,abH gB,HZ.o];exact m4
  ·rw [iY,abH gB];exact .inl ⟨rfl,rfl⟩
  ·exact fun b hb=>by simp [vb,Value.ownBlock] at hb)
 have af:∀o,w9.frozen? (π (bx+1) o)=false:=kb.frozen;clear k1 k2 kf kb k3 m3 k4 m4 R5 pq pw;refine ⟨.agg #[.bool false,ν,ι tt],?_,fy.o⟩;simp [results,results17,go_sem,a0,a1,a2]):p:=h
theorem qX1 {p:Prop} (h:p:=by
 have MT:∀o,w9.frozen? (π (bx+1) o)=false:=O9.b4.frozen;obtain ⟨MU,MV,MX⟩:=O9.b4.c3;rw [gB] at O9;have mD:=ae O9;have pM:=ae gB;clear O9 gB nm MR CC CD qd;go_wp2_with fail;refine (sP _ nO).mono ?_;rintro e R4 ⟨rfl,rfl⟩;have tS:=ae (mD.o.close HH.o (bu.refl _ _) mD.o.mx (eT _ (bx+1) (.bool false) (.slice (some (π tb 0)) z.2.2.told.length z.2.2.told.length) (ι 0)) (eU mD.o.b4 (.bool false) (.slice (some (π tb 0)) z.2.2.told.length z.2.2.told.length) (ι 0)));go_wp2_with fail;refine leaves_cons (f:=61) (args:=#[ρ bx,ρ (bx+1+1+1),ρ (bx+1)]) smm (by simp [go_sem]) ?_;refine tS.o.mono ?_;rintro e u' CE ⟨rfl,rfl,C2,k3,m3,kb,td,tn⟩;have iY:dE p c s key=0:=by unfold dE;rw [HZ.o,pM.o]
 have ot:dF p c s key=z.2.1:=by unfold dF;rw [iY,afE rfl,HZ.o]
 have hh:=wF.o;have tT:gK p c s key=z.2.2.told:=by unfold gK;rw [HZ.o]
 obtain ⟨a0,a1,a2⟩:=kb.c3;have fy:=ae (show eD w C RO K p c t s key (.returned (.agg #[.bool false,(.slice (some (π tb 0)) z.2.2.told.length z.2.2.told.length),ι 0])) CE from by
  refine ⟨(.slice (some (π tb 0)) z.2.2.told.length z.2.2.told.length),C2,?_,k3,?_,?_,?_⟩
  ·rw [iY,afE rfl,hh]
  ·rw [ot,iY,afE rfl,hh,tT,HZ.o];exact m3
  ·rw [iY,afE rfl,tT];exact (by obtain ⟨cs,qt⟩:=td.c_;exact .inr ⟨tb,cs,rfl,qt,fun i hi=>(qt.cell i).symm.trans (td.cell (o:=i) omm)⟩)
  ·exact fun b hb=>tn b hb)
 clear tS k3 m3 kb td tn mD;refine ⟨.agg #[.bool false,(.slice (some (π tb 0)) z.2.2.told.length z.2.2.told.length),ι 0],?_,fy.o⟩;simp [results,results17,go_sem,a0,a1,a2]):p:=h
theorem qX3 {p:Prop} (h:p:=by
 have eG:=at_mem HV.o HI.o key;rw [HX.o] at eG;have CF:=pH HV.o eG uR key;have hl:=oV HV.o HS.o eG uR key;rw [Int.toNat_natCast] at CF hl;exact ⟨0,_,_,_,fun b hb=>hb,⟨C,_,_,_,rfl,rfl,AM.o.all⟩,Kept.refl _ _,CF,nr HI.o hk a,⟨afF _,afF _,afF _,afF _⟩,hl,by rw [Nat.zero_add],omm⟩):p:=h
theorem qX9 {p:Prop} (h:p:=by
 rw [ot,iY,afE rfl,hh,tT,HZ.o];have:mj t false z.2.2.told={t with bt:=wrap64 (t.bt+1),fS:=wrap64 t.fS}:=by have e0:z.2.2.told=[]:=List.length_eq_zero_iff.1 jF;unfold mj;rw [e0];simp
 rw [this];exact m3):p:=h
theorem agZ {p:Prop} (h:p:=by
 rcases HO.o.td.val with ⟨-,h⟩|⟨b,cap,h,-⟩
 ·exact h
 ·exact absurd h smm):p:=h
theorem agK {p:Prop} (h:p:=by
 obtain ⟨cs,q1,q2,q3⟩:=HO.o.rb;rw [gB] at q3;exact (q1.cell 6).trans q3):p:=h
theorem agL {p:Prop} (h:p:=by
 rw [iY,afE rfl,tT];exact .inl ⟨rfl,List.length_eq_zero_iff.1 jF⟩):p:=h
abbrev agl:=@Nat.lt_irrefl
abbrev agB:=@List.length_singleton
theorem agU {p:Prop} (h:p:=by
 rw [afE h1,abH h2];cases hb:(lv q).ownBlock with
 |none=>exact .inl rfl
 |some b=>
  right;intro e;have:=(h.q q h1).jy b hb;have:=hn b e.symm;omega):p:=h
theorem agV {p:Prop} (h:p:=by
 rw [abH h1,afE h2];cases hb:ev.ownBlock with
 |none=>exact .inl rfl
 |some b=>
  right;intro e;have:=(h.q q' h2).jy b e.symm;have:=hn b hb;omega):p:=h
abbrev agm:=@Go.Lib.run_eql_slice_nil
abbrev agy:=@Go.World.ownsRow_made
namespace Go.Proofs.YtblkblclmbhjiaaGreat.Ma
open Go.RowKit ak.Vm
open ak hiding aL an aj
open dT (bP bG d_)
open Ix (cL)
section
variable {w w' wr:World} {C C' C1:Co} {U U':Ru} {RO RO' kG:List Nat} {K:Kc} {p:aO} {c:Cp} {t t':fI} {used used':Int} {hv hv':Value} {jv jx:Nat->Value} {s s' s0 s1:St} {t0:fI} {vW:Int} {r r':Rn} {rv rv':Value} {mb rb bx:Nat} {T:Map} {st:Std}
theorem eK {b o:Nat} {U:TypeId} {cs:Array Value} {v:Value} (h:ay w b U cs) (hv:cs[o]? =some v):w.setCell (π b o) v=w:=by
 have hh:(w.setCell (π b o) v).heap=w.heap:=Array.ext_getElem? fun k=>by
  rw [nR];split
  ·next e=>
   subst e;unfold ay at h;rw [h];have:cs.setIfInBounds o v=cs:=Array.ext_getElem? fun i=>by
    rw [agC];split
    ·next e=>subst e;split
             ·exact hv.symm
             ·next h2=>rw [Array.getElem?_eq_none omm]
    ·rfl
   simp [this]
  ·rfl
 cases w;simp only [World.setCell] at hh ⊢;congr
structure Over (w wr:World) (bx:Nat) (C C1:Co) (kG:List Nat) (K:Kc) (p:aO) (c:Cp) (s1:St) (t:fI) (used:Int) (tv:Value) (told:List Nat) (br:Int) (x0 x1 x2:Value):Prop where
 at_:bx=w.heap.size
 mb:C1.mb=C.mb
 mx:Mx wr C1 kG K p c s1 t used (ρ (bx+1+1))
 ro:∀b,b∈(bx::(bx+1)::(bx+1+1+1)::Ma.rest w C)->b∈kG
 b2:ay wr bx 35 #[ρ C.mb]
 b4:ay wr (bx+1) 44 #[x0,x1,x2]
 b5:ay wr (bx+1+1+1) 111 #[ρ (bx+1+1)]
 rb:∃cs,ay wr (bx+1+1) 126 cs/\cs[5]? =some tv/\cs[6]? =some (ι br)
 nc:bx+1+1∉C1.l
 td:Row wr 46 1 tv told.length (fun i=> .int .u64 (told.getD i 0:Nat))
 tn:∀b,b∈vb tv->b∉C1.l/\b≠bx+1/\b∉Ma.rest w C
 zP:Kept (Ma.rest w C) w wr
theorem xp.LS {key:Nat} {a:Int} (h:xp w wr bx C K p c s t used key a (ρ (bx+1+1))):Over w wr bx C C (bx::(bx+1)::(bx+1+1+1)::Ma.rest w C) K p c s t used ν [] 0 (.bool false) ν (ι 0):=
 ⟨h.at_,rfl,h.mx,fun b hb=>hb,h.b2,h.b4,h.b5,⟨_,h.rb,rfl,rfl⟩,h.nc,Row.nil _ _ _ _,fun b hb=>by simp [vb,Value.ownBlock] at hb,h.zP⟩
theorem xp.all {key a:Nat} (h:xp w wr bx C K p c s t used key a (ρ (bx+1+1))):cD wr C ⟨bx+1+1,ν,ν,ν,ν⟩ (bx::(bx+1)::(bx+1+1+1)::Ma.rest w C) K p c t used ν (fun _=> ι 0) s (eR key a):=h.mx.begin h.rb h.nc h.no
theorem xp.ran {key a:Nat} {w6:World} (h:xp w w6 bx C K p c s t 0 key a (ρ (bx+1+1))) {z:Nat×SR} (hi:In wr C.mb (bx+1+1) kG K p c t z.1 z.2) (ho:∀b,b∈(bx::(bx+1)::(bx+1+1+1)::Ma.rest w C)->b∈kG) (hk:Kept (bx::(bx+1)::(bx+1+1+1)::Ma.rest w C) w6 wr):
 ∃C1 tv,Over w wr bx C C1 kG K p c z.2.1 t z.1 tv z.2.2.told z.2.2.br (.bool false) ν (ι 0)/\∃U hv jv,U.rb=bx+1+1/\cD wr C1 U kG K p c t z.1 hv jv z.2.1 z.2.2:=by
 obtain ⟨C1,U,hv,jv,h1,h2,A⟩:=hi;have hm:=A.mx;rw [h2] at hm;have hb:=A.r.c_;rw [h2] at hb;refine ⟨C1,U.kF,⟨h.at_,h1,hm,ho,ay.kept h.b2 hk smm,ay.kept h.b4 hk smm,ay.kept h.b5 hk smm,⟨_,hb,rfl,rfl⟩,?_,A.r.kF,?_,h.zP.trans hk (fun b hb=>by simp [hb])⟩,U,hv,jv,h2,A⟩
 ·rw [<-h2];exact A.sep.uc (by simp [Ru.l])
 ·exact fun b hb=>⟨A.sep.uc (by simp [Ru.l,hb]),fun e=>A.sep.ur (b:=b) (ho b (by rw [e];simp)) (by simp [Ru.l,hb]),fun hc=>A.sep.ur (b:=b) (ho b (by simp [hc])) (by simp [Ru.l,hb])⟩
def mj (t:fI) (VE:Bool) (told:List Nat):fI:=if VE then {t with gY:=wrap64 (t.gY+1),fS:=wrap64 (t.fS+told.length)} else {t with bt:=wrap64 (t.bt+1),fS:=wrap64 (t.fS+told.length)}
def vX (w:World) (v:Value) (l:List Nat):Prop:=(v=ν/\l=[])\/∃b cs,v= .slice (some (π b 0)) l.length l.length/\ay w b 46 cs/\∀i,i < l.length->cs[i]? =some (.int .u64 (l.getD i 0:Nat))
def eD (w:World) (C:Co) (RO:List Nat) (K:Kc) (p:aO) (c:Cp) (t:fI) (s:St) (key:Nat) (e:Ending) (w':World):Prop:=
 ∃(tv:Value) (C':Co),e= .returned (.agg #[.bool (if dE p c s key=0 then sH p c s key else false),tv,ι (dE p c s key)])/\bu w w' C C'/\
  Mx w' C' RO K p c (dF p c s key) (if dE p c s key=0 then mj t (sH p c s key) (gK p c s key) else t) (lD p c s key).1 (.pointer none)/\
  vX w' tv (if dE p c s key=0 then gK p c s key else [])/\∀b,b∈vb tv->b∉C'.l/\b∉Ma.rest w C
theorem Mx.XX (h:Mx w C RO' K p c s t used rv) (hs:∀b,b∈RO->b∈RO') (hp:∀b,(b∈vb K.g\/b∈vb K.v\/b∈vb K.t\/b∈vb K.o\/b∈vb K.c\/b∈vb K.qs)->b∈RO):Mx w C RO K p c s t used rv:=
 ⟨⟨h.m.aM,⟨h.m.prog.g,h.m.prog.v,h.m.prog.t,h.m.prog.o,h.m.prog.cd,h.m.prog.qs,hp⟩,h.m.ar,h.m.ix,h.m.vs⟩,h.sep.nd,h.sep.lt,fun b hb hc=>h.sep.ro b hb (hs b hc),fun b hb=>h.sep.cY b (hs b hb)⟩
section
variable {tv x0 x1 x2 y0 y1 y2:Value} {told:List Nat} {br vY:Int} {w8 w9 wz:World} {C2:Co} {s2:St} {t2:fI}
theorem Over.zQ (h:Mx w C RO K p c s0 t0 vW (.pointer none)) (O:Over w wr bx C C1 kG K p c s1 t used tv told br x0 x1 x2) (k:bu wr w8 C1 C2) (m:Mx w8 C2 kG K p c s2 t2 vY rv):bu w w8 C C2/\Mx w8 C2 RO K p c s2 t2 vY rv:=
 narrow h (fun b hb=>O.ro b (by simp [hb])) (O.zP.trans (Kept.cE (RO:=Ma.rest w C) k.f (fun b hb=>O.mx.cr (O.ro b (by simp [hb]))) (fun b hb=>O.mx.sep.cY b (O.ro b (by simp [hb])))) (fun b hb=>hb)) (k.mb.trans O.mb) m
theorem pf (h:Mx w C RO K p c s0 t0 vW (.pointer none)) (hb:bx=w.heap.size) (k:bu w w8 C C2) (m:Mx w8 C2 RO K p c s2 t2 vY rv) (hn:bx+1∉C2.l) (f:da [bx+1] w8 w9):bu w w9 C C2/\Mx w9 C2 RO K p c s2 t2 vY rv:=
 ⟨k.new omm f,m.aB f (fun b hb hc=>by simp at hc;subst hc;exact hn hb) (fun b iN hc=>by simp at hc;subst hc;have:=h.sep.cY _ iN;omega)⟩
theorem Over.close (h:Mx w C RO K p c s0 t0 vW (.pointer none)) (O:Over w wr bx C C1 kG K p c s1 t used tv told 0 x0 x1 x2) (k:bu wr w8 C1 C1) (m:Mx w8 C1 kG K p c s1 t2 vY (ρ (bx+1+1))) (f:da [bx+1] w8 w9) (b4:ay w9 (bx+1) 44 #[y0,y1,y2]):
 CallsD prog 61 #[ρ bx,ρ (bx+1+1+1),ρ (bx+1)] .returning w9 (fun e u' w'=>u'= .returning/\e= .returned (.tuple #[])/\
  ∃C2,bu w w' C C2/\Mx w' C2 RO K p c s1 t2 vY (.pointer none)/\ay w' (bx+1) 44 #[y0,y1,y2]/\Row w' 46 1 tv told.length (fun i=> .int .u64 (told.getD i 0:Nat))/\∀b,b∈vb tv->b∉C2.l/\b∉Ma.rest w C):=by
 obtain ⟨k1,m1⟩:=O.zQ h k m;have n4:bx+1∉C1.l:=O.mx.cr (O.ro _ smm);obtain ⟨k2,m2⟩:=pf h O.at_ k1 m1 n4 f;have n2:bx∉C1.l:=O.mx.cr (O.ro _ smm);have n5:bx+1+1+1∉C1.l:=O.mx.cr (O.ro _ smm);have c2:=(O.b2.aB k.f n2).aB f smm;have c5:=(O.b5.aB k.f n5).aB f sso;obtain ⟨cs,qt,-,h6⟩:=O.rb;have cr:=(qt.aB k.f O.nc).aB f smm;have td:=(O.td.aB k.f (fun b hb=>(O.tn b (aK.2 hb)).1)).aB f (fun b hb=>by simp;exact (O.tn b (aK.2 hb)).2.1);have tl:∀b,b∈vb tv->b < w9.heap.size:=by
  intro b hb;rcases td.val with ⟨e,-⟩|⟨b',cap,e,-,-,hl⟩
  ·rw [e] at hb;simp [vb,Value.ownBlock] at hb
  ·rw [e] at hb;simp [vb,Value.ownBlock] at hb;subst hb;exact hl
 have m3:Mx w9 C1 (bx::(bx+1)::(bx+1+1+1)::RO) K p c s1 t2 vY (ρ (bx+1+1)):=m2.less (fun b hb=>by
  simp only [afV] at hb;rcases hb with rfl|rfl|rfl|hb
  ·exact .inr ⟨c2.lt,n2⟩
  ·exact .inr ⟨b4.lt,n4⟩
  ·exact .inr ⟨c5.lt,n5⟩
  ·exact .inl hb) (fun b hb=>by simp [hb])
 rw [<-O.mb] at c2;refine (LR m3 cr h6 O.nc c2 c5 b4 smm smm).mono ?_;rintro e u' w' ⟨rfl,rfl,C3,wz,k3,m4,kf,kb⟩;have m5:=m4.XX (RO:=RO) (fun b hb=>by simp [hb]) h.m.prog.ro;have n43:bx+1∉C3.l:=m4.cr smm;obtain ⟨k4,m6⟩:=pf h O.at_ (k2.trans k3) m5 n43 kf;refine ⟨rfl,rfl,C3,k4,m6,kb,(td.aB k3.f (fun b hb=>(O.tn b (aK.2 hb)).1)).aB kf (fun b hb=>by simp;exact (O.tn b (aK.2 hb)).2.1),fun b hb=>⟨fun hc=>?_,(O.tn b hb).2.2⟩⟩;rcases k3.c b hc with hc|hc
 ·exact (O.tn b hb).1 hc
 ·have:=tl b hb;omega
end
theorem Over.sX {tv x0 x1 x2:Value} {told:List Nat} {br:Int} (O:Over w wr bx C C1 kG K p c s1 t used tv told br x0 x1 x2) (o:Nat) (v:Value) (hb:(rD K C1 p c s1.total t used (ρ (bx+1+1))).setIfInBounds o v=rD K C1 p c s1.total t' used' (ρ (bx+1+1))):
 Over w (wr.setCell (π C.mb o) v) bx C C1 kG K p c s1 t' used' tv told br x0 x1 x2:=by
 obtain ⟨k,m⟩:=O.mx.sX o v hb;rw [O.mb] at k m;obtain ⟨cs,q1,q2,q3⟩:=O.rb;exact ⟨O.at_,O.mb,m,O.ro,O.b2.aB k.f (O.mx.cr (O.ro _ smm)),O.b4.aB k.f (O.mx.cr (O.ro _ smm)),O.b5.aB k.f (O.mx.cr (O.ro _ smm)),⟨cs,q1.aB k.f O.nc,q2,q3⟩,O.nc,
  O.td.aB k.f (fun b hb=>(O.tn b (aK.2 hb)).1),O.tn,O.zP.trans (Kept.cE (RO:=Ma.rest w C) k.f (fun b hb=>O.mx.cr (O.ro b (by simp [hb]))) (fun b hb=>O.mx.sep.cY b (O.ro b (by simp [hb])))) (fun b hb=>hb)⟩
theorem Over.draw {tv x0 x1 x2:Value} {told:List Nat} {br:Int} (O:Over w wr bx C C1 kG K p c s1 t used tv told br x0 x1 x2) (n:Nat):Over w (wr.drewN n) bx C C1 kG K p c s1 t used tv told br x0 x1 x2:=by
 obtain ⟨cs,q1,q2,q3⟩:=O.rb;have b:=au wr.heap.size wr n;exact ⟨O.at_,O.mb,O.mx.drewN n,O.ro,O.b2.drewN n,O.b4.drewN n,O.b5.drewN n,⟨cs,q1.drewN n,q2,q3⟩,O.nc,
  O.td.aB (da.ah (S:=[]) b) smm,O.tn,O.zP.trans (Kept.ah b (fun b hb=>O.mx.sep.cY b (O.ro b (by simp [hb])))) (fun b hb=>hb)⟩
theorem adA {p:Prop} (h:p:=by
 go_enter func63,ntmps63;go_wp2;exact afI (results_tmp rfl _ _ _) rfl ⟨rfl,rfl⟩):p:=h
theorem nG (w:World):Calls prog 63 #[ν] w (fun e w'=>e= .returned ν/\w=w'):=by exact adA
theorem sP (w:World) {b n cap:Nat} (h:n<=cap):Calls prog 63 #[.slice (some (π b 0)) n cap] w (fun e w'=>e= .returned (.slice (some (π b 0)) n n)/\w=w'):=by exact adA
end
section
variable {w w' wr:World} {C C' C1:Co} {U U':Ru} {RO RO' kG:List Nat} {K:Kc} {p:aO} {c:Cp} {t t':fI} {used used':Int} {hv hv':Value} {jv jx:Nat->Value} {s s' s0 s1:St} {t0:fI} {vW:Int} {r r':Rn} {rv rv':Value} {mb rb bx:Nat} {T:Map} {st:Std}
theorem acV {p:Prop} (h:p:=by
 obtain ⟨cs,q1,q2,q3⟩:=O9.rb;exact (q1.cell 5).trans q2):p:=h
theorem acU {p:Prop} (h:p:=by
 obtain ⟨cs,q1,q2,q3⟩:=O8.rb;exact (q1.cell 5).trans q2):p:=h
theorem acT {p:Prop} (h:p:=by
 obtain ⟨cs,q1,q2,q3⟩:=HO.o.rb;exact (q1.cell 5).trans q2):p:=h
theorem adT {p:Prop} (h:p:=by
 go_wp2_with fail;refine (nG _).mono ?_;rintro e R4 ⟨rfl,rfl⟩;have tS:=ae (mD.o.close HH.o (bu.refl _ _) mD.o.mx (eT _ (bx+1) (.bool false) ν (ι 0)) (eU mD.o.b4 (.bool false) ν (ι 0)));go_wp2_with fail;refine leaves_cons (f:=61) (args:=#[ρ bx,ρ (bx+1+1+1),ρ (bx+1)]) smm (by simp [go_sem]) ?_;refine tS.o.mono ?_;rintro e u' CE ⟨rfl,rfl,C2,k3,m3,kb,td,tn⟩;have iY:dE p c s key=0:=by unfold dE;rw [HZ.o,pM.o]
 have ot:dF p c s key=z.2.1:=by unfold dF;rw [iY,afE rfl,HZ.o]
 have hh:=wF.o;have tT:gK p c s key=z.2.2.told:=by unfold gK;rw [HZ.o]
 obtain ⟨a0,a1,a2⟩:=kb.c3;have fy:=ae (show eD w C RO K p c t s key (.returned (.agg #[.bool false,ν,ι 0])) CE from by
  refine ⟨ν,C2,?_,k3,?_,?_,?_⟩
  ·rw [iY,afE rfl,hh]
  ·exact qX9
  ·exact agL
  ·exact fun b hb=>by simp [vb,Value.ownBlock] at hb)
 clear tS k3 m3 kb td tn mD;refine ⟨.agg #[.bool false,ν,ι 0],?_,fy.o⟩;simp [results,results17,go_sem,a0,a1,a2]):p:=h
theorem Cz (M:N6 K C.mb p c) (V:Env p c T) (hS:mh p) (h:Mx w C RO K p c s t used (.pointer none)) (hI:Inv (aw p c) s) {key:Nat} (hk:key < 18446744073709551616) (hf:s.f key=none):
 Calls prog 17 #[ρ C.mb,.int .u64 key] w (eD w C RO K p c t s key):=by
 have qd:∀(fn:Fn) (first cap:Array Value) (w:World),(Instr.makeFunc fn first cap).run prog w= .ok (.func fn first cap) w:=fun _ _ _ _=>rfl;have m4:=mc4 h.m.aM;have lm:C.mb < w.heap.size:=h.m.aM.lt;have B4:=u_ h key p.aJ;have HM:=ae M;have HV:=ae V;have HS:=ae hS;have HI:=ae hI;have HF:=ae hf;have m10:((((w.alloc (.cells #[ρ C.mb] 35)).alloc (.cells #[.bool false,ν,ι 0] 44)).alloc (.cells #[.int .u64 key,ι p.aJ,ν,ν,ν,ν,ι 0,ν,.bool false] 126)).alloc (.cells #[ρ (w.heap.size+1+1)] 111)).cell? (π C.mb 10)=some (ρ C.xb):=B4.mx.m.aM.cell 10;have HG:=ae (Ix.yk B4.mx.m.ix (key:=key) hf);have mU:=ae B4;have wF:=ae (show sH p c s key=false by unfold sH;rw [hf]);have HH:=ae h;clear M V hS hI hf B4 h
 go_enter_defers func17,ntmps17
 go_wp2_with fail;refine HG.o.mono ?_;rintro e w5 ⟨rfl,n5,rfl⟩;have B5:=mU.o.draw n5;have nA:=ae B5;clear mU HG m10 m4 lm;generalize eO:w.heap.size=bx at*;generalize World.drewN _ _=w5 at*;clear eO;have d2:=B5.b2.c1;have d5:=B5.b5.c1;have f60:∀o,w5.frozen? (π C.mb o)=false:=B5.mx.m.aM.frozen;have oC:w5.cell? (π C.mb 60)=some (.pointer none):=B5.mx.m.aM.cell 60;have m17:w5.cell? (π C.mb 17)=some (ι used):=B5.mx.m.aM.cell 17;have nm:bx≠C.mb:=fun e=>B5.mx.cr (b:=bx) smm (by rw [e];simp [Co.l]);have MR:bx+1+1+1≠C.mb:=fun e=>B5.mx.cr (b:=bx+1+1+1) smm (by rw [e];simp [Co.l]);clear B5;go_wp2_with fail;go_region;have B6:=nA.o.enter.draw 1;change xp w ((w5.setCell (π C.mb 60) (ρ (bx+1+1))).setCell (π C.mb 17) (ι 0)).drew bx C K p c s t 0 key p.aJ (ρ (bx+1+1)) at B6;clear d2 d5 f60 oC m17 nA;generalize ((w5.setCell (π C.mb 60) (ρ (bx+1+1))).setCell (π C.mb 17) (ι 0)).drew=w6 at*;have HX:=ae (show KU p c s key=p.aJ by unfold KU;rw [HF.o]);generalize Da:p.aJ=lM at*;clear Da;have d2:=B6.b2.c1;have d5:=B6.b5.c1;have r1:w6.cell? (π (bx+1+1) 1)=some (ι lM):=B6.rb.cell 1;by_cases kL:lM < 0
 ·have uR:¬0<=lM:=omm;have gA:lD p c s key=(0,(s,eR key 0)):=by unfold lD;rw [HX.o,afE kL]
  have O:Over w w6 bx C C (bx::(bx+1)::(bx+1+1+1)::Ma.rest w C) K p c (lD p c s key).2.1 t (lD p c s key).1 ν (lD p c s key).2.2.told (lD p c s key).2.2.br (.bool false) ν (ι 0):=by rw [gA];exact B6.LS
  have gB:(lD p c s key).2.2.br=0:=by rw [gA];rfl
  have g5:=O.b5.c1;clear B6 d2 d5 gA;generalize hz:lD p c s key=z at*;have HZ:=ae hz;obtain ⟨C1,kG,O2⟩:∃C1 kG,Over w w6 bx C C1 kG K p c z.2.1 t z.1 ν z.2.2.told z.2.2.br (.bool false) ν (ι 0):=⟨_,_,O⟩;have HO:=ae O2;clear hz O O2;have g6:w6.cell? (π (bx+1+1) 6)=some (ι 0):=by exact agK
  generalize w6=w7 at*;have jF:z.2.2.told.length=0:=by exact agZ
  have d2:=HO.o.b2.c1;have Ax:w7.cell? (π (bx+1+1) 5)=some ν:=by exact acT
  have e13:w7.cell? (π C.mb 13)=some (ι t.gY):=by rw [<-HO.o.mb];exact HO.o.mx.m.aM.cell 13
  have e14:w7.cell? (π C.mb 14)=some (ι t.bt):=by rw [<-HO.o.mb];exact HO.o.mx.m.aM.cell 14
  have pn:w7.cell? (π C.mb 15)=some (ι t.fS):=by rw [<-HO.o.mb];exact HO.o.mx.m.aM.cell 15
  have fm:∀o,w7.frozen? (π C.mb o)=false:=by rw [<-HO.o.mb];exact HO.o.mx.m.aM.frozen
  have CC:bx+1+1≠C.mb:=fun e=>HO.o.nc (by rw [e,<-HO.o.mb];simp [Co.l]);have CD:bx+1≠C.mb:=fun e=>HO.o.mx.cr (b:=bx+1) (HO.o.ro _ smm) (by rw [e,<-HO.o.mb];simp [Co.l]);go_wp2_with fail;have O8:=HO.o.sX 14 (ι (wrap64 (t.bt+1))) (t':={t with bt:=wrap64 (t.bt+1)}) (used':=z.1) rfl;clear d2 g5 Ax e13 e14 pn fm HO g6;generalize (w7.setCell (π C.mb 14) (ι (wrap64 (t.bt+1))))=w8 at*;have d2:=O8.b2.c1;have g5:=O8.b5.c1;have Ax:w8.cell? (π (bx+1+1) 5)=some ν:=by exact acU
  have pn:w8.cell? (π C.mb 15)=some (ι t.fS):=by rw [<-O8.mb];exact O8.mx.m.aM.cell 15
  have fm:∀o,w8.frozen? (π C.mb o)=false:=by rw [<-O8.mb];exact O8.mx.m.aM.frozen
  have sh:=ae O8;clear O8;go_region;have O9:=(sh.o.sX 15 (ι (wrap64 t.fS)) (t':={t with bt:=wrap64 (t.bt+1),fS:=wrap64 t.fS}) (used':=z.1) rfl).draw 1;change Over w (w8.setCell (π C.mb 15) (ι (wrap64 t.fS))).drew bx C C1 kG K p c _ _ _ _ _ _ _ _ _ at O9;clear d2 g5 Ax pn fm sh;generalize (w8.setCell (π C.mb 15) (ι (wrap64 t.fS))).drew=w9 at*;have g5:=O9.b5.c1;have Ax:w9.cell? (π (bx+1+1) 5)=some ν:=by exact acV
  have MT:∀o,w9.frozen? (π (bx+1) o)=false:=O9.b4.frozen;obtain ⟨MU,MV,MX⟩:=O9.b4.c3;rw [gB] at O9;have mD:=ae O9;have pM:=ae gB;clear O9 gB nm MR CC CD qd r1 uR kL;exact adT
 ·have uR:0<=lM:=omm;obtain ⟨a,rfl⟩:∃a:Nat,lM=a:=⟨lM.toNat,omm⟩;have AM:=ae B6;clear B6;have Bk:rN w6 w6 C.mb (bx+1+1) (bx::(bx+1)::(bx+1+1+1)::Ma.rest w C) K p c t T s (s,eR key a) gD:=by exact qX3
  have HR:=ae (vT HM.o HV.o Bk);clear Bk;have HZ:=ae (show lD p c s key=iU p c gD (s,eR key a) by unfold lD;rw [HX.o,abH omm,Int.toNat_natCast]);go_wp2_with fail;refine HR.o.mono ?_;rintro e w7 ⟨rfl,kG,ho,dK,MY⟩;obtain ⟨C1,tv,O,U,hv,jv,lE,A⟩:=AM.o.ran dK ho MY;clear HR dK ho MY AM d2 d5 r1;rw [<-HZ.o] at O A;have g5:=O.b5.c1;have g6:w7.cell? (π (bx+1+1) 6)=some (ι (lD p c s key).2.2.br):=by obtain ⟨cs,q1,q2,q3⟩:=O.rb;exact (q1.cell 6).trans q3
  have HO:=ae O;have HA:=ae (And.intro lE A);clear O A lE HZ;generalize hz:lD p c s key=z at*;have HZ:=ae hz;clear hz;by_cases gB:z.2.2.br=0
  ·rw [gB] at g6;rcases HO.o.td.val with ⟨fN,jF⟩|⟨tb,uf,fN,nO,lF,a8⟩
   ·subst fN;have d2:=HO.o.b2.c1;have Ax:w7.cell? (π (bx+1+1) 5)=some ν:=by exact acT
    have e13:w7.cell? (π C.mb 13)=some (ι t.gY):=by rw [<-HO.o.mb];exact HO.o.mx.m.aM.cell 13
    have e14:w7.cell? (π C.mb 14)=some (ι t.bt):=by rw [<-HO.o.mb];exact HO.o.mx.m.aM.cell 14
    have pn:w7.cell? (π C.mb 15)=some (ι t.fS):=by rw [<-HO.o.mb];exact HO.o.mx.m.aM.cell 15
    have fm:∀o,w7.frozen? (π C.mb o)=false:=by rw [<-HO.o.mb];exact HO.o.mx.m.aM.frozen
    have CC:bx+1+1≠C.mb:=fun e=>HO.o.nc (by rw [e,<-HO.o.mb];simp [Co.l]);have CD:bx+1≠C.mb:=fun e=>HO.o.mx.cr (b:=bx+1) (HO.o.ro _ smm) (by rw [e,<-HO.o.mb];simp [Co.l]);go_wp2_with fail;have O8:=HO.o.sX 14 (ι (wrap64 (t.bt+1))) (t':={t with bt:=wrap64 (t.bt+1)}) (used':=z.1) rfl;clear d2 g5 Ax e13 e14 pn fm HO g6;generalize (w7.setCell (π C.mb 14) (ι (wrap64 (t.bt+1))))=w8 at*;have d2:=O8.b2.c1;have g5:=O8.b5.c1;have Ax:w8.cell? (π (bx+1+1) 5)=some ν:=by exact acU
    have pn:w8.cell? (π C.mb 15)=some (ι t.fS):=by rw [<-O8.mb];exact O8.mx.m.aM.cell 15
    have fm:∀o,w8.frozen? (π C.mb o)=false:=by rw [<-O8.mb];exact O8.mx.m.aM.frozen
    have sh:=ae O8;clear O8;go_region;have O9:=(sh.o.sX 15 (ι (wrap64 t.fS)) (t':={t with bt:=wrap64 (t.bt+1),fS:=wrap64 t.fS}) (used':=z.1) rfl).draw 1;change Over w (w8.setCell (π C.mb 15) (ι (wrap64 t.fS))).drew bx C C1 kG K p c _ _ _ _ _ _ _ _ _ at O9;clear d2 g5 Ax pn fm sh;generalize (w8.setCell (π C.mb 15) (ι (wrap64 t.fS))).drew=w9 at*;have g5:=O9.b5.c1;have Ax:w9.cell? (π (bx+1+1) 5)=some ν:=by exact acV
    have MT:∀o,w9.frozen? (π (bx+1) o)=false:=O9.b4.frozen;obtain ⟨MU,MV,MX⟩:=O9.b4.c3;rw [gB] at O9;have mD:=ae O9;have pM:=ae gB;clear O9 gB nm MR CC CD qd;exact adT
   ·subst fN;have d2:=HO.o.b2.c1;have Ax:w7.cell? (π (bx+1+1) 5)=some (.slice (some (π tb 0)) z.2.2.told.length uf):=by exact acT
    have e13:w7.cell? (π C.mb 13)=some (ι t.gY):=by rw [<-HO.o.mb];exact HO.o.mx.m.aM.cell 13
    have e14:w7.cell? (π C.mb 14)=some (ι t.bt):=by rw [<-HO.o.mb];exact HO.o.mx.m.aM.cell 14
    have pn:w7.cell? (π C.mb 15)=some (ι t.fS):=by rw [<-HO.o.mb];exact HO.o.mx.m.aM.cell 15
    have fm:∀o,w7.frozen? (π C.mb o)=false:=by rw [<-HO.o.mb];exact HO.o.mx.m.aM.frozen
    have CC:bx+1+1≠C.mb:=fun e=>HO.o.nc (by rw [e,<-HO.o.mb];simp [Co.l]);have CD:bx+1≠C.mb:=fun e=>HO.o.mx.cr (b:=bx+1) (HO.o.ro _ smm) (by rw [e,<-HO.o.mb];simp [Co.l]);go_wp2_with fail;have O8:=HO.o.sX 14 (ι (wrap64 (t.bt+1))) (t':={t with bt:=wrap64 (t.bt+1)}) (used':=z.1) rfl;clear d2 g5 Ax e13 e14 pn fm HO g6;generalize (w7.setCell (π C.mb 14) (ι (wrap64 (t.bt+1))))=w8 at*;have d2:=O8.b2.c1;have g5:=O8.b5.c1;have Ax:w8.cell? (π (bx+1+1) 5)=some (.slice (some (π tb 0)) z.2.2.told.length uf):=by exact acU
    have pn:w8.cell? (π C.mb 15)=some (ι t.fS):=by rw [<-O8.mb];exact O8.mx.m.aM.cell 15
    have fm:∀o,w8.frozen? (π C.mb o)=false:=by rw [<-O8.mb];exact O8.mx.m.aM.frozen
    have sh:=ae O8;clear O8;go_region;have O9:=(sh.o.sX 15 (ι (wrap64 (t.fS+z.2.2.told.length))) (t':={t with bt:=wrap64 (t.bt+1),fS:=wrap64 (t.fS+z.2.2.told.length)}) (used':=z.1) rfl).draw 1;change Over w (w8.setCell (π C.mb 15) (ι (wrap64 (t.fS+z.2.2.told.length)))).drew bx C C1 kG K p c _ _ _ _ _ _ _ _ _ at O9;clear d2 g5 Ax pn fm sh;generalize (w8.setCell (π C.mb 15) (ι (wrap64 (t.fS+z.2.2.told.length)))).drew=w9 at*;have g5:=O9.b5.c1;have Ax:w9.cell? (π (bx+1+1) 5)=some (.slice (some (π tb 0)) z.2.2.told.length uf):=by exact acV
    exact qX1
  ·exact qX0
theorem xp.setAt {key:Nat} {a:Int} (h:xp w wr bx C K p c s t used key a (.pointer none)) (a':Int):xp w (wr.setCell (π (bx+1+1) 1) (ι a')) bx C K p c s t used key a' (.pointer none):=by have F:da [bx+1+1] wr (wr.setCell (π (bx+1+1) 1) (ι a')):=(da.refl _ wr).setCell smm _;refine ⟨h.at_,h.mx.aB F (fun b hb hc=>by simp at hc;subst hc;exact h.nc hb) (fun b hb hc=>by rw [List.mem_singleton] at hc;subst hc;exact h.no hb),h.b2.aB F sso,h.b4.aB F smm,h.b5.aB F smm,h.rb.set 1 _,h.nc,h.no,h.zP.trans (Kept.cE (RO:=Ma.rest w C) F (fun b hb hc=>by rw [List.mem_singleton] at hc;subst hc;exact h.no (by simp [hb])) (fun b hb=>h.mx.sep.cY b (by simp [hb]))) (fun b hb=>hb)⟩
theorem agM {p:Prop} (h:p:=by
 obtain ⟨cs,q1,q2,q3⟩:=O9.rb;exact (q1.cell 5).trans q2):p:=h
theorem acY {p:Prop} (h:p:=by
 obtain ⟨cs,q1,q2,q3⟩:=O8.rb;exact (q1.cell 5).trans q2):p:=h
theorem acX {p:Prop} (h:p:=by
 obtain ⟨cs,q1,q2,q3⟩:=HO.o.rb;exact (q1.cell 5).trans q2):p:=h
theorem acW {p:Prop} (h:p:=by
 intro wz bR
 (try dsimp only at bR)
 exact qU):p:=h
theorem adU {p:Prop} (h:p:=by
 go_wp2_with fail;refine (nG _).mono ?_;rintro e R4 ⟨rfl,rfl⟩;have tS:=ae (mD.o.close HH.o (bu.refl _ _) mD.o.mx (eT _ (bx+1) (.bool true) ν (ι 0)) (eU mD.o.b4 (.bool true) ν (ι 0)));go_wp2_with fail;refine leaves_cons (f:=61) (args:=#[ρ bx,ρ (bx+1+1+1),ρ (bx+1)]) smm (by simp [go_sem]) ?_;refine tS.o.mono ?_;rintro e u' CE ⟨rfl,rfl,C2,k3,m3,kb,td,tn⟩;have iY:dE p c s key=0:=by unfold dE;rw [HZ.o,pM.o]
 have ot:dF p c s key=z.2.1:=by unfold dF;rw [iY,afE rfl,HZ.o]
 have hh:=wF.o;have tT:gK p c s key=z.2.2.told:=by unfold gK;rw [HZ.o]
 obtain ⟨a0,a1,a2⟩:=kb.c3;have fy:=ae (show eD w C RO K p c t s key (.returned (.agg #[.bool true,ν,ι 0])) CE from by
  refine ⟨ν,C2,?_,k3,?_,?_,?_⟩
  ·rw [iY,afE rfl,hh]
  ·rw [ot,iY,afE rfl,hh,tT,HZ.o];have:mj t true z.2.2.told={t with gY:=wrap64 (t.gY+1),fS:=wrap64 t.fS}:=by have e0:z.2.2.told=[]:=List.length_eq_zero_iff.1 jF;unfold mj;rw [e0];simp
   rw [this];exact m3
  ·exact agL
  ·exact fun b hb=>by simp [vb,Value.ownBlock] at hb)
 clear tS k3 m3 kb td tn mD;refine ⟨.agg #[.bool true,ν,ι 0],?_,fy.o⟩;simp [results,results17,go_sem,a0,a1,a2]):p:=h
theorem E4 (M:N6 K C.mb p c) (V:Env p c T) (hS:mh p) (h:Mx w C RO K p c s t used (.pointer none)) (hI:Inv (aw p c) s) {key:Nat} (hk:key < 18446744073709551616) {n q:Nat} (hf:s.f key=some n) (hq:q < p.ap.length) (hn:n∈s.a.ls q) (hg:p.ap.getD q false=false):
 Calls prog 17 #[ρ C.mb,.int .u64 key] w (eD w C RO K p c t s key):=by
 have qd:∀(fn:Fn) (first cap:Array Value) (w:World),(Instr.makeFunc fn first cap).run prog w= .ok (.func fn first cap) w:=fun _ _ _ _=>rfl;have m4:=mc4 h.m.aM;have lm:C.mb < w.heap.size:=h.m.aM.lt;have B4:=u_ h key p.aJ;have HM:=ae M;have HV:=ae V;have HS:=ae hS;have HI:=ae hI;have HF:=ae hf;have m10:((((w.alloc (.cells #[ρ C.mb] 35)).alloc (.cells #[.bool false,ν,ι 0] 44)).alloc (.cells #[.int .u64 key,ι p.aJ,ν,ν,ν,ν,ι 0,ν,.bool false] 126)).alloc (.cells #[ρ (w.heap.size+1+1)] 111)).cell? (π C.mb 10)=some (ρ C.xb):=B4.mx.m.aM.cell 10;have HG:=ae (Ix.pJ B4.mx.m.ix (key:=key) hf);have mU:=ae B4;have wF:=ae (show sH p c s key=true by unfold sH;rw [hf];dsimp only;rw [jq hI.wf hq hn,hg];rfl);have HX:=ae (show KU p c s key=p.on.getD q 0 by unfold KU;rw [hf];dsimp only;rw [jq hI.wf hq hn]);have Y7:q < p.on.length:=by rw [(cK M.check).1.on];exact hq
 have HQ:=ae (And.intro hq hn);have Vy:=ae hg;have HH:=ae h;clear M V hS hI hf B4 h hq hn hg
 go_enter_defers func17,ntmps17
 go_wp2_with fail;refine HG.o.mono ?_;rintro e w5 ⟨rfl,n5,rfl⟩;have B5:=mU.o.draw n5;have nA:=ae B5;clear mU HG m10 m4 lm;generalize eO:w.heap.size=bx at*;generalize World.drewN _ _=w5 at*;clear eO;have HL:=ae (dT.zh B5.mx.m.ar HQ.o.1 HQ.o.2);have d2:=B5.b2.c1;have d5:=B5.b5.c1;have m9:w5.cell? (π C.mb 9)=some (ρ C.ab):=B5.mx.m.aM.cell 9;obtain ⟨ob,E5,Qd,Jz,zN,Uo⟩:=B5.mx.m.prog.o.some omm;obtain ⟨gb,kw,jZ,C7,SN,Up⟩:=B5.mx.m.prog.g.some (by have:=HQ.o.1;omega);have m3:w5.cell? (π C.mb 3)=some (.slice (some (π ob 0)) p.on.length E5):=by rw [<-Qd];exact B5.mx.m.aM.cell 3
 have m0:w5.cell? (π C.mb 0)=some (.slice (some (π gb 0)) p.ap.length kw):=by rw [<-jZ];exact B5.mx.m.aM.cell 0
 have oq:w5.cell? (π ob q)=some (ι (p.on.getD q 0)):=by have h3:=B5.mx.m.prog.o;rw [Qd] at h3;exact h3.cell (o:=q) omm
 have gq:w5.cell? (π gb q)=some (.bool false):=by have h3:=B5.mx.m.prog.g;rw [jZ] at h3;rw [<-Vy.o];exact h3.cell (o:=q) (by have:=HQ.o.1;omega)
 have hqg:q < p.ap.length:=HQ.o.1;have JT:∀o,w5.frozen? (π (bx+1+1) o)=false:=B5.rb.frozen;have r1:w5.cell? (π (bx+1+1) 1)=some (ι p.aJ):=B5.rb.cell 1;have mR:=B5.mx.m.prog.ro;have Zg:ob≠bx+1+1:=fun e=>B5.no (by have h5:=mR ob (.inr (.inr (.inr (.inl (aK.2 (by rw [Qd];rfl))))));rw [e] at h5;exact h5);have Wh:gb≠bx+1+1:=fun e=>B5.no (by have h5:=mR gb (.inl (aK.2 (by rw [jZ];rfl)));rw [e] at h5;exact h5);have Uq:C.mb≠bx+1+1:=fun e=>B5.nc (by rw [<-e];simp [Co.l]);clear B5 Qd Jz zN Uo jZ C7 SN Up mR;generalize Da:p.on.getD q 0=lM at*;clear Da;generalize p.on.length=ol at*;generalize p.ap.length=gl at*;generalize p.aJ=ms at*;go_wp2_with fail;refine HL.o.mono ?_;rintro e w5' ⟨rfl,rfl⟩;have Zh:(w5.drew.setCell (π (bx+1+1) 1) (ι lM)).cell? (π bx 0)=some (ρ C.mb)/\(w5.drew.setCell (π (bx+1+1) 1) (ι lM)).cell? (π (bx+1+1+1) 0)=some (ρ (bx+1+1))/\(w5.drew.setCell (π (bx+1+1) 1) (ι lM)).cell? (π C.mb 3)=some (.slice (some (π ob 0)) ol E5)/\
  (w5.drew.setCell (π (bx+1+1) 1) (ι lM)).cell? (π C.mb 0)=some (.slice (some (π gb 0)) gl kw)/\(w5.drew.setCell (π (bx+1+1) 1) (ι lM)).cell? (π ob q)=some (ι lM)/\(w5.drew.setCell (π (bx+1+1) 1) (ι lM)).cell? (π gb q)=some (.bool false):=
  ⟨(aX omm).trans d2,(aX omm).trans d5,(aX Uq).trans m3,(aX Uq).trans m0,(aX Zg).trans oq,(aX Wh).trans gq⟩
 have Aj:=ae Zh;clear Zh Uq Zg Wh;go_wp2_with fail;refine Mk.bF (S:=(fun wx=>wx.cell? (π bx 0)=some (ρ C.mb)/\wx.cell? (π (bx+1+1+1) 0)=some (ρ (bx+1+1))/\wx.cell? (π C.mb 3)=some (.slice (some (π ob 0)) ol E5)/\wx.cell? (π C.mb 0)=some (.slice (some (π gb 0)) gl kw)/\wx.cell? (π ob q)=some (ι lM)/\wx.cell? (π gb q)=some (.bool false))) krr ⟨d2,d5,m3,m0,oq,gq⟩ (fun al=>?_);refine Mk.tk 0 (v:=?_) rfl ?_ aas ?_;rotate_left
 ·exact acW
 refine Mk.pt ?_;refine Mk.tk 1 (v:=?_) rfl ?_ aas ?_;rotate_left
 ·exact acW
 refine Mk.pt ?_;refine Mk.tk 2 (v:=?_) rfl ?_ aas ?_;rotate_left
 ·exact acW
 refine Mk.pt ?_;refine Mk.tk 3 (v:=?_) rfl ?_ aas ?_;rotate_left
 ·exact acW
 refine Mk.pt ?_;refine Mk.tk 4 (v:=?_) rfl ?_ aas ?_;rotate_left
 ·exact acW
 refine Mk.pt ?_;refine Mk.tk 5 (v:=?_) rfl ?_ aas ?_;rotate_left
 ·exact acW
 refine Mk.pt ?_;refine Mk.tk 6 (v:=?_) rfl ?_ aas ?_;rotate_left
 ·exact acW
 refine Mk.pt ?_;refine Mk.tk 7 (v:=?_) rfl ?_ aas ?_;rotate_left
 ·exact acW
 refine Mk.pt ?_;refine Mk.tk 8 (v:=?_) rfl ?_ aas ?_;rotate_left
 ·exact acW
 refine Mk.pt ?_;refine Mk.tk 9 (v:=?_) rfl ?_ aas ?_;rotate_left
 ·exact acW
 refine Mk.pt ?_;refine Mk.tk 10 (v:=?_) rfl ?_ aas ?_;rotate_left
 ·exact acW
 refine Mk.pt ?_;refine Mk.tk 11 (v:=?_) rfl ?_ aas ?_;rotate_left
 ·exact acW
 refine Mk.pt ?_;refine Mk.tk 12 (v:=?_) rfl ?_ aas ?_;rotate_left
 ·exact acW
 refine Mk.pt ?_;refine Mk.tk 13 (v:=?_) rfl ?_ aas ?_;rotate_left
 ·exact acW
 refine Mk.pt ?_;refine Mk.tk 14 (v:=?_) rfl ?_ aas ?_;rotate_left
 ·exact acW
 refine Mk.pt ?_;refine Mk.tk 15 (v:=?_) rfl ?_ aas ?_;rotate_left
 ·exact acW
 refine Mk.pt ?_;refine Mk.tk 16 (v:=?_) rfl ?_ aas ?_;rotate_left
 ·exact acW
 refine Mk.pt ?_;refine Mk.tk 17 (v:=?_) rfl ?_ aas ?_;rotate_left
 ·exact acW
 refine Mk.pt ?_;refine Mk.tk 18 (v:=?_) rfl ?_ aas ?_;rotate_left
 ·exact acW
 refine Mk.pt ?_;refine Mk.tk 19 (v:=?_) rfl ?_ aas ?_;rotate_left
 ·exact acW
 refine Mk.pt ?_;refine afR (rs:=[20]) krr smm ?_;refine afJ rfl (fun K hK=>?_) af1;refine QX ?_;go_simp;refine hK.out _ _ Aj.o (fun al=>?_);clear hK K;refine Mk.pt ?_;refine Mk.tk 21 (v:=?_) rfl ?_ aas ?_;rotate_left
 ·exact acW
 refine Mk.pt ?_;refine afZ krr ⟨rfl,?_⟩ _;clear al Aj;have B5:=(nA.o.setAt lM).draw 1;change xp w (w5.setCell (π (bx+1+1) 1) (ι lM)).drew bx C K p c s t used key lM (.pointer none) at B5;clear nA d2 d5 m9 m3 m0 oq gq hqg Y7 JT r1 HL;have nA:=ae B5;generalize (w5.setCell (π (bx+1+1) 1) (ι lM)).drew=w5 at*;have d2:=B5.b2.c1;have d5:=B5.b5.c1;have f60:∀o,w5.frozen? (π C.mb o)=false:=B5.mx.m.aM.frozen;have oC:w5.cell? (π C.mb 60)=some (.pointer none):=B5.mx.m.aM.cell 60;have m17:w5.cell? (π C.mb 17)=some (ι used):=B5.mx.m.aM.cell 17;have nm:bx≠C.mb:=fun e=>B5.mx.cr (b:=bx) smm (by rw [e];simp [Co.l]);have MR:bx+1+1+1≠C.mb:=fun e=>B5.mx.cr (b:=bx+1+1+1) smm (by rw [e];simp [Co.l]);clear B5;go_wp2_with fail;go_region;have B6:=nA.o.enter.draw 1;change xp w ((w5.setCell (π C.mb 60) (ρ (bx+1+1))).setCell (π C.mb 17) (ι 0)).drew bx C K p c s t 0 key lM (ρ (bx+1+1)) at B6;clear d2 d5 f60 oC m17 nA;generalize ((w5.setCell (π C.mb 60) (ρ (bx+1+1))).setCell (π C.mb 17) (ι 0)).drew=w6 at*;have d2:=B6.b2.c1;have d5:=B6.b5.c1;have r1:w6.cell? (π (bx+1+1) 1)=some (ι lM):=B6.rb.cell 1;by_cases kL:lM < 0
 ·as_aux_lemma=>
  have uR:¬0<=lM:=omm;have gA:lD p c s key=(0,(s,eR key 0)):=by unfold lD;rw [HX.o,afE kL]
  have O:Over w w6 bx C C (bx::(bx+1)::(bx+1+1+1)::Ma.rest w C) K p c (lD p c s key).2.1 t (lD p c s key).1 ν (lD p c s key).2.2.told (lD p c s key).2.2.br (.bool false) ν (ι 0):=by rw [gA];exact B6.LS
  have gB:(lD p c s key).2.2.br=0:=by rw [gA];rfl
  have g5:=O.b5.c1;clear B6 d2 d5 gA;generalize hz:lD p c s key=z at*;have HZ:=ae hz;obtain ⟨C1,kG,O2⟩:∃C1 kG,Over w w6 bx C C1 kG K p c z.2.1 t z.1 ν z.2.2.told z.2.2.br (.bool false) ν (ι 0):=⟨_,_,O⟩;have HO:=ae O2;clear hz O O2;have g6:w6.cell? (π (bx+1+1) 6)=some (ι 0):=by exact agK
  generalize w6=w7 at*;have jF:z.2.2.told.length=0:=by exact agZ
  have d2:=HO.o.b2.c1;have Ax:w7.cell? (π (bx+1+1) 5)=some ν:=by exact acX
  have e13:w7.cell? (π C.mb 13)=some (ι t.gY):=by rw [<-HO.o.mb];exact HO.o.mx.m.aM.cell 13
  have e14:w7.cell? (π C.mb 14)=some (ι t.bt):=by rw [<-HO.o.mb];exact HO.o.mx.m.aM.cell 14
  have pn:w7.cell? (π C.mb 15)=some (ι t.fS):=by rw [<-HO.o.mb];exact HO.o.mx.m.aM.cell 15
  have fm:∀o,w7.frozen? (π C.mb o)=false:=by rw [<-HO.o.mb];exact HO.o.mx.m.aM.frozen
  have CC:bx+1+1≠C.mb:=fun e=>HO.o.nc (by rw [e,<-HO.o.mb];simp [Co.l]);have CD:bx+1≠C.mb:=fun e=>HO.o.mx.cr (b:=bx+1) (HO.o.ro _ smm) (by rw [e,<-HO.o.mb];simp [Co.l]);go_wp2_with fail;have O8:=HO.o.sX 13 (ι (wrap64 (t.gY+1))) (t':={t with gY:=wrap64 (t.gY+1)}) (used':=z.1) rfl;clear d2 g5 Ax e13 e14 pn fm HO g6;generalize (w7.setCell (π C.mb 13) (ι (wrap64 (t.gY+1))))=w8 at*;have d2:=O8.b2.c1;have g5:=O8.b5.c1;have Ax:w8.cell? (π (bx+1+1) 5)=some ν:=by exact acY
  have pn:w8.cell? (π C.mb 15)=some (ι t.fS):=by rw [<-O8.mb];exact O8.mx.m.aM.cell 15
  have fm:∀o,w8.frozen? (π C.mb o)=false:=by rw [<-O8.mb];exact O8.mx.m.aM.frozen
  have sh:=ae O8;clear O8;go_region;have O9:=(sh.o.sX 15 (ι (wrap64 t.fS)) (t':={t with gY:=wrap64 (t.gY+1),fS:=wrap64 t.fS}) (used':=z.1) rfl).draw 1;change Over w (w8.setCell (π C.mb 15) (ι (wrap64 t.fS))).drew bx C C1 kG K p c _ _ _ _ _ _ _ _ _ at O9;clear d2 g5 Ax pn fm sh;generalize (w8.setCell (π C.mb 15) (ι (wrap64 t.fS))).drew=w9 at*;have g5:=O9.b5.c1;have Ax:w9.cell? (π (bx+1+1) 5)=some ν:=by exact agM
  have MT:∀o,w9.frozen? (π (bx+1) o)=false:=O9.b4.frozen;obtain ⟨MU,MV,MX⟩:=O9.b4.c3;rw [gB] at O9;have mD:=ae O9;have pM:=ae gB;clear O9 gB nm MR CC CD qd r1 uR kL;exact adU
 ·have uR:0<=lM:=omm;obtain ⟨a,rfl⟩:∃a:Nat,lM=a:=⟨lM.toNat,omm⟩;have AM:=ae B6;clear B6;have Bk:rN w6 w6 C.mb (bx+1+1) (bx::(bx+1)::(bx+1+1+1)::Ma.rest w C) K p c t T s (s,eR key a) gD:=by exact qX3
  have HR:=ae (vT HM.o HV.o Bk);clear Bk;have HZ:=ae (show lD p c s key=iU p c gD (s,eR key a) by unfold lD;rw [HX.o,abH omm,Int.toNat_natCast]);go_wp2_with fail;refine HR.o.mono ?_;rintro e w7 ⟨rfl,kG,ho,dK,MY⟩;obtain ⟨C1,tv,O,U,hv,jv,lE,A⟩:=AM.o.ran dK ho MY;clear HR dK ho MY AM d2 d5 r1;rw [<-HZ.o] at O A;have g5:=O.b5.c1;have g6:w7.cell? (π (bx+1+1) 6)=some (ι (lD p c s key).2.2.br):=by obtain ⟨cs,q1,q2,q3⟩:=O.rb;exact (q1.cell 6).trans q3
  have HO:=ae O;have HA:=ae (And.intro lE A);clear O A lE HZ;generalize hz:lD p c s key=z at*;have HZ:=ae hz;clear hz;by_cases gB:z.2.2.br=0
  ·rw [gB] at g6;rcases HO.o.td.val with ⟨fN,jF⟩|⟨tb,uf,fN,nO,lF,a8⟩
   ·as_aux_lemma=>
    subst fN;have d2:=HO.o.b2.c1;have Ax:w7.cell? (π (bx+1+1) 5)=some ν:=by exact acX
    have e13:w7.cell? (π C.mb 13)=some (ι t.gY):=by rw [<-HO.o.mb];exact HO.o.mx.m.aM.cell 13
    have e14:w7.cell? (π C.mb 14)=some (ι t.bt):=by rw [<-HO.o.mb];exact HO.o.mx.m.aM.cell 14
    have pn:w7.cell? (π C.mb 15)=some (ι t.fS):=by rw [<-HO.o.mb];exact HO.o.mx.m.aM.cell 15
    have fm:∀o,w7.frozen? (π C.mb o)=false:=by rw [<-HO.o.mb];exact HO.o.mx.m.aM.frozen
    have CC:bx+1+1≠C.mb:=fun e=>HO.o.nc (by rw [e,<-HO.o.mb];simp [Co.l]);have CD:bx+1≠C.mb:=fun e=>HO.o.mx.cr (b:=bx+1) (HO.o.ro _ smm) (by rw [e,<-HO.o.mb];simp [Co.l]);go_wp2_with fail;have O8:=HO.o.sX 13 (ι (wrap64 (t.gY+1))) (t':={t with gY:=wrap64 (t.gY+1)}) (used':=z.1) rfl;clear d2 g5 Ax e13 e14 pn fm HO g6;generalize (w7.setCell (π C.mb 13) (ι (wrap64 (t.gY+1))))=w8 at*;have d2:=O8.b2.c1;have g5:=O8.b5.c1;have Ax:w8.cell? (π (bx+1+1) 5)=some ν:=by exact acY
    have pn:w8.cell? (π C.mb 15)=some (ι t.fS):=by rw [<-O8.mb];exact O8.mx.m.aM.cell 15
    have fm:∀o,w8.frozen? (π C.mb o)=false:=by rw [<-O8.mb];exact O8.mx.m.aM.frozen
    have sh:=ae O8;clear O8;go_region;have O9:=(sh.o.sX 15 (ι (wrap64 t.fS)) (t':={t with gY:=wrap64 (t.gY+1),fS:=wrap64 t.fS}) (used':=z.1) rfl).draw 1;change Over w (w8.setCell (π C.mb 15) (ι (wrap64 t.fS))).drew bx C C1 kG K p c _ _ _ _ _ _ _ _ _ at O9;clear d2 g5 Ax pn fm sh;generalize (w8.setCell (π C.mb 15) (ι (wrap64 t.fS))).drew=w9 at*;have g5:=O9.b5.c1;have Ax:w9.cell? (π (bx+1+1) 5)=some ν:=by exact agM
    have MT:∀o,w9.frozen? (π (bx+1) o)=false:=O9.b4.frozen;obtain ⟨MU,MV,MX⟩:=O9.b4.c3;rw [gB] at O9;have mD:=ae O9;have pM:=ae gB;clear O9 gB nm MR CC CD qd;exact adU
   ·as_aux_lemma=>
    subst fN;have d2:=HO.o.b2.c1;have Ax:w7.cell? (π (bx+1+1) 5)=some (.slice (some (π tb 0)) z.2.2.told.length uf):=by exact acX
    have e13:w7.cell? (π C.mb 13)=some (ι t.gY):=by rw [<-HO.o.mb];exact HO.o.mx.m.aM.cell 13
    have e14:w7.cell? (π C.mb 14)=some (ι t.bt):=by rw [<-HO.o.mb];exact HO.o.mx.m.aM.cell 14
    have pn:w7.cell? (π C.mb 15)=some (ι t.fS):=by rw [<-HO.o.mb];exact HO.o.mx.m.aM.cell 15
    have fm:∀o,w7.frozen? (π C.mb o)=false:=by rw [<-HO.o.mb];exact HO.o.mx.m.aM.frozen
    have CC:bx+1+1≠C.mb:=fun e=>HO.o.nc (by rw [e,<-HO.o.mb];simp [Co.l]);have CD:bx+1≠C.mb:=fun e=>HO.o.mx.cr (b:=bx+1) (HO.o.ro _ smm) (by rw [e,<-HO.o.mb];simp [Co.l]);go_wp2_with fail;have O8:=HO.o.sX 13 (ι (wrap64 (t.gY+1))) (t':={t with gY:=wrap64 (t.gY+1)}) (used':=z.1) rfl;clear d2 g5 Ax e13 e14 pn fm HO g6;generalize (w7.setCell (π C.mb 13) (ι (wrap64 (t.gY+1))))=w8 at*;have d2:=O8.b2.c1;have g5:=O8.b5.c1;have Ax:w8.cell? (π (bx+1+1) 5)=some (.slice (some (π tb 0)) z.2.2.told.length uf):=by exact acY
    have pn:w8.cell? (π C.mb 15)=some (ι t.fS):=by rw [<-O8.mb];exact O8.mx.m.aM.cell 15
    have fm:∀o,w8.frozen? (π C.mb o)=false:=by rw [<-O8.mb];exact O8.mx.m.aM.frozen
    have sh:=ae O8;clear O8;go_region;have O9:=(sh.o.sX 15 (ι (wrap64 (t.fS+z.2.2.told.length))) (t':={t with gY:=wrap64 (t.gY+1),fS:=wrap64 (t.fS+z.2.2.told.length)}) (used':=z.1) rfl).draw 1;change Over w (w8.setCell (π C.mb 15) (ι (wrap64 (t.fS+z.2.2.told.length)))).drew bx C C1 kG K p c _ _ _ _ _ _ _ _ _ at O9;clear d2 g5 Ax pn fm sh;generalize (w8.setCell (π C.mb 15) (ι (wrap64 (t.fS+z.2.2.told.length)))).drew=w9 at*;have g5:=O9.b5.c1;have Ax:w9.cell? (π (bx+1+1) 5)=some (.slice (some (π tb 0)) z.2.2.told.length uf):=by exact agM
    have MT:∀o,w9.frozen? (π (bx+1) o)=false:=O9.b4.frozen;obtain ⟨MU,MV,MX⟩:=O9.b4.c3;rw [gB] at O9;have mD:=ae O9;have pM:=ae gB;clear O9 gB nm MR CC CD qd;go_wp2_with fail;refine (sP _ nO).mono ?_;rintro e R4 ⟨rfl,rfl⟩;have tS:=ae (mD.o.close HH.o (bu.refl _ _) mD.o.mx (eT _ (bx+1) (.bool true) (.slice (some (π tb 0)) z.2.2.told.length z.2.2.told.length) (ι 0)) (eU mD.o.b4 (.bool true) (.slice (some (π tb 0)) z.2.2.told.length z.2.2.told.length) (ι 0)));go_wp2_with fail;refine leaves_cons (f:=61) (args:=#[ρ bx,ρ (bx+1+1+1),ρ (bx+1)]) smm (by simp [go_sem]) ?_;refine tS.o.mono ?_;rintro e u' CE ⟨rfl,rfl,C2,k3,m3,kb,td,tn⟩;have iY:dE p c s key=0:=by unfold dE;rw [HZ.o,pM.o]
    have ot:dF p c s key=z.2.1:=by unfold dF;rw [iY,afE rfl,HZ.o]
    have hh:=wF.o;have tT:gK p c s key=z.2.2.told:=by unfold gK;rw [HZ.o]
    obtain ⟨a0,a1,a2⟩:=kb.c3;have fy:=ae (show eD w C RO K p c t s key (.returned (.agg #[.bool true,(.slice (some (π tb 0)) z.2.2.told.length z.2.2.told.length),ι 0])) CE from by
     refine ⟨(.slice (some (π tb 0)) z.2.2.told.length z.2.2.told.length),C2,?_,k3,?_,?_,?_⟩
     ·rw [iY,afE rfl,hh]
     ·rw [ot,iY,afE rfl,hh,tT,HZ.o];exact m3
     ·rw [iY,afE rfl,tT];exact (by obtain ⟨cs,qt⟩:=td.c_;exact .inr ⟨tb,cs,rfl,qt,fun i hi=>(qt.cell i).symm.trans (td.cell (o:=i) omm)⟩)
     ·exact fun b hb=>tn b hb)
    clear tS k3 m3 kb td tn mD;refine ⟨.agg #[.bool true,(.slice (some (π tb 0)) z.2.2.told.length z.2.2.told.length),ι 0],?_,fy.o⟩;simp [results,results17,go_sem,a0,a1,a2]
  ·as_aux_lemma=>exact qX0
theorem agN {p:Prop} (h:p:=by
 obtain ⟨cs,q1,q2,q3⟩:=O9.rb;exact (q1.cell 5).trans q2):p:=h
theorem ac1 {p:Prop} (h:p:=by
 obtain ⟨cs,q1,q2,q3⟩:=O8.rb;exact (q1.cell 5).trans q2):p:=h
theorem ac0 {p:Prop} (h:p:=by
 obtain ⟨cs,q1,q2,q3⟩:=HO.o.rb;exact (q1.cell 5).trans q2):p:=h
theorem acZ {p:Prop} (h:p:=by
 intro wz bR
 (try dsimp only at bR)
 exact qU):p:=h
theorem adV {p:Prop} (h:p:=by
 go_wp2_with fail;refine (nG _).mono ?_;rintro e R4 ⟨rfl,rfl⟩;have tS:=ae (mD.o.close HH.o (bu.refl _ _) mD.o.mx (eT _ (bx+1) (.bool false) ν (ι 0)) (eU mD.o.b4 (.bool false) ν (ι 0)));go_wp2_with fail;refine leaves_cons (f:=61) (args:=#[ρ bx,ρ (bx+1+1+1),ρ (bx+1)]) smm (by simp [go_sem]) ?_;refine tS.o.mono ?_;rintro e u' CE ⟨rfl,rfl,C2,k3,m3,kb,td,tn⟩;have iY:dE p c s key=0:=by unfold dE;rw [HZ.o,pM.o]
 have ot:dF p c s key=z.2.1:=by unfold dF;rw [iY,afE rfl,HZ.o]
 have hh:=wF.o;have tT:gK p c s key=z.2.2.told:=by unfold gK;rw [HZ.o]
 obtain ⟨a0,a1,a2⟩:=kb.c3;have fy:=ae (show eD w C RO K p c t s key (.returned (.agg #[.bool false,ν,ι 0])) CE from by
  refine ⟨ν,C2,?_,k3,?_,?_,?_⟩
  ·rw [iY,afE rfl,hh]
  ·exact qX9
  ·exact agL
  ·exact fun b hb=>by simp [vb,Value.ownBlock] at hb)
 clear tS k3 m3 kb td tn mD;refine ⟨.agg #[.bool false,ν,ι 0],?_,fy.o⟩;simp [results,results17,go_sem,a0,a1,a2]):p:=h
theorem As (M:N6 K C.mb p c) (V:Env p c T) (hS:mh p) (h:Mx w C RO K p c s t used (.pointer none)) (hI:Inv (aw p c) s) {key:Nat} (hk:key < 18446744073709551616) {n q:Nat} (hf:s.f key=some n) (hq:q < p.ap.length) (hn:n∈s.a.ls q) (hg:p.ap.getD q false=true):
 Calls prog 17 #[ρ C.mb,.int .u64 key] w (eD w C RO K p c t s key):=by
 have qd:∀(fn:Fn) (first cap:Array Value) (w:World),(Instr.makeFunc fn first cap).run prog w= .ok (.func fn first cap) w:=fun _ _ _ _=>rfl;have m4:=mc4 h.m.aM;have lm:C.mb < w.heap.size:=h.m.aM.lt;have B4:=u_ h key p.aJ;have HM:=ae M;have HV:=ae V;have HS:=ae hS;have HI:=ae hI;have HF:=ae hf;have m10:((((w.alloc (.cells #[ρ C.mb] 35)).alloc (.cells #[.bool false,ν,ι 0] 44)).alloc (.cells #[.int .u64 key,ι p.aJ,ν,ν,ν,ν,ι 0,ν,.bool false] 126)).alloc (.cells #[ρ (w.heap.size+1+1)] 111)).cell? (π C.mb 10)=some (ρ C.xb):=B4.mx.m.aM.cell 10;have HG:=ae (Ix.pJ B4.mx.m.ix (key:=key) hf);have mU:=ae B4;have wF:=ae (show sH p c s key=false by unfold sH;rw [hf];dsimp only;rw [jq hI.wf hq hn,hg];rfl);have HX:=ae (show KU p c s key=p.on.getD q 0 by unfold KU;rw [hf];dsimp only;rw [jq hI.wf hq hn]);have Y7:q < p.on.length:=by rw [(cK M.check).1.on];exact hq
 have HQ:=ae (And.intro hq hn);have Vy:=ae hg;have HH:=ae h;clear M V hS hI hf B4 h hq hn hg
 go_enter_defers func17,ntmps17
 go_wp2_with fail;refine HG.o.mono ?_;rintro e w5 ⟨rfl,n5,rfl⟩;have B5:=mU.o.draw n5;have nA:=ae B5;clear mU HG m10 m4 lm;generalize eO:w.heap.size=bx at*;generalize World.drewN _ _=w5 at*;clear eO;have HL:=ae (dT.zh B5.mx.m.ar HQ.o.1 HQ.o.2);have d2:=B5.b2.c1;have d5:=B5.b5.c1;have m9:w5.cell? (π C.mb 9)=some (ρ C.ab):=B5.mx.m.aM.cell 9;obtain ⟨ob,E5,Qd,Jz,zN,Uo⟩:=B5.mx.m.prog.o.some omm;obtain ⟨gb,kw,jZ,C7,SN,Up⟩:=B5.mx.m.prog.g.some (by have:=HQ.o.1;omega);have m3:w5.cell? (π C.mb 3)=some (.slice (some (π ob 0)) p.on.length E5):=by rw [<-Qd];exact B5.mx.m.aM.cell 3
 have m0:w5.cell? (π C.mb 0)=some (.slice (some (π gb 0)) p.ap.length kw):=by rw [<-jZ];exact B5.mx.m.aM.cell 0
 have oq:w5.cell? (π ob q)=some (ι (p.on.getD q 0)):=by have h3:=B5.mx.m.prog.o;rw [Qd] at h3;exact h3.cell (o:=q) omm
 have gq:w5.cell? (π gb q)=some (.bool true):=by have h3:=B5.mx.m.prog.g;rw [jZ] at h3;rw [<-Vy.o];exact h3.cell (o:=q) (by have:=HQ.o.1;omega)
 have hqg:q < p.ap.length:=HQ.o.1;have JT:∀o,w5.frozen? (π (bx+1+1) o)=false:=B5.rb.frozen;have r1:w5.cell? (π (bx+1+1) 1)=some (ι p.aJ):=B5.rb.cell 1;have mR:=B5.mx.m.prog.ro;have Zg:ob≠bx+1+1:=fun e=>B5.no (by have h5:=mR ob (.inr (.inr (.inr (.inl (aK.2 (by rw [Qd];rfl))))));rw [e] at h5;exact h5);have Wh:gb≠bx+1+1:=fun e=>B5.no (by have h5:=mR gb (.inl (aK.2 (by rw [jZ];rfl)));rw [e] at h5;exact h5);have Uq:C.mb≠bx+1+1:=fun e=>B5.nc (by rw [<-e];simp [Co.l]);clear B5 Qd Jz zN Uo jZ C7 SN Up mR;generalize Da:p.on.getD q 0=lM at*;clear Da;generalize p.on.length=ol at*;generalize p.ap.length=gl at*;generalize p.aJ=ms at*;go_wp2_with fail;refine HL.o.mono ?_;rintro e w5' ⟨rfl,rfl⟩;have Zh:(w5.drew.setCell (π (bx+1+1) 1) (ι lM)).cell? (π bx 0)=some (ρ C.mb)/\(w5.drew.setCell (π (bx+1+1) 1) (ι lM)).cell? (π (bx+1+1+1) 0)=some (ρ (bx+1+1))/\(w5.drew.setCell (π (bx+1+1) 1) (ι lM)).cell? (π C.mb 3)=some (.slice (some (π ob 0)) ol E5)/\
  (w5.drew.setCell (π (bx+1+1) 1) (ι lM)).cell? (π C.mb 0)=some (.slice (some (π gb 0)) gl kw)/\(w5.drew.setCell (π (bx+1+1) 1) (ι lM)).cell? (π ob q)=some (ι lM)/\(w5.drew.setCell (π (bx+1+1) 1) (ι lM)).cell? (π gb q)=some (.bool true):=
  ⟨(aX omm).trans d2,(aX omm).trans d5,(aX Uq).trans m3,(aX Uq).trans m0,(aX Zg).trans oq,(aX Wh).trans gq⟩
 have Aj:=ae Zh;clear Zh Uq Zg Wh;go_wp2_with fail;refine Mk.bF (S:=(fun wx=>wx.cell? (π bx 0)=some (ρ C.mb)/\wx.cell? (π (bx+1+1+1) 0)=some (ρ (bx+1+1))/\wx.cell? (π C.mb 3)=some (.slice (some (π ob 0)) ol E5)/\wx.cell? (π C.mb 0)=some (.slice (some (π gb 0)) gl kw)/\wx.cell? (π ob q)=some (ι lM)/\wx.cell? (π gb q)=some (.bool true))) krr ⟨d2,d5,m3,m0,oq,gq⟩ (fun al=>?_);refine Mk.tk 0 (v:=?_) rfl ?_ aas ?_;rotate_left
 ·exact acZ
 refine Mk.pt ?_;refine Mk.tk 1 (v:=?_) rfl ?_ aas ?_;rotate_left
 ·exact acZ
 refine Mk.pt ?_;refine Mk.tk 2 (v:=?_) rfl ?_ aas ?_;rotate_left
 ·exact acZ
 refine Mk.pt ?_;refine Mk.tk 3 (v:=?_) rfl ?_ aas ?_;rotate_left
 ·exact acZ
 refine Mk.pt ?_;refine Mk.tk 4 (v:=?_) rfl ?_ aas ?_;rotate_left
 ·exact acZ
 refine Mk.pt ?_;refine Mk.tk 5 (v:=?_) rfl ?_ aas ?_;rotate_left
 ·exact acZ
 refine Mk.pt ?_;refine Mk.tk 6 (v:=?_) rfl ?_ aas ?_;rotate_left
 ·exact acZ
 refine Mk.pt ?_;refine Mk.tk 7 (v:=?_) rfl ?_ aas ?_;rotate_left
 ·exact acZ
 refine Mk.pt ?_;refine Mk.tk 8 (v:=?_) rfl ?_ aas ?_;rotate_left
 ·exact acZ
 refine Mk.pt ?_;refine Mk.tk 9 (v:=?_) rfl ?_ aas ?_;rotate_left
 ·exact acZ
 refine Mk.pt ?_;refine Mk.tk 10 (v:=?_) rfl ?_ aas ?_;rotate_left
 ·exact acZ
 refine Mk.pt ?_;refine Mk.tk 11 (v:=?_) rfl ?_ aas ?_;rotate_left
 ·exact acZ
 refine Mk.pt ?_;refine Mk.tk 12 (v:=?_) rfl ?_ aas ?_;rotate_left
 ·exact acZ
 refine Mk.pt ?_;refine Mk.tk 13 (v:=?_) rfl ?_ aas ?_;rotate_left
 ·exact acZ
 refine Mk.pt ?_;refine Mk.tk 14 (v:=?_) rfl ?_ aas ?_;rotate_left
 ·exact acZ
 refine Mk.pt ?_;refine Mk.tk 15 (v:=?_) rfl ?_ aas ?_;rotate_left
 ·exact acZ
 refine Mk.pt ?_;refine Mk.tk 16 (v:=?_) rfl ?_ aas ?_;rotate_left
 ·exact acZ
 refine Mk.pt ?_;refine Mk.tk 17 (v:=?_) rfl ?_ aas ?_;rotate_left
 ·exact acZ
 refine Mk.pt ?_;refine Mk.tk 18 (v:=?_) rfl ?_ aas ?_;rotate_left
 ·exact acZ
 refine Mk.pt ?_;refine Mk.tk 19 (v:=?_) rfl ?_ aas ?_;rotate_left
 ·exact acZ
 refine Mk.pt ?_;refine afR (rs:=[20]) krr smm ?_;refine afJ rfl (fun K hK=>?_) af1;refine QX ?_;go_simp;refine hK.out _ _ Aj.o (fun al=>?_);clear hK K;refine Mk.pt ?_;refine Mk.tk 21 (v:=?_) rfl ?_ aas ?_;rotate_left
 ·exact acZ
 refine Mk.pt ?_;refine afZ krr ⟨rfl,?_⟩ _;clear al Aj;have B5:=(nA.o.setAt lM).draw 1;change xp w (w5.setCell (π (bx+1+1) 1) (ι lM)).drew bx C K p c s t used key lM (.pointer none) at B5;clear nA d2 d5 m9 m3 m0 oq gq hqg Y7 JT r1 HL;have nA:=ae B5;generalize (w5.setCell (π (bx+1+1) 1) (ι lM)).drew=w5 at*;have d2:=B5.b2.c1;have d5:=B5.b5.c1;have f60:∀o,w5.frozen? (π C.mb o)=false:=B5.mx.m.aM.frozen;have oC:w5.cell? (π C.mb 60)=some (.pointer none):=B5.mx.m.aM.cell 60;have m17:w5.cell? (π C.mb 17)=some (ι used):=B5.mx.m.aM.cell 17;have nm:bx≠C.mb:=fun e=>B5.mx.cr (b:=bx) smm (by rw [e];simp [Co.l]);have MR:bx+1+1+1≠C.mb:=fun e=>B5.mx.cr (b:=bx+1+1+1) smm (by rw [e];simp [Co.l]);clear B5;go_wp2_with fail;go_region;have B6:=nA.o.enter.draw 1;change xp w ((w5.setCell (π C.mb 60) (ρ (bx+1+1))).setCell (π C.mb 17) (ι 0)).drew bx C K p c s t 0 key lM (ρ (bx+1+1)) at B6;clear d2 d5 f60 oC m17 nA;generalize ((w5.setCell (π C.mb 60) (ρ (bx+1+1))).setCell (π C.mb 17) (ι 0)).drew=w6 at*;have d2:=B6.b2.c1;have d5:=B6.b5.c1;have r1:w6.cell? (π (bx+1+1) 1)=some (ι lM):=B6.rb.cell 1;by_cases kL:lM < 0
 ·as_aux_lemma=>
  have uR:¬0<=lM:=omm;have gA:lD p c s key=(0,(s,eR key 0)):=by unfold lD;rw [HX.o,afE kL]
  have O:Over w w6 bx C C (bx::(bx+1)::(bx+1+1+1)::Ma.rest w C) K p c (lD p c s key).2.1 t (lD p c s key).1 ν (lD p c s key).2.2.told (lD p c s key).2.2.br (.bool false) ν (ι 0):=by rw [gA];exact B6.LS
  have gB:(lD p c s key).2.2.br=0:=by rw [gA];rfl
  have g5:=O.b5.c1;clear B6 d2 d5 gA;generalize hz:lD p c s key=z at*;have HZ:=ae hz;obtain ⟨C1,kG,O2⟩:∃C1 kG,Over w w6 bx C C1 kG K p c z.2.1 t z.1 ν z.2.2.told z.2.2.br (.bool false) ν (ι 0):=⟨_,_,O⟩;have HO:=ae O2;clear hz O O2;have g6:w6.cell? (π (bx+1+1) 6)=some (ι 0):=by exact agK
  generalize w6=w7 at*;have jF:z.2.2.told.length=0:=by exact agZ
  have d2:=HO.o.b2.c1;have Ax:w7.cell? (π (bx+1+1) 5)=some ν:=by exact ac0
  have e13:w7.cell? (π C.mb 13)=some (ι t.gY):=by rw [<-HO.o.mb];exact HO.o.mx.m.aM.cell 13
  have e14:w7.cell? (π C.mb 14)=some (ι t.bt):=by rw [<-HO.o.mb];exact HO.o.mx.m.aM.cell 14
  have pn:w7.cell? (π C.mb 15)=some (ι t.fS):=by rw [<-HO.o.mb];exact HO.o.mx.m.aM.cell 15
  have fm:∀o,w7.frozen? (π C.mb o)=false:=by rw [<-HO.o.mb];exact HO.o.mx.m.aM.frozen
  have CC:bx+1+1≠C.mb:=fun e=>HO.o.nc (by rw [e,<-HO.o.mb];simp [Co.l]);have CD:bx+1≠C.mb:=fun e=>HO.o.mx.cr (b:=bx+1) (HO.o.ro _ smm) (by rw [e,<-HO.o.mb];simp [Co.l]);go_wp2_with fail;have O8:=HO.o.sX 14 (ι (wrap64 (t.bt+1))) (t':={t with bt:=wrap64 (t.bt+1)}) (used':=z.1) rfl;clear d2 g5 Ax e13 e14 pn fm HO g6;generalize (w7.setCell (π C.mb 14) (ι (wrap64 (t.bt+1))))=w8 at*;have d2:=O8.b2.c1;have g5:=O8.b5.c1;have Ax:w8.cell? (π (bx+1+1) 5)=some ν:=by exact ac1
  have pn:w8.cell? (π C.mb 15)=some (ι t.fS):=by rw [<-O8.mb];exact O8.mx.m.aM.cell 15
  have fm:∀o,w8.frozen? (π C.mb o)=false:=by rw [<-O8.mb];exact O8.mx.m.aM.frozen
  have sh:=ae O8;clear O8;go_region;have O9:=(sh.o.sX 15 (ι (wrap64 t.fS)) (t':={t with bt:=wrap64 (t.bt+1),fS:=wrap64 t.fS}) (used':=z.1) rfl).draw 1;change Over w (w8.setCell (π C.mb 15) (ι (wrap64 t.fS))).drew bx C C1 kG K p c _ _ _ _ _ _ _ _ _ at O9;clear d2 g5 Ax pn fm sh;generalize (w8.setCell (π C.mb 15) (ι (wrap64 t.fS))).drew=w9 at*;have g5:=O9.b5.c1;have Ax:w9.cell? (π (bx+1+1) 5)=some ν:=by exact agN
  have MT:∀o,w9.frozen? (π (bx+1) o)=false:=O9.b4.frozen;obtain ⟨MU,MV,MX⟩:=O9.b4.c3;rw [gB] at O9;have mD:=ae O9;have pM:=ae gB;clear O9 gB nm MR CC CD qd r1 uR kL;exact adV
 ·have uR:0<=lM:=omm;obtain ⟨a,rfl⟩:∃a:Nat,lM=a:=⟨lM.toNat,omm⟩;have AM:=ae B6;clear B6;have Bk:rN w6 w6 C.mb (bx+1+1) (bx::(bx+1)::(bx+1+1+1)::Ma.rest w C) K p c t T s (s,eR key a) gD:=by exact qX3
  have HR:=ae (vT HM.o HV.o Bk);clear Bk;have HZ:=ae (show lD p c s key=iU p c gD (s,eR key a) by unfold lD;rw [HX.o,abH omm,Int.toNat_natCast]);go_wp2_with fail;refine HR.o.mono ?_;rintro e w7 ⟨rfl,kG,ho,dK,MY⟩;obtain ⟨C1,tv,O,U,hv,jv,lE,A⟩:=AM.o.ran dK ho MY;clear HR dK ho MY AM d2 d5 r1;rw [<-HZ.o] at O A;have g5:=O.b5.c1;have g6:w7.cell? (π (bx+1+1) 6)=some (ι (lD p c s key).2.2.br):=by obtain ⟨cs,q1,q2,q3⟩:=O.rb;exact (q1.cell 6).trans q3
  have HO:=ae O;have HA:=ae (And.intro lE A);clear O A lE HZ;generalize hz:lD p c s key=z at*;have HZ:=ae hz;clear hz;by_cases gB:z.2.2.br=0
  ·rw [gB] at g6;rcases HO.o.td.val with ⟨fN,jF⟩|⟨tb,uf,fN,nO,lF,a8⟩
   ·as_aux_lemma=>
    subst fN;have d2:=HO.o.b2.c1;have Ax:w7.cell? (π (bx+1+1) 5)=some ν:=by exact ac0
    have e13:w7.cell? (π C.mb 13)=some (ι t.gY):=by rw [<-HO.o.mb];exact HO.o.mx.m.aM.cell 13
    have e14:w7.cell? (π C.mb 14)=some (ι t.bt):=by rw [<-HO.o.mb];exact HO.o.mx.m.aM.cell 14
    have pn:w7.cell? (π C.mb 15)=some (ι t.fS):=by rw [<-HO.o.mb];exact HO.o.mx.m.aM.cell 15
    have fm:∀o,w7.frozen? (π C.mb o)=false:=by rw [<-HO.o.mb];exact HO.o.mx.m.aM.frozen
    have CC:bx+1+1≠C.mb:=fun e=>HO.o.nc (by rw [e,<-HO.o.mb];simp [Co.l]);have CD:bx+1≠C.mb:=fun e=>HO.o.mx.cr (b:=bx+1) (HO.o.ro _ smm) (by rw [e,<-HO.o.mb];simp [Co.l]);go_wp2_with fail;have O8:=HO.o.sX 14 (ι (wrap64 (t.bt+1))) (t':={t with bt:=wrap64 (t.bt+1)}) (used':=z.1) rfl;clear d2 g5 Ax e13 e14 pn fm HO g6;generalize (w7.setCell (π C.mb 14) (ι (wrap64 (t.bt+1))))=w8 at*;have d2:=O8.b2.c1;have g5:=O8.b5.c1;have Ax:w8.cell? (π (bx+1+1) 5)=some ν:=by exact ac1
    have pn:w8.cell? (π C.mb 15)=some (ι t.fS):=by rw [<-O8.mb];exact O8.mx.m.aM.cell 15
    have fm:∀o,w8.frozen? (π C.mb o)=false:=by rw [<-O8.mb];exact O8.mx.m.aM.frozen
    have sh:=ae O8;clear O8;go_region;have O9:=(sh.o.sX 15 (ι (wrap64 t.fS)) (t':={t with bt:=wrap64 (t.bt+1),fS:=wrap64 t.fS}) (used':=z.1) rfl).draw 1;change Over w (w8.setCell (π C.mb 15) (ι (wrap64 t.fS))).drew bx C C1 kG K p c _ _ _ _ _ _ _ _ _ at O9;clear d2 g5 Ax pn fm sh;generalize (w8.setCell (π C.mb 15) (ι (wrap64 t.fS))).drew=w9 at*;have g5:=O9.b5.c1;have Ax:w9.cell? (π (bx+1+1) 5)=some ν:=by exact agN
    have MT:∀o,w9.frozen? (π (bx+1) o)=false:=O9.b4.frozen;obtain ⟨MU,MV,MX⟩:=O9.b4.c3;rw [gB] at O9;have mD:=ae O9;have pM:=ae gB;clear O9 gB nm MR CC CD qd;exact adV
   ·as_aux_lemma=>
    subst fN;have d2:=HO.o.b2.c1;have Ax:w7.cell? (π (bx+1+1) 5)=some (.slice (some (π tb 0)) z.2.2.told.length uf):=by exact ac0
    have e13:w7.cell? (π C.mb 13)=some (ι t.gY):=by rw [<-HO.o.mb];exact HO.o.mx.m.aM.cell 13
    have e14:w7.cell? (π C.mb 14)=some (ι t.bt):=by rw [<-HO.o.mb];exact HO.o.mx.m.aM.cell 14
    have pn:w7.cell? (π C.mb 15)=some (ι t.fS):=by rw [<-HO.o.mb];exact HO.o.mx.m.aM.cell 15
    have fm:∀o,w7.frozen? (π C.mb o)=false:=by rw [<-HO.o.mb];exact HO.o.mx.m.aM.frozen
    have CC:bx+1+1≠C.mb:=fun e=>HO.o.nc (by rw [e,<-HO.o.mb];simp [Co.l]);have CD:bx+1≠C.mb:=fun e=>HO.o.mx.cr (b:=bx+1) (HO.o.ro _ smm) (by rw [e,<-HO.o.mb];simp [Co.l]);go_wp2_with fail;have O8:=HO.o.sX 14 (ι (wrap64 (t.bt+1))) (t':={t with bt:=wrap64 (t.bt+1)}) (used':=z.1) rfl;clear d2 g5 Ax e13 e14 pn fm HO g6;generalize (w7.setCell (π C.mb 14) (ι (wrap64 (t.bt+1))))=w8 at*;have d2:=O8.b2.c1;have g5:=O8.b5.c1;have Ax:w8.cell? (π (bx+1+1) 5)=some (.slice (some (π tb 0)) z.2.2.told.length uf):=by exact ac1
    have pn:w8.cell? (π C.mb 15)=some (ι t.fS):=by rw [<-O8.mb];exact O8.mx.m.aM.cell 15
    have fm:∀o,w8.frozen? (π C.mb o)=false:=by rw [<-O8.mb];exact O8.mx.m.aM.frozen
    have sh:=ae O8;clear O8;go_region;have O9:=(sh.o.sX 15 (ι (wrap64 (t.fS+z.2.2.told.length))) (t':={t with bt:=wrap64 (t.bt+1),fS:=wrap64 (t.fS+z.2.2.told.length)}) (used':=z.1) rfl).draw 1;change Over w (w8.setCell (π C.mb 15) (ι (wrap64 (t.fS+z.2.2.told.length)))).drew bx C C1 kG K p c _ _ _ _ _ _ _ _ _ at O9;clear d2 g5 Ax pn fm sh;generalize (w8.setCell (π C.mb 15) (ι (wrap64 (t.fS+z.2.2.told.length)))).drew=w9 at*;have g5:=O9.b5.c1;have Ax:w9.cell? (π (bx+1+1) 5)=some (.slice (some (π tb 0)) z.2.2.told.length uf):=by exact agN
    exact qX1
  ·as_aux_lemma=>exact qX0
theorem Mx.behind {w1 w2:World} (h:Mx w C RO K p c s t used rv) {a':Nd} {f':Nat->Option Nat} (f1:da [C.xb,C.xs] w w1) (f2:da (bp C.ab C.V C.L) w1 w2) (ha:bP w2 C.ab C.V C.L K.nd p.ap.length a')
 (hx:cL w1 C.xb C.xs K.nd (eS p a') f'):bu w w2 C C/\Mx w2 C RO K p c ⟨a',f',s.vars,s.total⟩ t used rv:=by
 have R:=h.rel;have F1:da C.l w w1:=f1.mono (by intro k hk;simp at hk;rcases hk with rfl|rfl<;>simp [Co.l]);have F2:da C.l w1 w2:=f2.mono (by intro k hk;simp [Co.l,hk]);have F:=F1.trans F2;have FJ:C.mb∉[C.xb,C.xs]:=by simp;exact ⟨R.mx,R.ms⟩
 refine ⟨⟨rfl,F,fun _ hb=> .inl hb⟩,⟨⟨?_,?_,?_,?_,?_⟩,h.sep.nd,fun b hb=>afQ (h.sep.lt b hb) F.size,h.sep.ro,fun b hb=>afQ (h.sep.cY b hb) F.size⟩⟩
 ·exact (h.m.aM.aB f1 FJ).aB f2 R.ma
 ·exact h.m.prog.aB F fun b hb=>h.cr hb
 ·exact ha
 ·exact hx.aB f2 ⟨R.xa,R.sa⟩
 ·exact (h.m.vs.aB f1 fun b hb hc=>by
   simp at hc;rcases hc with rfl|rfl
   ·exact R.xv (aK.2 hb)
   ·exact R.sv (aK.2 hb)).aB f2 fun b hb hc=>R.av b hc (aK.2 hb)
def Qu (w:World) (C:Co) (RO:List Nat) (K:Kc) (p:aO) (c:Cp) (t:fI) (used:Int) (s:St) (key:Nat) (e:Ending) (w':World):Prop:=
 e= .returned (ι (gT p c s key))/\∃C',bu w w' C C'/\Mx w' C' RO K p c (gX p c s key) (if gT p c s key=0 then t else {t with ud:=wrap64 (t.ud+1)}) used rv0
where rv0:Value:= .pointer none
theorem CG (h:Mx w C RO K p c s t used (.pointer none)) {key:Nat} (hf:s.f key=none):
 Calls prog 26 #[ρ C.mb,.int .u64 key] w (Qu w C RO K p c t used s key):=by
 have m10:=ag3 h.m.aM;have HD:=ae (Ix.D8 h.m.ix hf);have HE:=ae (fun n=>show Qu w C RO K p c t used s key (.returned (ι 0)) (w.drewN n) from by
  have e1:gT p c s key=0:=by unfold gT;rw [hf]
  have e2:gX p c s key=s:=by unfold gX;rw [hf]
  refine ⟨by rw [e1],C,bu.below (au _ _ n),?_⟩;rw [e1,e2,afE rfl];exact h.drewN n)
 clear h hf;go_enter func26,ntmps26;go_wp2_with fail;refine HD.o.mono ?_;rintro e w1 ⟨rfl,n,rfl⟩;go_wp2_with fail;go_ret;exact HE.o n
theorem CH (h:Mx w C RO K p c s t used (.pointer none)) (hI:Inv (aw p c) s) (gm:K.nd<=4194304) (hg:p.ap.length<=256) {key n q:Nat} (hf:s.f key=some n) (hq:q < p.ap.length) (hn:n∈s.a.ls q) (ht: -1073741824<=s.total/\s.total<=1073741824):
 Calls prog 26 #[ρ C.mb,.int .u64 key] w (Qu w C RO K p c t used s key):=by
 have m10:=ag3 h.m.aM;have hk:(s.a.val n).key=key:=by obtain ⟨q',Sh,hn',hk⟩:=(hI.idx key n).1 hf;exact hk
 have hle:=o_ (a:=s.a) hq hn;have HX:=h.m.ix;rw [<-hle] at HX;have HD:=ae (Ix.qK HX hf);have Zi:gX p c s key=⟨takeN s.a q n,Vm.aL s.f key none,s.vars,if p.ap.getD q false then s.total else s.total - 1⟩:=by unfold gX;rw [hf];dsimp only;rw [jq hI.wf hq hn];unfold fR;rw [hk];rfl
 have Zj:gT p c s key=if p.ap.getD q false then 2 else 1:=by unfold gT;rw [hf];dsimp only;rw [jq hI.wf hq hn]
 have Qe:=ae Zi;have Qf:=ae Zj;have HT:=ae ht;have H:=ae h;have HQN:=ae (And.intro hn (And.intro gm hg));have R:=h.rel;have nx:C.mb∉[C.xb,C.xs]:=by simp;exact ⟨R.mx,R.ms⟩
 have nar:∀b,b∈bp C.ab C.V C.L->b∉[C.xb,C.xs]:=by
  intro b hb hc;simp at hc;rcases hc with rfl|rfl
  ·exact R.xa hb
  ·exact R.sa hb
 have NX:=ae (And.intro nx (And.intro nar R.ma));clear h hf hk hle HX Zi Zj ht nx nar R hn gm hg hI;go_enter func26,ntmps26;go_wp2_with fail;refine HD.o.mono ?_;rintro e w1 ⟨rfl,f1,x1⟩;have eN:=H.o.m.aM.aB f1 NX.o.1;have m9:w1.cell? (π C.mb 9)=some (ρ C.ab):=eN.cell 9;have a1:=H.o.m.ar.aB f1 NX.o.2.1;have HL:=ae (dT.zh a1 hq HQN.o.1);have HU:=ae (dT.Br a1 HQN.o.2.1 HQN.o.2.2 hq HQN.o.1);have GL:=ae f1;have Kk:=ae x1;have dC:=ae eN;clear f1 x1 eN a1 m10 HD;go_wp2_with fail;refine HL.o.mono ?_;rintro e w1' ⟨rfl,rfl⟩;go_wp2_with fail;refine HU.o.mono ?_;rintro e w2 ⟨rfl,f2,a2⟩;obtain ⟨hT,hM⟩:=H.o.behind GL.o f2 a2 Kk.o;have g16:w2.cell? (π C.mb 16)=some (ι t.ud):=hM.m.aM.cell 16;have fm:∀o,w2.frozen? (π C.mb o)=false:=hM.m.aM.frozen;have g0:w2.cell? (π C.mb 0)=some K.g:=hM.m.aM.cell 0;have g12:w2.cell? (π C.mb 12)=some (ι s.total):=hM.m.aM.cell 12;obtain ⟨gb,kw,jZ,vM,UC⟩:=hM.ap hq;have Wh:gb≠C.mb:=fun e=>hM.cr vM (by rw [e];simp [Co.l]);rw [jZ] at g0;have LZ:=ae hT;have HM:=ae hM;have S7:IntKind.i64.wrap (s.total - 1)=s.total - 1:=afU _ ⟨by have:=HT.o;omega,by have:=HT.o;omega⟩;clear f2 a2 hT hM m9 HL HU vM jZ;generalize Xy:p.ap.getD q false=gq at*;generalize p.ap.length=ng at*;have HGQ:=ae Xy;clear Xy;cases gq
 ·have xR:=ae (show gT p c s key=1 by rw [Qf.o];rfl);have rj:=ae (show gX p c s key=⟨takeN s.a q n,Vm.aL s.f key none,s.vars,s.total - 1⟩ by rw [Qe.o];rfl);clear Qf Qe;go_wp2_with fail;go_ret;refine ⟨show Ending.returned (ι 1)=_ by rw [xR.o],C,?_⟩;rw [xR.o,abH dee,rj.o];obtain ⟨k1,m1⟩:=HM.o.sX 16 (ι (wrap64 (t.ud+1))) (t':={t with ud:=wrap64 (t.ud+1)}) (used':=used) (rv':= .pointer none) rfl;obtain ⟨k2,m2⟩:=m1.total (s.total - 1);exact ⟨LZ.o.trans (k1.trans k2),m2⟩
 ·have xR:=ae (show gT p c s key=2 by rw [Qf.o];rfl);have rj:=ae (show gX p c s key=⟨takeN s.a q n,Vm.aL s.f key none,s.vars,s.total⟩ by rw [Qe.o];rfl);clear Qf Qe;go_wp2_with fail;go_ret;refine ⟨show Ending.returned (ι 2)=_ by rw [xR.o],C,?_⟩;rw [xR.o,abH dee,rj.o];obtain ⟨k1,m1⟩:=HM.o.sX 16 (ι (wrap64 (t.ud+1))) (t':={t with ud:=wrap64 (t.ud+1)}) (used':=used) (rv':= .pointer none) rfl;exact ⟨LZ.o.trans k1,m1⟩
theorem M0 (h:Mx w C RO K p c s t used (.pointer none)) (hI:Inv (aw p c) s) (gm:K.nd<=4194304) (hg:p.ap.length<=256) (key:Nat) (ht: -1073741824<=s.total/\s.total<=1073741824):
 Calls prog 26 #[ρ C.mb,.int .u64 key] w (Qu w C RO K p c t used s key):=by
 cases hf:s.f key with
 |none=>exact CG h hf
 |some n=>obtain ⟨q,hq,hn,-⟩:=(hI.idx key n).1 hf;exact CH h hI gm hg hf hq hn ht
theorem Ur (h:Mx w C RO K p c s t used rv):Calls prog 28 #[ρ C.mb] w (fun e w'=>e= .returned (ι used)/\w=w'):=by have m17:w.cell? (π C.mb 17)=some (ι used):=h.m.aM.cell 17;clear h;go_enter func28,ntmps28;go_wp2_with fail;exact agJ
end
end Go.Proofs.YtblkblclmbhjiaaGreat.Ma
section
namespace ak.Vm
open Go
structure PE where
 key:Nat
 aW:List Int
 deriving DecidableEq
structure PS where
 aI:List (List PE)
 vars:List Int
 deriving DecidableEq
def FQ (p:aO) (e:eW):PE:=⟨e.key,(List.range p.aW.length).map e.tg⟩
def oG (p:aO) (s:St) (q:Nat):List PE:=(s.a.ls q).map fun n=>FQ p (s.a.val n)
def nL (p:aO) (s:St):PS:=⟨(List.range p.ap.length).map (oG p s),(List.range p.vars.length).map s.vars⟩
theorem sY {α:Type} (f:Nat->α) {n i:Nat} (d:α) (h:i < n):((List.range n).map f).getD i d=f i:=by simp [List.getD,h]
def mN (lo hi:Nat) (v:Value):Prop:=∀b,v.ownBlock=some b->lo<=b/\b < hi
theorem mN.nil (lo hi:Nat):mN lo hi ν:=fun b hb=>by simp [Value.ownBlock] at hb
theorem mN.mono {lo hi zR hi':Nat} {v:Value} (h:mN lo hi v) (h1:zR<=lo) (h2:hi<=hi'):mN zR hi' v:=fun b hb=>by have:=h b hb;omega
def se (w:World) (lo hi:Nat) (Es:List TypeId) (S:List Nat):Prop:=∀b,b∈S->(b < lo\/hi<=b)\/(∃E cs,ay w b E cs/\E∉Es)\/∃o:Obj,w.heap[b]? =some o/\o.isCells=false
theorem se.nil (w:World) (lo hi:Nat) (Es:List TypeId):se w lo hi Es []:=fun b hb=>by simp at hb
theorem se.sub {w:World} {lo hi:Nat} {Es Fs:List TypeId} {S:List Nat} (h:se w lo hi Es S) (hs:∀e,e∈Fs->e∈Es):se w lo hi Fs S:=fun b hb=>by
 rcases h b hb with h|⟨E,cs,h1,h2⟩|h
 ·exact .inl h
 ·exact .inr (.inl ⟨E,cs,h1,fun hc=>h2 (hs _ hc)⟩)
 ·exact .inr (.inr h)
theorem se.range {w:World} {lo hi:Nat} {Es:List TypeId} {S:List Nat} (h:∀b,b∈S->b < lo\/hi<=b):se w lo hi Es S:=fun b hb=> .inl (h b hb)
theorem Row.typ {w:World} {e:TypeId} {size n:Nat} {v:Value} {g:Nat->Value} (h:Row w e size v n g) {b:Nat} (hb:v.ownBlock= .some b):∃cs,ay w b e cs:=by
 rcases h.2 with ⟨rfl,_⟩|⟨b',cap,yQ,rfl,_,hg,_⟩
 ·simp [Value.ownBlock] at hb
 ·simp [Value.ownBlock] at hb;subst hb;exact ⟨yQ,hg⟩
theorem se.row {w:World} {lo hi:Nat} {Es:List TypeId} {S:List Nat} (k:se w lo hi Es S) {e:TypeId} {size n:Nat} {v:Value} {g:Nat->Value} (h:Row w e size v n g) (he:e∈Es) (hi':mN lo hi v) {b:Nat} (hb:v.ownBlock=some b):b∉S:=by
 intro hc;obtain ⟨cs,h1⟩:=h.typ hb;rcases k b hc with h2|⟨E,cs',h2,h3⟩|⟨o,h2,h3⟩
 ·have:=hi' b hb;omega
 ·unfold ay at h1 h2;rw [h1] at h2;simp at h2;exact h3 (h2.2▸he)
 ·unfold ay at h1;rw [h1] at h2;cases h2;simp [Obj.isCells] at h3
end ak.Vm
namespace Go.Proofs.YtblkblclmbhjiaaGreat.Ma
open Go.RowKit ak.Vm
open ak hiding aL an aj
open dT (bP bG d_)
open Ix (cL)
theorem Row.off {w w':World} {e:TypeId} {size n:Nat} {v:Value} {g:Nat->Value} {lo hi:Nat} {Es:List TypeId} {S:List Nat} (h:Row w e size v n g) (hi':mN lo hi v) (he:e∈Es) (f:da S w w') (k:se w lo hi Es S):Row w' e size v n g:=
 h.aB f fun b hb=>k.row h he hi' hb
def zS:List TypeId:=[3]
def ad3:List TypeId:=[62,3]
def tQs:List TypeId:=[60,62,3]
structure fL (w:World) (lo hi:Nat) (v:Value) (l:List Int):Prop where
 row:Row w 3 1 v l.length (aU l)
 jy:mN lo hi v
theorem fL.off {w w':World} {lo hi:Nat} {v:Value} {l:List Int} {S:List Nat} (h:fL w lo hi v l) (f:da S w w') (k:se w lo hi zS S):fL w' lo hi v l:=⟨Row.off h.row h.jy (by simp [zS]) f k,h.jy⟩
theorem fL.mono {w:World} {lo hi zR hi':Nat} {v:Value} {l:List Int} (h:fL w lo hi v l) (h1:zR<=lo) (h2:hi<=hi'):fL w zR hi' v l:=⟨h.row,h.jy.mono h1 h2⟩
def peC (l:List PE) (tv:Nat->Value) (o:Nat):Value:=if o % 2=0 then .int .u64 (l.getD (o / 2) ⟨0,[]⟩).key else tv (o / 2)
structure uC (w:World) (lo hi:Nat) (v:Value) (l:List PE) (tv:Nat->Value):Prop where
 row:Row w 62 2 v l.length (peC l tv)
 jy:mN lo hi v
 aW:∀i,i < l.length->fL w lo hi (tv i) (l.getD i ⟨0,[]⟩).aW
theorem uC.off {w w':World} {lo hi:Nat} {v:Value} {l:List PE} {tv:Nat->Value} {S:List Nat} (h:uC w lo hi v l tv) (f:da S w w') (k:se w lo hi ad3 S):uC w' lo hi v l tv:=
 ⟨Row.off h.row h.jy (by simp [ad3]) f k,h.jy,fun i hi=>(h.aW i hi).off f (k.sub (by simp [zS,ad3]))⟩
theorem uC.mono {w:World} {lo hi zR hi':Nat} {v:Value} {l:List PE} {tv:Nat->Value} (h:uC w lo hi v l tv) (h1:zR<=lo) (h2:hi<=hi'):uC w zR hi' v l tv:=⟨h.row,h.jy.mono h1 h2,fun i hi=>(h.aW i hi).mono h1 h2⟩
structure QS (w:World) (lo hi:Nat) (v:Value) (L:List (List PE)) (lv:Nat->Value) (tv:Nat->Nat->Value):Prop where
 row:Row w 60 1 v L.length lv
 jy:mN lo hi v
 q:∀q,q < L.length->uC w lo hi (lv q) (L.getD q []) (tv q)
 sep:∀q q',q < L.length->q' < L.length->q≠q'->(lv q).ownBlock=none\/(lv q).ownBlock≠(lv q').ownBlock
theorem QS.off {w w':World} {lo hi:Nat} {v:Value} {L:List (List PE)} {lv:Nat->Value} {tv:Nat->Nat->Value} {S:List Nat} (h:QS w lo hi v L lv tv) (f:da S w w') (k:se w lo hi tQs S):QS w' lo hi v L lv tv:=
 ⟨Row.off h.row h.jy (by simp [tQs]) f k,h.jy,fun q hq=>(h.q q hq).off f (k.sub (by simp [tQs,ad3])),h.sep⟩
theorem QS.mono {w:World} {lo hi zR hi':Nat} {v:Value} {L:List (List PE)} {lv:Nat->Value} {tv:Nat->Nat->Value} (h:QS w lo hi v L lv tv) (h1:zR<=lo) (h2:hi<=hi'):QS w zR hi' v L lv tv:=
 ⟨h.row,h.jy.mono h1 h2,fun q hq=>(h.q q hq).mono h1 h2,h.sep⟩
structure jY (w:World) (lo hi:Nat) (qv vv:Value) (S:PS) (lv:Nat->Value) (tv:Nat->Nat->Value):Prop where
 qs:QS w lo hi qv S.aI lv tv
 vs:fL w lo hi vv S.vars
theorem jY.off {w w':World} {lo hi:Nat} {qv vv:Value} {S:PS} {lv:Nat->Value} {tv:Nat->Nat->Value} {T:List Nat} (h:jY w lo hi qv vv S lv tv) (f:da T w w') (k:se w lo hi tQs T):jY w' lo hi qv vv S lv tv:=⟨h.qs.off f k,h.vs.off f (k.sub (by simp [tQs,zS]))⟩
theorem jY.mono {w:World} {lo hi zR hi':Nat} {qv vv:Value} {S:PS} {lv:Nat->Value} {tv:Nat->Nat->Value} (h:jY w lo hi qv vv S lv tv) (h1:zR<=lo) (h2:hi<=hi'):jY w zR hi' qv vv S lv tv:=⟨h.qs.mono h1 h2,h.vs.mono h1 h2⟩
theorem uC.snoc {w w':World} {lo hi:Nat} {v v':Value} {l:List PE} {tv:Nat->Value} (h:uC w lo hi v l tv) {x:PE} {xv:Value} (hx:fL w' lo w'.heap.size xv x.aW) (hle:hi<=w.heap.size) {S:List Nat} (f:da S w w') (hS:se w lo hi zS S)
 (hr:Row w' 62 2 v' (l.length+1) (gU (l.length*2) (peC l tv) fun j=>if j % 2=0 then .int .u64 x.key else xv)) (hv:mN lo w'.heap.size v'):uC w' lo w'.heap.size v' (l++[x]) (fun i=>if i < l.length then tv i else xv):=by
 refine ⟨?_,hv,fun i hi'=>?_⟩
 ·rw [age,agB];refine hr.congr fun o ho=>?_;unfold gU peC;by_cases h1:o < l.length*2
  ·have h2:o / 2 < l.length:=omm;rw [afE h1];dsimp only;rw [afE h2];have e:(l++[x]).getD (o / 2) ⟨0,[]⟩=l.getD (o / 2) ⟨0,[]⟩:=by simp [List.getD,agt,h2]
   rw [e]
  ·have h2:o / 2=l.length:=omm;rw [abH h1];dsimp only;rw [h2,abH (agl _)];have e:(l++[x]).getD l.length ⟨0,[]⟩=x:=by simp [List.getD]
   rw [e];by_cases h3:o % 2=0
   ·rw [afE h3,afE omm]
   ·rw [abH h3,abH omm]
 ·rw [age,agB] at hi';by_cases h2:i < l.length
  ·rw [afE h2];have e:(l++[x]).getD i ⟨0,[]⟩=l.getD i ⟨0,[]⟩:=by simp [List.getD,agt,h2]
   rw [e];exact ((h.aW i h2).off f hS).mono (afF _) (afM hle f.size)
  ·have h3:i=l.length:=omm;subst h3;rw [abH (agl _)];have e:(l++[x]).getD l.length ⟨0,[]⟩=x:=by simp [List.getD]
   rw [e];exact hx
theorem QS.snoc {w w':World} {lo hi:Nat} {v v':Value} {L:List (List PE)} {lv:Nat->Value} {tv:Nat->Nat->Value} (h:QS w lo hi v L lv tv) {l:List PE} {ev:Value} {te:Nat->Value} (he:uC w' lo w'.heap.size ev l te) (hle:hi<=w.heap.size)
 {S:List Nat} (f:da S w w') (hS:se w lo hi ad3 S) (hr:Row w' 60 1 v' (L.length+1) (gU (L.length*1) lv fun _=>ev)) (hv:mN lo w'.heap.size v') (hn:∀b,ev.ownBlock=some b->hi<=b):
 QS w' lo w'.heap.size v' (L++[l]) (fun q=>if q < L.length then lv q else ev) (fun q=>if q < L.length then tv q else te):=by
 have hlen:(L++[l]).length=L.length+1:=by simp
 have e1:∀q,q < L.length->(L++[l]).getD q []=L.getD q []:=fun q hq=>by simp [List.getD,agt,hq]
 have e2:(L++[l]).getD L.length []=l:=by simp [List.getD]
 refine ⟨?_,hv,fun q hq=>?_,fun q q' hq Sh bz=>?_⟩
 ·rw [hlen];refine hr.congr fun o ho=>?_;unfold gU;dsimp only;by_cases h1:o < L.length
  ·rw [afE omm,afE h1]
  ·rw [abH omm,abH h1]
 ·rw [hlen] at hq;by_cases h1:q < L.length
  ·rw [afE h1,afE h1,e1 q h1];exact ((h.q q h1).off f hS).mono (afF _) (afM hle f.size)
  ·obtain rfl:q=L.length:=omm;rw [abH h1,abH h1,e2];exact he
 ·rw [hlen] at hq Sh;by_cases h1:q < L.length
  ·by_cases h2:q' < L.length
   ·rw [afE h1,afE h2];exact h.sep q q' h1 h2 bz
   ·exact agU
  ·by_cases h2:q' < L.length
   ·exact agV
   ·omega
end Go.Proofs.YtblkblclmbhjiaaGreat.Ma
end
namespace Go.Proofs.YtblkblclmbhjiaaGreat.Vf
open Go.RowKit ak.Vm
open ak hiding aL an aj
open Ma (dx bQ aU vb)
def sQ (w:World) (E:TypeId) (size n:Nat) (g:Nat->Value) (e:Ending) (w':World):Prop:=
 ∃v',e= .returned v'/\Row w' E size v' n g/\Below w.heap.size w w'/\mN w.heap.size w'.heap.size v'
theorem b_:(prog.info? 3).map (fun i=>(i.zero,i.size,i.bytes))=some (some (ι 0),1,8):=by kernel_rfl
theorem acj {p:Prop} (h:p:=by
 go_wp2_with fail;go_ret;exact ⟨_,rfl,Row.nil _ _ _ _,afL _ _,mN.nil _ _⟩):p:=h
theorem aci {p:Prop} (h:p:=by
 intro j hj;obtain ⟨e,c⟩:=HC.o j hj;obtain ⟨c_,off,sp⟩:=a;dsimp only at e c;subst e;rw [Addr.add_lit];exact Lib.cell?_alloc_some _ c):p:=h
theorem ach {p:Prop} (h:p:=by
 intro v' w1 bq hf hv;go_wp2;go_ret;have hB:Below w.heap.size w w1:=((afL _ w).alloc (afF _) _).trans (hf.below smm (by intro b hb;simp [Value.ownBlock] at hb;omega));refine ⟨v',rfl,bq.congr fun o ho=>by unfold gU;rw [abH omm];congr 1,hB,fun b hb=>?_⟩;have hl:=(af3 bq b hb).2;rcases hv with h|h<;>rw [hb] at h<;>simp [Value.ownBlock] at h<;>omega):p:=h
theorem pN {w:World} {v:Value} {n:Nat} {g:Nat->Value} (h:aV w 1 v n g) (hb:n*8<=140737488355328) (h1:∀j,j < n*1->(g j).oneCell'=true):
 Calls prog 55 #[v] w (sQ w 3 1 n g):=by
 rcases h with ⟨rfl,rfl⟩|⟨a,cap,rfl,nO,lF,hc⟩
 ·have hq:∀(w:World) (n' c':Nat),(binOp .eql 24 ν (.slice none n' c')).run prog w= .ok (.bool true) w:=fun w n' c'=>agm w _ _ none 0 0 n' c' underlying24;go_enter func55,ntmps55;exact acj
 ·have HC:=ae hc;have H1:=ae h1;have hm:n<=maxLen:=afM nO lF;have HM:=ae hm;have HB:=ae hb;have hq:∀(w:World) (n' c':Nat),(binOp .eql 24 (.slice (some a) n cap) (.slice none n' c')).run prog w= .ok (.bool false) w:=fun w n' c'=>agm w _ _ (some a) n cap n' c' underlying24;clear hc h1 hb hm nO lF;go_enter func55,ntmps55;go_wp2_with (at_builtin;refine cz rfl _ _ 24 rfl 3 underlying24 b_ rfl dee _ 0 (fun _=> ι 0) rfl (agy w #[] 0 (afO _) (afO _) smm) a n cap g rfl ?zT ?ED ?EE ?ID ?_)
  case zT=>exact aci
  case ED=>exact H1.o
  case EE=>rw [Nat.zero_add];exact HM.o
  case ID=>rw [Nat.zero_add];exact HB.o
  exact ach
theorem vZ:(prog.info? 4).map (fun i=>(i.zero,i.size,i.bytes))=some (some (.bool false),1,1):=by kernel_rfl
theorem EF {w:World} {v:Value} {n:Nat} {g:Nat->Value} (h:aV w 1 v n g) (hb:n*1<=140737488355328) (h1:∀j,j < n*1->(g j).oneCell'=true):
 Calls prog 98 #[v] w (sQ w 4 1 n g):=by
 rcases h with ⟨rfl,rfl⟩|⟨a,cap,rfl,nO,lF,hc⟩
 ·have hq:∀(w:World) (n' c':Nat),(binOp .eql 22 ν (.slice none n' c')).run prog w= .ok (.bool true) w:=fun w n' c'=>agm w _ _ none 0 0 n' c' underlying22;go_enter func98,ntmps98;exact acj
 ·have HC:=ae hc;have H1:=ae h1;have hm:n<=maxLen:=afM nO lF;have HM:=ae hm;have HB:=ae hb;have hq:∀(w:World) (n' c':Nat),(binOp .eql 22 (.slice (some a) n cap) (.slice none n' c')).run prog w= .ok (.bool false) w:=fun w n' c'=>agm w _ _ (some a) n cap n' c' underlying22;clear hc h1 hb hm nO lF;go_enter func98,ntmps98;go_wp2_with (at_builtin;refine cz rfl _ _ 22 rfl 4 underlying22 vZ rfl dee _ 0 (fun _=> ι 0) rfl (agy w #[] 0 (afO _) (afO _) smm) a n cap g rfl ?zT ?ED ?EE ?ID ?_)
  case zT=>exact aci
  case ED=>exact H1.o
  case EE=>rw [Nat.zero_add];exact HM.o
  case ID=>rw [Nat.zero_add];exact HB.o
  exact ach
theorem IE:(prog.info? 122).map (fun i=>(i.zero,i.size,i.bytes))=some (some (.agg #[ι 0,ι 0,ι 0]),3,24):=by kernel_rfl
theorem IF {w:World} {v:Value} {n:Nat} {g:Nat->Value} (h:aV w 3 v n g) (hb:n*24<=140737488355328) (h1:∀j,j < n*3->(g j).oneCell'=true):
 Calls prog 99 #[v] w (sQ w 122 3 n g):=by
 rcases h with ⟨rfl,rfl⟩|⟨a,cap,rfl,nO,lF,hc⟩
 ·have hq:∀(w:World) (n' c':Nat),(binOp .eql 23 ν (.slice none n' c')).run prog w= .ok (.bool true) w:=fun w n' c'=>agm w _ _ none 0 0 n' c' underlying23;go_enter func99,ntmps99;exact acj
 ·have HC:=ae hc;have H1:=ae h1;have hm:n<=maxLen:=afM nO lF;have HM:=ae hm;have HB:=ae hb;have hq:∀(w:World) (n' c':Nat),(binOp .eql 23 (.slice (some a) n cap) (.slice none n' c')).run prog w= .ok (.bool false) w:=fun w n' c'=>agm w _ _ (some a) n cap n' c' underlying23;clear hc h1 hb hm nO lF;go_enter func99,ntmps99;go_wp2_with (at_builtin;refine cz rfl _ _ 23 rfl 122 underlying23 IE rfl dee _ 0 (fun _=> ι 0) rfl (agy w #[] 0 (afO _) (afO _) smm) a n cap g rfl ?zT ?ED ?EE ?ID ?_)
  case zT=>exact aci
  case ED=>exact H1.o
  case EE=>rw [Nat.zero_add];exact HM.o
  case ID=>rw [Nat.zero_add];exact HB.o
  exact ach
theorem IG:(prog.info? 40).map (fun i=>(i.zero,i.size,i.bytes))=some (some (.agg #[ι 0,ι 0,ι 0,ι 0,ι 0]),5,40):=by kernel_rfl
theorem IH {w:World} {v:Value} {n:Nat} {g:Nat->Value} (h:aV w 5 v n g) (hb:n*40<=140737488355328) (h1:∀j,j < n*5->(g j).oneCell'=true):
 Calls prog 100 #[v] w (sQ w 40 5 n g):=by
 rcases h with ⟨rfl,rfl⟩|⟨a,cap,rfl,nO,lF,hc⟩
 ·have hq:∀(w:World) (n' c':Nat),(binOp .eql 25 ν (.slice none n' c')).run prog w= .ok (.bool true) w:=fun w n' c'=>agm w _ _ none 0 0 n' c' underlying25;go_enter func100,ntmps100;exact acj
 ·have HC:=ae hc;have H1:=ae h1;have hm:n<=maxLen:=afM nO lF;have HM:=ae hm;have HB:=ae hb;have hq:∀(w:World) (n' c':Nat),(binOp .eql 25 (.slice (some a) n cap) (.slice none n' c')).run prog w= .ok (.bool false) w:=fun w n' c'=>agm w _ _ (some a) n cap n' c' underlying25;clear hc h1 hb hm nO lF;go_enter func100,ntmps100;go_wp2_with (at_builtin;refine cz rfl _ _ 25 rfl 40 underlying25 IG rfl dee _ 0 (fun _=> ι 0) rfl (agy w #[] 0 (afO _) (afO _) smm) a n cap g rfl ?zT ?ED ?EE ?ID ?_)
  case zT=>exact aci
  case ED=>exact H1.o
  case EE=>rw [Nat.zero_add];exact HM.o
  case ID=>rw [Nat.zero_add];exact HB.o
  exact ach
end Go.Proofs.YtblkblclmbhjiaaGreat.Vf
namespace ak.Vm
open Go Go.RowKit ak
section
variable {P:Program}
theorem nH {ops:Array Oper} {rest:List Oper} {o:Oper} {a:Act} {w:World} {Q:Exit->Act->World->Prop} (Ie:o.guard=none) (t:TypeId) (parts:Array (Nat×Operand)) (ho:o.op= .build t parts) (vs:List (Nat×Value)) (cells:Array Value)
 (hp:(parts.map fun (i,x)=>(i,a.eval x)).toList=vs) (hb:P.built t vs=some cells) (h:wpList P ops Q rest (a.put o.dst (.agg cells)) w):wpList P ops Q (o::rest) a w:=
 wpList_plain Ie fun _ hK=>wp_build t parts ho (by rw [hp,hb];rfl) (by rw [hp,hb];exact hK _ _ h)
theorem sR {w:World} {b:Nat} {T:TypeId} {zU cells:Array Value} (ty:TypeId) (hb:ay w b T zU) (kN:zU.size=cells.size) (hi:(P.info? ty).map (·.size)=some cells.size) (h1:∀v∈cells.toList,v.oneCell'=true):
 ∃w',(storeVar ty (π b 0) (.agg cells)).run P w= .ok () w'/\ay w' b T cells/\da [b] w w':=by
 have h:=run_storeCells_from (P:=P) b T cells.toList 0 zU w hb (by simp [kN]) h1;have e:(zU.toList.take 0++cells.toList).toArray=cells:=by simp
 rw [e] at h;refine ⟨w.setRow b cells,?_,setRow_heap w b zU cells T (0,0) hb,⟨rfl,rfl,rfl,smm,fun k _ hk=>setRow_other w b k cells (by simpa using hk)⟩⟩;cases hq:P.info? ty with
 |none=>simp [hq] at hi
 |some i=>
  have hs:cells.size=i.size:=by simp [hq] at hi;omega
  simp [storeVar,Go.sizeOf,typeInfo,hq,Value.cells,hs,h]
theorem fM {ops:Array Oper} {rest:List Oper} {op:Oper} {a:Act} {w:World} {Q:Exit->Act->World->Prop} (Ie:op.guard=none) (ty:TypeId) (x y:Operand) (ho:op.op= .store ty x y)
 (b:Nat) {T:TypeId} {zU:Array Value} (cells:Array Value) (hx:a.eval x=ρ b) (hy:a.eval y= .agg cells) (hb:ay w b T zU) (kN:zU.size=cells.size) (hi:(P.info? ty).map (·.size)=some cells.size) (h1:∀v∈cells.toList,v.oneCell'=true)
 (h:∀w',ay w' b T cells->da [b] w w'->wpList P ops Q rest (a.put op.dst undef) w'):wpList P ops Q (op::rest) a w:=
 wpList_plain Ie fun K hK=>by obtain ⟨w',hr,h2,h3⟩:=sR (P:=P) ty hb kN hi h1;have:=hK _ _ (h w' h2 h3);unfold Oper.wp execOp;simp only [ho,hx,hy,Instr.storeAt,Instr.sureAddr,Sem.run_bind,Sem.run_pure,Result.andThen_ok,hr];exact this
end
end ak.Vm
