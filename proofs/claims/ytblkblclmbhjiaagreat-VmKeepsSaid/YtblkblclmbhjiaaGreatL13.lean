/- Of the proof that VmKeeps holds: a key keeps its node, what traps leaves no trace. No condition. -/
import Derived.Test.YtblkblclmbhjiaaGreatL12
import Derived.Laws.Tables
set_option linter.unusedVariables false
set_option linter.unusedSimpArgs false
set_option maxHeartbeats 40000000
set_option maxRecDepth 100000
namespace Go.Proofs.YtblkblclmbhjiaaGreat.Ma
open Go.RowKit ak.Vm
open ak hiding aL an aj
open dT (bP bG d_)
open Ix (cL)
section
variable {w w' wr:World} {C C' C1:Co} {U U':Ru} {RO RO' kG:List Nat} {K:Kc} {p:aO} {c:Cp} {t t':fI} {used used':Int} {hv hv':Value} {jv jx:Nat->Value} {s s' s0 s1:St} {t0:fI} {vW:Int} {r r':Rn} {rv rv':Value} {mb rb bx:Nat} {T:Map} {st:Std}
theorem acY {p:Prop} (h:p:=by
 obtain ⟨cs,q1,q2,q3⟩:=O9.rb;exact (q1.cell 5).trans q2):p:=h
theorem acX {p:Prop} (h:p:=by
 obtain ⟨cs,q1,q2,q3⟩:=O8.rb;exact (q1.cell 5).trans q2):p:=h
theorem acW {p:Prop} (h:p:=by
 obtain ⟨cs,q1,q2,q3⟩:=HO.o.rb;exact (q1.cell 5).trans q2):p:=h
theorem adU {p:Prop} (h:p:=by
 go_wp2_with fail;refine (nG _).mono ?_;rintro e R4 ⟨rfl,rfl⟩;have tS:=ae (mD.o.close HH.o (bu.refl _ _) mD.o.mx (eT _ (bx+1) (.bool true) ν (ι 0)) (eU mD.o.b4 (.bool true) ν (ι 0)));go_wp2_with fail;refine leaves_cons (f:=61) (args:=#[ρ bx,ρ (bx+1+1+1),ρ (bx+1)]) (by simp) (by simp [go_sem]) ?_;refine tS.o.mono ?_;rintro e u' CE ⟨rfl,rfl,C2,k3,m3,kb,td,tn⟩;have iY:dE p c s key=0:=by unfold dE;rw [HZ.o,pM.o]
 have ot:dF p c s key=z.2.1:=by unfold dF;rw [iY,if_pos rfl,HZ.o]
 have hh:=wF.o;have tT:gK p c s key=z.2.2.told:=by unfold gK;rw [HZ.o]
 obtain ⟨a0,a1,a2⟩:=kb.c3;have fy:=ae (show eD w C RO K p c t s key (.returned (.agg #[.bool true,ν,ι 0])) CE from by
  refine ⟨ν,C2,?_,k3,?_,?_,?_⟩
  ·rw [iY,if_pos rfl,hh]
  ·rw [ot,iY,if_pos rfl,hh,tT,HZ.o];have:mj t true z.2.2.told={t with gY:=wrap64 (t.gY+1),fS:=wrap64 t.fS}:=by have e0:z.2.2.told=[]:=List.length_eq_zero_iff.1 jF;unfold mj;rw [e0];simp
   rw [this];exact m3
  ·rw [iY,if_pos rfl,tT];exact .inl ⟨rfl,List.length_eq_zero_iff.1 jF⟩
  ·exact fun b hb=>by simp [vb,Value.ownBlock] at hb)
 clear tS k3 m3 kb td tn mD;refine ⟨.agg #[.bool true,ν,ι 0],?_,fy.o⟩;simp [results,Tryz.results17,go_sem,a0,a1,a2]):p:=h
theorem E4 (M:N6 K C.mb p c) (V:Env p c T) (hS:mh p) (h:Mx w C RO K p c s t used (.pointer none)) (hI:Inv (aw p c) s) {key:Nat} (hk:key < 18446744073709551616) {n q:Nat} (hf:s.f key=some n) (hq:q < p.ap.length) (hn:n∈s.a.ls q) (hg:p.ap.getD q false=false):
 Calls Tryz.prog 17 #[ρ C.mb,.int .u64 key] w (eD w C RO K p c t s key):=by
 have qd:∀(fn:Fn) (first cap:Array Value) (w:World),(Instr.makeFunc fn first cap).run Tryz.prog w= .ok (.func fn first cap) w:=fun _ _ _ _=>rfl;have m4:w.cell? (π C.mb 4)=some (ι p.aJ):=h.m.aM.cell 4;have lm:C.mb < w.heap.size:=h.m.aM.lt;have B4:=u_ h key p.aJ;have HM:=ae M;have HV:=ae V;have HS:=ae hS;have HI:=ae hI;have HF:=ae hf;have m10:((((w.alloc (.cells #[ρ C.mb] 35)).alloc (.cells #[.bool false,ν,ι 0] 44)).alloc (.cells #[.int .u64 key,ι p.aJ,ν,ν,ν,ν,ι 0,ν,.bool false] 126)).alloc (.cells #[ρ (w.heap.size+1+1)] 111)).cell? (π C.mb 10)=some (ρ C.xb):=B4.mx.m.aM.cell 10;have HG:=ae (Ix.pJ B4.mx.m.ix (key:=key) hf);have mU:=ae B4;have wF:=ae (show sH p c s key=true by unfold sH;rw [hf];dsimp only;rw [jq hI.wf hq hn,hg];rfl);have HX:=ae (show KU p c s key=p.on.getD q 0 by unfold KU;rw [hf];dsimp only;rw [jq hI.wf hq hn]);have Y7:q < p.on.length:=by rw [(cK M.check).1.on];exact hq
 have HQ:=ae (And.intro hq hn);have Vy:=ae hg;have HH:=ae h;clear M V hS hI hf B4 h hq hn hg
 go_enter_defers Tryz.func17,Tryz.ntmps17
 go_wp2_with fail;refine HG.o.mono ?_;rintro e w5 ⟨rfl,n5,rfl⟩;have B5:=mU.o.draw n5;have nA:=ae B5;clear mU HG m10 m4 lm;generalize eO:w.heap.size=bx at*;generalize World.drewN _ _=w5 at*;clear eO;have HL:=ae (dT.zh B5.mx.m.ar HQ.o.1 HQ.o.2);have d2:=B5.b2.c1;have d5:=B5.b5.c1;have m9:w5.cell? (π C.mb 9)=some (ρ C.ab):=B5.mx.m.aM.cell 9;obtain ⟨ob,E5,Qd,Jz,zN,Uo⟩:=B5.mx.m.prog.o.some (by omega);obtain ⟨gb,kw,jZ,C7,SN,Up⟩:=B5.mx.m.prog.g.some (by have:=HQ.o.1;omega);have m3:w5.cell? (π C.mb 3)=some (.slice (some (π ob 0)) p.on.length E5):=by rw [<-Qd];exact B5.mx.m.aM.cell 3
 have m0:w5.cell? (π C.mb 0)=some (.slice (some (π gb 0)) p.ap.length kw):=by rw [<-jZ];exact B5.mx.m.aM.cell 0
 have oq:w5.cell? (π ob q)=some (ι (p.on.getD q 0)):=by have h3:=B5.mx.m.prog.o;rw [Qd] at h3;exact h3.cell (o:=q) (by omega)
 have gq:w5.cell? (π gb q)=some (.bool false):=by have h3:=B5.mx.m.prog.g;rw [jZ] at h3;rw [<-Vy.o];exact h3.cell (o:=q) (by have:=HQ.o.1;omega)
 have hqg:q < p.ap.length:=HQ.o.1;have JT:∀o,w5.frozen? (π (bx+1+1) o)=false:=B5.rb.frozen;have r1:w5.cell? (π (bx+1+1) 1)=some (ι p.aJ):=B5.rb.cell 1;have mR:=B5.mx.m.prog.ro;have Zg:ob≠bx+1+1:=fun e=>B5.no (by have h5:=mR ob (.inr (.inr (.inr (.inl (aK.2 (by rw [Qd];rfl))))));rw [e] at h5;exact h5);have Wh:gb≠bx+1+1:=fun e=>B5.no (by have h5:=mR gb (.inl (aK.2 (by rw [jZ];rfl)));rw [e] at h5;exact h5);have Uq:C.mb≠bx+1+1:=fun e=>B5.nc (by rw [<-e];simp [Co.l]);clear B5 Qd Jz zN Uo jZ C7 SN Up mR;generalize Da:p.on.getD q 0=lM at*;clear Da;generalize p.on.length=ol at*;generalize p.ap.length=gl at*;generalize p.aJ=ms at*;go_wp2_with fail;refine HL.o.mono ?_;rintro e w5' ⟨rfl,rfl⟩;have Zh:(w5.drew.setCell (π (bx+1+1) 1) (ι lM)).cell? (π bx 0)=some (ρ C.mb)/\(w5.drew.setCell (π (bx+1+1) 1) (ι lM)).cell? (π (bx+1+1+1) 0)=some (ρ (bx+1+1))/\(w5.drew.setCell (π (bx+1+1) 1) (ι lM)).cell? (π C.mb 3)=some (.slice (some (π ob 0)) ol E5)/\
  (w5.drew.setCell (π (bx+1+1) 1) (ι lM)).cell? (π C.mb 0)=some (.slice (some (π gb 0)) gl kw)/\(w5.drew.setCell (π (bx+1+1) 1) (ι lM)).cell? (π ob q)=some (ι lM)/\(w5.drew.setCell (π (bx+1+1) 1) (ι lM)).cell? (π gb q)=some (.bool false):=
  ⟨(aX (by omega)).trans d2,(aX (by omega)).trans d5,(aX Uq).trans m3,(aX Uq).trans m0,(aX Zg).trans oq,(aX Wh).trans gq⟩
 have Aj:=ae Zh;clear Zh Uq Zg Wh;go_wp2_with fail;refine Mk.bF (S:=(fun wx=>wx.cell? (π bx 0)=some (ρ C.mb)/\wx.cell? (π (bx+1+1+1) 0)=some (ρ (bx+1+1))/\wx.cell? (π C.mb 3)=some (.slice (some (π ob 0)) ol E5)/\wx.cell? (π C.mb 0)=some (.slice (some (π gb 0)) gl kw)/\wx.cell? (π ob q)=some (ι lM)/\wx.cell? (π gb q)=some (.bool false))) (by kernel_rfl) ⟨d2,d5,m3,m0,oq,gq⟩ (fun al=>?_);refine Mk.bL 0 ?_;refine Mk.bL 1 ?_;refine Mk.bL 2 ?_;refine Mk.bL 3 ?_;refine Mk.bL 4 ?_;refine Mk.bL 5 ?_;refine Mk.bL 6 ?_;refine Mk.bL 7 ?_;refine Mk.bL 8 ?_;refine Mk.bL 9 ?_;refine Mk.bL 10 ?_;refine Mk.bL 11 ?_;refine Mk.bL 12 ?_;refine Mk.bL 13 ?_;refine Mk.bL 14 ?_;refine Mk.bL 15 ?_;refine Mk.bL 16 ?_;refine Mk.bL 17 ?_;refine Mk.bL 18 ?_;refine Mk.bL 19 ?_;refine wpAnyH_ready (rs:=[20]) (by kernel_rfl) (by simp) ?_;refine AllReadyH.cons rfl (fun K hK=>?_) AllReadyH.nil;refine QX ?_;go_simp;refine hK.out _ _ Aj.o (fun al=>?_);clear hK K;refine Mk.pt ?_;refine Mk.bL 21 ?_;refine wpAnyH_done (by kernel_rfl) ⟨rfl,?_⟩ _;clear al Aj;have B5:=(nA.o.setAt lM).draw 1;change xp w (w5.setCell (π (bx+1+1) 1) (ι lM)).drew bx C K p c s t used key lM (.pointer none) at B5;clear nA d2 d5 m9 m3 m0 oq gq hqg Y7 JT r1 HL;have nA:=ae B5;generalize (w5.setCell (π (bx+1+1) 1) (ι lM)).drew=w5 at*;have d2:=B5.b2.c1;have d5:=B5.b5.c1;have f60:∀o,w5.frozen? (π C.mb o)=false:=B5.mx.m.aM.frozen;have oC:w5.cell? (π C.mb 60)=some (.pointer none):=B5.mx.m.aM.cell 60;have m17:w5.cell? (π C.mb 17)=some (ι used):=B5.mx.m.aM.cell 17;have nm:bx≠C.mb:=fun e=>B5.mx.cr (b:=bx) (by simp) (by rw [e];simp [Co.l]);have MR:bx+1+1+1≠C.mb:=fun e=>B5.mx.cr (b:=bx+1+1+1) (by simp) (by rw [e];simp [Co.l]);clear B5;go_wp2_with fail;go_region;have B6:=nA.o.enter.draw 1;change xp w ((w5.setCell (π C.mb 60) (ρ (bx+1+1))).setCell (π C.mb 17) (ι 0)).drew bx C K p c s t 0 key lM (ρ (bx+1+1)) at B6;clear d2 d5 f60 oC m17 nA;generalize ((w5.setCell (π C.mb 60) (ρ (bx+1+1))).setCell (π C.mb 17) (ι 0)).drew=w6 at*;have d2:=B6.b2.c1;have d5:=B6.b5.c1;have r1:w6.cell? (π (bx+1+1) 1)=some (ι lM):=B6.rb.cell 1;by_cases kL:lM < 0
 ·as_aux_lemma=>
  have uR:¬0<=lM:=by omega
  have gA:lD p c s key=(0,(s,eR key 0)):=by unfold lD;rw [HX.o,if_pos kL]
  have O:Over w w6 bx C C (bx::(bx+1)::(bx+1+1+1)::Ma.rest w C) K p c (lD p c s key).2.1 t (lD p c s key).1 ν (lD p c s key).2.2.told (lD p c s key).2.2.br (.bool false) ν (ι 0):=by rw [gA];exact B6.LS
  have gB:(lD p c s key).2.2.br=0:=by rw [gA];rfl
  have g5:=O.b5.c1;clear B6 d2 d5 gA;generalize hz:lD p c s key=z at*;have HZ:=ae hz;obtain ⟨C1,kG,O2⟩:∃C1 kG,Over w w6 bx C C1 kG K p c z.2.1 t z.1 ν z.2.2.told z.2.2.br (.bool false) ν (ι 0):=⟨_,_,O⟩;have HO:=ae O2;clear hz O O2;have g6:w6.cell? (π (bx+1+1) 6)=some (ι 0):=by obtain ⟨cs,q1,q2,q3⟩:=HO.o.rb;rw [gB] at q3;exact (q1.cell 6).trans q3
  generalize w6=w7 at*;have jF:z.2.2.told.length=0:=by
   rcases HO.o.td.val with ⟨-,h⟩|⟨b,cap,h,-⟩
   ·exact h
   ·exact absurd h (by simp)
  have d2:=HO.o.b2.c1;have mB:w7.cell? (π (bx+1+1) 5)=some ν:=by exact acW
  have CA:w7.cell? (π C.mb 13)=some (ι t.gY):=by rw [<-HO.o.mb];exact HO.o.mx.m.aM.cell 13
  have CB:w7.cell? (π C.mb 14)=some (ι t.bt):=by rw [<-HO.o.mb];exact HO.o.mx.m.aM.cell 14
  have pn:w7.cell? (π C.mb 15)=some (ι t.fS):=by rw [<-HO.o.mb];exact HO.o.mx.m.aM.cell 15
  have fm:∀o,w7.frozen? (π C.mb o)=false:=by rw [<-HO.o.mb];exact HO.o.mx.m.aM.frozen
  have CC:bx+1+1≠C.mb:=fun e=>HO.o.nc (by rw [e,<-HO.o.mb];simp [Co.l]);have CD:bx+1≠C.mb:=fun e=>HO.o.mx.cr (b:=bx+1) (HO.o.ro _ (by simp)) (by rw [e,<-HO.o.mb];simp [Co.l]);go_wp2_with fail;have O8:=HO.o.iV 13 (ι (wrap64 (t.gY+1))) (t':={t with gY:=wrap64 (t.gY+1)}) (used':=z.1) rfl;clear d2 g5 mB CA CB pn fm HO g6;generalize (w7.setCell (π C.mb 13) (ι (wrap64 (t.gY+1))))=w8 at*;have d2:=O8.b2.c1;have g5:=O8.b5.c1;have mB:w8.cell? (π (bx+1+1) 5)=some ν:=by exact acX
  have pn:w8.cell? (π C.mb 15)=some (ι t.fS):=by rw [<-O8.mb];exact O8.mx.m.aM.cell 15
  have fm:∀o,w8.frozen? (π C.mb o)=false:=by rw [<-O8.mb];exact O8.mx.m.aM.frozen
  have sh:=ae O8;clear O8;go_region;have O9:=(sh.o.iV 15 (ι (wrap64 t.fS)) (t':={t with gY:=wrap64 (t.gY+1),fS:=wrap64 t.fS}) (used':=z.1) rfl).draw 1;change Over w (w8.setCell (π C.mb 15) (ι (wrap64 t.fS))).drew bx C C1 kG K p c _ _ _ _ _ _ _ _ _ at O9;clear d2 g5 mB pn fm sh;generalize (w8.setCell (π C.mb 15) (ι (wrap64 t.fS))).drew=w9 at*;have g5:=O9.b5.c1;have mB:w9.cell? (π (bx+1+1) 5)=some ν:=by exact acY
  have MT:∀o,w9.frozen? (π (bx+1) o)=false:=O9.b4.frozen;obtain ⟨MU,MV,MX⟩:=O9.b4.c3;rw [gB] at O9;have mD:=ae O9;have pM:=ae gB;clear O9 gB nm MR CC CD qd r1 uR kL;exact adU
 ·have uR:0<=lM:=by omega
  obtain ⟨a,rfl⟩:∃a:Nat,lM=a:=⟨lM.toNat,by omega⟩;have AM:=ae B6;clear B6;have Bk:rN w6 w6 C.mb (bx+1+1) (bx::(bx+1)::(bx+1+1+1)::Ma.rest w C) K p c t T s (s,eR key a) gD:=by have eG:=at_mem HV.o HI.o key;rw [HX.o] at eG;have CF:=pH HV.o eG uR key;have hl:=oV HV.o HS.o eG uR key;rw [Int.toNat_natCast] at CF hl;exact ⟨0,_,_,_,fun b hb=>hb,⟨C,_,_,_,rfl,rfl,AM.o.all⟩,Kept.refl _ _,CF,nr HI.o hk a,⟨Nat.le_refl _,Nat.le_refl _,Nat.le_refl _,Nat.le_refl _⟩,hl,by rw [Nat.zero_add],by omega⟩
  have HR:=ae (vT HM.o HV.o Bk);clear Bk;have HZ:=ae (show lD p c s key=iU p c gD (s,eR key a) by unfold lD;rw [HX.o,if_neg (by omega),Int.toNat_natCast]);go_wp2_with fail;refine HR.o.mono ?_;rintro e w7 ⟨rfl,kG,ho,dK,MY⟩;obtain ⟨C1,tv,O,U,hv,jv,lE,A⟩:=AM.o.ran dK ho MY;clear HR dK ho MY AM d2 d5 r1;rw [<-HZ.o] at O A;have g5:=O.b5.c1;have g6:w7.cell? (π (bx+1+1) 6)=some (ι (lD p c s key).2.2.br):=by obtain ⟨cs,q1,q2,q3⟩:=O.rb;exact (q1.cell 6).trans q3
  have HO:=ae O;have HA:=ae (And.intro lE A);clear O A lE HZ;generalize hz:lD p c s key=z at*;have HZ:=ae hz;clear hz;by_cases gB:z.2.2.br=0
  ·rw [gB] at g6;rcases HO.o.td.val with ⟨fN,jF⟩|⟨tb,uf,fN,nO,lF,a8⟩
   ·as_aux_lemma=>
    subst fN;have d2:=HO.o.b2.c1;have mB:w7.cell? (π (bx+1+1) 5)=some ν:=by exact acW
    have CA:w7.cell? (π C.mb 13)=some (ι t.gY):=by rw [<-HO.o.mb];exact HO.o.mx.m.aM.cell 13
    have CB:w7.cell? (π C.mb 14)=some (ι t.bt):=by rw [<-HO.o.mb];exact HO.o.mx.m.aM.cell 14
    have pn:w7.cell? (π C.mb 15)=some (ι t.fS):=by rw [<-HO.o.mb];exact HO.o.mx.m.aM.cell 15
    have fm:∀o,w7.frozen? (π C.mb o)=false:=by rw [<-HO.o.mb];exact HO.o.mx.m.aM.frozen
    have CC:bx+1+1≠C.mb:=fun e=>HO.o.nc (by rw [e,<-HO.o.mb];simp [Co.l]);have CD:bx+1≠C.mb:=fun e=>HO.o.mx.cr (b:=bx+1) (HO.o.ro _ (by simp)) (by rw [e,<-HO.o.mb];simp [Co.l]);go_wp2_with fail;have O8:=HO.o.iV 13 (ι (wrap64 (t.gY+1))) (t':={t with gY:=wrap64 (t.gY+1)}) (used':=z.1) rfl;clear d2 g5 mB CA CB pn fm HO g6;generalize (w7.setCell (π C.mb 13) (ι (wrap64 (t.gY+1))))=w8 at*;have d2:=O8.b2.c1;have g5:=O8.b5.c1;have mB:w8.cell? (π (bx+1+1) 5)=some ν:=by exact acX
    have pn:w8.cell? (π C.mb 15)=some (ι t.fS):=by rw [<-O8.mb];exact O8.mx.m.aM.cell 15
    have fm:∀o,w8.frozen? (π C.mb o)=false:=by rw [<-O8.mb];exact O8.mx.m.aM.frozen
    have sh:=ae O8;clear O8;go_region;have O9:=(sh.o.iV 15 (ι (wrap64 t.fS)) (t':={t with gY:=wrap64 (t.gY+1),fS:=wrap64 t.fS}) (used':=z.1) rfl).draw 1;change Over w (w8.setCell (π C.mb 15) (ι (wrap64 t.fS))).drew bx C C1 kG K p c _ _ _ _ _ _ _ _ _ at O9;clear d2 g5 mB pn fm sh;generalize (w8.setCell (π C.mb 15) (ι (wrap64 t.fS))).drew=w9 at*;have g5:=O9.b5.c1;have mB:w9.cell? (π (bx+1+1) 5)=some ν:=by exact acY
    have MT:∀o,w9.frozen? (π (bx+1) o)=false:=O9.b4.frozen;obtain ⟨MU,MV,MX⟩:=O9.b4.c3;rw [gB] at O9;have mD:=ae O9;have pM:=ae gB;clear O9 gB nm MR CC CD qd;exact adU
   ·as_aux_lemma=>
    subst fN;have d2:=HO.o.b2.c1;have mB:w7.cell? (π (bx+1+1) 5)=some (.slice (some (π tb 0)) z.2.2.told.length uf):=by exact acW
    have CA:w7.cell? (π C.mb 13)=some (ι t.gY):=by rw [<-HO.o.mb];exact HO.o.mx.m.aM.cell 13
    have CB:w7.cell? (π C.mb 14)=some (ι t.bt):=by rw [<-HO.o.mb];exact HO.o.mx.m.aM.cell 14
    have pn:w7.cell? (π C.mb 15)=some (ι t.fS):=by rw [<-HO.o.mb];exact HO.o.mx.m.aM.cell 15
    have fm:∀o,w7.frozen? (π C.mb o)=false:=by rw [<-HO.o.mb];exact HO.o.mx.m.aM.frozen
    have CC:bx+1+1≠C.mb:=fun e=>HO.o.nc (by rw [e,<-HO.o.mb];simp [Co.l]);have CD:bx+1≠C.mb:=fun e=>HO.o.mx.cr (b:=bx+1) (HO.o.ro _ (by simp)) (by rw [e,<-HO.o.mb];simp [Co.l]);go_wp2_with fail;have O8:=HO.o.iV 13 (ι (wrap64 (t.gY+1))) (t':={t with gY:=wrap64 (t.gY+1)}) (used':=z.1) rfl;clear d2 g5 mB CA CB pn fm HO g6;generalize (w7.setCell (π C.mb 13) (ι (wrap64 (t.gY+1))))=w8 at*;have d2:=O8.b2.c1;have g5:=O8.b5.c1;have mB:w8.cell? (π (bx+1+1) 5)=some (.slice (some (π tb 0)) z.2.2.told.length uf):=by exact acX
    have pn:w8.cell? (π C.mb 15)=some (ι t.fS):=by rw [<-O8.mb];exact O8.mx.m.aM.cell 15
    have fm:∀o,w8.frozen? (π C.mb o)=false:=by rw [<-O8.mb];exact O8.mx.m.aM.frozen
    have sh:=ae O8;clear O8;go_region;have O9:=(sh.o.iV 15 (ι (wrap64 (t.fS+z.2.2.told.length))) (t':={t with gY:=wrap64 (t.gY+1),fS:=wrap64 (t.fS+z.2.2.told.length)}) (used':=z.1) rfl).draw 1;change Over w (w8.setCell (π C.mb 15) (ι (wrap64 (t.fS+z.2.2.told.length)))).drew bx C C1 kG K p c _ _ _ _ _ _ _ _ _ at O9;clear d2 g5 mB pn fm sh;generalize (w8.setCell (π C.mb 15) (ι (wrap64 (t.fS+z.2.2.told.length)))).drew=w9 at*;have g5:=O9.b5.c1;have mB:w9.cell? (π (bx+1+1) 5)=some (.slice (some (π tb 0)) z.2.2.told.length uf):=by exact acY
    have MT:∀o,w9.frozen? (π (bx+1) o)=false:=O9.b4.frozen;obtain ⟨MU,MV,MX⟩:=O9.b4.c3;rw [gB] at O9;have mD:=ae O9;have pM:=ae gB;clear O9 gB nm MR CC CD qd;go_wp2_with fail;refine (sP _ nO).mono ?_;rintro e R4 ⟨rfl,rfl⟩;have tS:=ae (mD.o.close HH.o (bu.refl _ _) mD.o.mx (eT _ (bx+1) (.bool true) (.slice (some (π tb 0)) z.2.2.told.length z.2.2.told.length) (ι 0)) (eU mD.o.b4 (.bool true) (.slice (some (π tb 0)) z.2.2.told.length z.2.2.told.length) (ι 0)));go_wp2_with fail;refine leaves_cons (f:=61) (args:=#[ρ bx,ρ (bx+1+1+1),ρ (bx+1)]) (by simp) (by simp [go_sem]) ?_;refine tS.o.mono ?_;rintro e u' CE ⟨rfl,rfl,C2,k3,m3,kb,td,tn⟩;have iY:dE p c s key=0:=by unfold dE;rw [HZ.o,pM.o]
    have ot:dF p c s key=z.2.1:=by unfold dF;rw [iY,if_pos rfl,HZ.o]
    have hh:=wF.o;have tT:gK p c s key=z.2.2.told:=by unfold gK;rw [HZ.o]
    obtain ⟨a0,a1,a2⟩:=kb.c3;have fy:=ae (show eD w C RO K p c t s key (.returned (.agg #[.bool true,(.slice (some (π tb 0)) z.2.2.told.length z.2.2.told.length),ι 0])) CE from by
     refine ⟨(.slice (some (π tb 0)) z.2.2.told.length z.2.2.told.length),C2,?_,k3,?_,?_,?_⟩
     ·rw [iY,if_pos rfl,hh]
     ·rw [ot,iY,if_pos rfl,hh,tT,HZ.o];exact m3
     ·rw [iY,if_pos rfl,tT];exact (by obtain ⟨cs,qt⟩:=td.c_;exact .inr ⟨tb,cs,rfl,qt,fun i hi=>(qt.cell i).symm.trans (td.cell (o:=i) (by omega))⟩)
     ·exact fun b hb=>tn b hb)
    clear tS k3 m3 kb td tn mD;refine ⟨.agg #[.bool true,(.slice (some (π tb 0)) z.2.2.told.length z.2.2.told.length),ι 0],?_,fy.o⟩;simp [results,Tryz.results17,go_sem,a0,a1,a2]
  ·as_aux_lemma=>
   have Zf:(z.2.2.br==0)=false:=by simpa using gB
   generalize Cf:z.2.2.br=tt at*;obtain ⟨MU,MV,MX⟩:=HO.o.b4.c3;have MT:∀o,w7.frozen? (π (bx+1) o)=false:=HO.o.b4.frozen;go_wp2_with fail;rw [eK HO.o.b4 rfl,eK HO.o.b4 rfl,eK HO.o.b4 rfl];have sT:=Gb HV.o HS.o HI.o hk;rw [HZ.o] at sT;obtain ⟨pq,MZ,-,-,pw,-⟩:=sT;have N9:z.2.2.bm.length < 1000000:=by have:=pw.bm;unfold gD at MZ;omega
   have R5:=vV (s0:=s) (b2:=bx) (b5:=bx+1+1+1) (b4:=bx+1) (by rw [HO.o.mb];exact HM.o) HA.o.2 pq.inv pq.ua (by rw [Cf];exact gB) N9 (by rw [HO.o.mb];exact HO.o.b2) (by rw [HA.o.1];exact HO.o.b5) HO.o.b4 (HO.o.ro _ (by simp)) (HO.o.ro _ (by simp));refine leaves_cons (f:=61) (args:=#[ρ bx,ρ (bx+1+1+1),ρ (bx+1)]) (by simp) (by simp [go_sem]) ?_;refine R5.mono ?_;rintro e u' w9 ⟨rfl,rfl,C2,wz,k1,k2,kf,kb⟩;obtain ⟨k3,m3⟩:=HO.o.zQ HH.o k1 k2;obtain ⟨k4,m4⟩:=pf HH.o HO.o.at_ k3 m3 (k2.cr (HO.o.ro _ (by simp))) kf;have iY:dE p c s key=tt:=by unfold dE;rw [HZ.o,Cf]
   have ot:dF p c s key=s:=by unfold dF;rw [iY,if_neg gB]
   obtain ⟨a0,a1,a2⟩:=kb.c3;rw [Cf] at a2;have fy:=ae (show eD w C RO K p c t s key (.returned (.agg #[.bool false,ν,ι tt])) w9 from by
    refine ⟨ν,C2,?_,k4,?_,?_,?_⟩
    ·rw [iY,if_neg gB]
    ·rw [ot,iY,if_neg gB,HZ.o];exact m4
    ·rw [iY,if_neg gB];exact .inl ⟨rfl,rfl⟩
    ·exact fun b hb=>by simp [vb,Value.ownBlock] at hb)
   have af:∀o,w9.frozen? (π (bx+1) o)=false:=kb.frozen;clear k1 k2 kf kb k3 m3 k4 m4 R5 pq pw;refine ⟨.agg #[.bool false,ν,ι tt],?_,fy.o⟩;simp [results,Tryz.results17,go_sem,a0,a1,a2]
end
section
variable {w w' wr:World} {C C' C1:Co} {U U':Ru} {RO RO' kG:List Nat} {K:Kc} {p:aO} {c:Cp} {t t':fI} {used used':Int} {hv hv':Value} {jv jx:Nat->Value} {s s' s0 s1:St} {t0:fI} {vW:Int} {r r':Rn} {rv rv':Value} {mb rb bx:Nat} {T:Map} {st:Std}
theorem ac1 {p:Prop} (h:p:=by
 obtain ⟨cs,q1,q2,q3⟩:=O9.rb;exact (q1.cell 5).trans q2):p:=h
theorem ac0 {p:Prop} (h:p:=by
 obtain ⟨cs,q1,q2,q3⟩:=O8.rb;exact (q1.cell 5).trans q2):p:=h
theorem acZ {p:Prop} (h:p:=by
 obtain ⟨cs,q1,q2,q3⟩:=HO.o.rb;exact (q1.cell 5).trans q2):p:=h
theorem adV {p:Prop} (h:p:=by
 go_wp2_with fail;refine (nG _).mono ?_;rintro e R4 ⟨rfl,rfl⟩;have tS:=ae (mD.o.close HH.o (bu.refl _ _) mD.o.mx (eT _ (bx+1) (.bool false) ν (ι 0)) (eU mD.o.b4 (.bool false) ν (ι 0)));go_wp2_with fail;refine leaves_cons (f:=61) (args:=#[ρ bx,ρ (bx+1+1+1),ρ (bx+1)]) (by simp) (by simp [go_sem]) ?_;refine tS.o.mono ?_;rintro e u' CE ⟨rfl,rfl,C2,k3,m3,kb,td,tn⟩;have iY:dE p c s key=0:=by unfold dE;rw [HZ.o,pM.o]
 have ot:dF p c s key=z.2.1:=by unfold dF;rw [iY,if_pos rfl,HZ.o]
 have hh:=wF.o;have tT:gK p c s key=z.2.2.told:=by unfold gK;rw [HZ.o]
 obtain ⟨a0,a1,a2⟩:=kb.c3;have fy:=ae (show eD w C RO K p c t s key (.returned (.agg #[.bool false,ν,ι 0])) CE from by
  refine ⟨ν,C2,?_,k3,?_,?_,?_⟩
  ·rw [iY,if_pos rfl,hh]
  ·rw [ot,iY,if_pos rfl,hh,tT,HZ.o];have:mj t false z.2.2.told={t with bt:=wrap64 (t.bt+1),fS:=wrap64 t.fS}:=by have e0:z.2.2.told=[]:=List.length_eq_zero_iff.1 jF;unfold mj;rw [e0];simp
   rw [this];exact m3
  ·rw [iY,if_pos rfl,tT];exact .inl ⟨rfl,List.length_eq_zero_iff.1 jF⟩
  ·exact fun b hb=>by simp [vb,Value.ownBlock] at hb)
 clear tS k3 m3 kb td tn mD;refine ⟨.agg #[.bool false,ν,ι 0],?_,fy.o⟩;simp [results,Tryz.results17,go_sem,a0,a1,a2]):p:=h
theorem As (M:N6 K C.mb p c) (V:Env p c T) (hS:mh p) (h:Mx w C RO K p c s t used (.pointer none)) (hI:Inv (aw p c) s) {key:Nat} (hk:key < 18446744073709551616) {n q:Nat} (hf:s.f key=some n) (hq:q < p.ap.length) (hn:n∈s.a.ls q) (hg:p.ap.getD q false=true):
 Calls Tryz.prog 17 #[ρ C.mb,.int .u64 key] w (eD w C RO K p c t s key):=by
 have qd:∀(fn:Fn) (first cap:Array Value) (w:World),(Instr.makeFunc fn first cap).run Tryz.prog w= .ok (.func fn first cap) w:=fun _ _ _ _=>rfl;have m4:w.cell? (π C.mb 4)=some (ι p.aJ):=h.m.aM.cell 4;have lm:C.mb < w.heap.size:=h.m.aM.lt;have B4:=u_ h key p.aJ;have HM:=ae M;have HV:=ae V;have HS:=ae hS;have HI:=ae hI;have HF:=ae hf;have m10:((((w.alloc (.cells #[ρ C.mb] 35)).alloc (.cells #[.bool false,ν,ι 0] 44)).alloc (.cells #[.int .u64 key,ι p.aJ,ν,ν,ν,ν,ι 0,ν,.bool false] 126)).alloc (.cells #[ρ (w.heap.size+1+1)] 111)).cell? (π C.mb 10)=some (ρ C.xb):=B4.mx.m.aM.cell 10;have HG:=ae (Ix.pJ B4.mx.m.ix (key:=key) hf);have mU:=ae B4;have wF:=ae (show sH p c s key=false by unfold sH;rw [hf];dsimp only;rw [jq hI.wf hq hn,hg];rfl);have HX:=ae (show KU p c s key=p.on.getD q 0 by unfold KU;rw [hf];dsimp only;rw [jq hI.wf hq hn]);have Y7:q < p.on.length:=by rw [(cK M.check).1.on];exact hq
 have HQ:=ae (And.intro hq hn);have Vy:=ae hg;have HH:=ae h;clear M V hS hI hf B4 h hq hn hg
 go_enter_defers Tryz.func17,Tryz.ntmps17
 go_wp2_with fail;refine HG.o.mono ?_;rintro e w5 ⟨rfl,n5,rfl⟩;have B5:=mU.o.draw n5;have nA:=ae B5;clear mU HG m10 m4 lm;generalize eO:w.heap.size=bx at*;generalize World.drewN _ _=w5 at*;clear eO;have HL:=ae (dT.zh B5.mx.m.ar HQ.o.1 HQ.o.2);have d2:=B5.b2.c1;have d5:=B5.b5.c1;have m9:w5.cell? (π C.mb 9)=some (ρ C.ab):=B5.mx.m.aM.cell 9;obtain ⟨ob,E5,Qd,Jz,zN,Uo⟩:=B5.mx.m.prog.o.some (by omega);obtain ⟨gb,kw,jZ,C7,SN,Up⟩:=B5.mx.m.prog.g.some (by have:=HQ.o.1;omega);have m3:w5.cell? (π C.mb 3)=some (.slice (some (π ob 0)) p.on.length E5):=by rw [<-Qd];exact B5.mx.m.aM.cell 3
 have m0:w5.cell? (π C.mb 0)=some (.slice (some (π gb 0)) p.ap.length kw):=by rw [<-jZ];exact B5.mx.m.aM.cell 0
 have oq:w5.cell? (π ob q)=some (ι (p.on.getD q 0)):=by have h3:=B5.mx.m.prog.o;rw [Qd] at h3;exact h3.cell (o:=q) (by omega)
 have gq:w5.cell? (π gb q)=some (.bool true):=by have h3:=B5.mx.m.prog.g;rw [jZ] at h3;rw [<-Vy.o];exact h3.cell (o:=q) (by have:=HQ.o.1;omega)
 have hqg:q < p.ap.length:=HQ.o.1;have JT:∀o,w5.frozen? (π (bx+1+1) o)=false:=B5.rb.frozen;have r1:w5.cell? (π (bx+1+1) 1)=some (ι p.aJ):=B5.rb.cell 1;have mR:=B5.mx.m.prog.ro;have Zg:ob≠bx+1+1:=fun e=>B5.no (by have h5:=mR ob (.inr (.inr (.inr (.inl (aK.2 (by rw [Qd];rfl))))));rw [e] at h5;exact h5);have Wh:gb≠bx+1+1:=fun e=>B5.no (by have h5:=mR gb (.inl (aK.2 (by rw [jZ];rfl)));rw [e] at h5;exact h5);have Uq:C.mb≠bx+1+1:=fun e=>B5.nc (by rw [<-e];simp [Co.l]);clear B5 Qd Jz zN Uo jZ C7 SN Up mR;generalize Da:p.on.getD q 0=lM at*;clear Da;generalize p.on.length=ol at*;generalize p.ap.length=gl at*;generalize p.aJ=ms at*;go_wp2_with fail;refine HL.o.mono ?_;rintro e w5' ⟨rfl,rfl⟩;have Zh:(w5.drew.setCell (π (bx+1+1) 1) (ι lM)).cell? (π bx 0)=some (ρ C.mb)/\(w5.drew.setCell (π (bx+1+1) 1) (ι lM)).cell? (π (bx+1+1+1) 0)=some (ρ (bx+1+1))/\(w5.drew.setCell (π (bx+1+1) 1) (ι lM)).cell? (π C.mb 3)=some (.slice (some (π ob 0)) ol E5)/\
  (w5.drew.setCell (π (bx+1+1) 1) (ι lM)).cell? (π C.mb 0)=some (.slice (some (π gb 0)) gl kw)/\(w5.drew.setCell (π (bx+1+1) 1) (ι lM)).cell? (π ob q)=some (ι lM)/\(w5.drew.setCell (π (bx+1+1) 1) (ι lM)).cell? (π gb q)=some (.bool true):=
  ⟨(aX (by omega)).trans d2,(aX (by omega)).trans d5,(aX Uq).trans m3,(aX Uq).trans m0,(aX Zg).trans oq,(aX Wh).trans gq⟩
 have Aj:=ae Zh;clear Zh Uq Zg Wh;go_wp2_with fail;refine Mk.bF (S:=(fun wx=>wx.cell? (π bx 0)=some (ρ C.mb)/\wx.cell? (π (bx+1+1+1) 0)=some (ρ (bx+1+1))/\wx.cell? (π C.mb 3)=some (.slice (some (π ob 0)) ol E5)/\wx.cell? (π C.mb 0)=some (.slice (some (π gb 0)) gl kw)/\wx.cell? (π ob q)=some (ι lM)/\wx.cell? (π gb q)=some (.bool true))) (by kernel_rfl) ⟨d2,d5,m3,m0,oq,gq⟩ (fun al=>?_);refine Mk.bL 0 ?_;refine Mk.bL 1 ?_;refine Mk.bL 2 ?_;refine Mk.bL 3 ?_;refine Mk.bL 4 ?_;refine Mk.bL 5 ?_;refine Mk.bL 6 ?_;refine Mk.bL 7 ?_;refine Mk.bL 8 ?_;refine Mk.bL 9 ?_;refine Mk.bL 10 ?_;refine Mk.bL 11 ?_;refine Mk.bL 12 ?_;refine Mk.bL 13 ?_;refine Mk.bL 14 ?_;refine Mk.bL 15 ?_;refine Mk.bL 16 ?_;refine Mk.bL 17 ?_;refine Mk.bL 18 ?_;refine Mk.bL 19 ?_;refine wpAnyH_ready (rs:=[20]) (by kernel_rfl) (by simp) ?_;refine AllReadyH.cons rfl (fun K hK=>?_) AllReadyH.nil;refine QX ?_;go_simp;refine hK.out _ _ Aj.o (fun al=>?_);clear hK K;refine Mk.pt ?_;refine Mk.bL 21 ?_;refine wpAnyH_done (by kernel_rfl) ⟨rfl,?_⟩ _;clear al Aj;have B5:=(nA.o.setAt lM).draw 1;change xp w (w5.setCell (π (bx+1+1) 1) (ι lM)).drew bx C K p c s t used key lM (.pointer none) at B5;clear nA d2 d5 m9 m3 m0 oq gq hqg Y7 JT r1 HL;have nA:=ae B5;generalize (w5.setCell (π (bx+1+1) 1) (ι lM)).drew=w5 at*;have d2:=B5.b2.c1;have d5:=B5.b5.c1;have f60:∀o,w5.frozen? (π C.mb o)=false:=B5.mx.m.aM.frozen;have oC:w5.cell? (π C.mb 60)=some (.pointer none):=B5.mx.m.aM.cell 60;have m17:w5.cell? (π C.mb 17)=some (ι used):=B5.mx.m.aM.cell 17;have nm:bx≠C.mb:=fun e=>B5.mx.cr (b:=bx) (by simp) (by rw [e];simp [Co.l]);have MR:bx+1+1+1≠C.mb:=fun e=>B5.mx.cr (b:=bx+1+1+1) (by simp) (by rw [e];simp [Co.l]);clear B5;go_wp2_with fail;go_region;have B6:=nA.o.enter.draw 1;change xp w ((w5.setCell (π C.mb 60) (ρ (bx+1+1))).setCell (π C.mb 17) (ι 0)).drew bx C K p c s t 0 key lM (ρ (bx+1+1)) at B6;clear d2 d5 f60 oC m17 nA;generalize ((w5.setCell (π C.mb 60) (ρ (bx+1+1))).setCell (π C.mb 17) (ι 0)).drew=w6 at*;have d2:=B6.b2.c1;have d5:=B6.b5.c1;have r1:w6.cell? (π (bx+1+1) 1)=some (ι lM):=B6.rb.cell 1;by_cases kL:lM < 0
 ·as_aux_lemma=>
  have uR:¬0<=lM:=by omega
  have gA:lD p c s key=(0,(s,eR key 0)):=by unfold lD;rw [HX.o,if_pos kL]
  have O:Over w w6 bx C C (bx::(bx+1)::(bx+1+1+1)::Ma.rest w C) K p c (lD p c s key).2.1 t (lD p c s key).1 ν (lD p c s key).2.2.told (lD p c s key).2.2.br (.bool false) ν (ι 0):=by rw [gA];exact B6.LS
  have gB:(lD p c s key).2.2.br=0:=by rw [gA];rfl
  have g5:=O.b5.c1;clear B6 d2 d5 gA;generalize hz:lD p c s key=z at*;have HZ:=ae hz;obtain ⟨C1,kG,O2⟩:∃C1 kG,Over w w6 bx C C1 kG K p c z.2.1 t z.1 ν z.2.2.told z.2.2.br (.bool false) ν (ι 0):=⟨_,_,O⟩;have HO:=ae O2;clear hz O O2;have g6:w6.cell? (π (bx+1+1) 6)=some (ι 0):=by obtain ⟨cs,q1,q2,q3⟩:=HO.o.rb;rw [gB] at q3;exact (q1.cell 6).trans q3
  generalize w6=w7 at*;have jF:z.2.2.told.length=0:=by
   rcases HO.o.td.val with ⟨-,h⟩|⟨b,cap,h,-⟩
   ·exact h
   ·exact absurd h (by simp)
  have d2:=HO.o.b2.c1;have mB:w7.cell? (π (bx+1+1) 5)=some ν:=by exact acZ
  have CA:w7.cell? (π C.mb 13)=some (ι t.gY):=by rw [<-HO.o.mb];exact HO.o.mx.m.aM.cell 13
  have CB:w7.cell? (π C.mb 14)=some (ι t.bt):=by rw [<-HO.o.mb];exact HO.o.mx.m.aM.cell 14
  have pn:w7.cell? (π C.mb 15)=some (ι t.fS):=by rw [<-HO.o.mb];exact HO.o.mx.m.aM.cell 15
  have fm:∀o,w7.frozen? (π C.mb o)=false:=by rw [<-HO.o.mb];exact HO.o.mx.m.aM.frozen
  have CC:bx+1+1≠C.mb:=fun e=>HO.o.nc (by rw [e,<-HO.o.mb];simp [Co.l]);have CD:bx+1≠C.mb:=fun e=>HO.o.mx.cr (b:=bx+1) (HO.o.ro _ (by simp)) (by rw [e,<-HO.o.mb];simp [Co.l]);go_wp2_with fail;have O8:=HO.o.iV 14 (ι (wrap64 (t.bt+1))) (t':={t with bt:=wrap64 (t.bt+1)}) (used':=z.1) rfl;clear d2 g5 mB CA CB pn fm HO g6;generalize (w7.setCell (π C.mb 14) (ι (wrap64 (t.bt+1))))=w8 at*;have d2:=O8.b2.c1;have g5:=O8.b5.c1;have mB:w8.cell? (π (bx+1+1) 5)=some ν:=by exact ac0
  have pn:w8.cell? (π C.mb 15)=some (ι t.fS):=by rw [<-O8.mb];exact O8.mx.m.aM.cell 15
  have fm:∀o,w8.frozen? (π C.mb o)=false:=by rw [<-O8.mb];exact O8.mx.m.aM.frozen
  have sh:=ae O8;clear O8;go_region;have O9:=(sh.o.iV 15 (ι (wrap64 t.fS)) (t':={t with bt:=wrap64 (t.bt+1),fS:=wrap64 t.fS}) (used':=z.1) rfl).draw 1;change Over w (w8.setCell (π C.mb 15) (ι (wrap64 t.fS))).drew bx C C1 kG K p c _ _ _ _ _ _ _ _ _ at O9;clear d2 g5 mB pn fm sh;generalize (w8.setCell (π C.mb 15) (ι (wrap64 t.fS))).drew=w9 at*;have g5:=O9.b5.c1;have mB:w9.cell? (π (bx+1+1) 5)=some ν:=by exact ac1
  have MT:∀o,w9.frozen? (π (bx+1) o)=false:=O9.b4.frozen;obtain ⟨MU,MV,MX⟩:=O9.b4.c3;rw [gB] at O9;have mD:=ae O9;have pM:=ae gB;clear O9 gB nm MR CC CD qd r1 uR kL;exact adV
 ·have uR:0<=lM:=by omega
  obtain ⟨a,rfl⟩:∃a:Nat,lM=a:=⟨lM.toNat,by omega⟩;have AM:=ae B6;clear B6;have Bk:rN w6 w6 C.mb (bx+1+1) (bx::(bx+1)::(bx+1+1+1)::Ma.rest w C) K p c t T s (s,eR key a) gD:=by have eG:=at_mem HV.o HI.o key;rw [HX.o] at eG;have CF:=pH HV.o eG uR key;have hl:=oV HV.o HS.o eG uR key;rw [Int.toNat_natCast] at CF hl;exact ⟨0,_,_,_,fun b hb=>hb,⟨C,_,_,_,rfl,rfl,AM.o.all⟩,Kept.refl _ _,CF,nr HI.o hk a,⟨Nat.le_refl _,Nat.le_refl _,Nat.le_refl _,Nat.le_refl _⟩,hl,by rw [Nat.zero_add],by omega⟩
  have HR:=ae (vT HM.o HV.o Bk);clear Bk;have HZ:=ae (show lD p c s key=iU p c gD (s,eR key a) by unfold lD;rw [HX.o,if_neg (by omega),Int.toNat_natCast]);go_wp2_with fail;refine HR.o.mono ?_;rintro e w7 ⟨rfl,kG,ho,dK,MY⟩;obtain ⟨C1,tv,O,U,hv,jv,lE,A⟩:=AM.o.ran dK ho MY;clear HR dK ho MY AM d2 d5 r1;rw [<-HZ.o] at O A;have g5:=O.b5.c1;have g6:w7.cell? (π (bx+1+1) 6)=some (ι (lD p c s key).2.2.br):=by obtain ⟨cs,q1,q2,q3⟩:=O.rb;exact (q1.cell 6).trans q3
  have HO:=ae O;have HA:=ae (And.intro lE A);clear O A lE HZ;generalize hz:lD p c s key=z at*;have HZ:=ae hz;clear hz;by_cases gB:z.2.2.br=0
  ·rw [gB] at g6;rcases HO.o.td.val with ⟨fN,jF⟩|⟨tb,uf,fN,nO,lF,a8⟩
   ·as_aux_lemma=>
    subst fN;have d2:=HO.o.b2.c1;have mB:w7.cell? (π (bx+1+1) 5)=some ν:=by exact acZ
    have CA:w7.cell? (π C.mb 13)=some (ι t.gY):=by rw [<-HO.o.mb];exact HO.o.mx.m.aM.cell 13
    have CB:w7.cell? (π C.mb 14)=some (ι t.bt):=by rw [<-HO.o.mb];exact HO.o.mx.m.aM.cell 14
    have pn:w7.cell? (π C.mb 15)=some (ι t.fS):=by rw [<-HO.o.mb];exact HO.o.mx.m.aM.cell 15
    have fm:∀o,w7.frozen? (π C.mb o)=false:=by rw [<-HO.o.mb];exact HO.o.mx.m.aM.frozen
    have CC:bx+1+1≠C.mb:=fun e=>HO.o.nc (by rw [e,<-HO.o.mb];simp [Co.l]);have CD:bx+1≠C.mb:=fun e=>HO.o.mx.cr (b:=bx+1) (HO.o.ro _ (by simp)) (by rw [e,<-HO.o.mb];simp [Co.l]);go_wp2_with fail;have O8:=HO.o.iV 14 (ι (wrap64 (t.bt+1))) (t':={t with bt:=wrap64 (t.bt+1)}) (used':=z.1) rfl;clear d2 g5 mB CA CB pn fm HO g6;generalize (w7.setCell (π C.mb 14) (ι (wrap64 (t.bt+1))))=w8 at*;have d2:=O8.b2.c1;have g5:=O8.b5.c1;have mB:w8.cell? (π (bx+1+1) 5)=some ν:=by exact ac0
    have pn:w8.cell? (π C.mb 15)=some (ι t.fS):=by rw [<-O8.mb];exact O8.mx.m.aM.cell 15
    have fm:∀o,w8.frozen? (π C.mb o)=false:=by rw [<-O8.mb];exact O8.mx.m.aM.frozen
    have sh:=ae O8;clear O8;go_region;have O9:=(sh.o.iV 15 (ι (wrap64 t.fS)) (t':={t with bt:=wrap64 (t.bt+1),fS:=wrap64 t.fS}) (used':=z.1) rfl).draw 1;change Over w (w8.setCell (π C.mb 15) (ι (wrap64 t.fS))).drew bx C C1 kG K p c _ _ _ _ _ _ _ _ _ at O9;clear d2 g5 mB pn fm sh;generalize (w8.setCell (π C.mb 15) (ι (wrap64 t.fS))).drew=w9 at*;have g5:=O9.b5.c1;have mB:w9.cell? (π (bx+1+1) 5)=some ν:=by exact ac1
    have MT:∀o,w9.frozen? (π (bx+1) o)=false:=O9.b4.frozen;obtain ⟨MU,MV,MX⟩:=O9.b4.c3;rw [gB] at O9;have mD:=ae O9;have pM:=ae gB;clear O9 gB nm MR CC CD qd;exact adV
   ·as_aux_lemma=>
    subst fN;have d2:=HO.o.b2.c1;have mB:w7.cell? (π (bx+1+1) 5)=some (.slice (some (π tb 0)) z.2.2.told.length uf):=by exact acZ
    have CA:w7.cell? (π C.mb 13)=some (ι t.gY):=by rw [<-HO.o.mb];exact HO.o.mx.m.aM.cell 13
    have CB:w7.cell? (π C.mb 14)=some (ι t.bt):=by rw [<-HO.o.mb];exact HO.o.mx.m.aM.cell 14
    have pn:w7.cell? (π C.mb 15)=some (ι t.fS):=by rw [<-HO.o.mb];exact HO.o.mx.m.aM.cell 15
    have fm:∀o,w7.frozen? (π C.mb o)=false:=by rw [<-HO.o.mb];exact HO.o.mx.m.aM.frozen
    have CC:bx+1+1≠C.mb:=fun e=>HO.o.nc (by rw [e,<-HO.o.mb];simp [Co.l]);have CD:bx+1≠C.mb:=fun e=>HO.o.mx.cr (b:=bx+1) (HO.o.ro _ (by simp)) (by rw [e,<-HO.o.mb];simp [Co.l]);go_wp2_with fail;have O8:=HO.o.iV 14 (ι (wrap64 (t.bt+1))) (t':={t with bt:=wrap64 (t.bt+1)}) (used':=z.1) rfl;clear d2 g5 mB CA CB pn fm HO g6;generalize (w7.setCell (π C.mb 14) (ι (wrap64 (t.bt+1))))=w8 at*;have d2:=O8.b2.c1;have g5:=O8.b5.c1;have mB:w8.cell? (π (bx+1+1) 5)=some (.slice (some (π tb 0)) z.2.2.told.length uf):=by exact ac0
    have pn:w8.cell? (π C.mb 15)=some (ι t.fS):=by rw [<-O8.mb];exact O8.mx.m.aM.cell 15
    have fm:∀o,w8.frozen? (π C.mb o)=false:=by rw [<-O8.mb];exact O8.mx.m.aM.frozen
    have sh:=ae O8;clear O8;go_region;have O9:=(sh.o.iV 15 (ι (wrap64 (t.fS+z.2.2.told.length))) (t':={t with bt:=wrap64 (t.bt+1),fS:=wrap64 (t.fS+z.2.2.told.length)}) (used':=z.1) rfl).draw 1;change Over w (w8.setCell (π C.mb 15) (ι (wrap64 (t.fS+z.2.2.told.length)))).drew bx C C1 kG K p c _ _ _ _ _ _ _ _ _ at O9;clear d2 g5 mB pn fm sh;generalize (w8.setCell (π C.mb 15) (ι (wrap64 (t.fS+z.2.2.told.length)))).drew=w9 at*;have g5:=O9.b5.c1;have mB:w9.cell? (π (bx+1+1) 5)=some (.slice (some (π tb 0)) z.2.2.told.length uf):=by exact ac1
    have MT:∀o,w9.frozen? (π (bx+1) o)=false:=O9.b4.frozen;obtain ⟨MU,MV,MX⟩:=O9.b4.c3;rw [gB] at O9;have mD:=ae O9;have pM:=ae gB;clear O9 gB nm MR CC CD qd;go_wp2_with fail;refine (sP _ nO).mono ?_;rintro e R4 ⟨rfl,rfl⟩;have tS:=ae (mD.o.close HH.o (bu.refl _ _) mD.o.mx (eT _ (bx+1) (.bool false) (.slice (some (π tb 0)) z.2.2.told.length z.2.2.told.length) (ι 0)) (eU mD.o.b4 (.bool false) (.slice (some (π tb 0)) z.2.2.told.length z.2.2.told.length) (ι 0)));go_wp2_with fail;refine leaves_cons (f:=61) (args:=#[ρ bx,ρ (bx+1+1+1),ρ (bx+1)]) (by simp) (by simp [go_sem]) ?_;refine tS.o.mono ?_;rintro e u' CE ⟨rfl,rfl,C2,k3,m3,kb,td,tn⟩;have iY:dE p c s key=0:=by unfold dE;rw [HZ.o,pM.o]
    have ot:dF p c s key=z.2.1:=by unfold dF;rw [iY,if_pos rfl,HZ.o]
    have hh:=wF.o;have tT:gK p c s key=z.2.2.told:=by unfold gK;rw [HZ.o]
    obtain ⟨a0,a1,a2⟩:=kb.c3;have fy:=ae (show eD w C RO K p c t s key (.returned (.agg #[.bool false,(.slice (some (π tb 0)) z.2.2.told.length z.2.2.told.length),ι 0])) CE from by
     refine ⟨(.slice (some (π tb 0)) z.2.2.told.length z.2.2.told.length),C2,?_,k3,?_,?_,?_⟩
     ·rw [iY,if_pos rfl,hh]
     ·rw [ot,iY,if_pos rfl,hh,tT,HZ.o];exact m3
     ·rw [iY,if_pos rfl,tT];exact (by obtain ⟨cs,qt⟩:=td.c_;exact .inr ⟨tb,cs,rfl,qt,fun i hi=>(qt.cell i).symm.trans (td.cell (o:=i) (by omega))⟩)
     ·exact fun b hb=>tn b hb)
    clear tS k3 m3 kb td tn mD;refine ⟨.agg #[.bool false,(.slice (some (π tb 0)) z.2.2.told.length z.2.2.told.length),ι 0],?_,fy.o⟩;simp [results,Tryz.results17,go_sem,a0,a1,a2]
  ·as_aux_lemma=>
   have Zf:(z.2.2.br==0)=false:=by simpa using gB
   generalize Cf:z.2.2.br=tt at*;obtain ⟨MU,MV,MX⟩:=HO.o.b4.c3;have MT:∀o,w7.frozen? (π (bx+1) o)=false:=HO.o.b4.frozen;go_wp2_with fail;rw [eK HO.o.b4 rfl,eK HO.o.b4 rfl,eK HO.o.b4 rfl];have sT:=Gb HV.o HS.o HI.o hk;rw [HZ.o] at sT;obtain ⟨pq,MZ,-,-,pw,-⟩:=sT;have N9:z.2.2.bm.length < 1000000:=by have:=pw.bm;unfold gD at MZ;omega
   have R5:=vV (s0:=s) (b2:=bx) (b5:=bx+1+1+1) (b4:=bx+1) (by rw [HO.o.mb];exact HM.o) HA.o.2 pq.inv pq.ua (by rw [Cf];exact gB) N9 (by rw [HO.o.mb];exact HO.o.b2) (by rw [HA.o.1];exact HO.o.b5) HO.o.b4 (HO.o.ro _ (by simp)) (HO.o.ro _ (by simp));refine leaves_cons (f:=61) (args:=#[ρ bx,ρ (bx+1+1+1),ρ (bx+1)]) (by simp) (by simp [go_sem]) ?_;refine R5.mono ?_;rintro e u' w9 ⟨rfl,rfl,C2,wz,k1,k2,kf,kb⟩;obtain ⟨k3,m3⟩:=HO.o.zQ HH.o k1 k2;obtain ⟨k4,m4⟩:=pf HH.o HO.o.at_ k3 m3 (k2.cr (HO.o.ro _ (by simp))) kf;have iY:dE p c s key=tt:=by unfold dE;rw [HZ.o,Cf]
   have ot:dF p c s key=s:=by unfold dF;rw [iY,if_neg gB]
   obtain ⟨a0,a1,a2⟩:=kb.c3;rw [Cf] at a2;have fy:=ae (show eD w C RO K p c t s key (.returned (.agg #[.bool false,ν,ι tt])) w9 from by
    refine ⟨ν,C2,?_,k4,?_,?_,?_⟩
    ·rw [iY,if_neg gB]
    ·rw [ot,iY,if_neg gB,HZ.o];exact m4
    ·rw [iY,if_neg gB];exact .inl ⟨rfl,rfl⟩
    ·exact fun b hb=>by simp [vb,Value.ownBlock] at hb)
   have af:∀o,w9.frozen? (π (bx+1) o)=false:=kb.frozen;clear k1 k2 kf kb k3 m3 k4 m4 R5 pq pw;refine ⟨.agg #[.bool false,ν,ι tt],?_,fy.o⟩;simp [results,Tryz.results17,go_sem,a0,a1,a2]
end
section
variable {w w':World} {C C':Co} {RO RO':List Nat} {K:Kc} {p:aO} {c:Cp} {t t':fI} {used used':Int} {s s':St} {rv rv':Value}
theorem Mx.behind {w1 w2:World} (h:Mx w C RO K p c s t used rv) {a':Nd} {f':Nat->Option Nat} (f1:ax [C.xb,C.xs] w w1) (f2:ax (bp C.ab C.V C.L) w1 w2) (ha:bP w2 C.ab C.V C.L K.nd p.ap.length a')
 (hx:cL w1 C.xb C.xs K.nd (eS p a') f'):bu w w2 C C/\Mx w2 C RO K p c ⟨a',f',s.vars,s.total⟩ t used rv:=by
 have R:=h.rel;have F1:ax C.l w w1:=f1.mono (by intro k hk;simp at hk;rcases hk with rfl|rfl<;>simp [Co.l]);have F2:ax C.l w1 w2:=f2.mono (by intro k hk;simp [Co.l,hk]);have F:=F1.trans F2;have FJ:C.mb∉[C.xb,C.xs]:=by simp;exact ⟨R.mx,R.ms⟩
 refine ⟨⟨rfl,F,fun _ hb=> .inl hb⟩,⟨⟨?_,?_,?_,?_,?_⟩,h.sep.nd,fun b hb=>Nat.lt_of_lt_of_le (h.sep.lt b hb) F.size,h.sep.ro,fun b hb=>Nat.lt_of_lt_of_le (h.sep.cY b hb) F.size⟩⟩
 ·exact (h.m.aM.aB f1 FJ).aB f2 R.ma
 ·exact h.m.prog.aB F fun b hb=>h.cr hb
 ·exact ha
 ·exact hx.aB f2 ⟨R.xa,R.sa⟩
 ·exact (h.m.vs.aB f1 fun b hb hc=>by
   simp at hc;rcases hc with rfl|rfl
   ·exact R.xv (aK.2 hb)
   ·exact R.sv (aK.2 hb)).aB f2 fun b hb hc=>R.av b hc (aK.2 hb)
def uB (w:World) (C:Co) (RO:List Nat) (K:Kc) (p:aO) (c:Cp) (t:fI) (used:Int) (s:St) (key:Nat) (e:Ending) (w':World):Prop:=
 e= .returned (ι (gT p c s key))/\∃C',bu w w' C C'/\Mx w' C' RO K p c (gX p c s key) (if gT p c s key=0 then t else {t with ud:=wrap64 (t.ud+1)}) used rv0
where rv0:Value:= .pointer none
theorem CG (h:Mx w C RO K p c s t used (.pointer none)) {key:Nat} (hf:s.f key=none):
 Calls Tryz.prog 26 #[ρ C.mb,.int .u64 key] w (uB w C RO K p c t used s key):=by
 have m10:w.cell? (π C.mb 10)=some (ρ C.xb):=h.m.aM.cell 10;have HD:=ae (Ix.D8 h.m.ix hf);have HE:=ae (fun n=>show uB w C RO K p c t used s key (.returned (ι 0)) (w.drewN n) from by
  have e1:gT p c s key=0:=by unfold gT;rw [hf]
  have e2:gX p c s key=s:=by unfold gX;rw [hf]
  refine ⟨by rw [e1],C,bu.below (au _ _ n),?_⟩;rw [e1,e2,if_pos rfl];exact h.drewN n)
 clear h hf;go_enter Tryz.func26,Tryz.ntmps26;go_wp2_with fail;refine HD.o.mono ?_;rintro e w1 ⟨rfl,n,rfl⟩;go_wp2_with fail;go_ret;exact HE.o n
theorem CH (h:Mx w C RO K p c s t used (.pointer none)) (hI:Inv (aw p c) s) (gm:K.nd<=4194304) (hg:p.ap.length<=256) {key n q:Nat} (hf:s.f key=some n) (hq:q < p.ap.length) (hn:n∈s.a.ls q) (ht: -1073741824<=s.total/\s.total<=1073741824):
 Calls Tryz.prog 26 #[ρ C.mb,.int .u64 key] w (uB w C RO K p c t used s key):=by
 have m10:w.cell? (π C.mb 10)=some (ρ C.xb):=h.m.aM.cell 10;have hk:(s.a.val n).key=key:=by obtain ⟨q',Sh,hn',hk⟩:=(hI.idx key n).1 hf;exact hk
 have hle:=o_ (a:=s.a) hq hn;have HX:=h.m.ix;rw [<-hle] at HX;have HD:=ae (Ix.qK HX hf);have Zi:gX p c s key=⟨takeN s.a q n,Vm.aL s.f key none,s.vars,if p.ap.getD q false then s.total else s.total - 1⟩:=by unfold gX;rw [hf];dsimp only;rw [jq hI.wf hq hn];unfold fR;rw [hk];rfl
 have Zj:gT p c s key=if p.ap.getD q false then 2 else 1:=by unfold gT;rw [hf];dsimp only;rw [jq hI.wf hq hn]
 have Qe:=ae Zi;have Qf:=ae Zj;have HT:=ae ht;have H:=ae h;have HQN:=ae (And.intro hn (And.intro gm hg));have R:=h.rel;have nx:C.mb∉[C.xb,C.xs]:=by simp;exact ⟨R.mx,R.ms⟩
 have nar:∀b,b∈bp C.ab C.V C.L->b∉[C.xb,C.xs]:=by
  intro b hb hc;simp at hc;rcases hc with rfl|rfl
  ·exact R.xa hb
  ·exact R.sa hb
 have NX:=ae (And.intro nx (And.intro nar R.ma));clear h hf hk hle HX Zi Zj ht nx nar R hn gm hg hI;go_enter Tryz.func26,Tryz.ntmps26;go_wp2_with fail;refine HD.o.mono ?_;rintro e w1 ⟨rfl,f1,x1⟩;have eN:=H.o.m.aM.aB f1 NX.o.1;have m9:w1.cell? (π C.mb 9)=some (ρ C.ab):=eN.cell 9;have a1:=H.o.m.ar.aB f1 NX.o.2.1;have HL:=ae (dT.zh a1 hq HQN.o.1);have HU:=ae (dT.Br a1 HQN.o.2.1 HQN.o.2.2 hq HQN.o.1);have GL:=ae f1;have Kk:=ae x1;have dC:=ae eN;clear f1 x1 eN a1 m10 HD;go_wp2_with fail;refine HL.o.mono ?_;rintro e w1' ⟨rfl,rfl⟩;go_wp2_with fail;refine HU.o.mono ?_;rintro e w2 ⟨rfl,f2,a2⟩;obtain ⟨hT,hM⟩:=H.o.behind GL.o f2 a2 Kk.o;have g16:w2.cell? (π C.mb 16)=some (ι t.ud):=hM.m.aM.cell 16;have fm:∀o,w2.frozen? (π C.mb o)=false:=hM.m.aM.frozen;have g0:w2.cell? (π C.mb 0)=some K.g:=hM.m.aM.cell 0;have g12:w2.cell? (π C.mb 12)=some (ι s.total):=hM.m.aM.cell 12;obtain ⟨gb,kw,jZ,vM,uv⟩:=hM.ap hq;have Wh:gb≠C.mb:=fun e=>hM.cr vM (by rw [e];simp [Co.l]);rw [jZ] at g0;have LZ:=ae hT;have HM:=ae hM;have S7:IntKind.i64.wrap (s.total - 1)=s.total - 1:=IntWalk.i64_in _ ⟨by have:=HT.o;omega,by have:=HT.o;omega⟩;clear f2 a2 hT hM m9 HL HU vM jZ;generalize Xy:p.ap.getD q false=gq at*;generalize p.ap.length=ng at*;have HGQ:=ae Xy;clear Xy;cases gq
 ·have xR:=ae (show gT p c s key=1 by rw [Qf.o];rfl);have rj:=ae (show gX p c s key=⟨takeN s.a q n,Vm.aL s.f key none,s.vars,s.total - 1⟩ by rw [Qe.o];rfl);clear Qf Qe;go_wp2_with fail;go_ret;refine ⟨show Ending.returned (ι 1)=_ by rw [xR.o],C,?_⟩;rw [xR.o,if_neg (by decide),rj.o];obtain ⟨k1,m1⟩:=HM.o.iV 16 (ι (wrap64 (t.ud+1))) (t':={t with ud:=wrap64 (t.ud+1)}) (used':=used) (rv':= .pointer none) rfl;obtain ⟨k2,m2⟩:=m1.total (s.total - 1);exact ⟨LZ.o.trans (k1.trans k2),m2⟩
 ·have xR:=ae (show gT p c s key=2 by rw [Qf.o];rfl);have rj:=ae (show gX p c s key=⟨takeN s.a q n,Vm.aL s.f key none,s.vars,s.total⟩ by rw [Qe.o];rfl);clear Qf Qe;go_wp2_with fail;go_ret;refine ⟨show Ending.returned (ι 2)=_ by rw [xR.o],C,?_⟩;rw [xR.o,if_neg (by decide),rj.o];obtain ⟨k1,m1⟩:=HM.o.iV 16 (ι (wrap64 (t.ud+1))) (t':={t with ud:=wrap64 (t.ud+1)}) (used':=used) (rv':= .pointer none) rfl;exact ⟨LZ.o.trans k1,m1⟩
theorem M0 (h:Mx w C RO K p c s t used (.pointer none)) (hI:Inv (aw p c) s) (gm:K.nd<=4194304) (hg:p.ap.length<=256) (key:Nat) (ht: -1073741824<=s.total/\s.total<=1073741824):
 Calls Tryz.prog 26 #[ρ C.mb,.int .u64 key] w (uB w C RO K p c t used s key):=by
 cases hf:s.f key with
 |none=>exact CG h hf
 |some n=>obtain ⟨q,hq,hn,-⟩:=(hI.idx key n).1 hf;exact CH h hI gm hg hf hq hn ht
theorem Ur (h:Mx w C RO K p c s t used rv):Calls Tryz.prog 28 #[ρ C.mb] w (fun e w'=>e= .returned (ι used)/\w=w'):=by have m17:w.cell? (π C.mb 17)=some (ι used):=h.m.aM.cell 17;clear h;go_enter Tryz.func28,Tryz.ntmps28;go_wp2_with fail;go_ret;exact ⟨rfl,rfl⟩
end
end Go.Proofs.YtblkblclmbhjiaaGreat.Ma
section
namespace ak.Vm
open Go
def mN (lo hi:Nat) (v:Value):Prop:=∀b,v.ownBlock=some b->lo<=b/\b < hi
theorem mN.nil (lo hi:Nat):mN lo hi ν:=fun b hb=>by simp [Value.ownBlock] at hb
theorem mN.mono {lo hi zR hi':Nat} {v:Value} (h:mN lo hi v) (h1:zR<=lo) (h2:hi<=hi'):mN zR hi' v:=fun b hb=>by have:=h b hb;omega
def se (w:World) (lo hi:Nat) (Es:List TypeId) (S:List Nat):Prop:=∀b,b∈S->(b < lo\/hi<=b)\/(∃E cs,ay w b E cs/\E∉Es)\/∃o:Obj,w.heap[b]? =some o/\o.isCells=false
theorem se.nil (w:World) (lo hi:Nat) (Es:List TypeId):se w lo hi Es []:=fun b hb=>by simp at hb
theorem se.sub {w:World} {lo hi:Nat} {Es Fs:List TypeId} {S:List Nat} (h:se w lo hi Es S) (hs:∀e,e∈Fs->e∈Es):se w lo hi Fs S:=fun b hb=>by
 rcases h b hb with h|⟨E,cs,h1,h2⟩|h
 ·exact .inl h
 ·exact .inr (.inl ⟨E,cs,h1,fun hc=>h2 (hs _ hc)⟩)
 ·exact .inr (.inr h)
theorem se.range {w:World} {lo hi:Nat} {Es:List TypeId} {S:List Nat} (h:∀b,b∈S->b < lo\/hi<=b):se w lo hi Es S:=fun b hb=> .inl (h b hb)
theorem Row.typ {w:World} {e:TypeId} {size n:Nat} {v:Value} {g:Nat->Value} (h:Row w e size v n g) {b:Nat} (hb:v.ownBlock= .some b):∃cs,ay w b e cs:=by
 rcases h.2 with ⟨rfl,_⟩|⟨b',cap,yQ,rfl,_,hg,_⟩
 ·simp [Value.ownBlock] at hb
 ·simp [Value.ownBlock] at hb;subst hb;exact ⟨yQ,hg⟩
theorem se.row {w:World} {lo hi:Nat} {Es:List TypeId} {S:List Nat} (k:se w lo hi Es S) {e:TypeId} {size n:Nat} {v:Value} {g:Nat->Value} (h:Row w e size v n g) (he:e∈Es) (hi':mN lo hi v) {b:Nat} (hb:v.ownBlock=some b):b∉S:=by
 intro hc;obtain ⟨cs,h1⟩:=h.typ hb;rcases k b hc with h2|⟨E,cs',h2,h3⟩|⟨o,h2,h3⟩
 ·have:=hi' b hb;omega
 ·unfold ay at h1 h2;rw [h1] at h2;simp at h2;exact h3 (h2.2▸he)
 ·unfold ay at h1;rw [h1] at h2;cases h2;simp [Obj.isCells] at h3
end ak.Vm
namespace Go.Proofs.YtblkblclmbhjiaaGreat.Ma
open Go.RowKit ak.Vm
open ak hiding aL an aj
open dT (bP bG d_)
open Ix (cL)
theorem Row.off {w w':World} {e:TypeId} {size n:Nat} {v:Value} {g:Nat->Value} {lo hi:Nat} {Es:List TypeId} {S:List Nat} (h:Row w e size v n g) (hi':mN lo hi v) (he:e∈Es) (f:ax S w w') (k:se w lo hi Es S):Row w' e size v n g:=
 h.aB f fun b hb=>k.row h he hi' hb
def zS:List TypeId:=[3]
structure fL (w:World) (lo hi:Nat) (v:Value) (l:List Int):Prop where
 row:Row w 3 1 v l.length (aU l)
 jy:mN lo hi v
theorem fL.off {w w':World} {lo hi:Nat} {v:Value} {l:List Int} {S:List Nat} (h:fL w lo hi v l) (f:ax S w w') (k:se w lo hi zS S):fL w' lo hi v l:=⟨Row.off h.row h.jy (by simp [zS]) f k,h.jy⟩
theorem fL.mono {w:World} {lo hi zR hi':Nat} {v:Value} {l:List Int} (h:fL w lo hi v l) (h1:zR<=lo) (h2:hi<=hi'):fL w zR hi' v l:=⟨h.row,h.jy.mono h1 h2⟩
end Go.Proofs.YtblkblclmbhjiaaGreat.Ma
end
namespace Go.Proofs.YtblkblclmbhjiaaGreat.Vf
open Go.RowKit ak.Vm
open ak hiding aL an aj
open Ma (dx bQ aU vb)
def sQ (w:World) (E:TypeId) (size n:Nat) (g:Nat->Value) (e:Ending) (w':World):Prop:=
 ∃v',e= .returned v'/\Row w' E size v' n g/\Below w.heap.size w w'/\mN w.heap.size w'.heap.size v'
theorem b_:(Tryz.prog.info? 3).map (fun i=>(i.zero,i.size,i.bytes))=some (some (ι 0),1,8):=by kernel_rfl
theorem acj {p:Prop} (h:p:=by
 go_wp2_with fail;go_ret;exact ⟨_,rfl,Row.nil _ _ _ _,Below.refl _ _,mN.nil _ _⟩):p:=h
theorem aci {p:Prop} (h:p:=by
 intro j hj;obtain ⟨e,c⟩:=HC.o j hj;obtain ⟨c_,off,sp⟩:=a;dsimp only at e c;subst e;rw [Addr.add_lit];exact Lib.cell?_alloc_some _ c):p:=h
theorem ach {p:Prop} (h:p:=by
 intro v' w1 bq hf hv;go_wp2;go_ret;have hB:Below w.heap.size w w1:=((Below.refl _ w).alloc (Nat.le_refl _) _).trans (hf.below (by simp) (by intro b hb;simp [Value.ownBlock] at hb;omega));refine ⟨v',rfl,bq.congr fun o ho=>by unfold gU;rw [if_neg (by omega)];congr 1,hB,fun b hb=>?_⟩;have hl:=(World.ownsRow.lt bq b hb).2;rcases hv with h|h<;>rw [hb] at h<;>simp [Value.ownBlock] at h<;>omega):p:=h
theorem pN {w:World} {v:Value} {n:Nat} {g:Nat->Value} (h:aV w 1 v n g) (hb:n*8<=140737488355328) (h1:∀j,j < n*1->(g j).oneCell'=true):
 Calls Tryz.prog 55 #[v] w (sQ w 3 1 n g):=by
 rcases h with ⟨rfl,rfl⟩|⟨a,cap,rfl,nO,lF,hc⟩
 ·have hq:∀(w:World) (n' c':Nat),(binOp .eql 24 ν (.slice none n' c')).run Tryz.prog w= .ok (.bool true) w:=fun w n' c'=>Lib.run_eql_slice_nil w _ _ none 0 0 n' c' Tryz.underlying24;go_enter Tryz.func55,Tryz.ntmps55;exact acj
 ·have HC:=ae hc;have H1:=ae h1;have hm:n<=maxLen:=Nat.le_trans nO lF;have HM:=ae hm;have HB:=ae hb;have hq:∀(w:World) (n' c':Nat),(binOp .eql 24 (.slice (some a) n cap) (.slice none n' c')).run Tryz.prog w= .ok (.bool false) w:=fun w n' c'=>Lib.run_eql_slice_nil w _ _ (some a) n cap n' c' Tryz.underlying24;clear hc h1 hb hm nO lF;go_enter Tryz.func55,Tryz.ntmps55;go_wp2_with (at_builtin;refine cz rfl _ _ 24 rfl 3 Tryz.underlying24 b_ rfl (by decide) _ 0 (fun _=> ι 0) rfl (World.ownsRow_made w #[] 0 (Nat.zero_le _) (Nat.zero_le _) (by simp)) a n cap g rfl ?zT ?ED ?EE ?ID ?_)
  case zT=>exact aci
  case ED=>exact H1.o
  case EE=>rw [Nat.zero_add];exact HM.o
  case ID=>rw [Nat.zero_add];exact HB.o
  exact ach
theorem vZ:(Tryz.prog.info? 4).map (fun i=>(i.zero,i.size,i.bytes))=some (some (.bool false),1,1):=by kernel_rfl
theorem EF {w:World} {v:Value} {n:Nat} {g:Nat->Value} (h:aV w 1 v n g) (hb:n*1<=140737488355328) (h1:∀j,j < n*1->(g j).oneCell'=true):
 Calls Tryz.prog 98 #[v] w (sQ w 4 1 n g):=by
 rcases h with ⟨rfl,rfl⟩|⟨a,cap,rfl,nO,lF,hc⟩
 ·have hq:∀(w:World) (n' c':Nat),(binOp .eql 22 ν (.slice none n' c')).run Tryz.prog w= .ok (.bool true) w:=fun w n' c'=>Lib.run_eql_slice_nil w _ _ none 0 0 n' c' Tryz.underlying22;go_enter Tryz.func98,Tryz.ntmps98;exact acj
 ·have HC:=ae hc;have H1:=ae h1;have hm:n<=maxLen:=Nat.le_trans nO lF;have HM:=ae hm;have HB:=ae hb;have hq:∀(w:World) (n' c':Nat),(binOp .eql 22 (.slice (some a) n cap) (.slice none n' c')).run Tryz.prog w= .ok (.bool false) w:=fun w n' c'=>Lib.run_eql_slice_nil w _ _ (some a) n cap n' c' Tryz.underlying22;clear hc h1 hb hm nO lF;go_enter Tryz.func98,Tryz.ntmps98;go_wp2_with (at_builtin;refine cz rfl _ _ 22 rfl 4 Tryz.underlying22 vZ rfl (by decide) _ 0 (fun _=> ι 0) rfl (World.ownsRow_made w #[] 0 (Nat.zero_le _) (Nat.zero_le _) (by simp)) a n cap g rfl ?zT ?ED ?EE ?ID ?_)
  case zT=>exact aci
  case ED=>exact H1.o
  case EE=>rw [Nat.zero_add];exact HM.o
  case ID=>rw [Nat.zero_add];exact HB.o
  exact ach
theorem IE:(Tryz.prog.info? 122).map (fun i=>(i.zero,i.size,i.bytes))=some (some (.agg #[ι 0,ι 0,ι 0]),3,24):=by kernel_rfl
theorem IF {w:World} {v:Value} {n:Nat} {g:Nat->Value} (h:aV w 3 v n g) (hb:n*24<=140737488355328) (h1:∀j,j < n*3->(g j).oneCell'=true):
 Calls Tryz.prog 99 #[v] w (sQ w 122 3 n g):=by
 rcases h with ⟨rfl,rfl⟩|⟨a,cap,rfl,nO,lF,hc⟩
 ·have hq:∀(w:World) (n' c':Nat),(binOp .eql 23 ν (.slice none n' c')).run Tryz.prog w= .ok (.bool true) w:=fun w n' c'=>Lib.run_eql_slice_nil w _ _ none 0 0 n' c' Tryz.underlying23;go_enter Tryz.func99,Tryz.ntmps99;exact acj
 ·have HC:=ae hc;have H1:=ae h1;have hm:n<=maxLen:=Nat.le_trans nO lF;have HM:=ae hm;have HB:=ae hb;have hq:∀(w:World) (n' c':Nat),(binOp .eql 23 (.slice (some a) n cap) (.slice none n' c')).run Tryz.prog w= .ok (.bool false) w:=fun w n' c'=>Lib.run_eql_slice_nil w _ _ (some a) n cap n' c' Tryz.underlying23;clear hc h1 hb hm nO lF;go_enter Tryz.func99,Tryz.ntmps99;go_wp2_with (at_builtin;refine cz rfl _ _ 23 rfl 122 Tryz.underlying23 IE rfl (by decide) _ 0 (fun _=> ι 0) rfl (World.ownsRow_made w #[] 0 (Nat.zero_le _) (Nat.zero_le _) (by simp)) a n cap g rfl ?zT ?ED ?EE ?ID ?_)
  case zT=>exact aci
  case ED=>exact H1.o
  case EE=>rw [Nat.zero_add];exact HM.o
  case ID=>rw [Nat.zero_add];exact HB.o
  exact ach
theorem IG:(Tryz.prog.info? 40).map (fun i=>(i.zero,i.size,i.bytes))=some (some (.agg #[ι 0,ι 0,ι 0,ι 0,ι 0]),5,40):=by kernel_rfl
theorem IH {w:World} {v:Value} {n:Nat} {g:Nat->Value} (h:aV w 5 v n g) (hb:n*40<=140737488355328) (h1:∀j,j < n*5->(g j).oneCell'=true):
 Calls Tryz.prog 100 #[v] w (sQ w 40 5 n g):=by
 rcases h with ⟨rfl,rfl⟩|⟨a,cap,rfl,nO,lF,hc⟩
 ·have hq:∀(w:World) (n' c':Nat),(binOp .eql 25 ν (.slice none n' c')).run Tryz.prog w= .ok (.bool true) w:=fun w n' c'=>Lib.run_eql_slice_nil w _ _ none 0 0 n' c' Tryz.underlying25;go_enter Tryz.func100,Tryz.ntmps100;exact acj
 ·have HC:=ae hc;have H1:=ae h1;have hm:n<=maxLen:=Nat.le_trans nO lF;have HM:=ae hm;have HB:=ae hb;have hq:∀(w:World) (n' c':Nat),(binOp .eql 25 (.slice (some a) n cap) (.slice none n' c')).run Tryz.prog w= .ok (.bool false) w:=fun w n' c'=>Lib.run_eql_slice_nil w _ _ (some a) n cap n' c' Tryz.underlying25;clear hc h1 hb hm nO lF;go_enter Tryz.func100,Tryz.ntmps100;go_wp2_with (at_builtin;refine cz rfl _ _ 25 rfl 40 Tryz.underlying25 IG rfl (by decide) _ 0 (fun _=> ι 0) rfl (World.ownsRow_made w #[] 0 (Nat.zero_le _) (Nat.zero_le _) (by simp)) a n cap g rfl ?zT ?ED ?EE ?ID ?_)
  case zT=>exact aci
  case ED=>exact H1.o
  case EE=>rw [Nat.zero_add];exact HM.o
  case ID=>rw [Nat.zero_add];exact HB.o
  exact ach
end Go.Proofs.YtblkblclmbhjiaaGreat.Vf
namespace ak.Vm
open Go Go.RowKit ak
section
variable {P:Program}
theorem nH {ops:Array Oper} {rest:List Oper} {o:Oper} {a:Act} {w:World} {Q:Exit->Act->World->Prop} (Ie:o.guard=none) (t:TypeId) (parts:Array (Nat×Operand)) (ho:o.op= .build t parts) (vs:List (Nat×Value)) (cells:Array Value)
 (hp:(parts.map fun (i,x)=>(i,a.eval x)).toList=vs) (hb:P.built t vs=some cells) (h:wpList P ops Q rest (a.put o.dst (.agg cells)) w):wpList P ops Q (o::rest) a w:=
 wpList_plain Ie fun _ hK=>wp_build t parts ho (by rw [hp,hb];rfl) (by rw [hp,hb];exact hK _ _ h)
theorem sR {w:World} {b:Nat} {T:TypeId} {zU cells:Array Value} (ty:TypeId) (hb:ay w b T zU) (kN:zU.size=cells.size) (hi:(P.info? ty).map (·.size)=some cells.size) (h1:∀v∈cells.toList,v.oneCell'=true):
 ∃w',(storeVar ty (π b 0) (.agg cells)).run P w= .ok () w'/\ay w' b T cells/\ax [b] w w':=by
 have h:=run_storeCells_from (P:=P) b T cells.toList 0 zU w hb (by simp [kN]) h1;have e:(zU.toList.take 0++cells.toList).toArray=cells:=by simp
 rw [e] at h;refine ⟨w.setRow b cells,?_,setRow_heap w b zU cells T (0,0) hb,⟨rfl,rfl,rfl,by simp,fun k _ hk=>setRow_other w b k cells (by simpa using hk)⟩⟩;cases hq:P.info? ty with
 |none=>simp [hq] at hi
 |some i=>
  have hs:cells.size=i.size:=by simp [hq] at hi;omega
  simp [storeVar,Go.sizeOf,typeInfo,hq,Value.cells,hs,h]
theorem fM {ops:Array Oper} {rest:List Oper} {op:Oper} {a:Act} {w:World} {Q:Exit->Act->World->Prop} (Ie:op.guard=none) (ty:TypeId) (x y:Operand) (ho:op.op= .store ty x y)
 (b:Nat) {T:TypeId} {zU:Array Value} (cells:Array Value) (hx:a.eval x=ρ b) (hy:a.eval y= .agg cells) (hb:ay w b T zU) (kN:zU.size=cells.size) (hi:(P.info? ty).map (·.size)=some cells.size) (h1:∀v∈cells.toList,v.oneCell'=true)
 (h:∀w',ay w' b T cells->ax [b] w w'->wpList P ops Q rest (a.put op.dst undef) w'):wpList P ops Q (op::rest) a w:=
 wpList_plain Ie fun K hK=>by obtain ⟨w',hr,h2,h3⟩:=sR (P:=P) ty hb kN hi h1;have:=hK _ _ (h w' h2 h3);unfold Oper.wp execOp;simp only [ho,hx,hy,Instr.storeAt,Instr.sureAddr,Sem.run_bind,Sem.run_pure,Result.andThen_ok,hr];exact this
end
theorem bJ {P:Program} {w:World} {ops:Array Oper} {o:Oper} {a:Act} {K:Act->World->Prop} {Q:Exit->Act->World->Prop} {E:Prop}
 (hg:o.guard=none) (l c:Operand) (t:TypeId) (cW:o.op=Op.makeSlice t l c)
 (e:TypeId) {size bytes:Nat} {z:Value} (h1:P.underlying t=some (.slice e)) (hi:(P.info? e).map (fun i=>(i.zero,i.size,i.bytes))=some (some z,size,bytes)) (hz:z.cells.size=size) (hs:0 < size)
 (kl kc:IntKind) (L C:Int) (n:Nat) (hl:a.eval l= .int kl L) (hc:a.eval c= .int kc C) (hL:L=(n:Int)) (hC:C=(n:Int)) (b2:bytes*n<=281474976710656) (b3:n<=maxLen)
 (hK:∀w',Row w' e size (.slice (some (π w.heap.size 0)) n n) n (fun o=>z.cells.getD (o % size) undef)->Below w.heap.size w w'->K (a.put o.dst (.slice (some (π w.heap.size 0)) n n)) w'):
 if Region.wanted o (yielded ops a.tmps)=true then Oper.wp P o a w K Q else E:=by
 have hw:Region.wanted o (yielded ops a.tmps)=true:=by simp [Region.wanted,hg]
 rw [if_pos hw];obtain ⟨i,NT,AH,NU,NV⟩:=info_parts hi;obtain ⟨w',uh,r1,r2⟩:=run_make_full (P:=P) w 0 t e i z size h1 NT AH NU kl kc n (by rw [NV];exact b2) b3 (Nat.zero_le _);have hK2:=hK w' (by
  unfold Row;have:(madeCells z.cells (n*size)).toList=eE (n*size) (fun o=>z.cells.getD (o % size) undef):=by
   unfold madeCells eE;rw [hz];simp only [Array.toList_map,Array.toList_range];refine List.map_congr_left fun i _=>?_;have a8:i % size < z.cells.size:=by rw [hz];exact Nat.mod_lt _ hs
   simp [Array.getD,a8]
  rw [<-this];exact r1) ((eJ r2).below (Nat.le_refl _) (by simp))
 subst hL;subst hC;unfold Oper.wp;simp [execOp,cW,hl,hc,uh,Result.andThen];exact hK2
end ak.Vm
