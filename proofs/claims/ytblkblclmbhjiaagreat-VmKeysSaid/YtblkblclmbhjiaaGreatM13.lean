import Derived.Test.YtblkblclmbhjiaaGreatM12
set_option linter.unusedVariables false
set_option linter.unusedSimpArgs false
set_option maxHeartbeats 40000000
set_option maxRecDepth 100000
open Go.Proofs.Tryz
theorem qX5 {p:Prop} (h:p:=by
 have y0:=key _ _ _ a3 s0;have y1:=key _ _ _ a3 s1;have y2:=key _ _ _ a3 s2;have y3:=key _ _ _ a3 s3;have y4:=key _ _ _ a3 s4;have y5:=key _ _ _ a3 s5;have y6:=key _ _ _ a3 s6;have y7:=key _ _ _ a3 s7;have y8:=key _ _ _ a3 s8;have y9:=key _ _ _ a3 s9;have y10:=key _ _ _ a3 JF;have y11:=key _ _ _ a3 FE;have y12:=key _ _ _ a3 zz;exact qU):p:=h
namespace Go.Proofs.YtblkblclmbhjiaaGreat.Vf
open Go.RowKit ak.Vm
open ak hiding aL an aj
open Ma (dx bQ aU vb aA aQ)
theorem IP (n:Nat):∃k c,bO n=List.replicate k c/\k<=2/\(c=1\/c=2\/(c=3/\k=2))/\(n=19↔c=3):=by
 have sE:bO 19=[3,3]:=rfl;rcases sJ n with h|h|h|h|⟨e,h⟩
 ·exact ⟨0,1,h,omm,.inl rfl,⟨fun e=>(by subst e;rw [sE] at h;cases h),fun e=>by cases e⟩⟩
 ·exact ⟨1,1,h,omm,.inl rfl,⟨fun e=>(by subst e;rw [sE] at h;cases h),fun e=>by cases e⟩⟩
 ·exact ⟨1,2,h,omm,.inr (.inl rfl),⟨fun e=>(by subst e;rw [sE] at h;cases h),fun e=>by cases e⟩⟩
 ·exact ⟨2,1,h,omm,.inl rfl,⟨fun e=>(by subst e;rw [sE] at h;cases h),fun e=>by cases e⟩⟩
 ·exact ⟨2,3,h,omm,.inr (.inr ⟨rfl,rfl⟩),⟨fun _=>rfl,fun _=>e⟩⟩
theorem Mj:∀n,n < 42->aR n<=2:=by decide
theorem PK (ty:List Nat) (w:World) {j:Nat} (hj:j < ty.length) (ht:eI ty):(Instr.index 9 (.string (fH ty)) (ι ((ty.length - 1 - j:Nat):Int))).run prog w= .ok (.int .u8 (ty.getD j 0)) w:=by have hs:=nw ty;have hi:0<=((ty.length - 1 - j:Nat):Int)/\((ty.length - 1 - j:Nat):Int) < ((fH ty).size:Int):=omm;rw [run_index_string w _ _ _ _ underlying9,dif_pos hi];have h3:=BB ty (ty.length - 1 - j);rw [D7 hj] at h3;simp only [Int.toNat_natCast];have h2:ty.length - 1 - j < (fH ty).size:=omm;rw [getElem?_pos (fH ty) _ h2] at h3;simp only [Option.map_some,af5] at h3;rw [h3];rcases ht.at hj with e|e<;>rw [e]<;>rfl
theorem Ml {k c:Nat} {ty:List Nat} (hk:k<=ty.length) (hc:c≠3):hZ (List.replicate k c) ty=true↔∀j,j < k->ty.getD j 0=c:=by
 induction k generalizing ty with
 |zero=>simp [hZ]
 |succ k ih=>
  cases ty with
  |nil=>simp at hk
  |cons t ts=>
   rw [List.replicate_succ,hZ];simp only [afW,Bool.or_eq_true,beq_iff_eq,hc,false_or];rw [ih (by simpa using hk)];constructor
   ·rintro ⟨e,h⟩ j hj;cases j with
    |zero=>exact e
    |succ j=>exact h j omm
   ·intro h;exact ⟨h 0 omm,fun j hj=>h (j+1) omm⟩
def pO (w:World) (th:Bool) (s:Std) (mv:Value) (x:Ins) (e:Ending) (w':World):Prop:=
 ∃s',e= .returned (.tuple #[cT th s' mv,ι (bM x s.ty)])/\(bM x s.ty=0->s'={s with ty:=aT x s.ty})/\Below w.heap.size w w'
def Ya (xb sb rb hb n:Nat) (tv:Value) (k i:Nat) (a:Act):Prop:=∃J:Nat->Value,a={tmps:=#[J 0,J 1,J 2,J 3,ρ xb,ρ sb,ρ rb,J 7,ρ hb,ι n,J 10,J 11,J 12,J 13,J 14,J 15,J 16,J 17,J 18,J 19,J 20,J 21,J 22,J 23,J 24,J 25,J 26,J 27,J 28,J 29,J 30,J 31,J 32,J 33,J 34,J 35,J 36,J 37,J 38,J 39,J 40,J 41,J 42,J 43,J 44,J 45,tv,ι k,ι i,J 49,J 50,J 51,J 52,J 53,J 54,J 55,J 56,J 57,J 58,J 59,J 60,J 61,J 62,J 63,J 64,J 65,J 66,J 67,J 68,J 69,J 70,J 71,J 72,J 73,J 74,J 75,J 76,J 77,J 78,J 79,J 80,J 81,J 82,J 83,J 84,J 85,J 86,J 87,J 88,J 89,J 90,J 91,J 92,J 93,J 94,J 95,J 96,J 97,J 98,J 99,J 100,J 101,J 102,J 103],defers:=[]}
def VL (ty:List Nat) (k c i:Nat):Prop:=(c=3->0 < i->ty.getD 0 0=ty.getD 1 0)/\(c≠3->∀j,j < i->ty.getD (k - 1 - j) 0=c)
def EO (w:World) (xb sb rb hb n:Nat) (tv:Value) (k:Nat) (P:World->Prop) (O:Nat->Prop) (m:Nat) (a:Act) (W:World):Prop:=
 ∃i,i<=k/\m+i=k+1/\Ya xb sb rb hb n tv k i a/\Hid (Below w.heap.size w W)/\Hid (P W)/\Hid (O i)
structure Mm (W:World) (bh:Nat) (op xa xb xc xd:Int) (th:Bool) (tb:ByteArray) (lc:Nat->Nat) (ln ha:Nat) (mv tv:Value) (k n:Nat):Prop where
 x:ay W bh 40 #[ι op,ι xa,ι xb,ι xc,ι xd]
 s:ay W (bh+1) 233 #[.bool th,.string tb,ι (lc 0),ι (lc 1),ι (lc 2),ι (lc 3),ι (lc 4),ι (lc 5),ι (lc 6),ι (lc 7),ι ln,ι ha,mv]
 r:ay W (bh+1+1) 233 #[.bool false,.string ⟨#[]⟩,ι 0,ι 0,ι 0,ι 0,ι 0,ι 0,ι 0,ι 0,ι 0,ι 0,ν]
 t:aV W 1 tv k (Mh n)
theorem Mm.aB {W W':World} {bh:Nat} {op xa xb xc xd:Int} {th:Bool} {tb:ByteArray} {lc:Nat->Nat} {ln ha:Nat} {mv tv:Value} {k n:Nat} (h:Mm W bh op xa xb xc xd th tb lc ln ha mv tv k n) (f:da [] W W'):Mm W' bh op xa xb xc xd th tb lc ln ha mv tv k n:=
 ⟨h.x.aB f smm,h.s.aB f smm,h.r.aB f smm,h.t.aB f⟩
def Yb (w:World) (bh hb n:Nat) (xa xb xc xd:Int) (th:Bool) (tb:ByteArray) (lc:Nat->Nat) (ln ha:Nat) (mv:Value) (ty:List Nat) (k c g:Nat) (ta:Option Addr) (tc:Nat) (a:Act) (W:World):Prop:=
 Ya bh (bh+1) (bh+1+1) hb (ty.length - k) (.slice ta k tc) k k a/\Hid (Below w.heap.size w W)/\Hid (Mm W bh n xa xb xc xd th tb lc ln ha mv (.slice ta k tc) k n/\ay W hb 316 #[.slice ta k tc,ι g])/\Hid (VL ty k c k)
def jz:Code->Option Code
 | .loop c=>some c
 | .seq a b=>match jz a with
   |some c=>some c
   |none=>jz b
 | .block _ c=>jz c
 | .scope c=>jz c
 | .cond _ a b=>match jz a with
   |some c=>some c
   |none=>jz b
 |_=>none
noncomputable def TO:Code:=(Tryz.f243.body.bind jz).getD .skip
theorem adL {p:Prop} (h:p:=by
 go_wp2_with fail;go_quiet (fail);go_wp2_with fail;exact ⟨i+1,omm,omm,pC rfl,ae (HB.o.trans (au _ _ _)),ae (HPD.o _),ux⟩):p:=h
theorem adJ {p:Prop} (h:p:=by
 rw [HE.o];simp [results,results243,go_sem,i0,i1,i2,i3,i4,i5,i6,i7,i8,i9,i10,i11,i12,cT,bU,qX.o,uy.o,oH.o]):p:=h
theorem adK {p:Prop} (h:p:=by
 go_wp2_with fail;go_quiet (fail);generalize Od:W.drewN _=W2 at*;have P2:Mm W2 bh n xa xb xc xd th tb lc ln ha (.slice ma mn mc) (.slice (some (π Yc Mo)) k tc) k n/\ay W2 hb 316 #[.slice (some (π Yc Mo)) k tc,ι g]:=by rw [<-Od];exact HPD.o _
 have B2:Below w.heap.size w W2:=by rw [<-Od];exact HB.o.trans (au _ _ _)
 clear Od;obtain ⟨K2,kh2⟩:=P2;have fg:=ae B2;have kY:=ae K2;obtain ⟨s0,s1,s2,s3,s4,s5,s6,s7,s8,s9,JF,FE,zz⟩:=K2.s.nN;obtain ⟨z0,z1,z2,z3,z4,z5,z6,z7,z8,z9,TM,Ob,z12⟩:=K2.r.nN;have fz:=K2.r.frozen;have l0:=K2.x.lt;have l1:=K2.s.lt;have l2:=K2.r.lt;clear K2 kh2 B2;go_wp2_with fail;have f9:da [bh+1+1] W2 _:=((((((((((((((da.refl [bh+1+1] W2).setCell (p:=(π (bh+1+1) 0)) smm (.bool th)).setCell (p:=(π (bh+1+1) 1)) smm (.string tb)).setCell (p:=(π (bh+1+1) 2)) smm (ι (lc 0))).setCell (p:=(π (bh+1+1) 3)) smm (ι (lc 1))).setCell (p:=(π (bh+1+1) 4)) smm (ι (lc 2))).setCell (p:=(π (bh+1+1) 5)) smm (ι (lc 3))).setCell (p:=(π (bh+1+1) 6)) smm (ι (lc 4))).setCell (p:=(π (bh+1+1) 7)) smm (ι (lc 5))).setCell (p:=(π (bh+1+1) 8)) smm (ι (lc 6))).setCell (p:=(π (bh+1+1) 9)) smm (ι (lc 7))).setCell (p:=(π (bh+1+1) 10)) smm (ι ln)).setCell (p:=(π (bh+1+1) 11)) smm (ι ha)).setCell (p:=(π (bh+1+1) 12)) smm (.slice ma mn mc));have b9:=(((((((((((((kY.o.r.set 0 (.bool th)).set 1 (.string tb)).set 2 (ι (lc 0))).set 3 (ι (lc 1))).set 4 (ι (lc 2))).set 5 (ι (lc 3))).set 6 (ι (lc 4))).set 7 (ι (lc 5))).set 8 (ι (lc 6))).set 9 (ι (lc 7))).set 10 (ι ln)).set 11 (ι ha)).set 12 (.slice ma mn mc));simp only [List.setIfInBounds_toArray,List.set_cons_zero,List.set_cons_succ] at b9;have B9:=fg.o.trans (f9.below (B:=w.heap.size) fg.o.size (by simp only [List.mem_singleton];intro k hk;have:=Oc.o;omega));generalize (((((((((((((W2.setCell (π (bh+1+1) 0) (.bool th)).setCell (π (bh+1+1) 1) (.string tb)).setCell (π (bh+1+1) 2) (ι (lc 0))).setCell (π (bh+1+1) 3) (ι (lc 1))).setCell (π (bh+1+1) 4) (ι (lc 2))).setCell (π (bh+1+1) 5) (ι (lc 3))).setCell (π (bh+1+1) 6) (ι (lc 4))).setCell (π (bh+1+1) 7) (ι (lc 5))).setCell (π (bh+1+1) 8) (ι (lc 6))).setCell (π (bh+1+1) 9) (ι (lc 7))).setCell (π (bh+1+1) 10) (ι ln)).setCell (π (bh+1+1) 11) (ι ha)).setCell (π (bh+1+1) 12) (.slice ma mn mc))=W9 at*;obtain ⟨i0,i1,i2,i3,i4,i5,i6,i7,i8,i9,i10,i11,i12⟩:=b9.nN;clear b9 f9;refine gO _ _ (afI ?_ rfl ⟨⟨ty,lo,ha⟩,rfl,fun h=>(by rw [HE.o] at h;cases h),B9⟩);exact adJ):p:=h
theorem Mn {w:World} {bh hb n k c g ln ha tc mn mc:Nat} {xa xb xc xd:Int} {th:Bool} {tb:ByteArray} {lc:Nat->Nat} {ta ma:Option Addr} {ty lo:List Nat} (Oc:Hid (w.heap.size=bh)) (Gz:Hid (∀(V:World) (j:Nat),j < ty.length->(Instr.index 9 (.string tb) (ι ((ty.length - 1 - j:Nat):Int))).run prog V= .ok (.int .u8 (ty.getD j 0:Nat)) V)) (Lf:Hid (eI ty)) (qX:Hid (fH ty=tb)) (uy:Hid (bE lo=lc)) (oH:Hid (lo.length=ln))
 (uW:Hid (bM ⟨n,xa,xb,xc,xd⟩ ty=if (!hZ (List.replicate k c) ty||(decide ((n:Int)=19)&&ty.getD 0 0 !=ty.getD 1 0))=true then 94 else 0)) (nU:Hid (k<=ty.length->c≠3->(hZ (List.replicate k c) ty=true↔∀j,j < k->ty.getD j 0=c))) (HL:Hid (bO n=List.replicate k c)) (sE:n=19↔c=3) (hc:c=1\/c=2\/c=3/\k=2) (hk:k<=2) (TI:k<=ty.length) (hl:ty.length<=256) (l9:bh+1+1 < hb)
 {Q:Exit->Act->World->Prop} (gO:∀a W,bodyPost prog Tryz.f243 (pO w th ⟨ty,lo,ha⟩ (.slice ma mn mc) ⟨n,xa,xb,xc,xd⟩) .ret a W->Q .ret a W) (eZ:∀a W,Yb w bh hb n xa xb xc xd th tb lc ln ha (.slice ma mn mc) ty k c g ta tc a W->Q (.exit 0) a W)
 {m:Nat} {a0:Act} {W:World} (hI:(EO w bh (bh+1) (bh+1+1) hb (ty.length - k) (.slice ta k tc) k (fun W=>Mm W bh n xa xb xc xd th tb lc ln ha (.slice ma mn mc) (.slice ta k tc) k n/\ay W hb 316 #[.slice ta k tc,ι g]) (VL ty k c)) (m+1) a0 W):TO.wp prog (Exit.then ((EO w bh (bh+1) (bh+1+1) hb (ty.length - k) (.slice ta k tc) k (fun W=>Mm W bh n xa xb xc xd th tb lc ln ha (.slice ma mn mc) (.slice ta k tc) k n/\ay W hb 316 #[.slice ta k tc,ι g]) (VL ty k c)) m) Q) a0 W:=by
 have w2:IntKind.i64.wrap (((ty.length - k:Nat):Int)+1)=((ty.length - k:Nat):Int)+1:=afU _ coo;unfold pO at gO;obtain ⟨i,hi,hm,⟨J,rfl⟩,HB,HP,HO⟩:=hI
 conv=>arg 2;whnf
 obtain ⟨K1,kh⟩:=HP.o;obtain ⟨h0,h1⟩:=kh.c2;have lh:=kh.lt;clear kh;obtain ⟨s0,s1,s2,s3,s4,s5,s6,s7,s8,s9,JF,FE,zz⟩:=K1.s.nN;obtain ⟨z0,z1,z2,z3,z4,z5,z6,z7,z8,z9,TM,Ob,z12⟩:=K1.r.nN;have fz:=K1.r.frozen;have l0:=K1.x.lt;have l1:=K1.s.lt;have l2:=K1.r.lt;have c0:=K1.x.c1;have HPD:=ae (fun q=>(show Mm (W.drewN q) bh n xa xb xc xd th tb lc ln ha (.slice ma mn mc) (.slice ta k tc) k n/\ay (W.drewN q) hb 316 #[.slice ta k tc,ι g] from ⟨K1.aB ((da.refl [] W).drewN q),HP.o.2.drewN q⟩));by_cases a8:i < k
 ·obtain ⟨Yc,Mo,abb,hv,-,-,lE,GA⟩:=K1.t.some omm omm;simp only [afH] at hv;obtain ⟨rfl,-,rfl⟩:=hv;have d0:W.cell? (π Yc (Mo+i))=some (ι c):=by rw [GA i omm];unfold Mh;rw [HL.o,afS,List.getElem?_replicate,afE a8];rfl
  have N9:k - 1 - i < ty.length:=omm;have Ξ:∀V,(Instr.index 9 (.string tb) (ι (((ty.length - k:Nat):Int)+(i:Int)))).run prog V= .ok (.int .u8 (ty.getD (k - 1 - i) 0:Nat)) V:=fun V=>by have:=Gz.o V (k - 1 - i) N9;rw [show ((ty.length - k:Nat):Int)+(i:Int)=((ty.length - 1 - (k - 1 - i):Nat):Int) by omega];exact this
  have w3:IntKind.i64.wrap (((ty.length - k:Nat):Int)+(i:Int))=((ty.length - k:Nat):Int)+(i:Int):=afU _ coo;have w4:IntKind.i64.wrap ((i:Int)+1)=(i:Int)+1:=afU _ coo;have hti:=Lf.o.at N9;have HTI:=ae (rfl:ty.getD (k - 1 - i) 0=ty.getD (k - 1 - i) 0);clear K1 GA lE HP;by_cases IQ:c=3
  ·have jd:k=2:=omm;have aaB:((n:Int)==19)=true:=by have:=sE.2 IQ;simp;omega
   have ha0:ty.getD 0 0=1\/ty.getD 0 0=2:=Lf.o.at omm;have ha1:ty.getD 1 0=1\/ty.getD 1 0=2:=Lf.o.at omm;have N_:∀V,(Instr.index 9 (.string tb) (ι ((ty.length - k:Nat):Int))).run prog V= .ok (.int .u8 (ty.getD 1 0:Nat)) V:=fun V=>by have:=Gz.o V 1 omm;rw [show ((ty.length - k:Nat):Int)=((ty.length - 1 - 1:Nat):Int) by omega];exact this
   have NT:∀V,(Instr.index 9 (.string tb) (ι (((ty.length - k:Nat):Int)+1))).run prog V= .ok (.int .u8 (ty.getD 0 0:Nat)) V:=fun V=>by have:=Gz.o V 0 omm;rw [show ((ty.length - k:Nat):Int)+1=((ty.length - 1 - 0:Nat):Int) by omega];exact this
   have abc:=ae jd;have Yd:=ae (sE.2 IQ);clear jd sE hc HTI;subst IQ;generalize ty.getD (k - 1 - i) 0=t at*;generalize TP:ty.getD 0 0=t0 at*;generalize C7:ty.getD 1 0=t1 at*;have PM:=ae TP;have N7:=ae C7;clear TP C7;by_cases he:t0=t1
   ·subst he;have ux:=ae (show VL ty k 3 (i+1) from ⟨fun _ _=>PM.o.trans N7.o.symm,fun e=>absurd rfl e⟩);clear HO PM N7 ha0;have e1:((t0:Int)!=(t0:Int))=false:=by simp
    clear hti ha1
    all_goals
     exact adL
   ·have HE:=ae (show bM ⟨n,xa,xb,xc,xd⟩ ty=94 by
     rw [uW.o,afE];rw [Yd.o];simp [he])
    clear HO uW PM N7 nU HL Yd;have e1:((t1:Int)!=(t0:Int))=true:=by simp;omega
    clear hti ha1 ha0
    all_goals
     clear he;exact adK
  ·have aaB:((n:Int)==19)=false:=by have:=fun e=>IQ (sE.1 e);simp;omega
   have lF:c=1\/c=2:=omm;have Η:=ae IQ;clear IQ sE hc;generalize ht9:ty.getD (k - 1 - i) 0=t at*;have HT9:=ae ht9;clear ht9 HTI;by_cases yq:t=c
   ·subst yq;clear hti;have ux:=ae (show VL ty k t (i+1) from ⟨fun e=>absurd e Η.o,fun e j hj=>by
     by_cases e2:j=i
     ·subst e2;exact HT9.o
     ·exact HO.o.2 e j omm⟩)
    clear HO;have e1:((t:Int)!=3)=true:=by simp;omega
    have e3:((t:Int)!=(t:Int))=false:=by simp
    have ui:t<=2:=omm;clear lF
    all_goals
     exact adL
   ·have HE:=ae (show bM ⟨n,xa,xb,xc,xd⟩ ty=94 by
     rw [uW.o,afE];have:hZ (List.replicate k c) ty=false:=by
      cases hf:hZ (List.replicate k c) ty with
      |false=>rfl
      |true=>exact absurd (HT9.o.symm.trans ((nU.o TI Η.o).1 hf (k - 1 - i) omm)) yq
     rw [this];rfl)
    clear HO uW HT9 nU HL;have e1:((c:Int)!=3)=true:=by simp;omega
    have e2:((t:Int)!=(c:Int))=true:=by simp;omega
    have ui:t<=2:=omm;clear lF hti
    all_goals
     clear yq;exact adK
 ·obtain rfl:i=k:=omm;go_wp2_with fail
  first
  |exact eZ _ _ ⟨pC rfl,HB,HP,HO⟩
  |exact ⟨pC rfl,HB,HP,HO⟩
theorem adM {p:Prop} (h:p:=by
 obtain ⟨i0,i1,i2,i3,i4,i5,i6,i7,i8,i9,i10,i11,i12⟩:=b9.nN;clear b9 f9;refine afI ?_ rfl ⟨⟨aT ⟨n,xa,xb,xc,xd⟩ ty,lo,ha⟩,rfl,fun _=>rfl,B9⟩;rw [HE.o];simp [results,results243,go_sem,i0,i1,i2,i3,i4,i5,i6,i7,i8,i9,i10,i11,i12,cT,bU,HTV.o,uy.o,oH.o]):p:=h
theorem acQ {p:Prop} (h:p:=by
 go_wp2_with fail;have f9:da [bh+1+1] w' _:=(((((((((((((((da.refl [bh+1+1] w').setCell (p:=(π (bh+1+1) 0)) smm (.bool th)).setCell (p:=(π (bh+1+1) 1)) smm (.string tb)).setCell (p:=(π (bh+1+1) 2)) smm (ι (lc 0))).setCell (p:=(π (bh+1+1) 3)) smm (ι (lc 1))).setCell (p:=(π (bh+1+1) 4)) smm (ι (lc 2))).setCell (p:=(π (bh+1+1) 5)) smm (ι (lc 3))).setCell (p:=(π (bh+1+1) 6)) smm (ι (lc 4))).setCell (p:=(π (bh+1+1) 7)) smm (ι (lc 5))).setCell (p:=(π (bh+1+1) 8)) smm (ι (lc 6))).setCell (p:=(π (bh+1+1) 9)) smm (ι (lc 7))).setCell (p:=(π (bh+1+1) 10)) smm (ι ln)).setCell (p:=(π (bh+1+1) 11)) smm (ι ha)).setCell (p:=(π (bh+1+1) 12)) smm (.slice ma mn mc)).alloc (.cells #[.slice ta k tc,ι g] 316));have b9:=(((((((((((((kW.o.r.set 0 (.bool th)).set 1 (.string tb)).set 2 (ι (lc 0))).set 3 (ι (lc 1))).set 4 (ι (lc 2))).set 5 (ι (lc 3))).set 6 (ι (lc 4))).set 7 (ι (lc 5))).set 8 (ι (lc 6))).set 9 (ι (lc 7))).set 10 (ι ln)).set 11 (ι ha)).set 12 (.slice ma mn mc));simp only [List.setIfInBounds_toArray,List.set_cons_zero,List.set_cons_succ] at b9;replace b9:=b9.alloc (.cells #[.slice ta k tc,ι g] 316);have B9:=EP.o.trans (f9.below (B:=w.heap.size) EP.o.size (by simp only [List.mem_singleton];intro k hk;have:=Oc.o;omega));generalize ((((((((((((((w'.setCell (π (bh+1+1) 0) (.bool th)).setCell (π (bh+1+1) 1) (.string tb)).setCell (π (bh+1+1) 2) (ι (lc 0))).setCell (π (bh+1+1) 3) (ι (lc 1))).setCell (π (bh+1+1) 4) (ι (lc 2))).setCell (π (bh+1+1) 5) (ι (lc 3))).setCell (π (bh+1+1) 6) (ι (lc 4))).setCell (π (bh+1+1) 7) (ι (lc 5))).setCell (π (bh+1+1) 8) (ι (lc 6))).setCell (π (bh+1+1) 9) (ι (lc 7))).setCell (π (bh+1+1) 10) (ι ln)).setCell (π (bh+1+1) 11) (ι ha)).setCell (π (bh+1+1) 12) (.slice ma mn mc)).alloc (.cells #[.slice ta k tc,ι g] 316))=W9 at*;obtain ⟨i0,i1,i2,i3,i4,i5,i6,i7,i8,i9,i10,i11,i12⟩:=b9.nN;clear b9 f9;refine afI ?_ rfl ⟨⟨ty,lo,ha⟩,rfl,fun h=>(by rw [HE.o] at h;cases h),B9⟩;exact adJ):p:=h
theorem PN (w:World) {mv vv:Value} (th:Bool) {s:Std} {x:Ins} (h0:0<=x.op) (Xh:x.op<=41) (hl:s.ty.length<=256) (ht:eI s.ty) (hm:∃a n c,mv= .slice a n c):
 Calls prog 243 #[vv,aQ x,cT th s mv] w (pO w th s mv x):=by
 obtain ⟨op,xa,xb,xc,xd⟩:=x;obtain ⟨ty,lo,ha⟩:=s;obtain ⟨ma,mn,mc,rfl⟩:=hm;dsimp only at h0 Xh hl ht;obtain ⟨n,rfl⟩:=afN h0;have Ch:n < 42:=omm;have HS:=ae (fun V=>Mi V n Ch);obtain ⟨k,c,hL,hk,hc,sE⟩:=IP n;have hg:=Mj n Ch;have HT:=ae (show bM ⟨n,xa,xb,xc,xd⟩ ty=if ty.length < k\/((n:Int)=0/\0 < ty.length)\/(aR n≠0/\256 < ty.length - k+1) then 93 else if !hZ (List.replicate k c) ty||(decide ((n:Int)=19)&&ty.getD 0 0 !=ty.getD 1 0) then 94 else 0 by
  unfold bM;dsimp only [Int.toNat_natCast];rw [hL,List.length_replicate])
 have HV:=ae (show aT ⟨n,xa,xb,xc,xd⟩ ty=if aR n=0 then ty.drop k else aR n::ty.drop k by unfold aT;dsimp only [Int.toNat_natCast];rw [hL,List.length_replicate]);have kN:=nw ty;have hB:=ag6 w;unfold aQ aA cT bU pO;dsimp only;have KT:(bO n).length=k:=by rw [hL,List.length_replicate]
 have gen:∀(W:World) (cx cs cr:Array Value) (tx ts:TypeId),Below W.heap.size W (((W.alloc (.cells cx tx)).alloc (.cells cs ts)).alloc (.cells cr ts)):=fun W cx cs cr tx ts=>(((afL _ _).alloc (afF _) _).alloc smm _).alloc (by simp only [aE];omega) _;go_enter func243,ntmps243;go_wp2_with fail;refine (HS.o _).mono ?_;rintro e w' ⟨tv,rfl,bq,hb⟩;have wP:=(gen w _ _ _ _ _).trans (hb.mono (by simp only [aE];omega));have kx:ay w' w.heap.size 40 #[ι n,ι xa,ι xb,ι xc,ι xd]:=(((ay.new w _ _).alloc _).alloc _).of (hb.block _ (by simp only [aE];omega));have ks:ay w' (w.heap.size+1) 233 #[.bool th,.string (fH ty),ι (bE lo 0),ι (bE lo 1),ι (bE lo 2),ι (bE lo 3),ι (bE lo 4),ι (bE lo 5),ι (bE lo 6),ι (bE lo 7),ι lo.length,ι ha,.slice ma mn mc]:=((ay.a_ smm).alloc _).of (hb.block _ (by simp only [aE];omega));have kr:ay w' (w.heap.size+1+1) 233 #[.bool false,.string ⟨#[]⟩,ι 0,ι 0,ι 0,ι 0,ι 0,ι 0,ι 0,ι 0,ι 0,ι 0,ν]:=(ay.a_ smm).of (hb.block _ (by simp only [aE];omega));obtain ⟨ta,tc,rfl,t1,t2⟩:=bq.val;rw [KT] at bq t1;generalize jK:w.heap.size=bh at*;rw [KT];rw [<-jK] at wP;have rl:=wP.alloc wP.size (.cells #[.slice ta k tc,ι (aR n:Nat)] 316);have Gz:=ae (fun V j (hj:j < ty.length)=>PK ty V hj ht);have Lf:=ae ht;have nU:=ae (fun (hk:k<=ty.length) (hc:c≠3)=>Ml hk hc);have HL:=ae hL;have Ov:0<=n:=afO _;have EP:=ae wP;have Oc:=ae jK;clear wP hb gen hB HS ht hL KT jK;generalize jZ:aR n=g at*;have HG:=ae jZ;clear jZ;generalize tO:fH ty=tb at*;have qX:=ae tO;clear tO;generalize Cm:bE lo=lc at*;have uy:=ae Cm;clear Cm;generalize Ae:lo.length=ln at*;have oH:=ae Ae;clear Ae;have HB:=ae rl;clear rl;have K0:Mm w' bh n xa xb xc xd th tb lc ln ha (.slice ma mn mc) (.slice ta k tc) k n:=⟨kx,ks,kr,bq⟩;have kW:=ae K0;clear kx ks kr bq;obtain ⟨s0,s1,s2,s3,s4,s5,s6,s7,s8,s9,JF,FE,zz⟩:=K0.s.nN;obtain ⟨z0,z1,z2,z3,z4,z5,z6,z7,z8,z9,TM,Ob,z12⟩:=K0.r.nN;have fz:=K0.r.frozen;have l0:=K0.x.lt;have l1:=K0.s.lt;have l2:=K0.r.lt;have c0:=K0.x.c1;by_cases Vw:ty.length < k
 ·all_goals
   have kL:((ty.length:Int) - (k:Int) < 0)=True:=by simp;omega
   have HE:=ae (show bM ⟨n,xa,xb,xc,xd⟩ ty=93 by rw [HT.o,afE (.inl Vw)]);clear Gz;exact acQ
 have w1:IntKind.i64.wrap ((ty.length:Int) - (k:Int))=((ty.length - k:Nat):Int):=by rw [afU _ coo];omega
 have VG:((ty.length:Int) - (k:Int))=((ty.length - k:Nat):Int):=omm;by_cases hA2:n=0/\0 < ty.length
 ·all_goals
   obtain ⟨rfl,zI⟩:=hA2;have Cj:k=0:=by have:=HL.o;rw [show bO 0=[] from rfl] at this;exact (by simpa using afK List.length this.symm)
   have hp9:0 < ty.length - k:=omm;have HE:=ae (show bM ⟨(0:Nat),xa,xb,xc,xd⟩ ty=93 by rw [HT.o,afE (.inr (.inl ⟨rfl,zI⟩))]);clear Gz Cj zI;exact acQ
 by_cases UD:g≠0/\256 < ty.length - k+1
 ·all_goals
   obtain ⟨TP,C7⟩:=UD;have Ov:0 < n:=by
    rcases Nat.eq_zero_or_pos n with e|e
    ·subst e;exact absurd HG.o.symm TP
    ·exact e
   have w2:IntKind.i64.wrap (((ty.length - k:Nat):Int)+1)=((ty.length - k:Nat):Int)+1:=afU _ coo;have SN:((g:Int)!=0)=true:=by simp;omega
   have HE:=ae (show bM ⟨n,xa,xb,xc,xd⟩ ty=93 by rw [HT.o,afE (.inr (.inr ⟨TP,C7⟩))]);clear Gz;exact acQ
 have TI:k<=ty.length:=omm;have uW:=ae (show bM ⟨n,xa,xb,xc,xd⟩ ty=if (!hZ (List.replicate k c) ty||(decide ((n:Int)=19)&&ty.getD 0 0 !=ty.getD 1 0))=true then 94 else 0 by
  rw [HT.o,abH];rintro (h|h|h)
  ·exact Vw h
  ·exact hA2 ⟨omm,h.2⟩
  ·exact UD h)
 have wo:(((n:Int)==0)=true/\decide (0 < ((ty.length - k:Nat):Int))=false/\decide (0 < ty.length - k)=false/\((g:Int)!=0)=false)\/(0 < n/\((g:Int)!=0)=false)\/(0 < n/\0 < g/\ty.length - k+1<=256):=by
  rcases Nat.eq_zero_or_pos n with e|e
  ·left;have TP:g=0:=by rw [<-HG.o,e];rfl
   have Xs:ty.length - k=0:=omm;exact ⟨by rw [e];rfl,by rw [Xs];rfl,by rw [Xs];rfl,by rw [TP];rfl⟩
  ·rcases Nat.eq_zero_or_pos g with e2|e2
   ·exact .inr (.inl ⟨e,by rw [e2];rfl⟩)
   ·exact .inr (.inr ⟨e,e2,by have:¬(g≠0/\256 < ty.length - k+1):=UD;omega⟩)
 have w2:IntKind.i64.wrap (((ty.length - k:Nat):Int)+1)=((ty.length - k:Nat):Int)+1:=afU _ coo;have l9:bh+1+1 < w'.heap.size:=l2;clear Vw hA2 UD HT;rcases wo with ⟨b1,b2,b3,b4⟩|⟨b1,b2⟩|⟨b1,b2,b3⟩
 all_goals
  go_wp2_with fail;refine Mk.aP (EO w bh (bh+1) (bh+1+1) w'.heap.size (ty.length - k) (.slice ta k tc) k (fun W=>Mm W bh n xa xb xc xd th tb lc ln ha (.slice ma mn mc) (.slice ta k tc) k n/\ay W w'.heap.size 316 #[.slice ta k tc,ι g]) (VL ty k c)) (k+1) ?start ?zero ?round
  case start=>exact ⟨0,afO _,omm,pC rfl,HB,ae ⟨kW.o.aB ((da.refl [] w').alloc _),ay.new _ _ _⟩,ae ⟨fun _ h=>absurd h omm,fun _ j h=>absurd h omm⟩⟩
  case zero=>exact fun a W hh=>by obtain ⟨q,h1,h2,_⟩:=hh;omega
  generalize w'.heap.size=hb at*;clear s0 s1 s2 s3 s4 s5 s6 s7 s8 s9 JF FE zz z0 z1 z2 z3 z4 z5 z6 z7 z8 z9 TM Ob z12 fz c0 l0 l1 l2 HB kW EP K0 w'
  case round=>
   intro m a W h;refine Mn (lo:=lo) (mn:=mn) Oc Gz Lf qX uy oH uW nU HL sE hc hk TI hl l9 ?_ ?_ h
   ·exact fun a W h=>h
   clear h;clear a W m;intro a W h;obtain ⟨⟨J,rfl⟩,HB,HP,HO⟩:=h;obtain ⟨K1,kh⟩:=HP.o;obtain ⟨h0,h1⟩:=kh.c2;have lh:=kh.lt;clear kh;obtain ⟨s0,s1,s2,s3,s4,s5,s6,s7,s8,s9,JF,FE,zz⟩:=K1.s.nN;obtain ⟨z0,z1,z2,z3,z4,z5,z6,z7,z8,z9,TM,Ob,z12⟩:=K1.r.nN;have fz:=K1.r.frozen;have l0:=K1.x.lt;have l1:=K1.s.lt;have l2:=K1.r.lt;have c0:=K1.x.c1;have HE:=ae (show bM ⟨n,xa,xb,xc,xd⟩ ty=0 by
    rw [uW.o,abH];by_cases IQ:c=3
    ·have AH:k=2:=omm;have hn:n=19:=sE.2 IQ;have ho:=HO.o.1 IQ omm;rw [ho,IQ,AH];have EM:2<=ty.length:=omm
     match ty,EM with
     |a::b::r,_=>simp [hZ,List.replicate]
    ·have hf:=(nU.o TI IQ).2 (fun j hj=>by have:=HO.o.2 IQ (k - 1 - j) omm;rw [show k - 1 - (k - 1 - j)=j by omega] at this;exact this);have hn:¬n=19:=fun e=>IQ (sE.1 e);rw [hf];simp;omega)
   clear HO uW nU HL hc sE;have Dd:(convert 318 9 (.slice (some (π W.heap.size 0)) 1 1)).run prog ((W.setCell (π (bh+1) 1) (.string (tb.extract 0 (ty.length - k)))).alloc (.cells #[.int .u8 g] 5))= .ok (.string ⟨#[UInt8.ofNat g]⟩) ((W.setCell (π (bh+1) 1) (.string (tb.extract 0 (ty.length - k)))).alloc (.cells #[.int .u8 g] 5)):=by
    refine run_convert_bytes_back _ _ _ _ (π W.heap.size 0) 1 [UInt8.ofNat g] underlying318 underlying5 underlying9 (fun j hj=>?_);obtain rfl:j=0:=by simpa using hj
    have hg3:g=0\/g=1\/g=2:=omm;have hk9:ay ((W.setCell (π (bh+1) 1) (.string (tb.extract 0 (ty.length - k)))).alloc (.cells #[.int .u8 g] 5)) W.heap.size 5 #[.int .u8 g]:=ay.a_ smm;have hc9:=hk9.cell 0;refine hc9.trans ?_;rcases hg3 with e|e|e<;>subst e<;>rfl
   have HPR:=ae K1.r;have fs:=K1.s.frozen;have HTD:=ae (KZ ty k);rw [qX.o] at HTD;clear K1 HP Gz;by_cases Ye:((g:Int)!=0)=true
   ·(try (have hq:((g:Int)!=0)=false:=aas;exact absurd (Ye.symm.trans hq) dee))
    all_goals
     have HTV:=ae (show fH (aT ⟨n,xa,xb,xc,xd⟩ ty)=tb.extract 0 (ty.length - k)++⟨#[UInt8.ofNat g]⟩ by
      rw [HV.o,abH (fun e=>by subst e;simp at Ye),<-KY,HTD.o])
     go_wp2_with fail;have f9:da [bh+1,bh+1+1] W _:=(((((((((((((((((da.refl [bh+1,bh+1+1] W).setCell (p:=(π (bh+1) 1)) smm (.string (tb.extract 0 (ty.length - k)))).setCell (p:=(π (bh+1) 1)) smm (.string (tb.extract 0 (ty.length - k)++⟨#[UInt8.ofNat g]⟩))).setCell (p:=(π (bh+1+1) 0)) smm (.bool th)).setCell (p:=(π (bh+1+1) 1)) smm (.string (tb.extract 0 (ty.length - k)++⟨#[UInt8.ofNat g]⟩))).setCell (p:=(π (bh+1+1) 2)) smm (ι (lc 0))).setCell (p:=(π (bh+1+1) 3)) smm (ι (lc 1))).setCell (p:=(π (bh+1+1) 4)) smm (ι (lc 2))).setCell (p:=(π (bh+1+1) 5)) smm (ι (lc 3))).setCell (p:=(π (bh+1+1) 6)) smm (ι (lc 4))).setCell (p:=(π (bh+1+1) 7)) smm (ι (lc 5))).setCell (p:=(π (bh+1+1) 8)) smm (ι (lc 6))).setCell (p:=(π (bh+1+1) 9)) smm (ι (lc 7))).setCell (p:=(π (bh+1+1) 10)) smm (ι ln)).setCell (p:=(π (bh+1+1) 11)) smm (ι ha)).setCell (p:=(π (bh+1+1) 12)) smm (.slice ma mn mc)).alloc (.cells #[.int .u8 g] 5));have b9:=(((((((((((((((HPR.o.other (c:=bh+1) omm 1 (.string (tb.extract 0 (ty.length - k)))).other (c:=bh+1) omm 1 (.string (tb.extract 0 (ty.length - k)++⟨#[UInt8.ofNat g]⟩))).set 0 (.bool th)).set 1 (.string (tb.extract 0 (ty.length - k)++⟨#[UInt8.ofNat g]⟩))).set 2 (ι (lc 0))).set 3 (ι (lc 1))).set 4 (ι (lc 2))).set 5 (ι (lc 3))).set 6 (ι (lc 4))).set 7 (ι (lc 5))).set 8 (ι (lc 6))).set 9 (ι (lc 7))).set 10 (ι ln)).set 11 (ι ha)).set 12 (.slice ma mn mc));simp only [List.setIfInBounds_toArray,List.set_cons_zero,List.set_cons_succ] at b9;replace b9:=b9.alloc (.cells #[.int .u8 g] 5);have B9:=HB.o.trans (f9.below (B:=w.heap.size) HB.o.size (by simp only [afV,List.mem_singleton,List.not_mem_nil,or_false];intro k hk;have:=Oc.o;omega));generalize ((((((((((((((((W.setCell (π (bh+1) 1) (.string (tb.extract 0 (ty.length - k)))).setCell (π (bh+1) 1) (.string (tb.extract 0 (ty.length - k)++⟨#[UInt8.ofNat g]⟩))).setCell (π (bh+1+1) 0) (.bool th)).setCell (π (bh+1+1) 1) (.string (tb.extract 0 (ty.length - k)++⟨#[UInt8.ofNat g]⟩))).setCell (π (bh+1+1) 2) (ι (lc 0))).setCell (π (bh+1+1) 3) (ι (lc 1))).setCell (π (bh+1+1) 4) (ι (lc 2))).setCell (π (bh+1+1) 5) (ι (lc 3))).setCell (π (bh+1+1) 6) (ι (lc 4))).setCell (π (bh+1+1) 7) (ι (lc 5))).setCell (π (bh+1+1) 8) (ι (lc 6))).setCell (π (bh+1+1) 9) (ι (lc 7))).setCell (π (bh+1+1) 10) (ι ln)).setCell (π (bh+1+1) 11) (ι ha)).setCell (π (bh+1+1) 12) (.slice ma mn mc)).alloc (.cells #[.int .u8 g] 5))=W9 at*;exact adM
   ·(try (have hgp:0 < g:=aas;exact Ye sso))
    all_goals
     have aaC:((g:Int)!=0)=false:=by simpa using Ye
     have HTV:=ae (show fH (aT ⟨n,xa,xb,xc,xd⟩ ty)=tb.extract 0 (ty.length - k) by
      rw [HV.o,afE (by simpa using aaC),HTD.o])
     clear Ye Dd;go_wp2_with fail;have f9:da [bh+1,bh+1+1] W _:=(((((((((((((((da.refl [bh+1,bh+1+1] W).setCell (p:=(π (bh+1) 1)) smm (.string (tb.extract 0 (ty.length - k)))).setCell (p:=(π (bh+1+1) 0)) smm (.bool th)).setCell (p:=(π (bh+1+1) 1)) smm (.string (tb.extract 0 (ty.length - k)))).setCell (p:=(π (bh+1+1) 2)) smm (ι (lc 0))).setCell (p:=(π (bh+1+1) 3)) smm (ι (lc 1))).setCell (p:=(π (bh+1+1) 4)) smm (ι (lc 2))).setCell (p:=(π (bh+1+1) 5)) smm (ι (lc 3))).setCell (p:=(π (bh+1+1) 6)) smm (ι (lc 4))).setCell (p:=(π (bh+1+1) 7)) smm (ι (lc 5))).setCell (p:=(π (bh+1+1) 8)) smm (ι (lc 6))).setCell (p:=(π (bh+1+1) 9)) smm (ι (lc 7))).setCell (p:=(π (bh+1+1) 10)) smm (ι ln)).setCell (p:=(π (bh+1+1) 11)) smm (ι ha)).setCell (p:=(π (bh+1+1) 12)) smm (.slice ma mn mc));have b9:=((((((((((((((HPR.o.other (c:=bh+1) omm 1 (.string (tb.extract 0 (ty.length - k)))).set 0 (.bool th)).set 1 (.string (tb.extract 0 (ty.length - k)))).set 2 (ι (lc 0))).set 3 (ι (lc 1))).set 4 (ι (lc 2))).set 5 (ι (lc 3))).set 6 (ι (lc 4))).set 7 (ι (lc 5))).set 8 (ι (lc 6))).set 9 (ι (lc 7))).set 10 (ι ln)).set 11 (ι ha)).set 12 (.slice ma mn mc));simp only [List.setIfInBounds_toArray,List.set_cons_zero,List.set_cons_succ] at b9;have B9:=HB.o.trans (f9.below (B:=w.heap.size) HB.o.size (by simp only [afV,List.mem_singleton,List.not_mem_nil,or_false];intro k hk;have:=Oc.o;omega));generalize ((((((((((((((W.setCell (π (bh+1) 1) (.string (tb.extract 0 (ty.length - k)))).setCell (π (bh+1+1) 0) (.bool th)).setCell (π (bh+1+1) 1) (.string (tb.extract 0 (ty.length - k)))).setCell (π (bh+1+1) 2) (ι (lc 0))).setCell (π (bh+1+1) 3) (ι (lc 1))).setCell (π (bh+1+1) 4) (ι (lc 2))).setCell (π (bh+1+1) 5) (ι (lc 3))).setCell (π (bh+1+1) 6) (ι (lc 4))).setCell (π (bh+1+1) 7) (ι (lc 5))).setCell (π (bh+1+1) 8) (ι (lc 6))).setCell (π (bh+1+1) 9) (ι (lc 7))).setCell (π (bh+1+1) 10) (ι ln)).setCell (π (bh+1+1) 11) (ι ha)).setCell (π (bh+1+1) 12) (.slice ma mn mc))=W9 at*;exact adM
def kQ:Code->List Code
 | .loop c=>[c]
 | .seq a b=>kQ a++kQ b
 | .block _ c=>kQ c
 | .scope c=>kQ c
 | .cond _ a b=>kQ a++kQ b
 |_=>[]
noncomputable def lkL (k:Nat):Code:=((kQ (Tryz.f173.body.getD .skip))[k]?).getD .skip
def FK (J:Nat->Value):Act:={tmps:=#[J 0,J 1,J 2,J 3,J 4,J 5,J 6,J 7,J 8,J 9,J 10,J 11,J 12,J 13,J 14,J 15,J 16,J 17,J 18,J 19,J 20,J 21,J 22,J 23,J 24,J 25,J 26,J 27,J 28,J 29,J 30,J 31,J 32,J 33,J 34,J 35,J 36,J 37,J 38,J 39,J 40,J 41,J 42,J 43,J 44,J 45,J 46,J 47,J 48,J 49,J 50,J 51,J 52,J 53,J 54,J 55,J 56,J 57,J 58,J 59,J 60,J 61,J 62,J 63,J 64,J 65,J 66,J 67,J 68,J 69,J 70,J 71,J 72,J 73,J 74,J 75,J 76,J 77,J 78,J 79,J 80,J 81,J 82,J 83,J 84,J 85,J 86,J 87,J 88,J 89,J 90,J 91,J 92,J 93,J 94,J 95,J 96,J 97,J 98,J 99,J 100,J 101,J 102,J 103,J 104,J 105,J 106,J 107,J 108,J 109,J 110,J 111,J 112,J 113,J 114,J 115,J 116,J 117,J 118,J 119,J 120,J 121,J 122,J 123,J 124,J 125,J 126,J 127,J 128,J 129,J 130,J 131,J 132,J 133,J 134,J 135,J 136,J 137,J 138,J 139,J 140,J 141,J 142,J 143,J 144,J 145,J 146,J 147,J 148,J 149,J 150,J 151,J 152,J 153,J 154,J 155,J 156],defers:=[]}
theorem FK.of (A:Array Value) (h:A=(FK fun k=>A.getD k undef).tmps):({tmps:=A,defers:=[]}:Act)=FK fun k=>A.getD k undef:=by rw [h];rfl
section
variable {w1:World} {K:Kp} {p:aO} {iz:Value} {vb:Nat} {T:Map} {lo:Nat} {sv lv:Value} {l:List (Nat×Std)} {tP:Nat->Value} {Q:Exit->Act->World->Prop}
theorem gV.JM {W:World} (h:gV W lo sv lv l tP) {i:Nat} (hi:i < l.length):∃b off cap ma mc,lv= .slice (some (π b off)) l.length cap/\l.length<=cap/\cap<=maxLen/\b < W.heap.size/\tP i= .slice ma ((l.getD i eh).2.lo.length - 8) mc/\
 W.cell? (π b (off+i*14))=some (ι (l.getD i eh).1)/\W.cell? (π b (off+i*14+1))=some (.bool true)/\W.cell? (π b (off+i*14+2))=some (.string (fH (l.getD i eh).2.ty))/\W.cell? (π b (off+i*14+3))=some (ι (bE (l.getD i eh).2.lo 0))/\W.cell? (π b (off+i*14+4))=some (ι (bE (l.getD i eh).2.lo 1))/\W.cell? (π b (off+i*14+5))=some (ι (bE (l.getD i eh).2.lo 2))/\W.cell? (π b (off+i*14+6))=some (ι (bE (l.getD i eh).2.lo 3))/\W.cell? (π b (off+i*14+7))=some (ι (bE (l.getD i eh).2.lo 4))/\W.cell? (π b (off+i*14+8))=some (ι (bE (l.getD i eh).2.lo 5))/\W.cell? (π b (off+i*14+9))=some (ι (bE (l.getD i eh).2.lo 6))/\W.cell? (π b (off+i*14+10))=some (ι (bE (l.getD i eh).2.lo 7))/\W.cell? (π b (off+i*14+11))=some (ι (l.getD i eh).2.lo.length)/\W.cell? (π b (off+i*14+12))=some (ι (l.getD i eh).2.ha)/\W.cell? (π b (off+i*14+13))=some (tP i):=by
 obtain ⟨b,off,cap,rfl,h1,h2,h3,hc⟩:=h.row.some omm omm;obtain ⟨ma,mc,hm,-,-⟩:=aV.val (h.more i hi);have key:∀k,k < 14->W.cell? (π b (off+i*14+k))=some ((sg (l.getD i eh).1 (l.getD i eh).2 (tP i)).getD k undef):=fun k hk=>by have e:=hc (i*14+k) omm;rw [<-Nat.add_assoc] at e;rw [e];unfold wyC;rw [show (i*14+k) / 14=i by omega,show (i*14+k) % 14=k by omega]
 exact ⟨b,off,cap,ma,mc,rfl,h1,h2,h3,hm,key 0 omm,key 1 omm,key 2 omm,key 3 omm,key 4 omm,key 5 omm,key 6 omm,key 7 omm,key 8 omm,key 9 omm,key 10 omm,key 11 omm,key 12 omm,key 13 omm⟩
theorem gV.aB {W W':World} (h:gV W lo sv lv l tP) (f:da [] W W'):gV W' lo sv lv l tP:=⟨h.row.aB f,fun i hi=>(h.more i hi).aB f,h.off⟩
def L1 (w1:World) (vb:Nat) (pc:Nat) (lv:Value) (n:Nat) (m:Nat) (a:Act) (W:World):Prop:=
 ∃(J:Nat->Value) (i:Nat),a=FK J/\J 0=ρ vb/\J 1=ι pc/\J 8=lv/\J 71=lv/\J 72=ι n/\J 73=ι i/\i<=n/\m+i=n+1/\Hid (Below w1.heap.size w1 W)
theorem lk1 {pc:Nat} (HP:Hid (fP w1 K p)) (HV:Hid (ay w1 vb 230 (qR K p iz))) (HY:Hid (gV w1 lo sv lv l tP)) (hl:l.length<=2)
 (gO:∀(A:Array Value) W,A.getD 4 undef=ι 98->Below w1.heap.size w1 W->(∃i,i < l.length/\p.code.length<=(l.getD i eh).1)->Q .ret {tmps:=A,defers:=[]} W)
 (eZ:∀(J:Nat->Value) W,J 0=ρ vb->J 1=ι pc->J 8=lv->Below w1.heap.size w1 W->(∀i,i < l.length->(l.getD i eh).1 < p.code.length)->Q (.exit 0) (FK J) W)
 {a:Act} {W:World} (h:L1 w1 vb pc lv l.length (l.length+1) a W):(Code.loop (lkL 0)).wp prog Q a W:=by
 refine Mk.aP (fun m a W=>L1 w1 vb pc lv l.length m a W/\∀i,i+m<=l.length->(l.getD i eh).1 < p.code.length) (l.length+1) ⟨h,fun i hi=>omm⟩ ?_ ?_
 ·rintro a W ⟨⟨J,i,-,-,-,-,-,-,-,h1,h2,-⟩,-⟩;omega
 rintro m a0 W ⟨⟨J,i,rfl,j0,j1,j8,Yf,Yg,Yh,hi,hm,HB⟩,hA⟩;have hA':∀k,k < i->(l.getD k eh).1 < p.code.length:=fun k hk=>hA k omm;have HA:=ae hA';clear hA hA';unfold FK
 conv=>arg 2;whnf
 have w2:=ag5 i omm;rw [j0,j1,j8,Yf,Yg,Yh];have HJ:=ae (And.intro j0 (And.intro j1 j8));clear j0 j1 j8 Yf Yg Yh;by_cases a8:i < l.length
 ·obtain ⟨b,off,cap,ma,mc,GB,q1,q2,lb,em,c0,c1,c2,c3,c4,c5,c6,c7,c8,c9,VN,VO,VP,nN⟩:=(HY.o.aB (da.ah HB.o)).JM a8;rw [em] at nN;have RF:=ae em;have HE:=ae GB;have hv:=HV.o.of (HB.o.block _ HV.o.lt);have v5:W.cell? (π vb 5)=some K.c:=hv.cell 5;obtain ⟨ca,cc,kc,-,-⟩:=aV.val HP.o.cd;rw [kc] at v5;have Yi:=hv.lt;have dA:(l.getD i eh).1 < p.code.length\/p.code.length<=(l.getD i eh).1:=omm;have RH:=ae (show ∀z,(l.getD i eh).1=z->(p.code.length<=z->∃i,i < l.length/\p.code.length<=(l.getD i eh).1)/\(z < p.code.length->∀k,k < i+1->(l.getD k eh).1 < p.code.length) from fun z hz=>⟨fun hh=>⟨i,a8,omm⟩,fun hh k hk=>by
   by_cases e:k=i
   ·subst e;omega
   ·exact HA.o k omm⟩)
  obtain ⟨z,hz⟩:∃z,(l.getD i eh).1=z:=⟨_,rfl⟩;have HWB:=ae (RH.o z hz);rw [hz] at dA c0;clear em GB hv RH hz kc;generalize fH (l.getD i eh).2.ty=tb at*;generalize bE (l.getD i eh).2.lo=lc at*;generalize (l.getD i eh).2.ha=ha at*;generalize (l.getD i eh).2.lo.length=ln at*;generalize zZ:ln - 8=n8 at*;have Oa:=ae zZ;clear zZ;rw [HE.o];rcases dA with dA|dA
  ·go_wp2_with fail;go_quiet (fail);go_wp2_with fail;refine ⟨⟨_,i+1,FK.of _ rfl,rfl,rfl,rfl,rfl,rfl,rfl,a8,omm,ae ((HB.o.alloc HB.o.size _).trans (au _ _ _))⟩,fun k hk=>(HWB.o.2 dA k omm)⟩
  ·go_wp2_with fail;go_quiet (fail);go_wp2_with fail;exact gO _ _ rfl ((HB.o.alloc HB.o.size _).trans (au _ _ _)) (HWB.o.1 dA)
 ·obtain rfl:i=l.length:=omm;clear a8;go_wp2_with fail;exact Eq.mpr (afK (fun a=>Q (.exit 0) a W) (FK.of _ rfl)) (eZ _ _ rfl rfl rfl HB.o HA.o)
noncomputable def lkI:Code:=((kQ (lkL 1))[0]?).getD .skip
def WOk (l:List (Nat×Std)):Prop:=∀i,i < l.length->eI (l.getD i eh).2.ty/\(l.getD i eh).2.lo.length<=1000000000
def L3 (w1:World) (vb:Nat) (pc:Nat) (lv:Value) (l:List (Nat×Std)) (tP:Nat->Value) (i bx:Nat) (sv:Value) (m:Nat) (a:Act) (W:World):Prop:=
 ∃(J:Nat->Value) (j:Nat),a=FK J/\J 0=ρ vb/\J 1=ι pc/\J 8=lv/\J 12=ρ bx/\J 87=lv/\J 88=ι l.length/\J 89=ι i/\J 96=sv/\J 97=ι i/\J 98=ι j/\j<=i/\m+j=i+1/\Hid (Below w1.heap.size w1 W)/\Hid (w1.heap.size<=bx/\ay W bx 279 (sg (l.getD i eh).1 (l.getD i eh).2 (tP i)))
theorem lk3 {pc i bx b off cap:Nat} (HY:Hid (gV w1 lo sv lv l tP)) (HW:Hid (WOk l)) (hl:l.length<=2) (N_:i < l.length) (Di:Hid (lv= .slice (some (π b off)) l.length cap))
 (gO:∀(A:Array Value) W,A.getD 4 undef=ι 94->Below w1.heap.size w1 W->(∃j,j < i/\(l.getD j eh).1=(l.getD i eh).1/\(l.getD j eh).2≠(l.getD i eh).2)->Q .ret {tmps:=A,defers:=[]} W)
 (eZ:∀(J:Nat->Value) W,J 0=ρ vb->J 1=ι pc->J 8=lv->J 12=ρ bx->J 87=lv->J 88=ι l.length->J 89=ι i->Below w1.heap.size w1 W->ay W bx 279 (sg (l.getD i eh).1 (l.getD i eh).2 (tP i))->(∀j,j < i->(l.getD j eh).1=(l.getD i eh).1->(l.getD j eh).2=(l.getD i eh).2)->Q (.exit 4) (FK J) W)
 {a:Act} {W:World} (h:L3 w1 vb pc lv l tP i bx (.slice (some (π b off)) i cap) (i+1) a W):(Code.loop lkI).wp prog Q a W:=by
 refine Mk.aP (fun m a W=>L3 w1 vb pc lv l tP i bx (.slice (some (π b off)) i cap) m a W/\∀j,j+m<=i->(l.getD j eh).1=(l.getD i eh).1->(l.getD j eh).2=(l.getD i eh).2) (i+1) ⟨h,fun i hi=>omm⟩ ?_ ?_
 ·rintro a W ⟨⟨J,j,-,-,-,-,-,-,-,-,-,-,-,h1,h2,-⟩,-⟩;omega
 rintro m a0 W ⟨⟨J,j,rfl,j0,j1,j8,tQ,RI,RJ,RK,j96,j97,j98,hj,hm,HB,HX⟩,hA⟩;have hA':∀k,k < j->(l.getD k eh).1=(l.getD i eh).1->(l.getD k eh).2=(l.getD i eh).2:=fun k hk=>hA k omm;have HA:=ae hA';clear hA hA';unfold FK
 conv=>arg 2;whnf
 have w2:IntKind.i64.wrap ((j:Int)+1)=((j+1:Nat):Int):=by rw [afU _ coo];omega
 rw [j0,j1,j8,tQ,RI,RJ,RK,j96,j97,j98];clear j0 j1 j8 tQ RI RJ RK j96 j97 j98;by_cases a8:j < i
 ·obtain ⟨b',TQ,mI,ma,mc,GB,q1,q2,lb,em,c0,c1,c2,c3,c4,c5,c6,c7,c8,c9,VN,VO,VP,nN⟩:=(HY.o.aB (da.ah HB.o)).JM (i:=j) omm;obtain ⟨-,-,-,ma',mc',-,-,-,-,RL,-⟩:=(HY.o.aB (da.ah HB.o)).JM N_;rw [Di.o] at GB;simp only [afH,af5,Addr.mk.injEq] at GB;obtain ⟨⟨rfl,rfl,-⟩,-,rfl⟩:=GB;have qt:∀k,W.cell? (π bx k)=(sg (l.getD i eh).1 (l.getD i eh).2 (tP i))[k]? :=fun k=>HX.o.2.cell k;have lx:=HX.o.2.lt;have Oe:=HX.o.1;rw [RL] at qt;have d0:=qt 0;have d1:=qt 1;have d2:=qt 2;have d3:=qt 3;have d4:=qt 4;have d5:=qt 5;have d6:=qt 6;have d7:=qt 7;have d8:=qt 8;have d9:=qt 9;have d10:=qt 10;have d11:=qt 11;have d12:=qt 12;have d13:=qt 13;clear qt;unfold sg at d0 d1 d2 d3 d4 d5 d6 d7 d8 d9 d10 d11 d12 d13;simp only [List.getElem?_toArray,List.getElem?_cons_zero,List.getElem?_cons_succ] at d0 d1 d2 d3 d4 d5 d6 d7 d8 d9 d10 d11 d12 d13;have HSM:=ae (fun V (hb:Below w1.heap.size w1 V)=>EK (w:=V) true true ((HY.o.more j omm).aB (da.ah hb)) ((HY.o.more i N_).aB (da.ah hb)) (HW.o j omm).1 (HW.o i N_).1 (HW.o j omm).2 (HW.o i N_).2);have wm:∃z,decide ((l.getD j eh).2=(l.getD i eh).2)=z:=⟨_,rfl⟩;obtain ⟨dd,wm⟩:=wm;rw [wm] at HSM;have TR:=ae wm;clear wm;rw [em] at nN;rw [em,RL] at HSM;unfold cT bU at HSM;have RF:=ae em;have TS:=ae RL;clear em RL;have HZ:=ae (rfl:(l.getD j eh).1=(l.getD j eh).1);obtain ⟨zj,hzj⟩:∃z,(l.getD j eh).1=z:=⟨_,rfl⟩;obtain ⟨zi,AP⟩:∃z,(l.getD i eh).1=z:=⟨_,rfl⟩;rw [hzj] at c0;rw [AP] at d0;have HZJ:=ae hzj;have Of:=ae AP;clear HZ hzj AP;generalize tO:fH (l.getD j eh).2.ty=tb at*;have qX:=ae tO;generalize Cm:bE (l.getD j eh).2.lo=lc at*;have uy:=ae Cm;generalize Ai:(l.getD j eh).2.ha=ha at*;have JG:=ae Ai;generalize Ae:(l.getD j eh).2.lo.length=ln at*;have oH:=ae Ae;generalize zZ:ln - 8=n8 at*;have Oa:=ae zZ;clear tO Cm Ai Ae zZ;generalize Yj:fH (l.getD i eh).2.ty=tb' at*;have abd:=ae Yj;generalize Yk:bE (l.getD i eh).2.lo=lc' at*;have abe:=ae Yk;generalize Yl:(l.getD i eh).2.ha=ha' at*;have abf:=ae Yl;generalize Ym:(l.getD i eh).2.lo.length=ln' at*;have abg:=ae Ym;generalize Yn:ln' - 8=n8' at*;have abh:=ae Yn;clear Yj Yk Yl Ym Yn;have dh:=ae a8;by_cases hz:zj=zi
  ·subst hz;go_wp2_with fail
   with_reducible refine (HSM.o _ (HB.o.alloc HB.o.size _)).mono ?_
   rintro e W1 ⟨rfl,hb⟩;have FU:Hid (Below w1.heap.size w1 W1):=ae ((HB.o.alloc HB.o.size _).trans (hb.mono (by simp only [aE];have:=HB.o.size;omega)));have hX1:Hid (w1.heap.size<=bx/\ay W1 bx 279 (sg (l.getD i eh).1 (l.getD i eh).2 (tP i))):=ae ⟨Oe,(HX.o.2.alloc _).of (hb.block _ (by simp only [aE];omega))⟩;clear hb c0 d0 c1 d1 c2 d2 c3 d3 c4 d4 c5 d5 c6 d6 c7 d7 c8 d8 c9 d9 VN d10 VO d11 VP d12 nN d13;cases dd with
   |false=>go_wp2_with fail;exact gO _ _ rfl FU.o ⟨j,dh.o,by rw [HZJ.o,Of.o],fun h=>by have h2:=TR.o;rw [agc] at h2;exact h2 h⟩
   |true=>
    go_wp2_with fail;refine ⟨⟨_,j+1,FK.of _ rfl,rfl,rfl,rfl,rfl,rfl,rfl,rfl,rfl,rfl,rfl,dh.o,omm,FU,hX1⟩,fun k hk hz=>?_⟩;by_cases e:k=j
    ·subst e;exact agi TR.o
    ·exact HA.o k omm hz
  ·have hz':((zj:Int)==(zi:Int))=false:=by simp;omega
   have sd:=ae hz;go_wp2_with fail;refine ⟨⟨_,j+1,FK.of _ rfl,rfl,rfl,rfl,rfl,rfl,rfl,rfl,rfl,rfl,rfl,dh.o,omm,ae (HB.o.alloc HB.o.size _),ae ⟨Oe,HX.o.2.alloc _⟩⟩,fun k hk hz=>?_⟩;by_cases e:k=j
   ·subst e;exact absurd (HZJ.o.symm.trans (hz.trans Of.o)) sd.o
   ·exact HA.o k omm hz
 ·obtain rfl:j=i:=omm;clear a8;go_wp2_with fail;exact Eq.mpr (afK (fun a=>Q (.exit 4) a W) (FK.of _ rfl)) (eZ _ _ rfl rfl rfl rfl rfl rfl rfl HB.o HX.o.2 HA.o)
def L2 (w1:World) (vb:Nat) (pc:Nat) (lv:Value) (n:Nat) (m:Nat) (a:Act) (W:World):Prop:=
 ∃(J:Nat->Value) (i:Nat),a=FK J/\J 0=ρ vb/\J 1=ι pc/\J 8=lv/\J 87=lv/\J 88=ι n/\J 89=ι i/\i<=n/\m+i=n+1/\Hid (Below w1.heap.size w1 W)
def Cq (T:Map) (l:List (Nat×Std)) (i:Nat):Prop:=∀k,k < i->(∀j,j < k->(l.getD j eh).1=(l.getD k eh).1->(l.getD j eh).2=(l.getD k eh).2)/\(∀s,T (l.getD k eh).1=some s->s=(l.getD k eh).2)
theorem agz {p:Prop} (h:p:=by
 intro wz bR;exact qU):p:=h
theorem lk2 {pc:Nat} {mv:Nat->Value} (HV:Hid (ay w1 vb 230 (qR K p iz))) (HS:Hid (ii w1 iz p.code.length T mv)) (VQ:Hid (∀q s,T q=some s->eI s.ty/\s.lo.length<=1000000000)) (HY:Hid (gV w1 lo sv lv l tP)) (HW:Hid (WOk l)) (hl:l.length<=2) (iM:Hid (∀i,i < l.length->(l.getD i eh).1 < p.code.length))
 (gO:∀(A:Array Value) W,A.getD 4 undef=ι 94->Below w1.heap.size w1 W->¬Cq T l l.length->Q .ret {tmps:=A,defers:=[]} W)
 (eZ:∀(J:Nat->Value) W,J 0=ρ vb->J 1=ι pc->J 8=lv->Below w1.heap.size w1 W->Cq T l l.length->Q (.exit 2) (FK J) W)
 {a:Act} {W:World} (h:L2 w1 vb pc lv l.length (l.length+1) a W):(Code.loop (lkL 1)).wp prog Q a W:=by
 refine Mk.aP (fun m a W=>L2 w1 vb pc lv l.length m a W/\Cq T l (l.length+1 - m)) (l.length+1) ⟨h,fun i hi=>omm⟩ ?_ ?_
 ·rintro a W ⟨⟨J,i,-,-,-,-,-,-,-,h1,h2,-⟩,-⟩;omega
 rintro m a0 W ⟨⟨J,i,rfl,j0,j1,j8,RI,RJ,RK,hi,hm,HB⟩,hA⟩;rw [show l.length+1 - (m+1)=i by omega] at hA;have HA:=ae hA;clear hA;unfold FK
 conv=>arg 2;whnf
 have w2:=ag5 i omm;rw [j0,j1,j8,RI,RJ,RK];clear j0 j1 j8 RI RJ RK;by_cases a8:i < l.length
 ·obtain ⟨b,off,cap,ma,mc,GB,q1,q2,lb,em,c0,c1,c2,c3,c4,c5,c6,c7,c8,c9,VN,VO,VP,nN⟩:=(HY.o.aB (da.ah HB.o)).JM a8;have Di:=ae GB;have dh:=ae a8;have RF:=ae em;rw [em] at nN;have Bp:i<=cap:=omm;clear em GB;obtain ⟨zi,AP⟩:∃z,(l.getD i eh).1=z:=⟨_,rfl⟩;rw [AP] at c0;have Of:=ae AP;clear AP;generalize tO:fH (l.getD i eh).2.ty=tb at*;have qX:=ae tO;generalize Cm:bE (l.getD i eh).2.lo=lc at*;have uy:=ae Cm;generalize Ai:(l.getD i eh).2.ha=ha at*;have JG:=ae Ai;generalize Ae:(l.getD i eh).2.lo.length=ln at*;have oH:=ae Ae;generalize zZ:ln - 8=n8 at*;have Oa:=ae zZ;clear tO Cm Ai Ae zZ;have HCS:=ae (show (sg (l.getD i eh).1 (l.getD i eh).2 (tP i))=#[ι zi,.bool true,.string tb,ι (lc 0),ι (lc 1),ι (lc 2),ι (lc 3),ι (lc 4),ι (lc 5),ι (lc 6),ι (lc 7),ι ln,ι ha,.slice ma n8 mc] by unfold sg;rw [Of.o,qX.o,uy.o,oH.o,JG.o,RF.o]);rw [Di.o];go_wp2_with fail;rw [<-Di.o];refine lk3 (w1:=w1) (pc:=pc) (bx:=W.heap.size) (off:=off) (cap:=cap) HY HW hl dh.o Di (fun A W3 UD wo hex=>?_) (fun J3 W3 j0 j1 j8 tQ RI RJ RK wo hX3 UD=>?_) ⟨_,0,FK.of _ rfl,rfl,rfl,rfl,rfl,rfl,rfl,rfl,rfl,rfl,rfl,afO _,rfl,ae (HB.o.alloc HB.o.size _),ae ⟨HB.o.size,?_⟩⟩
  ·refine gO A W3 UD wo (fun hm=>?_);obtain ⟨j,hj,e1,e2⟩:=hex;exact e2 ((hm i dh.o).1 j hj e1)
  ·unfold FK;rw [j0,j1,j8,tQ,RI,RJ,RK];clear j0 j1 j8 tQ RI RJ RK;have dK:zi < p.code.length:=by rw [<-Of.o];exact iM.o i dh.o
   have zy:=ae UD;have hv:=HV.o.of (wo.block _ HV.o.lt);have v6:W3.cell? (π vb 6)=some iz:=hv.cell 6;have Yi:=hv.lt;have Aj:=(HS.o.aB (da.ah wo));obtain ⟨A,ph,eat,a1,a2,a3,s0,s1,s2,s3,s4,s5,s6,s7,s8,s9,JF,FE,zz⟩:=Aj.RD dK;obtain ⟨ma',mc',RL,-,-⟩:=aV.val (Aj.more zi dK);rw [eat] at v6;rw [RL] at zz;have TS:=ae RL;have hx:=hX3;rw [HCS.o] at hx;obtain ⟨d0,d1,d2,d3,d4,d5,d6,d7,d8,d9,d10,d11,d12,d13⟩:=hx.c14;have lx:=hx.lt;have ki:=ae wo;clear hx hX3 Aj hv eat RL wo UD c0 c1 c2 c3 c4 c5 c6 c7 c8 c9 VN VO VP nN;generalize W.heap.size=bx at*;cases hT:T zi with
   |none=>
    rw [hT] at s0;have HT:=ae hT;clear hT s1 s2 s3 s4 s5 s6 s7 s8 s9 JF FE zz;simp only [Option.isSome_none] at s0;go_wp2_with fail;go_quiet (fail);go_wp2_with fail;refine ⟨⟨_,i+1,FK.of _ rfl,rfl,rfl,(by first|rfl|exact Di.o),(by first|rfl|exact Di.o),rfl,rfl,dh.o,omm,ae (ki.o.trans (au _ _ _))⟩,?_⟩;rw [show l.length+1 - m=i+1 by omega];intro k hk;by_cases e:k=i
    ·subst e;refine ⟨zy.o,fun s hs=>?_⟩;rw [Of.o,HT.o] at hs;cases hs
    ·exact HA.o k omm
   |some s=>
    have HT:=ae hT;have fj:eV T zi=s:=by unfold eV;rw [hT];rfl
    have kV:=ae fj;rw [hT] at s0;rw [fj] at s1 s2 s3 s4 s5 s6 s7 s8 s9 JF FE zz TS;simp only [Option.isSome_some] at s0;have HSM:=ae (fun V (hb:Below w1.heap.size w1 V)=>EK (w:=V) true true (s:=s) (s2:=(l.getD i eh).2) (by rw [<-kV.o];exact ((HS.o.more zi dK).aB (da.ah hb))) ((HY.o.more i dh.o).aB (da.ah hb)) (VQ.o zi s HT.o).1 (HW.o i dh.o).1 (VQ.o zi s HT.o).2 (HW.o i dh.o).2);obtain ⟨dd,wm⟩:∃z,decide (s=(l.getD i eh).2)=z:=⟨_,rfl⟩;rw [wm] at HSM;have TR:=ae wm;rw [RF.o,TS.o] at HSM;unfold cT bU at HSM;rw [qX.o,uy.o,oH.o,JG.o] at HSM;have mU:Hid (∀n,Below w1.heap.size w1 (W3.drewN n)):=ae fun n=>ki.o.trans (au _ _ n);clear hT fj wm;generalize fH s.ty=tb' at*;generalize bE s.lo=lc' at*;generalize s.ha=ha' at*;generalize s.lo.length=ln' at*;generalize ln' - 8=n8' at*;go_wp2_with fail;go_quiet (fail);go_wp2_with fail;refine Mk.bF (S:=fun wx=>Below W3.heap.size W3 wx) krr ((au _ W3 _).trans (au _ _ 1)) (fun al=>?_);generalize World.drew _=V0 at*;refine Mk.tk 0 (v:=?_) rfl ?_ aas ?_;rotate_left
    ·exact agz
    refine Mk.pt ?_;refine Mk.tk 1 (v:=?_) rfl ?_ aas ?_;rotate_left
    ·exact agz
    refine Mk.pt ?_;refine Mk.tk 2 (v:=?_) rfl ?_ aas ?_;rotate_left
    ·exact agz
    refine Mk.pt ?_;refine Mk.tk 3 (v:=?_) rfl ?_ aas ?_;rotate_left
    ·intro wz bR;have key:∀b i v,b < W3.heap.size->W3.cell? (π b i)=some v->wz.cell? (π b i)=some v:=fun b i v hb hc=>(afG (bR.block _ hb)).trans hc;have y0:=key _ _ _ Yi v6;exact qU
    refine Mk.pt ?_;refine Mk.tk 4 (v:=?_) rfl ?_ aas ?_;rotate_left
    ·exact agz
    refine Mk.pt ?_;refine Mk.tk 5 (v:=?_) rfl ?_ aas ?_;rotate_left
    ·intro wz bR;have key:∀b i v,b < W3.heap.size->W3.cell? (π b i)=some v->wz.cell? (π b i)=some v:=fun b i v hb hc=>(afG (bR.block _ hb)).trans hc;have y0:=key _ _ _ lx d0;exact qU
    refine Mk.pt ?_;refine Mk.tk 6 (v:=?_) rfl ?_ aas ?_;rotate_left
    ·exact agz
    refine Mk.pt ?_;refine Mk.tk 7 (v:=?_) rfl ?_ aas ?_;rotate_left
    ·intro wz bR;have key:∀b i v,b < W3.heap.size->W3.cell? (π b i)=some v->wz.cell? (π b i)=some v:=fun b i v hb hc=>(afG (bR.block _ hb)).trans hc;exact qX5
    refine Mk.pt ?_;refine Mk.tk 8 (v:=?_) rfl ?_ aas ?_;rotate_left
    ·exact agz
    refine Mk.pt ?_;refine Mk.tk 9 (v:=?_) rfl ?_ aas ?_;rotate_left
    ·intro wz bR;have key:∀b i v,b < W3.heap.size->W3.cell? (π b i)=some v->wz.cell? (π b i)=some v:=fun b i v hb hc=>(afG (bR.block _ hb)).trans hc;have y0:=key _ _ _ lx d1;have y1:=key _ _ _ lx d2;have y2:=key _ _ _ lx d3;have y3:=key _ _ _ lx d4;have y4:=key _ _ _ lx d5;have y5:=key _ _ _ lx d6;have y6:=key _ _ _ lx d7;have y7:=key _ _ _ lx d8;have y8:=key _ _ _ lx d9;have y9:=key _ _ _ lx d10;have y10:=key _ _ _ lx d11;have y11:=key _ _ _ lx d12;have y12:=key _ _ _ lx d13;exact qU
    refine Mk.pt ?_;refine afR (rs:=[10]) krr smm ?_;refine afJ rfl (fun K hK=>?_) af1;refine QX ?_;go_simp;go_at_call 248
    with_reducible refine (HSM.o _ (ki.o.trans (al.mono ki.o.size))).mono ?_
    rintro e w5 ⟨rfl,BG⟩;have Dc:=al.trans (BG.mono al.size);clear al;refine hK.out _ _ Dc (fun al=>?_);clear hK K;refine Mk.pt ?_;refine Mk.tk 11 (v:=?_) rfl ?_ aas ?_;rotate_left
    ·exact agz
    refine Mk.pt ?_;refine afZ krr ⟨rfl,?_⟩ _;clear al;cases dd with
    |false=>go_wp2_with fail;refine gO _ _ rfl (ki.o.trans (Dc.mono ki.o.size)) (fun hm=>?_);have h2:=TR.o;rw [agc] at h2;exact h2 ((hm i dh.o).2 s (by rw [Of.o];exact HT.o))
    |true=>
     go_wp2_with fail;refine ⟨⟨_,i+1,FK.of _ rfl,rfl,rfl,(by first|rfl|exact Di.o),(by first|rfl|exact Di.o),rfl,rfl,dh.o,omm,ae (ki.o.trans (Dc.mono ki.o.size))⟩,?_⟩;rw [show l.length+1 - m=i+1 by omega];intro k hk;by_cases e:k=i
     ·subst e;refine ⟨zy.o,fun s' hs=>?_⟩;rw [Of.o,HT.o] at hs;cases hs;exact agi TR.o
     ·exact HA.o k omm
  ·rw [HCS.o];exact ay.new _ _ _
 ·obtain rfl:i=l.length:=omm;clear a8;go_wp2_with fail;exact Eq.mpr (afK (fun a=>Q (.exit 2) a W) (FK.of _ rfl)) (eZ _ _ rfl rfl rfl HB.o HA.o)
theorem pP {W W':World} {S:List Nat} {size n:Nat} {v:Value} {g:Nat->Value} (h:aV W size v n g) (f:da S W W') (hb:∀b,v.ownBlock=some b->b∉S):aV W' size v n g:=by
 rcases h with h|⟨a,cap,rfl,h1,h2,h3⟩
 ·exact .inl h
 ·refine .inr ⟨a,cap,rfl,h1,h2,fun o ho=>⟨(h3 o ho).1,?_⟩⟩;have hc:=(h3 o ho).2;refine Eq.trans ?_ hc;exact afG (f.block a.block (aS hc) (hb _ rfl))
theorem PP {W:World} {E:TypeId} {A cap n z:Nat} {g:Nat->Value} (h:Row W E 13 (.slice (some (π A 0)) n cap) n g) (hz:z < n) (v0 v1 v2 v3 v4 v5 v6 v7 v8 v9 v10 v11 v12:Value):
 Row (((((((((((((W.setCell (π A (z*13)) (v0)).setCell (π A (z*13+1)) (v1)).setCell (π A (z*13+2)) (v2)).setCell (π A (z*13+3)) (v3)).setCell (π A (z*13+4)) (v4)).setCell (π A (z*13+5)) (v5)).setCell (π A (z*13+6)) (v6)).setCell (π A (z*13+7)) (v7)).setCell (π A (z*13+8)) (v8)).setCell (π A (z*13+9)) (v9)).setCell (π A (z*13+10)) (v10)).setCell (π A (z*13+11)) (v11)).setCell (π A (z*13+12)) (v12)) E 13 (.slice (some (π A 0)) n cap) n (fun o=>if o / 13=z then #[v0,v1,v2,v3,v4,v5,v6,v7,v8,v9,v10,v11,v12].getD (o % 13) undef else g o):=by
 refine Row.congr (((((((((((((h.set (o:=z*13) omm v0).set (o:=z*13+1) omm v1).set (o:=z*13+2) omm v2).set (o:=z*13+3) omm v3).set (o:=z*13+4) omm v4).set (o:=z*13+5) omm v5).set (o:=z*13+6) omm v6).set (o:=z*13+7) omm v7).set (o:=z*13+8) omm v8).set (o:=z*13+9) omm v9).set (o:=z*13+10) omm v10).set (o:=z*13+11) omm v11).set (o:=z*13+12) omm v12) ?_;intro o ho;by_cases e:o / 13=z
 ·rw [afE e];obtain ⟨k,hk,rfl⟩:∃k,k < 13/\o=z*13+k:=⟨o % 13,omm,omm⟩;rw [show (z*13+k) % 13=k by omega];have:k=0\/k=1\/k=2\/k=3\/k=4\/k=5\/k=6\/k=7\/k=8\/k=9\/k=10\/k=11\/k=12:=omm;rcases this with rfl|rfl|rfl|rfl|rfl|rfl|rfl|rfl|rfl|rfl|rfl|rfl|rfl<;>simp
 ·rw [abH e]
  repeat rw [abH omm]
theorem PQ {W:World} {A z:Nat} (v0 v1 v2 v3 v4 v5 v6 v7 v8 v9 v10 v11 v12:Value):da [A] W (((((((((((((W.setCell (π A (z*13)) (v0)).setCell (π A (z*13+1)) (v1)).setCell (π A (z*13+2)) (v2)).setCell (π A (z*13+3)) (v3)).setCell (π A (z*13+4)) (v4)).setCell (π A (z*13+5)) (v5)).setCell (π A (z*13+6)) (v6)).setCell (π A (z*13+7)) (v7)).setCell (π A (z*13+8)) (v8)).setCell (π A (z*13+9)) (v9)).setCell (π A (z*13+10)) (v10)).setCell (π A (z*13+11)) (v11)).setCell (π A (z*13+12)) (v12)):=
 ((((((((((((((da.refl [A] W).setCell (p:=(π A (z*13))) smm v0).setCell (p:=(π A (z*13+1))) smm v1).setCell (p:=(π A (z*13+2))) smm v2).setCell (p:=(π A (z*13+3))) smm v3).setCell (p:=(π A (z*13+4))) smm v4).setCell (p:=(π A (z*13+5))) smm v5).setCell (p:=(π A (z*13+6))) smm v6).setCell (p:=(π A (z*13+7))) smm v7).setCell (p:=(π A (z*13+8))) smm v8).setCell (p:=(π A (z*13+9))) smm v9).setCell (p:=(π A (z*13+10))) smm v10).setCell (p:=(π A (z*13+11))) smm v11).setCell (p:=(π A (z*13+12))) smm v12)
theorem ii.put {W:World} {A cap n z:Nat} {mv:Nat->Value} {s:Std} {mz:Value} (h:ii W (.slice (some (π A 0)) n cap) n T mv) (hz:z < n) (hm:cZ W mz s.lo) (ho:∀b,mz.ownBlock=some b->b≠A) {W':World}
 (e:W'=(((((((((((((W.setCell (π A (z*13)) ((bU true s mz).getD 0 undef)).setCell (π A (z*13+1)) ((bU true s mz).getD 1 undef)).setCell (π A (z*13+2)) ((bU true s mz).getD 2 undef)).setCell (π A (z*13+3)) ((bU true s mz).getD 3 undef)).setCell (π A (z*13+4)) ((bU true s mz).getD 4 undef)).setCell (π A (z*13+5)) ((bU true s mz).getD 5 undef)).setCell (π A (z*13+6)) ((bU true s mz).getD 6 undef)).setCell (π A (z*13+7)) ((bU true s mz).getD 7 undef)).setCell (π A (z*13+8)) ((bU true s mz).getD 8 undef)).setCell (π A (z*13+9)) ((bU true s mz).getD 9 undef)).setCell (π A (z*13+10)) ((bU true s mz).getD 10 undef)).setCell (π A (z*13+11)) ((bU true s mz).getD 11 undef)).setCell (π A (z*13+12)) ((bU true s mz).getD 12 undef))):
 ii W' (.slice (some (π A 0)) n cap) n (aL T z (some s)) (aL mv z mz)/\da [A] W W':=by
 subst e;have f:=PQ (W:=W) (A:=A) (z:=z) ((bU true s mz).getD 0 undef) ((bU true s mz).getD 1 undef) ((bU true s mz).getD 2 undef) ((bU true s mz).getD 3 undef) ((bU true s mz).getD 4 undef) ((bU true s mz).getD 5 undef) ((bU true s mz).getD 6 undef) ((bU true s mz).getD 7 undef) ((bU true s mz).getD 8 undef) ((bU true s mz).getD 9 undef) ((bU true s mz).getD 10 undef) ((bU true s mz).getD 11 undef) ((bU true s mz).getD 12 undef);refine ⟨⟨(PP h.row hz _ _ _ _ _ _ _ _ _ _ _ _ _).congr fun o ho=>?_,fun i hi=>?_,fun i hi b hb=>?_⟩,f⟩
 ·unfold stC;by_cases e:o / 13=z
  ·rw [afE e,e,an,show eV (aL T z (some s)) z=s by unfold eV;rw [an];rfl,an];have hk:o % 13 < 13:=Nat.mod_lt _ omm;generalize o % 13=k at*;have:k=0\/k=1\/k=2\/k=3\/k=4\/k=5\/k=6\/k=7\/k=8\/k=9\/k=10\/k=11\/k=12:=omm;rcases this with rfl|rfl|rfl|rfl|rfl|rfl|rfl|rfl|rfl|rfl|rfl|rfl|rfl<;>rfl
  ·rw [abH e,aj _ _ e,show eV (aL T z (some s)) (o / 13)=eV T (o / 13) by unfold eV;rw [aj _ _ e],aj _ _ e]
 ·by_cases e:i=z
  ·subst e;rw [an,show eV (aL T i (some s)) i=s by unfold eV;rw [an];rfl];exact pP hm f (fun b hb=>by simpa using ho b hb)
  ·rw [aj _ _ e,show eV (aL T z (some s)) i=eV T i by unfold eV;rw [aj _ _ e]];exact pP (h.more i hi) f (fun b hb=>by have:=h.off i hi b hb;simp;intro e;subst e;exact this rfl)
 ·by_cases e:i=z
  ·subst e;rw [an] at hb;intro h2;exact ho b hb (af0 h2).symm
  ·rw [aj _ _ e] at hb;exact h.off i hi b hb
theorem yA:∀(l:List (Nat×Std)) (T:Map) (w:Nat×Std),oP T (l++[w])=aL (oP T l) w.1 (some w.2)
 |[],_,_=>rfl
 |_::l,T,w=>yA l _ w
theorem IR {l:List (Nat×Std)} (T:Map) {i:Nat} (h:i < l.length):oP T (l.take (i+1))=aL (oP T (l.take i)) (l.getD i eh).1 (some (l.getD i eh).2):=by rw [agA h,yA,afS,afP h];rfl
def L4 (w1:World) (vb:Nat) (A cap n:Nat) (lv:Value) (T:Map) (l:List (Nat×Std)) (m:Nat) (a:Act) (W:World):Prop:=
 ∃(J:Nat->Value) (i:Nat),a=FK J/\J 0=ρ vb/\J 139=lv/\J 140=ι l.length/\J 141=ι i/\i<=l.length/\m+i=l.length+1/\Hid (da [A] w1 W)/\∃mv,Hid (ii W (.slice (some (π A 0)) n cap) n (oP T (l.take i)) mv)
theorem lk4 {A ER:Nat} (HV:Hid (ay w1 vb 230 (qR K p (.slice (some (π A 0)) p.code.length ER)))) (sd:Hid (vb≠A)) (HY:Hid (gV w1 lo sv lv l tP)) (ES:Hid (∀b,lv.ownBlock=some b->b≠A)) (PR:Hid (∀i,i < l.length->∀b,(tP i).ownBlock=some b->b≠A)) (hA:A < w1.heap.size) (hl:l.length<=2) (iM:Hid (∀i,i < l.length->(l.getD i eh).1 < p.code.length))
 (eZ:∀(J:Nat->Value) W mv,da [A] w1 W->ii W (.slice (some (π A 0)) p.code.length ER) p.code.length (oP T l) mv->Q (.exit 6) (FK J) W)
 {a:Act} {W:World} (h:L4 w1 vb A ER p.code.length lv T l (l.length+1) a W):(Code.loop (lkL 2)).wp prog Q a W:=by
 refine Mk.aP (fun m a W=>L4 w1 vb A ER p.code.length lv T l m a W) (l.length+1) h ?_ ?_
 ·rintro a W ⟨J,i,-,-,-,-,-,h1,h2,-⟩;omega
 rintro m a0 W ⟨J,i,rfl,j0,Yo,Yp,Yq,hi,hm,HB,mv,HS⟩;unfold FK
 conv=>arg 2;whnf
 have w2:=ag5 i omm;rw [j0,Yo,Yp,Yq];clear j0 Yo Yp Yq;by_cases a8:i < l.length
 ·have HY':gV W lo sv lv l tP:=⟨pP HY.o.row HB.o (fun b hb=>by have:=ES.o b hb;simpa using this),fun i hi=>pP (HY.o.more i hi) HB.o (fun b hb=>by have:=PR.o i hi b hb;simpa using this),HY.o.off⟩;have HYW:=ae HY';obtain ⟨b,off,cap,ma,mc,GB,q1,q2,lb,em,c0,c1,c2,c3,c4,c5,c6,c7,c8,c9,VN,VO,VP,nN⟩:=HY'.JM a8;have Di:=ae GB;have dh:=ae a8;have RF:=ae em;rw [em] at nN;have hv:ay W vb 230 (qR K p (.slice (some (π A 0)) p.code.length ER)):=HV.o.aB HB.o (by have:=sd.o;simpa using this);have v6:W.cell? (π vb 6)=some (.slice (some (π A 0)) p.code.length ER):=hv.cell 6;have Yi:=hv.lt;have hAW:A < W.heap.size:=by have:=HB.o.size;omega
  have tM:∀o,W.frozen? (π A o)=false:=fun o=>HS.o.row.frozen o;have dK:=iM.o i a8;clear em GB hv HY';obtain ⟨zi,AP⟩:∃z,(l.getD i eh).1=z:=⟨_,rfl⟩;rw [AP] at c0 dK;have Of:=ae AP;clear AP;generalize tO:fH (l.getD i eh).2.ty=tb at*;have qX:=ae tO;generalize Cm:bE (l.getD i eh).2.lo=lc at*;have uy:=ae Cm;generalize Ai:(l.getD i eh).2.ha=ha at*;have JG:=ae Ai;generalize Ae:(l.getD i eh).2.lo.length=ln at*;have oH:=ae Ae;generalize zZ:ln - 8=n8 at*;have Oa:=ae zZ;clear tO Cm Ai Ae zZ;have HCS:=ae (show (bU true (l.getD i eh).2 (tP i))=#[.bool true,.string tb,ι (lc 0),ι (lc 1),ι (lc 2),ι (lc 3),ι (lc 4),ι (lc 5),ι (lc 6),ι (lc 7),ι ln,ι ha,.slice ma n8 mc] by unfold bU;rw [qX.o,uy.o,oH.o,JG.o,RF.o]);have IS:=ae (fun (W3:World) (hb:Below W.heap.size W W3)=>ii.put (W:=W3) (mv:=mv) (HS.o.aB (da.ah hb)) dK (HYW.o.more i dh.o |>.aB (da.ah hb)) (fun b hb=>PR.o i dh.o b hb) rfl);have dC:=ae ((afL W.heap.size W).alloc (afF _) (.cells #[ι zi,.bool true,.string tb,ι (lc 0),ι (lc 1),ι (lc 2),ι (lc 3),ι (lc 4),ι (lc 5),ι (lc 6),ι (lc 7),ι ln,ι ha,.slice ma n8 mc] 279));have hold:∀k,k < 13->∃v,W.cell? (π A (zi*13+k))=some v:=fun k hk=>⟨_,HS.o.row.cell (o:=zi*13+k) omm⟩;obtain ⟨u0,o0⟩:=hold 0 omm;obtain ⟨u1,o1⟩:=hold 1 omm;obtain ⟨u2,o2⟩:=hold 2 omm;obtain ⟨u3,o3⟩:=hold 3 omm;obtain ⟨u4,o4⟩:=hold 4 omm;obtain ⟨u5,o5⟩:=hold 5 omm;obtain ⟨u6,o6⟩:=hold 6 omm;obtain ⟨u7,o7⟩:=hold 7 omm;obtain ⟨u8,o8⟩:=hold 8 omm;obtain ⟨u9,o9⟩:=hold 9 omm;obtain ⟨u10,VR⟩:=hold 10 omm;obtain ⟨u11,VS⟩:=hold 11 omm;obtain ⟨u12,VT⟩:=hold 12 omm;have aaD:=ae (And.intro o0 (And.intro o1 (And.intro o2 (And.intro o3 (And.intro o4 (And.intro o5 (And.intro o6 (And.intro o7 (And.intro o8 (And.intro o9 (And.intro VR (And.intro VS (VT)))))))))))));clear hold tM o0 o1 o2 o3 o4 o5 o6 o7 o8 o9 VR VS VT;have kx:ay (W.alloc (.cells #[ι zi,.bool true,.string tb,ι (lc 0),ι (lc 1),ι (lc 2),ι (lc 3),ι (lc 4),ι (lc 5),ι (lc 6),ι (lc 7),ι ln,ι ha,.slice ma n8 mc] 279)) W.heap.size 279 #[ι zi,.bool true,.string tb,ι (lc 0),ι (lc 1),ι (lc 2),ι (lc 3),ι (lc 4),ι (lc 5),ι (lc 6),ι (lc 7),ι ln,ι ha,.slice ma n8 mc]:=ay.new _ _ _;rw [Di.o];go_wp2_with fail;obtain ⟨W1,Ak⟩:∃W1,W1=W.alloc (.cells #[ι zi,.bool true,.string tb,ι (lc 0),ι (lc 1),ι (lc 2),ι (lc 3),ι (lc 4),ι (lc 5),ι (lc 6),ι (lc 7),ι ln,ι ha,.slice ma n8 mc] 279):=⟨_,rfl⟩;rw [<-Ak] at kx dC ⊢;obtain ⟨d0,d1,d2,d3,d4,d5,d6,d7,d8,d9,d10,d11,d12,d13⟩:=kx.c14;have v6':W1.cell? (π vb 6)=some (.slice (some (π A 0)) p.code.length ER):=(afG (dC.o.block _ Yi)).trans v6;clear Ak kx v6 c0 c1 c2 c3 c4 c5 c6 c7 c8 c9 VN VO VP nN;generalize eO:W.heap.size=bx at*;have jg:=ae eO;clear eO
  go_still_tail 9,krr
  change wpList _ _ _ _ _ (World.drewN _ 1);have dQ:=dC.o.trans (au _ W1 1);generalize World.drewN _ 1=V0 at*;have key:∀o v,W.cell? (π A o)=some v->V0.cell? (π A o)=some v:=fun o v h=>(afG (dQ.block _ hAW)).trans h;obtain ⟨o0,o1,o2,o3,o4,o5,o6,o7,o8,o9,VR,VS,VT⟩:=aaD.o;replace o0:=key _ _ o0;replace o1:=key _ _ o1;replace o2:=key _ _ o2;replace o3:=key _ _ o3;replace o4:=key _ _ o4;replace o5:=key _ _ o5;replace o6:=key _ _ o6;replace o7:=key _ _ o7;replace o8:=key _ _ o8;replace o9:=key _ _ o9;replace VR:=key _ _ VR;replace VS:=key _ _ VS;replace VT:=key _ _ VT;have HP9:=ae (IS.o V0 dQ);rw [<-jg.o] at dQ;have tM:∀o,V0.frozen? (π A o)=false:=fun o=>(HS.o.row.aB (da.ah (S:=[]) dQ) smm).frozen o;simp only [Nat.add_zero] at o0;rw [HCS.o] at HP9;have gp:=ae dQ;clear key IS dQ;go_wp2_with fail
  try rw [<-Di.o]
  refine ⟨_,i+1,FK.of _ rfl,rfl,(by first|rfl|exact Di.o),rfl,rfl,dh.o,omm,ae (HB.o.trans ((da.ah gp.o).trans (HP9.o.2))),aL mv zi (tP i),ae ?_⟩;rw [IR T dh.o,Of.o];exact HP9.o.1
 ·obtain rfl:i=l.length:=omm;clear a8;go_wp2_with fail;exact Eq.mpr (afK (fun a=>Q (.exit 6) a W) (FK.of _ rfl)) (eZ _ _ mv HB.o (by have:=HS.o;rw [List.take_length] at this;exact this))
end
end Go.Proofs.YtblkblclmbhjiaaGreat.Vf
