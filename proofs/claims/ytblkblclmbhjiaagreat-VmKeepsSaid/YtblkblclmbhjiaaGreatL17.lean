/- Of the proof that VmKeeps holds: a key keeps its node, what traps leaves no trace. No condition. -/
import Derived.Test.YtblkblclmbhjiaaGreatL16
set_option linter.unusedVariables false
set_option linter.unusedSimpArgs false
set_option maxHeartbeats 40000000
set_option maxRecDepth 100000
namespace Go.Proofs.YtblkblclmbhjiaaGreat.Vf
open Go.RowKit ak.Vm
open ak hiding aL an aj
open Ma (dx bQ aU vb aA aQ)
def kQ:Code->List Code
 | .loop c=>[c]
 | .seq a b=>kQ a++kQ b
 | .block _ c=>kQ c
 | .scope c=>kQ c
 | .cond _ a b=>kQ a++kQ b
 |_=>[]
noncomputable def lkL (k:Nat):Code:=((kQ (Tryz.f173.body.getD .skip))[k]?).getD .skip
def FK (J:Nat->Value):Act:={tmps:=#[J 0,J 1,J 2,J 3,J 4,J 5,J 6,J 7,J 8,J 9,J 10,J 11,J 12,J 13,J 14,J 15,J 16,J 17,J 18,J 19,J 20,J 21,J 22,J 23,J 24,J 25,J 26,J 27,J 28,J 29,J 30,J 31,J 32,J 33,J 34,J 35,J 36,J 37,J 38,J 39,J 40,J 41,J 42,J 43,J 44,J 45,J 46,J 47,J 48,J 49,J 50,J 51,J 52,J 53,J 54,J 55,J 56,J 57,J 58,J 59,J 60,J 61,J 62,J 63,J 64,J 65,J 66,J 67,J 68,J 69,J 70,J 71,J 72,J 73,J 74,J 75,J 76,J 77,J 78,J 79,J 80,J 81,J 82,J 83,J 84,J 85,J 86,J 87,J 88,J 89,J 90,J 91,J 92,J 93,J 94,J 95,J 96,J 97,J 98,J 99,J 100,J 101,J 102,J 103,J 104,J 105,J 106,J 107,J 108,J 109,J 110,J 111,J 112,J 113,J 114,J 115,J 116,J 117,J 118,J 119,J 120,J 121,J 122,J 123,J 124,J 125,J 126,J 127,J 128,J 129,J 130,J 131,J 132,J 133,J 134,J 135,J 136,J 137,J 138,J 139,J 140,J 141,J 142,J 143,J 144,J 145,J 146,J 147,J 148,J 149,J 150,J 151,J 152,J 153,J 154,J 155,J 156],defers:=[]}
theorem FK.of (A:Array Value) (h:A=(FK fun k=>A.getD k undef).tmps):({tmps:=A,defers:=[]}:Act)=FK fun k=>A.getD k undef:=by rw [h];rfl
section
variable {w1:World} {K:Kp} {p:aO} {iz:Value} {vb:Nat} {T:Map} {lo:Nat} {sv lv:Value} {l:List (Nat×Std)} {tP:Nat->Value} {Q:Exit->Act->World->Prop}
theorem gV.JM {W:World} (h:gV W lo sv lv l tP) {i:Nat} (hi:i < l.length):∃b off cap ma mc,lv= .slice (some (π b off)) l.length cap/\l.length<=cap/\cap<=maxLen/\b < W.heap.size/\tP i= .slice ma ((l.getD i eh).2.lo.length - 8) mc/\
 W.cell? (π b (off+i*14))=some (ι (l.getD i eh).1)/\W.cell? (π b (off+i*14+1))=some (.bool true)/\W.cell? (π b (off+i*14+2))=some (.string (fH (l.getD i eh).2.ty))/\W.cell? (π b (off+i*14+3))=some (ι (bE (l.getD i eh).2.lo 0))/\W.cell? (π b (off+i*14+4))=some (ι (bE (l.getD i eh).2.lo 1))/\W.cell? (π b (off+i*14+5))=some (ι (bE (l.getD i eh).2.lo 2))/\W.cell? (π b (off+i*14+6))=some (ι (bE (l.getD i eh).2.lo 3))/\W.cell? (π b (off+i*14+7))=some (ι (bE (l.getD i eh).2.lo 4))/\W.cell? (π b (off+i*14+8))=some (ι (bE (l.getD i eh).2.lo 5))/\W.cell? (π b (off+i*14+9))=some (ι (bE (l.getD i eh).2.lo 6))/\W.cell? (π b (off+i*14+10))=some (ι (bE (l.getD i eh).2.lo 7))/\W.cell? (π b (off+i*14+11))=some (ι (l.getD i eh).2.lo.length)/\W.cell? (π b (off+i*14+12))=some (ι (l.getD i eh).2.ha)/\W.cell? (π b (off+i*14+13))=some (tP i):=by
 obtain ⟨b,off,cap,rfl,h1,h2,h3,hc⟩:=h.row.some (by omega) (by omega);obtain ⟨ma,mc,hm,-,-⟩:=aV.val (h.more i hi);have key:∀k,k < 14->W.cell? (π b (off+i*14+k))=some ((sg (l.getD i eh).1 (l.getD i eh).2 (tP i)).getD k undef):=fun k hk=>by have e:=hc (i*14+k) (by omega);rw [<-Nat.add_assoc] at e;rw [e];unfold wyC;rw [show (i*14+k) / 14=i by omega,show (i*14+k) % 14=k by omega]
 exact ⟨b,off,cap,ma,mc,rfl,h1,h2,h3,hm,key 0 (by omega),key 1 (by omega),key 2 (by omega),key 3 (by omega),key 4 (by omega),key 5 (by omega),key 6 (by omega),key 7 (by omega),key 8 (by omega),key 9 (by omega),key 10 (by omega),key 11 (by omega),key 12 (by omega),key 13 (by omega)⟩
theorem gV.aB {W W':World} (h:gV W lo sv lv l tP) (f:ax [] W W'):gV W' lo sv lv l tP:=⟨h.row.aB f,fun i hi=>(h.more i hi).aB f,h.off⟩
def L1 (w1:World) (vb:Nat) (pc:Nat) (lv:Value) (n:Nat) (m:Nat) (a:Act) (W:World):Prop:=
 ∃(J:Nat->Value) (i:Nat),a=FK J/\J 0=ρ vb/\J 1=ι pc/\J 8=lv/\J 71=lv/\J 72=ι n/\J 73=ι i/\i<=n/\m+i=n+1/\Hid (Below w1.heap.size w1 W)
theorem lk1 {pc:Nat} (HP:Hid (fP w1 K p)) (HV:Hid (ay w1 vb 230 (qR K p iz))) (HY:Hid (gV w1 lo sv lv l tP)) (hl:l.length<=2)
 (gO:∀(A:Array Value) W,A.getD 4 undef=ι 98->Below w1.heap.size w1 W->(∃i,i < l.length/\p.code.length<=(l.getD i eh).1)->Q .ret {tmps:=A,defers:=[]} W)
 (eZ:∀(J:Nat->Value) W,J 0=ρ vb->J 1=ι pc->J 8=lv->Below w1.heap.size w1 W->(∀i,i < l.length->(l.getD i eh).1 < p.code.length)->Q (.exit 0) (FK J) W)
 {a:Act} {W:World} (h:L1 w1 vb pc lv l.length (l.length+1) a W):(Code.loop (lkL 0)).wp Tryz.prog Q a W:=by
 refine Mk.aP (fun m a W=>L1 w1 vb pc lv l.length m a W/\∀i,i+m<=l.length->(l.getD i eh).1 < p.code.length) (l.length+1) ⟨h,fun i hi=>by omega⟩ ?_ ?_
 ·rintro a W ⟨⟨J,i,-,-,-,-,-,-,-,h1,h2,-⟩,-⟩;omega
 rintro m a0 W ⟨⟨J,i,rfl,j0,j1,j8,Yf,Yg,Yh,hi,hm,HB⟩,hA⟩;have FO:∀k,k < i->(l.getD k eh).1 < p.code.length:=fun k hk=>hA k (by omega);have HA:=ae FO;clear hA FO;unfold FK
 conv=>arg 2;whnf
 have w2:IntKind.i64.wrap ((i:Int)+1)=((i+1:Nat):Int):=by rw [IntWalk.i64_in _ (by constructor<;>omega)];omega
 rw [j0,j1,j8,Yf,Yg,Yh];have HJ:=ae (And.intro j0 (And.intro j1 j8));clear j0 j1 j8 Yf Yg Yh;by_cases a8:i < l.length
 ·obtain ⟨b,off,cap,ma,mc,GB,q1,q2,lb,em,c0,c1,c2,c3,c4,c5,c6,c7,c8,c9,VN,VO,VP,nN⟩:=(HY.o.aB (ax.ah HB.o)).JM a8;rw [em] at nN;have RF:=ae em;have HE:=ae GB;have hv:=HV.o.of (HB.o.block _ HV.o.lt);have v5:W.cell? (π vb 5)=some K.c:=hv.cell 5;obtain ⟨ca,cc,kc,-,-⟩:=aV.val HP.o.cd;rw [kc] at v5;have Yi:=hv.lt;have dA:(l.getD i eh).1 < p.code.length\/p.code.length<=(l.getD i eh).1:=by omega
  have RH:=ae (show ∀z,(l.getD i eh).1=z->(p.code.length<=z->∃i,i < l.length/\p.code.length<=(l.getD i eh).1)/\(z < p.code.length->∀k,k < i+1->(l.getD k eh).1 < p.code.length) from fun z hz=>⟨fun hh=>⟨i,a8,by omega⟩,fun hh k hk=>by
   by_cases e:k=i
   ·subst e;omega
   ·exact HA.o k (by omega)⟩)
  obtain ⟨z,hz⟩:∃z,(l.getD i eh).1=z:=⟨_,rfl⟩;have HWB:=ae (RH.o z hz);rw [hz] at dA c0;clear em GB hv RH hz kc;generalize fH (l.getD i eh).2.ty=tb at*;generalize bE (l.getD i eh).2.lo=lc at*;generalize (l.getD i eh).2.ha=ha at*;generalize (l.getD i eh).2.lo.length=ln at*;generalize zZ:ln - 8=n8 at*;have Oa:=ae zZ;clear zZ;rw [HE.o];rcases dA with dA|dA
  ·go_wp2_with fail;go_quiet (fail);go_wp2_with fail;refine ⟨⟨_,i+1,FK.of _ rfl,rfl,rfl,rfl,rfl,rfl,rfl,a8,by omega,ae ((HB.o.alloc HB.o.size _).trans (au _ _ _))⟩,fun k hk=>(HWB.o.2 dA k (by omega))⟩
  ·go_wp2_with fail;go_quiet (fail);go_wp2_with fail;exact gO _ _ rfl ((HB.o.alloc HB.o.size _).trans (au _ _ _)) (HWB.o.1 dA)
 ·obtain rfl:i=l.length:=by omega
  clear a8;go_wp2_with fail;exact Eq.mpr (congrArg (fun a=>Q (.exit 0) a W) (FK.of _ rfl)) (eZ _ _ rfl rfl rfl HB.o HA.o)
noncomputable def lkI:Code:=((kQ (lkL 1))[0]?).getD .skip
def WOk (l:List (Nat×Std)):Prop:=∀i,i < l.length->eI (l.getD i eh).2.ty/\(l.getD i eh).2.lo.length<=1000000000
def L3 (w1:World) (vb:Nat) (pc:Nat) (lv:Value) (l:List (Nat×Std)) (tP:Nat->Value) (i bx:Nat) (sv:Value) (m:Nat) (a:Act) (W:World):Prop:=
 ∃(J:Nat->Value) (j:Nat),a=FK J/\J 0=ρ vb/\J 1=ι pc/\J 8=lv/\J 12=ρ bx/\J 87=lv/\J 88=ι l.length/\J 89=ι i/\J 96=sv/\J 97=ι i/\J 98=ι j/\j<=i/\m+j=i+1/\Hid (Below w1.heap.size w1 W)/\Hid (w1.heap.size<=bx/\ay W bx 279 (sg (l.getD i eh).1 (l.getD i eh).2 (tP i)))
theorem lk3 {pc i bx b off cap:Nat} (HY:Hid (gV w1 lo sv lv l tP)) (HW:Hid (WOk l)) (hl:l.length<=2) (N_:i < l.length) (Di:Hid (lv= .slice (some (π b off)) l.length cap))
 (gO:∀(A:Array Value) W,A.getD 4 undef=ι 94->Below w1.heap.size w1 W->(∃j,j < i/\(l.getD j eh).1=(l.getD i eh).1/\(l.getD j eh).2≠(l.getD i eh).2)->Q .ret {tmps:=A,defers:=[]} W)
 (eZ:∀(J:Nat->Value) W,J 0=ρ vb->J 1=ι pc->J 8=lv->J 12=ρ bx->J 87=lv->J 88=ι l.length->J 89=ι i->Below w1.heap.size w1 W->ay W bx 279 (sg (l.getD i eh).1 (l.getD i eh).2 (tP i))->(∀j,j < i->(l.getD j eh).1=(l.getD i eh).1->(l.getD j eh).2=(l.getD i eh).2)->Q (.exit 4) (FK J) W)
 {a:Act} {W:World} (h:L3 w1 vb pc lv l tP i bx (.slice (some (π b off)) i cap) (i+1) a W):(Code.loop lkI).wp Tryz.prog Q a W:=by
 refine Mk.aP (fun m a W=>L3 w1 vb pc lv l tP i bx (.slice (some (π b off)) i cap) m a W/\∀j,j+m<=i->(l.getD j eh).1=(l.getD i eh).1->(l.getD j eh).2=(l.getD i eh).2) (i+1) ⟨h,fun i hi=>by omega⟩ ?_ ?_
 ·rintro a W ⟨⟨J,j,-,-,-,-,-,-,-,-,-,-,-,h1,h2,-⟩,-⟩;omega
 rintro m a0 W ⟨⟨J,j,rfl,j0,j1,j8,tQ,RI,RJ,RK,j96,j97,j98,hj,hm,HB,HX⟩,hA⟩;have FO:∀k,k < j->(l.getD k eh).1=(l.getD i eh).1->(l.getD k eh).2=(l.getD i eh).2:=fun k hk=>hA k (by omega);have HA:=ae FO;clear hA FO;unfold FK
 conv=>arg 2;whnf
 have w2:IntKind.i64.wrap ((j:Int)+1)=((j+1:Nat):Int):=by rw [IntWalk.i64_in _ (by constructor<;>omega)];omega
 rw [j0,j1,j8,tQ,RI,RJ,RK,j96,j97,j98];clear j0 j1 j8 tQ RI RJ RK j96 j97 j98;by_cases a8:j < i
 ·obtain ⟨b',TQ,mI,ma,mc,GB,q1,q2,lb,em,c0,c1,c2,c3,c4,c5,c6,c7,c8,c9,VN,VO,VP,nN⟩:=(HY.o.aB (ax.ah HB.o)).JM (i:=j) (by omega);obtain ⟨-,-,-,ma',mc',-,-,-,-,RL,-⟩:=(HY.o.aB (ax.ah HB.o)).JM N_;rw [Di.o] at GB;simp only [Value.slice.injEq,Option.some.injEq,Addr.mk.injEq] at GB;obtain ⟨⟨rfl,rfl,-⟩,-,rfl⟩:=GB;have qt:∀k,W.cell? (π bx k)=(sg (l.getD i eh).1 (l.getD i eh).2 (tP i))[k]? :=fun k=>HX.o.2.cell k;have lx:=HX.o.2.lt;have Oe:=HX.o.1;rw [RL] at qt;have d0:=qt 0;have d1:=qt 1;have d2:=qt 2;have d3:=qt 3;have d4:=qt 4;have d5:=qt 5;have d6:=qt 6;have d7:=qt 7;have d8:=qt 8;have d9:=qt 9;have d10:=qt 10;have d11:=qt 11;have d12:=qt 12;have d13:=qt 13;clear qt;unfold sg at d0 d1 d2 d3 d4 d5 d6 d7 d8 d9 d10 d11 d12 d13;simp only [List.getElem?_toArray,List.getElem?_cons_zero,List.getElem?_cons_succ] at d0 d1 d2 d3 d4 d5 d6 d7 d8 d9 d10 d11 d12 d13;have xl:=ae (fun V (hb:Below w1.heap.size w1 V)=>EK (w:=V) true true ((HY.o.more j (by omega)).aB (ax.ah hb)) ((HY.o.more i N_).aB (ax.ah hb)) (HW.o j (by omega)).1 (HW.o i N_).1 (HW.o j (by omega)).2 (HW.o i N_).2);have wm:∃z,decide ((l.getD j eh).2=(l.getD i eh).2)=z:=⟨_,rfl⟩;obtain ⟨dd,wm⟩:=wm;rw [wm] at xl;have TR:=ae wm;clear wm;rw [em] at nN;rw [em,RL] at xl;unfold cT bU at xl;have RF:=ae em;have TS:=ae RL;clear em RL;have HZ:=ae (rfl:(l.getD j eh).1=(l.getD j eh).1);obtain ⟨zj,hzj⟩:∃z,(l.getD j eh).1=z:=⟨_,rfl⟩;obtain ⟨zi,AP⟩:∃z,(l.getD i eh).1=z:=⟨_,rfl⟩;rw [hzj] at c0;rw [AP] at d0;have HZJ:=ae hzj;have Of:=ae AP;clear HZ hzj AP;generalize tO:fH (l.getD j eh).2.ty=tb at*;have qX:=ae tO;generalize Cm:bE (l.getD j eh).2.lo=lc at*;have uy:=ae Cm;generalize Ai:(l.getD j eh).2.ha=ha at*;have JG:=ae Ai;generalize Ae:(l.getD j eh).2.lo.length=ln at*;have oH:=ae Ae;generalize zZ:ln - 8=n8 at*;have Oa:=ae zZ;clear tO Cm Ai Ae zZ;generalize Yj:fH (l.getD i eh).2.ty=tb' at*;have abd:=ae Yj;generalize Yk:bE (l.getD i eh).2.lo=lc' at*;have abe:=ae Yk;generalize Yl:(l.getD i eh).2.ha=ha' at*;have abf:=ae Yl;generalize Ym:(l.getD i eh).2.lo.length=ln' at*;have abg:=ae Ym;generalize Yn:ln' - 8=n8' at*;have abh:=ae Yn;clear Yj Yk Yl Ym Yn;have dh:=ae a8;by_cases hz:zj=zi
  ·subst hz;go_wp2_with fail
   with_reducible refine (xl.o _ (HB.o.alloc HB.o.size _)).mono ?_
   rintro e W1 ⟨rfl,hb⟩;have FU:Hid (Below w1.heap.size w1 W1):=ae ((HB.o.alloc HB.o.size _).trans (hb.mono (by simp only [aE];have:=HB.o.size;omega)));have hX1:Hid (w1.heap.size<=bx/\ay W1 bx 279 (sg (l.getD i eh).1 (l.getD i eh).2 (tP i))):=ae ⟨Oe,(HX.o.2.alloc _).of (hb.block _ (by simp only [aE];omega))⟩;clear hb c0 d0 c1 d1 c2 d2 c3 d3 c4 d4 c5 d5 c6 d6 c7 d7 c8 d8 c9 d9 VN d10 VO d11 VP d12 nN d13;cases dd with
   |false=>go_wp2_with fail;exact gO _ _ rfl FU.o ⟨j,dh.o,by rw [HZJ.o,Of.o],fun h=>by have h2:=TR.o;rw [decide_eq_false_iff_not] at h2;exact h2 h⟩
   |true=>
    go_wp2_with fail;refine ⟨⟨_,j+1,FK.of _ rfl,rfl,rfl,rfl,rfl,rfl,rfl,rfl,rfl,rfl,rfl,dh.o,by omega,FU,hX1⟩,fun k hk hz=>?_⟩;by_cases e:k=j
    ·subst e;exact of_decide_eq_true TR.o
    ·exact HA.o k (by omega) hz
  ·have hz':((zj:Int)==(zi:Int))=false:=by simp;omega
   have sd:=ae hz;go_wp2_with fail;refine ⟨⟨_,j+1,FK.of _ rfl,rfl,rfl,rfl,rfl,rfl,rfl,rfl,rfl,rfl,rfl,dh.o,by omega,ae (HB.o.alloc HB.o.size _),ae ⟨Oe,HX.o.2.alloc _⟩⟩,fun k hk hz=>?_⟩;by_cases e:k=j
   ·subst e;exact absurd (HZJ.o.symm.trans (hz.trans Of.o)) sd.o
   ·exact HA.o k (by omega) hz
 ·obtain rfl:j=i:=by omega
  clear a8;go_wp2_with fail;exact Eq.mpr (congrArg (fun a=>Q (.exit 4) a W) (FK.of _ rfl)) (eZ _ _ rfl rfl rfl rfl rfl rfl rfl HB.o HX.o.2 HA.o)
end
section
variable {w1:World} {K:Kp} {p:aO} {iz:Value} {vb:Nat} {T:Map} {lo:Nat} {sv lv:Value} {l:List (Nat×Std)} {tP:Nat->Value} {Q:Exit->Act->World->Prop}
def L2 (w1:World) (vb:Nat) (pc:Nat) (lv:Value) (n:Nat) (m:Nat) (a:Act) (W:World):Prop:=
 ∃(J:Nat->Value) (i:Nat),a=FK J/\J 0=ρ vb/\J 1=ι pc/\J 8=lv/\J 87=lv/\J 88=ι n/\J 89=ι i/\i<=n/\m+i=n+1/\Hid (Below w1.heap.size w1 W)
def Cq (T:Map) (l:List (Nat×Std)) (i:Nat):Prop:=∀k,k < i->(∀j,j < k->(l.getD j eh).1=(l.getD k eh).1->(l.getD j eh).2=(l.getD k eh).2)/\(∀s,T (l.getD k eh).1=some s->s=(l.getD k eh).2)
theorem lk2 {pc:Nat} {mv:Nat->Value} (HV:Hid (ay w1 vb 230 (qR K p iz))) (HS:Hid (ii w1 iz p.code.length T mv)) (VQ:Hid (∀q s,T q=some s->eI s.ty/\s.lo.length<=1000000000)) (HY:Hid (gV w1 lo sv lv l tP)) (HW:Hid (WOk l)) (hl:l.length<=2) (iM:Hid (∀i,i < l.length->(l.getD i eh).1 < p.code.length))
 (gO:∀(A:Array Value) W,A.getD 4 undef=ι 94->Below w1.heap.size w1 W->¬Cq T l l.length->Q .ret {tmps:=A,defers:=[]} W)
 (eZ:∀(J:Nat->Value) W,J 0=ρ vb->J 1=ι pc->J 8=lv->Below w1.heap.size w1 W->Cq T l l.length->Q (.exit 2) (FK J) W)
 {a:Act} {W:World} (h:L2 w1 vb pc lv l.length (l.length+1) a W):(Code.loop (lkL 1)).wp Tryz.prog Q a W:=by
 refine Mk.aP (fun m a W=>L2 w1 vb pc lv l.length m a W/\Cq T l (l.length+1 - m)) (l.length+1) ⟨h,fun i hi=>by omega⟩ ?_ ?_
 ·rintro a W ⟨⟨J,i,-,-,-,-,-,-,-,h1,h2,-⟩,-⟩;omega
 rintro m a0 W ⟨⟨J,i,rfl,j0,j1,j8,RI,RJ,RK,hi,hm,HB⟩,hA⟩;rw [show l.length+1 - (m+1)=i by omega] at hA;have HA:=ae hA;clear hA;unfold FK
 conv=>arg 2;whnf
 have w2:IntKind.i64.wrap ((i:Int)+1)=((i+1:Nat):Int):=by rw [IntWalk.i64_in _ (by constructor<;>omega)];omega
 rw [j0,j1,j8,RI,RJ,RK];clear j0 j1 j8 RI RJ RK;by_cases a8:i < l.length
 ·obtain ⟨b,off,cap,ma,mc,GB,q1,q2,lb,em,c0,c1,c2,c3,c4,c5,c6,c7,c8,c9,VN,VO,VP,nN⟩:=(HY.o.aB (ax.ah HB.o)).JM a8;have Di:=ae GB;have dh:=ae a8;have RF:=ae em;rw [em] at nN;have Bp:i<=cap:=by omega
  clear em GB;obtain ⟨zi,AP⟩:∃z,(l.getD i eh).1=z:=⟨_,rfl⟩;rw [AP] at c0;have Of:=ae AP;clear AP;generalize tO:fH (l.getD i eh).2.ty=tb at*;have qX:=ae tO;generalize Cm:bE (l.getD i eh).2.lo=lc at*;have uy:=ae Cm;generalize Ai:(l.getD i eh).2.ha=ha at*;have JG:=ae Ai;generalize Ae:(l.getD i eh).2.lo.length=ln at*;have oH:=ae Ae;generalize zZ:ln - 8=n8 at*;have Oa:=ae zZ;clear tO Cm Ai Ae zZ;have HCS:=ae (show (sg (l.getD i eh).1 (l.getD i eh).2 (tP i))=#[ι zi,.bool true,.string tb,ι (lc 0),ι (lc 1),ι (lc 2),ι (lc 3),ι (lc 4),ι (lc 5),ι (lc 6),ι (lc 7),ι ln,ι ha,.slice ma n8 mc] by unfold sg;rw [Of.o,qX.o,uy.o,oH.o,JG.o,RF.o]);rw [Di.o];go_wp2_with fail;rw [<-Di.o];refine lk3 (w1:=w1) (pc:=pc) (bx:=W.heap.size) (off:=off) (cap:=cap) HY HW hl dh.o Di (fun A W3 xq wo hex=>?_) (fun J3 W3 j0 j1 j8 tQ RI RJ RK wo hX3 xq=>?_) ⟨_,0,FK.of _ rfl,rfl,rfl,rfl,rfl,rfl,rfl,rfl,rfl,rfl,rfl,Nat.zero_le _,rfl,ae (HB.o.alloc HB.o.size _),ae ⟨HB.o.size,?_⟩⟩
  ·refine gO A W3 xq wo (fun hm=>?_);obtain ⟨j,hj,e1,e2⟩:=hex;exact e2 ((hm i dh.o).1 j hj e1)
  ·unfold FK;rw [j0,j1,j8,tQ,RI,RJ,RK];clear j0 j1 j8 tQ RI RJ RK;have dK:zi < p.code.length:=by rw [<-Of.o];exact iM.o i dh.o
   have zy:=ae xq;have hv:=HV.o.of (wo.block _ HV.o.lt);have v6:W3.cell? (π vb 6)=some iz:=hv.cell 6;have Yi:=hv.lt;have Aj:=(HS.o.aB (ax.ah wo));obtain ⟨A,ph,eat,a1,a2,a3,s0,s1,s2,s3,s4,s5,s6,s7,s8,s9,JF,FE,zz⟩:=Aj.RD dK;obtain ⟨ma',mc',RL,-,-⟩:=aV.val (Aj.more zi dK);rw [eat] at v6;rw [RL] at zz;have TS:=ae RL;have hx:=hX3;rw [HCS.o] at hx;obtain ⟨d0,d1,d2,d3,d4,d5,d6,d7,d8,d9,d10,d11,d12,d13⟩:=hx.c14;have lx:=hx.lt;have ki:=ae wo;clear hx hX3 Aj hv eat RL wo xq c0 c1 c2 c3 c4 c5 c6 c7 c8 c9 VN VO VP nN;generalize W.heap.size=bx at*;cases hT:T zi with
   |none=>
    rw [hT] at s0;have HT:=ae hT;clear hT s1 s2 s3 s4 s5 s6 s7 s8 s9 JF FE zz;simp only [Option.isSome_none] at s0;go_wp2_with fail;go_quiet (fail);go_wp2_with fail;refine ⟨⟨_,i+1,FK.of _ rfl,rfl,rfl,(by first|rfl|exact Di.o),(by first|rfl|exact Di.o),rfl,rfl,dh.o,by omega,ae (ki.o.trans (au _ _ _))⟩,?_⟩;rw [show l.length+1 - m=i+1 by omega];intro k hk;by_cases e:k=i
    ·subst e;refine ⟨zy.o,fun s hs=>?_⟩;rw [Of.o,HT.o] at hs;cases hs
    ·exact HA.o k (by omega)
   |some s=>
    have HT:=ae hT;have fj:eV T zi=s:=by unfold eV;rw [hT];rfl
    have kV:=ae fj;rw [hT] at s0;rw [fj] at s1 s2 s3 s4 s5 s6 s7 s8 s9 JF FE zz TS;simp only [Option.isSome_some] at s0;have xl:=ae (fun V (hb:Below w1.heap.size w1 V)=>EK (w:=V) true true (s:=s) (s2:=(l.getD i eh).2) (by rw [<-kV.o];exact ((HS.o.more zi dK).aB (ax.ah hb))) ((HY.o.more i dh.o).aB (ax.ah hb)) (VQ.o zi s HT.o).1 (HW.o i dh.o).1 (VQ.o zi s HT.o).2 (HW.o i dh.o).2);obtain ⟨dd,wm⟩:∃z,decide (s=(l.getD i eh).2)=z:=⟨_,rfl⟩;rw [wm] at xl;have TR:=ae wm;rw [RF.o,TS.o] at xl;unfold cT bU at xl;rw [qX.o,uy.o,oH.o,JG.o] at xl;have mU:Hid (∀n,Below w1.heap.size w1 (W3.drewN n)):=ae fun n=>ki.o.trans (au _ _ n);clear hT fj wm;generalize fH s.ty=tb' at*;generalize bE s.lo=lc' at*;generalize s.ha=ha' at*;generalize s.lo.length=ln' at*;generalize ln' - 8=n8' at*;go_wp2_with fail;go_quiet (fail);go_wp2_with fail;refine Mk.bF (S:=fun wx=>Below W3.heap.size W3 wx) (by kernel_rfl) ((au _ W3 _).trans (au _ _ 1)) (fun al=>?_);generalize World.drew _=V0 at*;refine Mk.bL 0 ?_;refine Mk.bL 1 ?_;refine Mk.bL 2 ?_;refine wpAnyH_take (i:=3) (v:=?_) rfl (by kernel_rfl) (by kernel_rfl) (by kernel_rfl) (fun _ _ _ h=>Mk.aN h) (Or.inl ⟨by rfl,?_⟩) (by assumption) ?_;rotate_left
    ·intro wz bR;have key:∀b i v,b < W3.heap.size->W3.cell? (π b i)=some v->wz.cell? (π b i)=some v:=fun b i v hb hc=>(World.cell?_of_block (bR.block _ hb)).trans hc;have y0:=key _ _ _ Yi v6;exact gee
    refine Mk.pt ?_;refine Mk.bL 4 ?_;refine wpAnyH_take (i:=5) (v:=?_) rfl (by kernel_rfl) (by kernel_rfl) (by kernel_rfl) (fun _ _ _ h=>Mk.aN h) (Or.inl ⟨by rfl,?_⟩) (by assumption) ?_;rotate_left
    ·intro wz bR;have key:∀b i v,b < W3.heap.size->W3.cell? (π b i)=some v->wz.cell? (π b i)=some v:=fun b i v hb hc=>(World.cell?_of_block (bR.block _ hb)).trans hc;have y0:=key _ _ _ lx d0;exact gee
    refine Mk.pt ?_;refine Mk.bL 6 ?_;refine wpAnyH_take (i:=7) (v:=?_) rfl (by kernel_rfl) (by kernel_rfl) (by kernel_rfl) (fun _ _ _ h=>Mk.aN h) (Or.inl ⟨by rfl,?_⟩) (by assumption) ?_;rotate_left
    ·intro wz bR;have key:∀b i v,b < W3.heap.size->W3.cell? (π b i)=some v->wz.cell? (π b i)=some v:=fun b i v hb hc=>(World.cell?_of_block (bR.block _ hb)).trans hc;have y0:=key _ _ _ a3 s0;have y1:=key _ _ _ a3 s1;have y2:=key _ _ _ a3 s2;have y3:=key _ _ _ a3 s3;have y4:=key _ _ _ a3 s4;have y5:=key _ _ _ a3 s5;have y6:=key _ _ _ a3 s6;have y7:=key _ _ _ a3 s7;have y8:=key _ _ _ a3 s8;have y9:=key _ _ _ a3 s9;have y10:=key _ _ _ a3 JF;have y11:=key _ _ _ a3 FE;have y12:=key _ _ _ a3 zz;exact gee
    refine Mk.pt ?_;refine Mk.bL 8 ?_;refine wpAnyH_take (i:=9) (v:=?_) rfl (by kernel_rfl) (by kernel_rfl) (by kernel_rfl) (fun _ _ _ h=>Mk.aN h) (Or.inl ⟨by rfl,?_⟩) (by assumption) ?_;rotate_left
    ·intro wz bR;have key:∀b i v,b < W3.heap.size->W3.cell? (π b i)=some v->wz.cell? (π b i)=some v:=fun b i v hb hc=>(World.cell?_of_block (bR.block _ hb)).trans hc;have y0:=key _ _ _ lx d1;have y1:=key _ _ _ lx d2;have y2:=key _ _ _ lx d3;have y3:=key _ _ _ lx d4;have y4:=key _ _ _ lx d5;have y5:=key _ _ _ lx d6;have y6:=key _ _ _ lx d7;have y7:=key _ _ _ lx d8;have y8:=key _ _ _ lx d9;have y9:=key _ _ _ lx d10;have y10:=key _ _ _ lx d11;have y11:=key _ _ _ lx d12;have y12:=key _ _ _ lx d13;exact gee
    refine Mk.pt ?_;refine wpAnyH_ready (rs:=[10]) (by kernel_rfl) (by simp) ?_;refine AllReadyH.cons rfl (fun K hK=>?_) AllReadyH.nil;refine QX ?_;go_simp;go_at_call 248
    with_reducible refine (xl.o _ (ki.o.trans (al.mono ki.o.size))).mono ?_
    rintro e w5 ⟨rfl,BG⟩;have Dc:=al.trans (BG.mono al.size);clear al;refine hK.out _ _ Dc (fun al=>?_);clear hK K;refine Mk.pt ?_;refine Mk.bL 11 ?_;refine wpAnyH_done (by kernel_rfl) ⟨rfl,?_⟩ _;clear al;cases dd with
    |false=>go_wp2_with fail;refine gO _ _ rfl (ki.o.trans (Dc.mono ki.o.size)) (fun hm=>?_);have h2:=TR.o;rw [decide_eq_false_iff_not] at h2;exact h2 ((hm i dh.o).2 s (by rw [Of.o];exact HT.o))
    |true=>
     go_wp2_with fail;refine ⟨⟨_,i+1,FK.of _ rfl,rfl,rfl,(by first|rfl|exact Di.o),(by first|rfl|exact Di.o),rfl,rfl,dh.o,by omega,ae (ki.o.trans (Dc.mono ki.o.size))⟩,?_⟩;rw [show l.length+1 - m=i+1 by omega];intro k hk;by_cases e:k=i
     ·subst e;refine ⟨zy.o,fun s' hs=>?_⟩;rw [Of.o,HT.o] at hs;cases hs;exact of_decide_eq_true TR.o
     ·exact HA.o k (by omega)
  ·rw [HCS.o];exact ay.new _ _ _
 ·obtain rfl:i=l.length:=by omega
  clear a8;go_wp2_with fail;exact Eq.mpr (congrArg (fun a=>Q (.exit 2) a W) (FK.of _ rfl)) (eZ _ _ rfl rfl rfl HB.o HA.o)
end
section
variable {w1:World} {K:Kp} {p:aO} {iz:Value} {vb:Nat} {T:Map} {lo:Nat} {sv lv:Value} {l:List (Nat×Std)} {tP:Nat->Value} {Q:Exit->Act->World->Prop}
theorem pP {W W':World} {S:List Nat} {size n:Nat} {v:Value} {g:Nat->Value} (h:aV W size v n g) (f:ax S W W') (hb:∀b,v.ownBlock=some b->b∉S):aV W' size v n g:=by
 rcases h with h|⟨a,cap,rfl,h1,h2,h3⟩
 ·exact .inl h
 ·refine .inr ⟨a,cap,rfl,h1,h2,fun o ho=>⟨(h3 o ho).1,?_⟩⟩;have hc:=(h3 o ho).2;refine Eq.trans ?_ hc;exact World.cell?_of_block (f.block a.block (aS hc) (hb _ rfl))
theorem PP {W:World} {E:TypeId} {A cap n z:Nat} {g:Nat->Value} (h:Row W E 13 (.slice (some (π A 0)) n cap) n g) (hz:z < n) (v0 v1 v2 v3 v4 v5 v6 v7 v8 v9 v10 v11 v12:Value):
 Row (((((((((((((W.setCell (π A (z*13)) (v0)).setCell (π A (z*13+1)) (v1)).setCell (π A (z*13+2)) (v2)).setCell (π A (z*13+3)) (v3)).setCell (π A (z*13+4)) (v4)).setCell (π A (z*13+5)) (v5)).setCell (π A (z*13+6)) (v6)).setCell (π A (z*13+7)) (v7)).setCell (π A (z*13+8)) (v8)).setCell (π A (z*13+9)) (v9)).setCell (π A (z*13+10)) (v10)).setCell (π A (z*13+11)) (v11)).setCell (π A (z*13+12)) (v12)) E 13 (.slice (some (π A 0)) n cap) n (fun o=>if o / 13=z then #[v0,v1,v2,v3,v4,v5,v6,v7,v8,v9,v10,v11,v12].getD (o % 13) undef else g o):=by
 refine Row.congr (((((((((((((h.set (o:=z*13) (by omega) v0).set (o:=z*13+1) (by omega) v1).set (o:=z*13+2) (by omega) v2).set (o:=z*13+3) (by omega) v3).set (o:=z*13+4) (by omega) v4).set (o:=z*13+5) (by omega) v5).set (o:=z*13+6) (by omega) v6).set (o:=z*13+7) (by omega) v7).set (o:=z*13+8) (by omega) v8).set (o:=z*13+9) (by omega) v9).set (o:=z*13+10) (by omega) v10).set (o:=z*13+11) (by omega) v11).set (o:=z*13+12) (by omega) v12) ?_;intro o ho;by_cases e:o / 13=z
 ·rw [if_pos e];obtain ⟨k,hk,rfl⟩:∃k,k < 13/\o=z*13+k:=⟨o % 13,by omega,by omega⟩;rw [show (z*13+k) % 13=k by omega];have:k=0\/k=1\/k=2\/k=3\/k=4\/k=5\/k=6\/k=7\/k=8\/k=9\/k=10\/k=11\/k=12:=by omega
  rcases this with rfl|rfl|rfl|rfl|rfl|rfl|rfl|rfl|rfl|rfl|rfl|rfl|rfl<;>simp
 ·rw [if_neg e]
  repeat rw [if_neg (by omega)]
theorem PQ {W:World} {A z:Nat} (v0 v1 v2 v3 v4 v5 v6 v7 v8 v9 v10 v11 v12:Value):ax [A] W (((((((((((((W.setCell (π A (z*13)) (v0)).setCell (π A (z*13+1)) (v1)).setCell (π A (z*13+2)) (v2)).setCell (π A (z*13+3)) (v3)).setCell (π A (z*13+4)) (v4)).setCell (π A (z*13+5)) (v5)).setCell (π A (z*13+6)) (v6)).setCell (π A (z*13+7)) (v7)).setCell (π A (z*13+8)) (v8)).setCell (π A (z*13+9)) (v9)).setCell (π A (z*13+10)) (v10)).setCell (π A (z*13+11)) (v11)).setCell (π A (z*13+12)) (v12)):=
 ((((((((((((((ax.refl [A] W).setCell (p:=(π A (z*13))) (by simp) v0).setCell (p:=(π A (z*13+1))) (by simp) v1).setCell (p:=(π A (z*13+2))) (by simp) v2).setCell (p:=(π A (z*13+3))) (by simp) v3).setCell (p:=(π A (z*13+4))) (by simp) v4).setCell (p:=(π A (z*13+5))) (by simp) v5).setCell (p:=(π A (z*13+6))) (by simp) v6).setCell (p:=(π A (z*13+7))) (by simp) v7).setCell (p:=(π A (z*13+8))) (by simp) v8).setCell (p:=(π A (z*13+9))) (by simp) v9).setCell (p:=(π A (z*13+10))) (by simp) v10).setCell (p:=(π A (z*13+11))) (by simp) v11).setCell (p:=(π A (z*13+12))) (by simp) v12)
theorem ii.put {W:World} {A cap n z:Nat} {mv:Nat->Value} {s:Std} {mz:Value} (h:ii W (.slice (some (π A 0)) n cap) n T mv) (hz:z < n) (hm:cZ W mz s.lo) (ho:∀b,mz.ownBlock=some b->b≠A) {W':World}
 (e:W'=(((((((((((((W.setCell (π A (z*13)) ((bU true s mz).getD 0 undef)).setCell (π A (z*13+1)) ((bU true s mz).getD 1 undef)).setCell (π A (z*13+2)) ((bU true s mz).getD 2 undef)).setCell (π A (z*13+3)) ((bU true s mz).getD 3 undef)).setCell (π A (z*13+4)) ((bU true s mz).getD 4 undef)).setCell (π A (z*13+5)) ((bU true s mz).getD 5 undef)).setCell (π A (z*13+6)) ((bU true s mz).getD 6 undef)).setCell (π A (z*13+7)) ((bU true s mz).getD 7 undef)).setCell (π A (z*13+8)) ((bU true s mz).getD 8 undef)).setCell (π A (z*13+9)) ((bU true s mz).getD 9 undef)).setCell (π A (z*13+10)) ((bU true s mz).getD 10 undef)).setCell (π A (z*13+11)) ((bU true s mz).getD 11 undef)).setCell (π A (z*13+12)) ((bU true s mz).getD 12 undef))):
 ii W' (.slice (some (π A 0)) n cap) n (aL T z (some s)) (aL mv z mz)/\ax [A] W W':=by
 subst e;have f:=PQ (W:=W) (A:=A) (z:=z) ((bU true s mz).getD 0 undef) ((bU true s mz).getD 1 undef) ((bU true s mz).getD 2 undef) ((bU true s mz).getD 3 undef) ((bU true s mz).getD 4 undef) ((bU true s mz).getD 5 undef) ((bU true s mz).getD 6 undef) ((bU true s mz).getD 7 undef) ((bU true s mz).getD 8 undef) ((bU true s mz).getD 9 undef) ((bU true s mz).getD 10 undef) ((bU true s mz).getD 11 undef) ((bU true s mz).getD 12 undef);refine ⟨⟨(PP h.row hz _ _ _ _ _ _ _ _ _ _ _ _ _).congr fun o ho=>?_,fun i hi=>?_,fun i hi b hb=>?_⟩,f⟩
 ·unfold stC;by_cases e:o / 13=z
  ·rw [if_pos e,e,an,show eV (aL T z (some s)) z=s by unfold eV;rw [an];rfl,an];have hk:o % 13 < 13:=Nat.mod_lt _ (by omega);generalize o % 13=k at*;have:k=0\/k=1\/k=2\/k=3\/k=4\/k=5\/k=6\/k=7\/k=8\/k=9\/k=10\/k=11\/k=12:=by omega
   rcases this with rfl|rfl|rfl|rfl|rfl|rfl|rfl|rfl|rfl|rfl|rfl|rfl|rfl<;>rfl
  ·rw [if_neg e,aj _ _ e,show eV (aL T z (some s)) (o / 13)=eV T (o / 13) by unfold eV;rw [aj _ _ e],aj _ _ e]
 ·by_cases e:i=z
  ·subst e;rw [an,show eV (aL T i (some s)) i=s by unfold eV;rw [an];rfl];exact pP hm f (fun b hb=>by simpa using ho b hb)
  ·rw [aj _ _ e,show eV (aL T z (some s)) i=eV T i by unfold eV;rw [aj _ _ e]];exact pP (h.more i hi) f (fun b hb=>by have:=h.off i hi b hb;simp;intro e;subst e;exact this rfl)
 ·by_cases e:i=z
  ·subst e;rw [an] at hb;intro h2;exact ho b hb (Option.some.inj h2).symm
  ·rw [aj _ _ e] at hb;exact h.off i hi b hb
theorem yA:∀(l:List (Nat×Std)) (T:Map) (w:Nat×Std),oP T (l++[w])=aL (oP T l) w.1 (some w.2)
 |[],_,_=>rfl
 |_::l,T,w=>yA l _ w
theorem IR {l:List (Nat×Std)} (T:Map) {i:Nat} (h:i < l.length):oP T (l.take (i+1))=aL (oP T (l.take i)) (l.getD i eh).1 (some (l.getD i eh).2):=by rw [List.take_succ_eq_append_getElem h,yA,List.getD_eq_getElem?_getD,List.getElem?_eq_getElem h];rfl
def L4 (w1:World) (vb:Nat) (A cap n:Nat) (lv:Value) (T:Map) (l:List (Nat×Std)) (m:Nat) (a:Act) (W:World):Prop:=
 ∃(J:Nat->Value) (i:Nat),a=FK J/\J 0=ρ vb/\J 139=lv/\J 140=ι l.length/\J 141=ι i/\i<=l.length/\m+i=l.length+1/\Hid (ax [A] w1 W)/\∃mv,Hid (ii W (.slice (some (π A 0)) n cap) n (oP T (l.take i)) mv)
theorem lk4 {A ER:Nat} (HV:Hid (ay w1 vb 230 (qR K p (.slice (some (π A 0)) p.code.length ER)))) (sd:Hid (vb≠A)) (HY:Hid (gV w1 lo sv lv l tP)) (ES:Hid (∀b,lv.ownBlock=some b->b≠A)) (PR:Hid (∀i,i < l.length->∀b,(tP i).ownBlock=some b->b≠A)) (hA:A < w1.heap.size) (hl:l.length<=2) (iM:Hid (∀i,i < l.length->(l.getD i eh).1 < p.code.length))
 (eZ:∀(J:Nat->Value) W mv,ax [A] w1 W->ii W (.slice (some (π A 0)) p.code.length ER) p.code.length (oP T l) mv->Q (.exit 6) (FK J) W)
 {a:Act} {W:World} (h:L4 w1 vb A ER p.code.length lv T l (l.length+1) a W):(Code.loop (lkL 2)).wp Tryz.prog Q a W:=by
 refine Mk.aP (fun m a W=>L4 w1 vb A ER p.code.length lv T l m a W) (l.length+1) h ?_ ?_
 ·rintro a W ⟨J,i,-,-,-,-,-,h1,h2,-⟩;omega
 rintro m a0 W ⟨J,i,rfl,j0,Yo,Yp,Yq,hi,hm,HB,mv,HS⟩;unfold FK
 conv=>arg 2;whnf
 have w2:IntKind.i64.wrap ((i:Int)+1)=((i+1:Nat):Int):=by rw [IntWalk.i64_in _ (by constructor<;>omega)];omega
 rw [j0,Yo,Yp,Yq];clear j0 Yo Yp Yq;by_cases a8:i < l.length
 ·have HY':gV W lo sv lv l tP:=⟨pP HY.o.row HB.o (fun b hb=>by have:=ES.o b hb;simpa using this),fun i hi=>pP (HY.o.more i hi) HB.o (fun b hb=>by have:=PR.o i hi b hb;simpa using this),HY.o.off⟩;have HYW:=ae HY';obtain ⟨b,off,cap,ma,mc,GB,q1,q2,lb,em,c0,c1,c2,c3,c4,c5,c6,c7,c8,c9,VN,VO,VP,nN⟩:=HY'.JM a8;have Di:=ae GB;have dh:=ae a8;have RF:=ae em;rw [em] at nN;have hv:ay W vb 230 (qR K p (.slice (some (π A 0)) p.code.length ER)):=HV.o.aB HB.o (by have:=sd.o;simpa using this);have v6:W.cell? (π vb 6)=some (.slice (some (π A 0)) p.code.length ER):=hv.cell 6;have Yi:=hv.lt;have hAW:A < W.heap.size:=by have:=HB.o.size;omega
  have tM:∀o,W.frozen? (π A o)=false:=fun o=>HS.o.row.frozen o;have dK:=iM.o i a8;clear em GB hv HY';obtain ⟨zi,AP⟩:∃z,(l.getD i eh).1=z:=⟨_,rfl⟩;rw [AP] at c0 dK;have Of:=ae AP;clear AP;generalize tO:fH (l.getD i eh).2.ty=tb at*;have qX:=ae tO;generalize Cm:bE (l.getD i eh).2.lo=lc at*;have uy:=ae Cm;generalize Ai:(l.getD i eh).2.ha=ha at*;have JG:=ae Ai;generalize Ae:(l.getD i eh).2.lo.length=ln at*;have oH:=ae Ae;generalize zZ:ln - 8=n8 at*;have Oa:=ae zZ;clear tO Cm Ai Ae zZ;have HCS:=ae (show (bU true (l.getD i eh).2 (tP i))=#[.bool true,.string tb,ι (lc 0),ι (lc 1),ι (lc 2),ι (lc 3),ι (lc 4),ι (lc 5),ι (lc 6),ι (lc 7),ι ln,ι ha,.slice ma n8 mc] by unfold bU;rw [qX.o,uy.o,oH.o,JG.o,RF.o]);have IS:=ae (fun (W3:World) (hb:Below W.heap.size W W3)=>ii.put (W:=W3) (mv:=mv) (HS.o.aB (ax.ah hb)) dK (HYW.o.more i dh.o |>.aB (ax.ah hb)) (fun b hb=>PR.o i dh.o b hb) rfl);have dC:=ae ((Below.refl W.heap.size W).alloc (Nat.le_refl _) (.cells #[ι zi,.bool true,.string tb,ι (lc 0),ι (lc 1),ι (lc 2),ι (lc 3),ι (lc 4),ι (lc 5),ι (lc 6),ι (lc 7),ι ln,ι ha,.slice ma n8 mc] 279));have hold:∀k,k < 13->∃v,W.cell? (π A (zi*13+k))=some v:=fun k hk=>⟨_,HS.o.row.cell (o:=zi*13+k) (by omega)⟩;obtain ⟨u0,o0⟩:=hold 0 (by omega);obtain ⟨u1,o1⟩:=hold 1 (by omega);obtain ⟨u2,o2⟩:=hold 2 (by omega);obtain ⟨u3,o3⟩:=hold 3 (by omega);obtain ⟨u4,o4⟩:=hold 4 (by omega);obtain ⟨u5,o5⟩:=hold 5 (by omega);obtain ⟨u6,o6⟩:=hold 6 (by omega);obtain ⟨u7,o7⟩:=hold 7 (by omega);obtain ⟨u8,o8⟩:=hold 8 (by omega);obtain ⟨u9,o9⟩:=hold 9 (by omega);obtain ⟨u10,VR⟩:=hold 10 (by omega);obtain ⟨u11,VS⟩:=hold 11 (by omega);obtain ⟨u12,VT⟩:=hold 12 (by omega);have aaD:=ae (And.intro o0 (And.intro o1 (And.intro o2 (And.intro o3 (And.intro o4 (And.intro o5 (And.intro o6 (And.intro o7 (And.intro o8 (And.intro o9 (And.intro VR (And.intro VS (VT)))))))))))));clear hold tM o0 o1 o2 o3 o4 o5 o6 o7 o8 o9 VR VS VT;have kx:ay (W.alloc (.cells #[ι zi,.bool true,.string tb,ι (lc 0),ι (lc 1),ι (lc 2),ι (lc 3),ι (lc 4),ι (lc 5),ι (lc 6),ι (lc 7),ι ln,ι ha,.slice ma n8 mc] 279)) W.heap.size 279 #[ι zi,.bool true,.string tb,ι (lc 0),ι (lc 1),ι (lc 2),ι (lc 3),ι (lc 4),ι (lc 5),ι (lc 6),ι (lc 7),ι ln,ι ha,.slice ma n8 mc]:=ay.new _ _ _;rw [Di.o];go_wp2_with fail;obtain ⟨W1,Ak⟩:∃W1,W1=W.alloc (.cells #[ι zi,.bool true,.string tb,ι (lc 0),ι (lc 1),ι (lc 2),ι (lc 3),ι (lc 4),ι (lc 5),ι (lc 6),ι (lc 7),ι ln,ι ha,.slice ma n8 mc] 279):=⟨_,rfl⟩;rw [<-Ak] at kx dC ⊢;obtain ⟨d0,d1,d2,d3,d4,d5,d6,d7,d8,d9,d10,d11,d12,d13⟩:=kx.c14;have v6':W1.cell? (π vb 6)=some (.slice (some (π A 0)) p.code.length ER):=(World.cell?_of_block (dC.o.block _ Yi)).trans v6;clear Ak kx v6 c0 c1 c2 c3 c4 c5 c6 c7 c8 c9 VN VO VP nN;generalize eO:W.heap.size=bx at*;have jg:=ae eO;clear eO
  go_still_tail 9,(by kernel_rfl)
  change wpList _ _ _ _ _ (World.drewN _ 1);have dQ:=dC.o.trans (au _ W1 1);generalize World.drewN _ 1=V0 at*;have key:∀o v,W.cell? (π A o)=some v->V0.cell? (π A o)=some v:=fun o v h=>(World.cell?_of_block (dQ.block _ hAW)).trans h;obtain ⟨o0,o1,o2,o3,o4,o5,o6,o7,o8,o9,VR,VS,VT⟩:=aaD.o;replace o0:=key _ _ o0;replace o1:=key _ _ o1;replace o2:=key _ _ o2;replace o3:=key _ _ o3;replace o4:=key _ _ o4;replace o5:=key _ _ o5;replace o6:=key _ _ o6;replace o7:=key _ _ o7;replace o8:=key _ _ o8;replace o9:=key _ _ o9;replace VR:=key _ _ VR;replace VS:=key _ _ VS;replace VT:=key _ _ VT;have HP9:=ae (IS.o V0 dQ);rw [<-jg.o] at dQ;have tM:∀o,V0.frozen? (π A o)=false:=fun o=>(HS.o.row.aB (ax.ah (S:=[]) dQ) (by simp)).frozen o;simp only [Nat.add_zero] at o0;rw [HCS.o] at HP9;have gp:=ae dQ;clear key IS dQ;go_wp2_with fail
  try rw [<-Di.o]
  refine ⟨_,i+1,FK.of _ rfl,rfl,(by first|rfl|exact Di.o),rfl,rfl,dh.o,by omega,ae (HB.o.trans ((ax.ah gp.o).trans (HP9.o.2))),aL mv zi (tP i),ae ?_⟩;rw [IR T dh.o,Of.o];exact HP9.o.1
 ·obtain rfl:i=l.length:=by omega
  clear a8;go_wp2_with fail;exact Eq.mpr (congrArg (fun a=>Q (.exit 6) a W) (FK.of _ rfl)) (eZ _ _ mv HB.o (by have:=HS.o;rw [List.take_length] at this;exact this))
end
def Mq (w:World) (iz:Value) (p:aO) (T:Map) (pc:Nat) (e:Ending) (w':World):Prop:=
 e= .returned (ι (cO p T pc))/\ax iz.ownBlock.toList w w'/\(cO p T pc=0->∃mv,ii w' iz p.code.length (iE p T pc) mv)
theorem mu {P:Program} {fn:Func} {R:Ending->World->Prop} {A:Array Value} {w:World} {t:Tmp} (h:fn.results=#[.tmp t]) (hR:R (.returned (A.getD t undef)) w):Exit.noGoto (bodyPost P fn R) .ret {tmps:=A,defers:=[]} w:=by rw [Exit.noGoto_ret];exact eP h hR
theorem Mr {p:aO} {x:Ins} (dK:gI p x=true) (h:x.op=34\/x.op=35\/x.op=32\/x.op=40\/x.op=41\/x.op=38\/x.op=39):qu p x.a:=by
 have key:∀k,x.op.toNat=k->(bY k).getD 0 0=1->qu p x.a:=fun k e e1=>by have:=(dW dK e).1;rw [e1] at this;have:=cX this;exact ⟨this.1,this.2.1⟩
 rcases h with h|h|h|h|h|h|h
 ·exact key 34 (by rw [h];rfl) rfl
 ·exact key 35 (by rw [h];rfl) rfl
 ·exact key 32 (by rw [h];rfl) rfl
 ·exact key 40 (by rw [h];rfl) rfl
 ·exact key 41 (by rw [h];rfl) rfl
 ·exact key 38 (by rw [h];rfl) rfl
 ·exact key 39 (by rw [h];rfl) rfl
theorem RM {p:aO} {x:Ins} (dK:gI p x=true) (h:x.op=38\/x.op=39):qu p x.c:=by
 have key:∀k,x.op.toNat=k->(bY k).getD 2 0=1->qu p x.c:=fun k e e1=>by have:=(dW dK e).2.2.1;rw [e1] at this;have:=cX this;exact ⟨this.1,this.2.1⟩
 rcases h with h|h
 ·exact key 38 (by rw [h];rfl) rfl
 ·exact key 39 (by rw [h];rfl) rfl
theorem Ms {p:aO} {x:Ins} (dK:gI p x=true) (h:x.op=22\/x.op=23\/x.op=25\/x.op=26):0<=x.a/\x.a < p.code.length:=by
 have key:∀k,x.op.toNat=k->(bY k).getD 0 0=8->0<=x.a/\x.a < p.code.length:=fun k e e1=>by have:=(dW dK e).1;rw [e1] at this;exact js this
 rcases h with h|h|h|h
 ·exact key 22 (by rw [h];rfl) rfl
 ·exact key 23 (by rw [h];rfl) rfl
 ·exact key 25 (by rw [h];rfl) rfl
 ·exact key 26 (by rw [h];rfl) rfl
theorem wq:(Tryz.prog.info? 233).map (·.size)=some 13:=by kernel_rfl
theorem wu (th:Bool) (s:Std) (a:Option Addr) (n c:Nat):∀v∈(bU th s (.slice a n c)).toList,v.oneCell'=true:=by simp [bU,Value.oneCell']
theorem Mt {p:aO} {T:Map} {pc:Nat} {x:Ins} {ty lo:List Nat} (h:cC p T pc x ty lo=true) (OX:x.op=26):0 < lo.length:=by
 cases lo with
 |cons t l=>simp
 |nil=>exfalso;unfold cC at h;simp [OX] at h
theorem vA (pc:Nat) (x:Ins) (s:Std):(cm pc x s).length<=2:=by
 unfold cm
 repeat' split
 all_goals simp
theorem TT {pc:Nat} {x:Ins} {s:Std} {w:Nat×Std} (h:w∈cm pc x s):w.2.lo.length<=s.lo.length+1:=by
 unfold cm at h
 repeat' split at h
 all_goals (simp at h)
 all_goals (first|(rcases h with rfl|rfl<;>simp)|(subst h;simp)|skip)
 all_goals omega
theorem Al {n:Nat} (l:List (Nat×Std)):(l.any fun w=>decide (n<=w.1))=true↔∃i,i < l.length/\n<=(l.getD i eh).1:=by
 rw [List.any_eq_true];constructor
 ·rintro ⟨w,hw,h⟩;obtain ⟨i,hi,e⟩:=List.getElem_of_mem hw;refine ⟨i,hi,?_⟩;rw [List.getD_eq_getElem?_getD,List.getElem?_eq_getElem hi];simp only [Option.getD_some,e];simpa using h
 ·rintro ⟨i,hi,h⟩;rw [List.getD_eq_getElem?_getD,List.getElem?_eq_getElem hi] at h;exact ⟨_,List.getElem_mem hi,by simpa using h⟩
theorem yB (T:Map) (l:List (Nat×Std)):(jh l&&lA T l)=true↔Cq T l l.length:=by
 have at_:∀(l:List (Nat×Std)) k,(hk:k < l.length)->l.getD k eh=l[k]:=fun l k hk=>by rw [List.getD_eq_getElem?_getD,List.getElem?_eq_getElem hk];rfl
 have self:∀l:List (Nat×Std),jh l=true↔∀k,k < l.length->∀j,j < k->(l.getD j eh).1=(l.getD k eh).1->(l.getD j eh).2=(l.getD k eh).2:=by
  intro l
  induction l with
  |nil=>simp [jh]
  |cons w l ih=>
   rw [jh,Bool.and_eq_true,ih,List.all_eq_true];constructor
   ·rintro ⟨h1,h2⟩ k hk j hj;cases k with
    |zero=>omega
    |succ k=>
     have uK:k < l.length:=by simpa using hk
     cases j with
     |zero=>
      intro e;have:=h1 l[k] (List.getElem_mem uK);simp only [Bool.or_eq_true,beq_iff_eq,decide_eq_false_iff_not,decide_eq_true_eq] at this;rw [List.getD_cons_succ,at_ l k uK] at e ⊢;simp only [List.getD_cons_zero] at e ⊢;rcases this with h|h
      ·exact absurd e.symm h
      ·exact h.symm
     |succ j=>rw [List.getD_cons_succ,List.getD_cons_succ];exact h2 k uK j (by omega)
   ·intro h;refine ⟨fun v hv=>?_,fun k hk j hj=>by have:=h (k+1) (by simpa using hk) (j+1) (by omega);rwa [List.getD_cons_succ,List.getD_cons_succ] at this⟩;obtain ⟨k,hk,e⟩:=List.getElem_of_mem hv;have:=h (k+1) (by simpa using hk) 0 (by omega);rw [List.getD_cons_succ,List.getD_cons_zero,at_ l k hk,e] at this;simp only [Bool.or_eq_true,beq_iff_eq,decide_eq_false_iff_not,decide_eq_true_eq];by_cases e2:v.1=w.1
    ·exact .inr (this e2.symm).symm
    ·exact .inl e2
 rw [Bool.and_eq_true,self];unfold lA Cq;rw [List.all_eq_true];constructor
 ·rintro ⟨h1,h2⟩ k hk;refine ⟨h1 k hk,fun s hs=>?_⟩;have:=h2 l[k] (List.getElem_mem hk);rw [at_ l k hk] at hs ⊢;rw [hs] at this;simpa using this
 ·intro h;refine ⟨fun k hk=>(h k hk).1,fun v hv=>?_⟩;obtain ⟨k,hk,e⟩:=List.getElem_of_mem hv;have:=(h k hk).2;rw [at_ l k hk,e] at this;cases hT:T v.1 with
  |none=>rfl
  |some s=>simpa using this s hT
def RL1 (w:World) (vb pc:Nat) (cx cs:Array Value) (a:Act) (W:World):Prop:=
 ∃(J:Nat->Value) (bx bs:Nat),a=FK J/\J 0=ρ vb/\J 1=ι pc/\J 5=ρ bx/\J 6=ρ bs/\Hid (ay W bx 40 cx)/\Hid (ay W bs 233 cs)/\Hid (bx≠bs/\w.heap.size<=bx/\w.heap.size<=bs)/\Hid (Below w.heap.size w W)
section
variable {w:World} {K:Kp} {p:aO} {iz:Value} {vb:Nat} {T:Map} {mv:Nat->Value} {pc:Nat}
theorem adN {p:Prop} (h:p:=by
 refine mu rfl ?_;rw [hA];exact ⟨by rw [HE.o],ax.ah (HW.o.trans (ui.mono HW.o.size)),fun h=>by rw [HE.o] at h;cases h⟩):p:=h
theorem acp {p:Prop} (h:p:=by
 go_wp2_with fail;refine mu rfl ?_;exact ⟨by rw [HE.o];rfl,ax.ah HW.o,fun h=>by rw [HE.o] at h;cases h⟩):p:=h
theorem ET (h:fP w K p) (hv:ay w vb 230 (qR K p iz)) (hs:ii w iz p.code.length T mv) (tk:VM p T) (nj:pc < p.code.length) (hlen:p.code.length<=262144) (cW:iP (ai p pc)=true) (dK:gI p (ai p pc)=true):
 Calls Tryz.prog 173 #[ρ vb,ι pc] w (Mq w iz p T pc):=by
 obtain ⟨cb,wk,zF,kc,q1,q2,VU,c0,c1,c2,c3,c4⟩:∃b off cap,K.c= .slice (some (π b off)) p.code.length cap/\p.code.length<=cap/\cap<=maxLen/\b < w.heap.size/\
  w.cell? (π b (off+pc*5))=some (ι (ai p pc).op)/\w.cell? (π b (off+pc*5+1))=some (ι (ai p pc).a)/\w.cell? (π b (off+pc*5+2))=some (ι (ai p pc).b)/\w.cell? (π b (off+pc*5+3))=some (ι (ai p pc).c)/\w.cell? (π b (off+pc*5+4))=some (ι (ai p pc).d):=by
  obtain ⟨b,off,cap,e,h1,h2,c0,c1,c2,c3,c4⟩:=h.ins nj;exact ⟨b,off,cap,e,h1,h2,aS c0,c0,c1,c2,c3,c4⟩
 obtain ⟨A,cap,rfl,a1,a2,a3,s0,s1,s2,s3,s4,s5,s6,s7,s8,s9,JF,FE,zz⟩:=hs.RD nj;obtain ⟨ma,mc,VK,-,-⟩:=aV.val (hs.more pc nj);obtain ⟨-,-,-,-,-,v5,v6⟩:=hv.c7;have lv:=hv.lt;rw [kc] at v5;rw [VK] at zz;have H:=ae h;have HV:=ae hv;have HS:=ae hs;have TK:=ae tk;have Pc:=ae VK;clear h hv hs tk VK;generalize hx:ai p pc=x at*;have HX:=ae hx;clear hx;generalize fj:eV T pc=s at*;have kV:=ae fj;have Aj:=ae fj;have GC:=ae nj;clear fj;have hB:∀cs T mV T2,Below w.heap.size w ((w.alloc (.cells cs T)).alloc (.cells mV T2)):=fun cs T mV T2=>((Below.refl _ _).alloc (Nat.le_refl _) _).alloc (by simp) _;generalize tO:fH s.ty=tb at*;have qX:=ae tO;clear tO;generalize Cm:bE s.lo=lc at*;have uy:=ae Cm;clear Cm;generalize Ae:s.lo.length=ln at*;have oH:=ae Ae;clear Ae;generalize Ai:s.ha=ha at*;have JG:=ae Ai;clear Ai;generalize zZ:ln - 8=n8 at*;have Oa:=ae zZ;clear zZ;go_enter Tryz.func173,Tryz.ntmps173;go_wp2_with fail;go_step3;go_wp2_with fail;refine wp_mono (Q:=fun e a W=>e=Exit.normal/\RL1 w vb pc #[ι x.op,ι x.a,ι x.b,ι x.c,ι x.d] #[.bool (T pc).isSome,.string tb,ι (lc 0),ι (lc 1),ι (lc 2),ι (lc 3),ι (lc 4),ι (lc 5),ι (lc 6),ι (lc 7),ι ln,ι ha,.slice ma n8 mc] a W) ?_ ?_
 ·refine Mk.bF (S:=fun wx=>Below w.heap.size w wx) (by kernel_rfl) (au _ w 1) (fun al=>?_);refine Mk.bL 0 ?_;refine Mk.bL 1 ?_;refine Mk.bL 2 ?_;refine Mk.bL 3 ?_;refine wpAnyH_take (i:=4) (v:=?_) rfl (by kernel_rfl) (by kernel_rfl) (by kernel_rfl) (fun _ _ _ h=>Mk.aN h) (Or.inl ⟨by rfl,?_⟩) (by assumption) ?_;rotate_left
  ·intro wz bR;have key:∀b i v,b < w.heap.size->w.cell? (π b i)=some v->wz.cell? (π b i)=some v:=fun b i v hb hc=>(World.cell?_of_block (bR.block _ hb)).trans hc;have y0:=key _ _ _ lv v5;exact gee
  refine Mk.pt ?_;refine Mk.bL 5 ?_;refine Mk.bL 6 ?_;refine wpAnyH_take (i:=7) (v:=?_) rfl (by kernel_rfl) (by kernel_rfl) (by kernel_rfl) (fun _ _ _ h=>Mk.aN h) (Or.inl ⟨by rfl,?_⟩) (by assumption) ?_;rotate_left
  ·intro wz bR;have key:∀b i v,b < w.heap.size->w.cell? (π b i)=some v->wz.cell? (π b i)=some v:=fun b i v hb hc=>(World.cell?_of_block (bR.block _ hb)).trans hc;have y0:=key _ _ _ VU c0;have y1:=key _ _ _ VU c1;have y2:=key _ _ _ VU c2;have y3:=key _ _ _ VU c3;have y4:=key _ _ _ VU c4;exact gee
  refine Mk.pt ?_;refine Mk.bL 8 ?_;refine Mk.bL 9 ?_;refine Mk.bL 10 ?_;refine wpAnyH_take (i:=11) (v:=?_) rfl (by kernel_rfl) (by kernel_rfl) (by kernel_rfl) (fun _ _ _ h=>Mk.aN h) (Or.inl ⟨by rfl,?_⟩) (by assumption) ?_;rotate_left
  ·intro wz bR;have key:∀b i v,b < w.heap.size->w.cell? (π b i)=some v->wz.cell? (π b i)=some v:=fun b i v hb hc=>(World.cell?_of_block (bR.block _ hb)).trans hc;have y0:=key _ _ _ lv v6;exact gee
  refine Mk.pt ?_;refine Mk.bL 12 ?_;refine Mk.bL 13 ?_;refine wpAnyH_take (i:=14) (v:=?_) rfl (by kernel_rfl) (by kernel_rfl) (by kernel_rfl) (fun _ _ _ h=>Mk.aN h) (Or.inl ⟨by rfl,?_⟩) (by assumption) ?_;rotate_left
  ·intro wz bR;have key:∀b i v,b < w.heap.size->w.cell? (π b i)=some v->wz.cell? (π b i)=some v:=fun b i v hb hc=>(World.cell?_of_block (bR.block _ hb)).trans hc;have y0:=key _ _ _ a3 s0;have y1:=key _ _ _ a3 s1;have y2:=key _ _ _ a3 s2;have y3:=key _ _ _ a3 s3;have y4:=key _ _ _ a3 s4;have y5:=key _ _ _ a3 s5;have y6:=key _ _ _ a3 s6;have y7:=key _ _ _ a3 s7;have y8:=key _ _ _ a3 s8;have y9:=key _ _ _ a3 s9;have y10:=key _ _ _ a3 JF;have y11:=key _ _ _ a3 FE;have y12:=key _ _ _ a3 zz;exact gee
  refine Mk.pt ?_;refine wpAnyH_ready (rs:=[15,16]) (by kernel_rfl) (by simp) ?_;refine AllReadyH.cons rfl (fun K hK=>?_) (AllReadyH.cons rfl (fun K hK=>?_) AllReadyH.nil);refine QX ?_;go_simp;refine hK.out _ _ (al.alloc al.size _) (fun al=>?_);clear hK K;refine Mk.pt ?_;refine wpAnyH_ready (rs:=[16]) (by kernel_rfl) (by simp) ?_;refine AllReadyH.cons rfl (fun K hK=>?_) AllReadyH.nil;refine QX ?_;go_simp;refine hK.out _ _ (al.alloc al.size _) (fun al=>?_);clear hK K;refine Mk.pt ?_;refine wpAnyH_ready (rs:=[17]) (by kernel_rfl) (by simp) ?_;refine AllReadyH.cons rfl (fun K hK=>?_) AllReadyH.nil;refine QX ?_;go_simp;refine hK.out _ _ (((au _ w 1).alloc (Nat.le_refl _) _).alloc (by simp) _) (fun al=>?_);clear hK K;refine Mk.pt ?_;refine wpAnyH_ready (rs:=[18]) (by kernel_rfl) (by simp) ?_;refine AllReadyH.cons rfl (fun K hK=>?_) AllReadyH.nil;refine QX ?_;go_simp;refine hK.out _ _ (((au _ w 1).alloc (Nat.le_refl _) _).alloc (by simp) _) (fun al=>?_);clear hK K;refine Mk.pt ?_;refine wpAnyH_done (by kernel_rfl) ⟨rfl,?_⟩ _;clear al;rotate_left;refine QX ?_;go_simp;refine hK.out _ _ (al.alloc al.size _) (fun al=>?_);clear hK K;refine Mk.pt ?_;refine wpAnyH_ready (rs:=[15]) (by kernel_rfl) (by simp) ?_;refine AllReadyH.cons rfl (fun K hK=>?_) AllReadyH.nil;refine QX ?_;go_simp;refine hK.out _ _ (al.alloc al.size _) (fun al=>?_);clear hK K;refine Mk.pt ?_;refine wpAnyH_ready (rs:=[17]) (by kernel_rfl) (by simp) ?_;refine AllReadyH.cons rfl (fun K hK=>?_) AllReadyH.nil;refine QX ?_;go_simp;refine hK.out _ _ (((au _ w 1).alloc (Nat.le_refl _) _).alloc (by simp) _) (fun al=>?_);clear hK K;refine Mk.pt ?_;refine wpAnyH_ready (rs:=[18]) (by kernel_rfl) (by simp) ?_;refine AllReadyH.cons rfl (fun K hK=>?_) AllReadyH.nil;refine QX ?_;go_simp;refine hK.out _ _ (((au _ w 1).alloc (Nat.le_refl _) _).alloc (by simp) _) (fun al=>?_);clear hK K;refine Mk.pt ?_;refine wpAnyH_done (by kernel_rfl) ⟨rfl,?_⟩ _;clear al
  all_goals
   refine ⟨rfl,?_⟩
   first
   |exact ⟨_,w.heap.size,w.heap.size+1,FK.of _ rfl,rfl,rfl,rfl,rfl,ae (((ay.new w _ _).alloc _).drewN 1),ae ((ay.a_ (by simp)).drewN 1),ae ⟨by omega,by omega,by omega⟩,ae ((hB _ _ _ _).trans (au _ _ 1))⟩
   |exact ⟨_,w.heap.size+1,w.heap.size,FK.of _ rfl,rfl,rfl,rfl,rfl,ae ((ay.a_ (by simp)).drewN 1),ae (((ay.new w _ _).alloc _).drewN 1),ae ⟨by omega,by omega,by omega⟩,ae ((hB _ _ _ _).trans (au _ _ 1))⟩
 ·rintro e a W ⟨rfl,J,bx,bs,rfl,j0,j1,j5,j6,KX,KS,rM,HW⟩;have sd:=ae rM.o.1;have y_:=ae rM.o.2.2;unfold FK;rw [j0,j1,j5,j6];clear j0 j1 j5 j6 rM v5 v6 lv nj VU a3 c0 c1 c2 c3 c4 s0 s1 s2 s3 s4 s5 s6 s7 s8 s9 JF FE zz q1 q2 kc hB;cases hT:T pc with
  |none=>have HE:=ae (show cO p T pc=99 by unfold cO;rw [hT]);rw [hT] at KS;change Hid (ay W bs 233 #[.bool false,.string tb,ι (lc 0),ι (lc 1),ι (lc 2),ι (lc 3),ι (lc 4),ι (lc 5),ι (lc 6),ι (lc 7),ι ln,ι ha,.slice ma n8 mc]) at KS;obtain ⟨d0,d1,d2,d3,d4⟩:=KX.o.c5;obtain ⟨e0,e1,e2,e3,e4,e5,e6,e7,e8,e9,Dl,Dm,Dn⟩:=KS.o.nN;have lx:=KX.o.lt;have ls:=KS.o.lt;have fs:=KS.o.frozen;exact acp
  |some st=>
   have hss:eV T pc=st:=by unfold eV;rw [hT];rfl
   obtain rfl:st=s:=hss.symm.trans kV.o;rw [hT] at KS;change Hid (ay W bs 233 #[.bool true,.string tb,ι (lc 0),ι (lc 1),ι (lc 2),ι (lc 3),ι (lc 4),ι (lc 5),ι (lc 6),ι (lc 7),ι ln,ι ha,.slice ma n8 mc]) at KS;have hle:cO p T pc=if !dU p x st.ha then 96 else if bM x st.ty≠0 then bM x st.ty else if !cJ p x then 92 else if !cC p T pc x (aT x st.ty) st.lo then 95 else if (cm pc x ⟨aT x st.ty,st.lo,be p x st.ha⟩).any (fun w=>decide (p.code.length<=w.1)) then 98 else if !(jh (cm pc x ⟨aT x st.ty,st.lo,be p x st.ha⟩)&&lA T (cm pc x ⟨aT x st.ty,st.lo,be p x st.ha⟩)) then 94 else 0:=by unfold cO;rw [hT,HX.o]
   have TU:iE p T pc=oP T (cm pc x ⟨aT x st.ty,st.lo,be p x st.ha⟩):=by unfold iE;rw [hT,HX.o]
   have Cr:=ae hle;have HLM:=ae TU;have PS:0<=x.op/\x.op<=41:=by unfold iP aF at cW;simpa using cW
   have HQA:=ae (fun h=>Mr dK h);have HQC:=ae (fun h=>RM dK h);have HXA:=ae (fun h=>Ms dK h);have tlo:=TK.o.loops pc st hT;have tty:=TK.o.ty pc st hT;have Yr:=TK.o.len pc st hT;have tha:=TK.o.ha pc st hT;have JH:=ae (fun V (hb:Below w.heap.size w V)=>PH (x:=x) (ha:=st.ha) (H.o.aB (ax.ah hb)) (HV.o.of (hb.block _ HV.o.lt)) (fun h=>HQA.o (by simp [h])) tha);have hmr:∃a n c,mv pc= .slice a n c:=⟨_,_,_,Pc.o⟩;have PT:=ae (fun V=>PN V (vv:=ρ vb) (mv:=mv pc) true (s:=st) (x:=x) PS.1 PS.2 Yr tty hmr);have VV:=ae (fun V (hb:Below w.heap.size w V)=>PI (x:=x) (H.o.aB (ax.ah hb)) (HV.o.of (hb.block _ HV.o.lt)) (fun h=>HQA.o (by rcases h with h|h|h|h|h<;>simp [h])) (fun h=>HQC.o h));have EU:=ae (fun V (hb:Below w.heap.size w V) (ht:eI (aT x st.ty))=>Ac (s:=⟨aT x st.ty,st.lo,st.ha⟩) (x:=x) (pc:=pc) (T:=T) (smv:=mv pc) (H.o.aB (ax.ah hb)) (HV.o.of (hb.block _ HV.o.lt)) (HS.o.aB (ax.ah hb)) (by have h1:=HS.o.more pc GC.o;rw [Aj.o] at h1;exact h1.aB (ax.ah hb)) ⟨GC.o,PS.1,fun h=>HXA.o h,tlo,ht,fun q s hq=>⟨TK.o.loops q s hq,TK.o.ty q s hq⟩,hlen⟩);have HHO:=ae (fun V (hb:Below w.heap.size w V)=>TE (x:=x) (ha:=st.ha) (H.o.aB (ax.ah hb)) (HV.o.of (hb.block _ HV.o.lt)) (fun h=>HQA.o (by simp [h])));have HMM:=ae (show cZ w (mv pc) st.lo from by have h1:=HS.o.more pc GC.o;rw [Aj.o] at h1;exact h1);have sL:=ae (Gy TK.o.loops st.lo pc tlo);have LZ:=ae (Cn (x:=x) (ty:=st.ty) (by omega) tty);have HTH:=ae tha;have HT:=ae hT;rw [Pc.o] at PT EU;rw [JG.o] at JH EU HHO;unfold aQ aA at JH VV HHO;unfold aQ aA cT bU at PT EU;dsimp only at EU;rw [qX.o,uy.o,oH.o,JG.o] at PT;rw [uy.o,oH.o] at EU;rw [JG.o] at Cr HLM;clear hle TU hT hss kV hmr tlo tty Yr tha cW dK;obtain ⟨d0,d1,d2,d3,d4⟩:=KX.o.c5;obtain ⟨e0,e1,e2,e3,e4,e5,e6,e7,e8,e9,Dl,Dm,Dn⟩:=KS.o.nN;have lx:=KX.o.lt;have ls:=KS.o.lt;have fs:=KS.o.frozen;cases hh:dU p x ha with
   |false=>
    have HE:=ae (show cO p T pc=96 by rw [Cr.o,hh];rfl);rw [hh] at JH;go_wp2_with fail
    with_reducible refine (JH.o _ HW.o).mono ?_
    rintro e W1 ⟨rfl,hb⟩;clear d0 d1 d2 d3 d4 e0 e1 e2 e3 e4 e5 e6 e7 e8 e9 Dl Dm Dn lx ls fs;replace KX:=ae (KX.o.of (hb.block _ KX.o.lt));replace KS:=ae (KS.o.of (hb.block _ KS.o.lt));replace HW:=ae (HW.o.trans (hb.mono HW.o.size));clear hb;exact acp
   |true=>
    have VW:=ae hh;rw [hh] at JH;go_wp2_with fail
    with_reducible refine (JH.o _ HW.o).mono ?_
    rintro e W1 ⟨rfl,hb⟩;clear d0 d1 d2 d3 d4 e0 e1 e2 e3 e4 e5 e6 e7 e8 e9 Dl Dm Dn lx ls fs;replace KX:=ae (KX.o.of (hb.block _ KX.o.lt));replace KS:=ae (KS.o.of (hb.block _ KS.o.lt));replace HW:=ae (HW.o.trans (hb.mono HW.o.size));clear hb;obtain ⟨d0,d1,d2,d3,d4⟩:=KX.o.c5;obtain ⟨e0,e1,e2,e3,e4,e5,e6,e7,e8,e9,Dl,Dm,Dn⟩:=KS.o.nN;have lx:=KX.o.lt;have ls:=KS.o.lt;have fs:=KS.o.frozen;go_wp2_with fail
    with_reducible refine (PT.o _).mono ?_
    rintro e W2 ⟨s',rfl,lO,hb⟩;clear d0 d1 d2 d3 d4 e0 e1 e2 e3 e4 e5 e6 e7 e8 e9 Dl Dm Dn lx ls fs;replace KX:=ae (KX.o.of (hb.block _ KX.o.lt));replace KS:=ae (KS.o.of (hb.block _ KS.o.lt));replace HW:=ae (HW.o.trans (hb.mono HW.o.size));clear hb;obtain ⟨d0,d1,d2,d3,d4⟩:=KX.o.c5;obtain ⟨e0,e1,e2,e3,e4,e5,e6,e7,e8,e9,Dl,Dm,Dn⟩:=KS.o.nN;have lx:=KX.o.lt;have ls:=KS.o.lt;have fs:=KS.o.frozen;by_cases RN:bM x st.ty=0
    case neg=>
     have abi:(bM x st.ty !=0)=true:=by simpa using RN
     have HE:=ae (show cO p T pc=bM x st.ty by rw [Cr.o,VW.o];simp [RN]);have HNZ:=ae RN;unfold cT;generalize bM x st.ty=te at*;clear lO RN e0 e1 e2 e3 e4 e5 e6 e7 e8 e9 Dl Dm Dn fs;go_wp2_with (refine fM rfl 233 (.tmp 6) (.tmp 46) rfl bs (bU true s' (.slice ma n8 mc)) rfl rfl KS.o rfl wq (wu _ _ _ _ _) ?_;intro W3 iO IT);refine mu rfl ?_;exact ⟨by rw [HE.o];rfl,ax.ah (HW.o.trans (IT.below HW.o.size (by have:=y_.o;simp;exact this))),fun h=>absurd (HE.o.symm.trans h) HNZ.o⟩
    case pos=>
     obtain rfl:=lO RN;rw [RN];have Ys:=ae RN;clear lO RN;unfold cT;have Yt:=ae (show bU true ⟨aT x st.ty,st.lo,st.ha⟩ (.slice ma n8 mc)=#[.bool true,.string (fH (aT x st.ty)),ι (lc 0),ι (lc 1),ι (lc 2),ι (lc 3),ι (lc 4),ι (lc 5),ι (lc 6),ι (lc 7),ι ln,ι ha,.slice ma n8 mc] from by unfold bU;rw [uy.o,oH.o,JG.o]);generalize Yu:fH (aT x st.ty)=tb2 at*;have Yv:=ae Yu;clear Yu e0 e1 e2 e3 e4 e5 e6 e7 e8 e9 Dl Dm Dn fs;cases hk:cJ p x with
     |false=>
      have HE:=ae (show cO p T pc=92 by rw [Cr.o,VW.o,Ys.o,hk];rfl);rw [hk] at VV;go_wp2_with ((refine fM rfl 233 (.tmp 6) (.tmp 46) rfl bs (bU true ⟨aT x st.ty,st.lo,st.ha⟩ (.slice ma n8 mc)) rfl rfl KS.o rfl wq (wu _ _ _ _ _) ?_;intro W3 iO IT;rw [Yt.o] at iO;replace KX:=ae (KX.o.aB IT (by have:=sd.o;simp;exact this));replace HW:=ae (HW.o.trans (IT.below HW.o.size (by have:=y_.o;simp;exact this)));replace KS:=ae iO;replace d0:W3.cell? (π bx 0)=some (ι x.op):=KX.o.cell 0;replace d1:W3.cell? (π bx 1)=some (ι x.a):=KX.o.cell 1;replace d2:W3.cell? (π bx 2)=some (ι x.b):=KX.o.cell 2;replace d3:W3.cell? (π bx 3)=some (ι x.c):=KX.o.cell 3;replace d4:W3.cell? (π bx 4)=some (ι x.d):=KX.o.cell 4;replace lx:=KX.o.lt;clear iO IT ls))
      with_reducible refine (VV.o _ HW.o).mono ?_
      rintro e W4 ⟨rfl,hb⟩;clear d0 d1 d2 d3 d4 lx;replace KX:=ae (KX.o.of (hb.block _ KX.o.lt));replace KS:=ae (KS.o.of (hb.block _ KS.o.lt));replace HW:=ae (HW.o.trans (hb.mono HW.o.size));clear hb;exact acp
     |true=>
      have HKT:=ae hk;rw [hk] at VV;go_wp2_with ((refine fM rfl 233 (.tmp 6) (.tmp 46) rfl bs (bU true ⟨aT x st.ty,st.lo,st.ha⟩ (.slice ma n8 mc)) rfl rfl KS.o rfl wq (wu _ _ _ _ _) ?_;intro W3 iO IT;rw [Yt.o] at iO;replace KX:=ae (KX.o.aB IT (by have:=sd.o;simp;exact this));replace HW:=ae (HW.o.trans (IT.below HW.o.size (by have:=y_.o;simp;exact this)));replace KS:=ae iO;replace d0:W3.cell? (π bx 0)=some (ι x.op):=KX.o.cell 0;replace d1:W3.cell? (π bx 1)=some (ι x.a):=KX.o.cell 1;replace d2:W3.cell? (π bx 2)=some (ι x.b):=KX.o.cell 2;replace d3:W3.cell? (π bx 3)=some (ι x.c):=KX.o.cell 3;replace d4:W3.cell? (π bx 4)=some (ι x.d):=KX.o.cell 4;replace lx:=KX.o.lt;clear iO IT ls))
      with_reducible refine (VV.o _ HW.o).mono ?_
      rintro e W4 ⟨rfl,hb⟩;clear d0 d1 d2 d3 d4 lx;replace KX:=ae (KX.o.of (hb.block _ KX.o.lt));replace KS:=ae (KS.o.of (hb.block _ KS.o.lt));replace HW:=ae (HW.o.trans (hb.mono HW.o.size));clear hb;obtain ⟨d0,d1,d2,d3,d4⟩:=KX.o.c5;obtain ⟨e0,e1,e2,e3,e4,e5,e6,e7,e8,e9,Dl,Dm,Dn⟩:=KS.o.nN;have lx:=KX.o.lt;have ls:=KS.o.lt;have fs:=KS.o.frozen;obtain ⟨jb,hjb⟩:∃z,cC p T pc x (aT x st.ty) st.lo=z:=⟨_,rfl⟩;have Yw:=ae hjb;rw [hjb] at EU;clear hjb;cases jb with
      |false=>
       have HE:=ae (show cO p T pc=95 by rw [Cr.o,VW.o,Ys.o,HKT.o,Yw.o];rfl);go_wp2_with fail
       with_reducible refine (EU.o _ HW.o LZ.o).mono ?_
       rintro e W5 ⟨rfl,hb⟩;clear d0 d1 d2 d3 d4 e0 e1 e2 e3 e4 e5 e6 e7 e8 e9 Dl Dm Dn lx ls fs;replace KX:=ae (KX.o.of (hb.block _ KX.o.lt));replace KS:=ae (KS.o.of (hb.block _ KS.o.lt));replace HW:=ae (HW.o.trans (hb.mono HW.o.size));clear hb;exact acp
      |true=>
       go_wp2_with fail
       with_reducible refine (EU.o _ HW.o LZ.o).mono ?_
       rintro e W5 ⟨rfl,hb⟩;clear d0 d1 d2 d3 d4 e0 e1 e2 e3 e4 e5 e6 e7 e8 e9 Dl Dm Dn lx ls fs;replace KX:=ae (KX.o.of (hb.block _ KX.o.lt));replace KS:=ae (KS.o.of (hb.block _ KS.o.lt));replace HW:=ae (HW.o.trans (hb.mono HW.o.size));clear hb;obtain ⟨d0,d1,d2,d3,d4⟩:=KX.o.c5;obtain ⟨e0,e1,e2,e3,e4,e5,e6,e7,e8,e9,Dl,Dm,Dn⟩:=KS.o.nN;have lx:=KX.o.lt;have ls:=KS.o.lt;have fs:=KS.o.frozen;have GD:=ae (fun V (hb:Below w.heap.size w V)=>TN V (pc:=pc) (x:=x) (s:=⟨aT x st.ty,st.lo,be p x ha⟩) (smv:= .slice ma n8 mc) (by rw [<-Pc.o];exact HMM.o.aB (ax.ah hb)) (by have:=GC.o;omega) PS.1 (fun h=>(HXA.o h).1) (by show st.lo.length<=_;have:=sL.o;have:=GC.o;omega) (fun h=>Mt Yw.o h));unfold aQ aA cT bU at GD;dsimp only at GD;rw [Yv.o,uy.o,oH.o] at GD
       try rw [Oa.o] at GD
       rw [<-JG.o] at GD;rw [JG.o] at GD;have TV:=vA pc x ⟨aT x st.ty,st.lo,be p x ha⟩;have Yx:WOk (cm pc x ⟨aT x st.ty,st.lo,be p x ha⟩):=fun i hi=>by
        have hm:(cm pc x ⟨aT x st.ty,st.lo,be p x ha⟩).getD i eh∈cm pc x ⟨aT x st.ty,st.lo,be p x ha⟩:=by rw [List.getD_eq_getElem?_getD,List.getElem?_eq_getElem hi];exact List.getElem_mem hi
        refine ⟨by rw [(Ag hm).1];exact LZ.o,?_⟩;have h1:=TT hm;have h2:=sL.o;have h3:=GC.o;show _<=_;dsimp only at h1;omega
       have aaE:=ae Yx;generalize cm pc x ⟨aT x st.ty,st.lo,be p x ha⟩=wl at*;clear Yx;go_wp2_with fail
       with_reducible refine (HHO.o _ HW.o).mono ?_
       rintro e W6 ⟨rfl,hb⟩;clear d0 d1 d2 d3 d4 e0 e1 e2 e3 e4 e5 e6 e7 e8 e9 Dl Dm Dn lx ls fs;replace KX:=ae (KX.o.of (hb.block _ KX.o.lt));replace KS:=ae (KS.o.of (hb.block _ KS.o.lt));replace HW:=ae (HW.o.trans (hb.mono HW.o.size));clear hb;obtain ⟨d0,d1,d2,d3,d4⟩:=KX.o.c5;obtain ⟨e0,e1,e2,e3,e4,e5,e6,e7,e8,e9,Dl,Dm,Dn⟩:=KS.o.nN;have lx:=KX.o.lt;have ls:=KS.o.lt;have fs:=KS.o.frozen;generalize υ:be p x ha=hd9 at*;clear υ;go_wp2_with fail;have hB7:Below w.heap.size w (W6.setCell (π bs 11) (ι hd9)):=HW.o.setCell (p:=(π bs 11)) y_.o _;generalize (W6.setCell (π bs 11) (ι hd9))=W7 at*;replace HW:=ae hB7;clear hB7 KX KS;clear d0 d1 d2 d3 d4 e0 e1 e2 e3 e4 e5 e6 e7 e8 e9 Dl Dm Dn lx ls fs
       with_reducible refine (GD.o _ HW.o).mono ?_
       rintro e W8 ⟨lv,tP,rfl,hy,hb,fo⟩;obtain ⟨la,TW,GB,-,-⟩:=hy.row.val;subst GB;have HY:=ae hy;have h67:=HW.o.size;have aaF:=ae (fun b hb=>Nat.le_trans h67 (fo b hb));replace HW:=ae (HW.o.trans (hb.mono HW.o.size));have HP8:=ae (H.o.aB (ax.ah HW.o));have HV8:=ae (HV.o.of (HW.o.block _ HV.o.lt));have HS8:=ae (HS.o.aB (ax.ah HW.o));have VQ:Hid (∀q s,T q=some s->eI s.ty/\s.lo.length<=1000000000):=ae fun q s hq=>⟨TK.o.ty q s hq,by
        have h1:=Gy TK.o.loops s.lo q (TK.o.loops q s hq);have h2:=TK.o.lt q s hq;omega⟩
       have PR:Hid (∀i,i < wl.length->∀b,(tP i).ownBlock=some b->b≠A):=ae fun i hi b hb e=>by
        subst e;rcases HY.o.off i hi _ hb with h1|h1
        ·exact HS.o.off pc GC.o b (by rw [Pc.o];exact h1) rfl
        ·have h2:b < w.heap.size:=(HS.o.row.slice).2.2.2;omega
       have ES:Hid (∀b,(Value.slice la wl.length TW).ownBlock=some b->b≠A):=ae fun b hb e=>by subst e;have h1:=aaF.o b hb;have h2:b < w.heap.size:=(HS.o.row.slice).2.2.2;omega
       have Yy:Hid (vb≠A):=ae fun e=>by subst e;exact HS.o.row.eF HV.o (by decide) rfl
       clear hy hb fo h67 HS H HMM JH PT VV EU HHO GD;go_wp2_with fail;refine lk1 (w1:=W8) (pc:=pc) HP8 HV8 HY TV (fun A9 W9 hA ui hex=>?_) (fun J9 W9 j0 j1 j8 ui Yz=>?_) ⟨_,0,FK.of _ rfl,rfl,rfl,rfl,rfl,rfl,rfl,Nat.zero_le _,rfl,ae (Below.refl _ _)⟩
       ·have HE:=ae (show cO p T pc=98 from by rw [Cr.o,VW.o,Ys.o,HKT.o,Yw.o,(Al wl).2 hex];rfl);exact adN
       ·have PU:=ae Yz;have Dp:=ae ui;unfold FK;rw [j0,j1,j8];clear j0 j1 j8 Yz ui;go_wp2_with fail;go_step3;go_wp2_with fail;refine lk2 (w1:=W8) (pc:=pc) (mv:=mv) HV8 HS8 VQ HY aaE TV PU ?_ ?_ ?_;rotate_left 2
        ·exact ⟨_,0,FK.of _ rfl,rfl,rfl,rfl,rfl,rfl,rfl,Nat.zero_le _,rfl,Dp⟩
        ·intro A9 W10 hA ui hex;have HAN:=ae (show wl.any (fun w=>decide (p.code.length<=w.1))=false from by
          rw [Bool.eq_false_iff];intro h;obtain ⟨i,hi,h2⟩:=(Al wl).1 h;have:=PU.o i hi;omega)
         have HE:=ae (show cO p T pc=94 from by
          rw [Cr.o,VW.o,Ys.o,HKT.o,Yw.o,HAN.o,show (jh wl&&lA T wl)=false from by rw [Bool.eq_false_iff];exact fun h=>hex ((yB T wl).1 h)];rfl)
         exact adN
        ·intro J10 W10 j0 j1 j8 ui hme;have HME:=ae hme;have Mu:=ae ui;unfold FK;rw [j0,j8];clear j0 j1 j8 hme ui;go_wp2_with fail;have aaG:=ae (HV8.o.of (Mu.o.block _ HV8.o.lt));have vP:=ae (HY.o.aB (ax.ah Mu.o));refine lk4 (w1:=W10) aaG Yy vP ES PR (by have h2:=(HS8.o.row.slice).2.2.2;have:=Mu.o.size;omega) TV PU (fun J11 W11 Mg hF hS=>?_) ⟨_,0,FK.of _ rfl,rfl,rfl,rfl,rfl,Nat.zero_le _,rfl,ae (ax.refl _ _),mv,ae (by rw [List.take_zero];exact HS8.o.aB (ax.ah Mu.o))⟩;have HF:=ae hF;have aaH:=ae hS;unfold FK;clear hF hS;go_wp2_with fail;refine mu rfl ?_;have HAN:=ae (show wl.any (fun w=>decide (p.code.length<=w.1))=false from by
          rw [Bool.eq_false_iff];intro h;obtain ⟨i,hi,h2⟩:=(Al wl).1 h;have:=PU.o i hi;omega)
         have HE:=ae (show cO p T pc=0 from by
          rw [Cr.o,VW.o,Ys.o,HKT.o,Yw.o,HAN.o,(yB T wl).2 HME.o];rfl)
         exact ⟨by rw [HE.o];rfl,(ax.ah (HW.o.trans (Mu.o.mono HW.o.size))).trans HF.o,fun _=>⟨Mg,by rw [HLM.o];exact aaH.o⟩⟩
end
end Go.Proofs.YtblkblclmbhjiaaGreat.Vf
