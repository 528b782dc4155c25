import Derived.Test.YtblkblclmbhjiaaGreatX9
import Derived.Deep.Slices
import Derived.Deep.Fields
import Derived.ChangeSame
import Derived.ChangeArms
set_option linter.all false
set_option maxHeartbeats 40000000
set_option maxRecDepth 100000
open Go.Proofs.Tryz
open Option renaming some->H,none->K7
open Go renaming Value->UL,World->UK
open Go.Value renaming slice->to
open Go.Obj renaming cells->QP
open Go.Ending renaming returned->C8
open Go.World renaming cell?->UJ
section
def qX4{p:Prop}(h:p:=by
 refine⟨_,rfl,?_⟩;rw[aY];by_cases e:i<p.on.length
 ·rw[oK e,fq e];have:=tb.ons _ (jO e);simp only[Option.getD_some];omega
 ·rw[jy O,show i-p.on.length=0 by omega];have:=tb.aT;simp;omega):p:=h
namespace Go.Rv
open Go.RowKit aj.Vm
open aj hiding aR an ak
open Ma (dP ci aX vb aI aV)
open Vf (Kp fW pV rT bN aZ iw gZ)
def FL(J:Nat->UL):Act:={tmps:=#[J 0,J 1,J 2,J 3,J 4,J 5,J 6,J 7,J 8,J 9,J 10,J 11,J 12,J 13,J 14,J 15,J 16,J 17,J 18,J 19,J 20,J 21,J 22,J 23,J 24,J 25,J 26,J 27,J 28,J 29,J 30,J 31,J 32,J 33,J 34,J 35,J 36,J 37,J 38,J 39,J 40,J 41,J 42,J 43,J 44,J 45,J 46,J 47,J 48,J 49,J 50,J 51,J 52,J 53,J 54,J 55,J 56,J 57,J 58,J 59,J 60,J 61,J 62,J 63,J 64,J 65,J 66,J 67,J 68,J 69,J 70,J 71,J 72,J 73,J 74,J 75,J 76,J 77],defers:=[]}
def FL.of(A:Array UL)(h:A=(FL λk=>A.getD k undef).tmps):({tmps:=A,defers:=[]}:Act)=FL λk=>A.getD k undef:=by rw[h];rfl
noncomputable def loL(k:Nat):Code:=Mk.iS Proofs.Tryz.f144.body k
structure LB(w:UK)(K:Kp)(p:aQ)(lb A U S:Nat)(g:Nat->mh)(f:Nat->Bool):Prop where
 dS:aF w lb 260 (IY K p (to (H (G A 0)) p.code.length p.code.length) (to (H (G U 0)) p.code.length p.code.length) (to (H (G S 0)) p.code.length p.code.length))
 at_:Row w 262 4 (to (H (G A 0)) p.code.length p.code.length) p.code.length (Fz g)
 up:Row w 3 1 (to (H (G U 0)) p.code.length p.code.length) p.code.length (λ_=> Y 0)
 st:Row w 4 1 (to (H (G S 0)) p.code.length p.code.length) p.code.length (λi=> .bool (f i))
section
variable {w w' W W4:UK}{K:Kp}{p:aQ}{lb A U S pb fb:Nat}{g:Nat->mh}{f:Nat->Bool}{Q:Exit->Act->UK->Prop}
def LB.ne(h:LB w K p lb A U S g f):lb≠A/\lb≠S/\A≠U/\A≠S/\U≠S/\lb≠U:=by have key:∀{x y:Nat} {T T':TypeId} {cs cs':Array UL},aF w x T cs->aF w y T' cs'->T≠T'->x≠y:=λh k ht=>aF.ne h k ht;obtain⟨ca,ha⟩:=h.at_.dS;obtain⟨cu,hu⟩:=h.up.dS;obtain⟨cs,hs⟩:=h.st.dS;exact⟨key h.dS ha bd,key h.dS hs bd,key ha hu bd,key ha hs bd,key hu hs bd,key h.dS hu bd⟩
def LB.put(h:LB w K p lb A U S g f){z:Nat}(hz:z<p.code.length):LB (((((w.setCell (G A (z*4)) (.string ⟨#[]⟩)).setCell (G A (z*4+1)) (Y (-1))).setCell (G A (z*4+2)) (Y 0)).setCell (G A (z*4+3)) (.bool true)).setCell (G S z) (.bool true)) K p lb A U S (aR g z ⟨[],-1,0,true⟩) (aR f z true)/\
 aA [A,S] w (((((w.setCell (G A (z*4)) (.string ⟨#[]⟩)).setCell (G A (z*4+1)) (Y (-1))).setCell (G A (z*4+2)) (Y 0)).setCell (G A (z*4+3)) (.bool true)).setCell (G S z) (.bool true)):=by
 obtain⟨n1,n2,n3,n4,n5,n6⟩:=h.ne;have f1:aA [A,S] w (((((w.setCell (G A (z*4)) (.string ⟨#[]⟩)).setCell (G A (z*4+1)) (Y (-1))).setCell (G A (z*4+2)) (Y 0)).setCell (G A (z*4+3)) (.bool true)).setCell (G S z) (.bool true)):=
  (((((aA.refl [A,S] w).setCell (p:=(G A (z*4))) ay _).setCell (p:=(G A (z*4+1))) ay _).setCell (p:=(G A (z*4+2))) ay _).setCell (p:=(G A (z*4+3))) ay _).setCell (p:=(G S z)) ay _
 have bm:∀{b c:Nat},b≠c->(Value.slice (H (G b 0)) p.code.length p.code.length).ownBlock≠H c:=λh e=>h (sd e);refine⟨⟨h.dS.aG f1 (by simp[n1,n2]),?_,h.up.aG f1 (λb X=>by cases X;simp[n3.symm,n5]),?_⟩,f1⟩
 ·refine((FA h.at_ hz (.string ⟨#[]⟩) (Y (-1)) (Y 0) (.bool true)).other (bm n4) z (.bool true)).congr λo ho=>?_;unfold Fz;by_cases e:o / 4=z
  ·rw[bk e,e,an];rfl
  ·rw[aw e,ak _ _ e]
 ·have h2:=(((h.st.other (bm n4.symm) (z*4) (.string ⟨#[]⟩)).other (bm n4.symm) (z*4+1) (Y (-1))).other (bm n4.symm) (z*4+2) (Y 0)).other (bm n4.symm) (z*4+3) (.bool true);refine(h2.set (o:=z) O (.bool true)).congr λo ho=>?_;rw[dq];by_cases e:o=z
  ·rw[bk e,bk e]
  ·rw[aw e,aw e]
def vz(bl:List Int)(i:Nat):Nat->mh:=λn=>if(bl.take i).contains (n:Int)then⟨[],-1,0,true⟩else s0
def vA(bl:List Int)(i:Nat):Nat->Bool:=λn=>(bl.take i).contains (n:Int)
def aao{bl:List Int}{i:Nat}(h:i<bl.length)(hn:bl.getD i 0<0):vz bl (i+1)=vz bl i/\vA bl (i+1)=vA bl i:=by
 have key:∀n:Nat,((bl.take (i+1)).contains (n:Int))=(bl.take i).contains (n:Int):=λn=>by rw[gZ bl h];generalize bl.getD i 0=z at*;rw[pO];simp;omega
 exact⟨by funext n;unfold vz;rw[key],by funext n;unfold vA;rw[key]⟩
def adT{bl:List Int}{i m:Nat}(h:i<bl.length)(hn:bl.getD i 0=m):vz bl (i+1)=aR (vz bl i) m ⟨[],-1,0,true⟩/\vA bl (i+1)=aR (vA bl i) m true:=by
 have key:∀n:Nat,((bl.take (i+1)).contains (n:Int))=((bl.take i).contains (n:Int)||decide (n=m)):=λn=>by rw[gZ bl h,hn,pO];simp;exact or_congr Iff.rfl O
 refine⟨by funext n;rw[dq];unfold vz;rw[key];by_cases e:n=m<;>simp[e],by funext n;rw[dq];unfold vA;rw[key];by_cases e:n=m<;>simp[e]⟩
def adS(p:aQ):vz (p.on++[p.aT]) (p.on.length+1)=(gO p).at_/\vA (p.on++[p.aT]) (p.on.length+1)=fU p:=by have e:(p.on++[p.aT]).take (p.on.length+1)=p.on++[p.aT]:=List.take_of_length_le ay;exact⟨by unfold vz;rw[e];rfl,by unfold vA;rw[e];rfl⟩
def LB.done(h:LB w K p lb A U S (vz (p.on++[p.aT]) (p.on.length+1)) (vA (p.on++[p.aT]) (p.on.length+1))):rU w K p lb (to (H (G A 0)) p.code.length p.code.length) (to (H (G U 0)) p.code.length p.code.length) (to (H (G S 0)) p.code.length p.code.length) (gO p):=by obtain⟨e1,e2⟩:=adS p;exact⟨h.dS,h.at_.congr (λo _=>by rw[e1]),h.up,h.st.congr (λo _=>by rw[e2])⟩
def LO1(W4:UK)(K:Kp)(p:aQ)(pb fb lb A U S:Nat)(m:Nat)(a:Act)(W:UK):Prop:=
 ∃(J:Nat->UL) (i:Nat),a=FL J/\J 1=UI pb/\J 3=UI fb/\J 5=Y p.code.length/\J 6=UI lb/\J 7=Y i/\i<=p.on.length+1/\m+i=p.on.length+2/\Hid (aA [A,S] W4 W)/\Hid (LB W K p lb A U S (vz (p.on++[p.aT]) i) (vA (p.on++[p.aT]) i))
def O1{p:Prop}(h:p:=by
 have hd:decide (0<=z)=false:=by simpa using jn
 have HN:=Z (MT.o O);clear hold TA oY HYE MT jn wD;go_wp2;exact⟨_,i+1,FL.of _ rfl,rfl,rfl,rfl,rfl,rfl,by have:=dE.o;omega,O,HF,Z (by rw[HN.o.1,HN.o.2];exact HS.o)⟩):p:=h
def LQ{p:Prop}(h:p:=by
 obtain⟨m,rfl⟩:=dz jn;have Zx:m<p.code.length:=O;have HE:=Z (oY.o m rfl Zx);have HY:=Z (HYE.o m rfl);obtain⟨u0,k0⟩:=hold 0 O m Zx;obtain⟨u1,k1⟩:=hold 1 O m Zx;obtain⟨u2,k2⟩:=hold 2 O m Zx;obtain⟨u3,k3⟩:=hold 3 O m Zx;obtain⟨u4,k4⟩:=TA m Zx;simp only[Nat.add_zero]at k0;clear hold TA oY HYE MT wD;go_wp2;exact⟨_,i+1,FL.of _ rfl,rfl,rfl,rfl,rfl,rfl,by have:=dE.o;omega,O,Z (HF.o.trans HE.o.2),Z (by rw[HY.o.1,HY.o.2];exact HE.o.1)⟩):p:=h
def lo1(a0f:Hid (fW W4 K p))(HP:Hid (aF W4 pb 27 (iw K p)))(sU:Hid (pb≠A/\pb≠S))(HOA:Hid (0<p.on.length->∀b off c,K.o=to (H (G b off)) p.on.length c->b≠A/\b≠S))(tb:tM p)
 (d_:∀(J:Nat->UL) W,J 1=UI pb->J 3=UI fb->J 5=Y p.code.length->J 6=UI lb->aA [A,S] W4 W->LB W K p lb A U S (vz (p.on++[p.aT]) (p.on.length+1)) (vA (p.on++[p.aT]) (p.on.length+1))->Q (.exit 0) (FL J) W)
 {a:Act} {W:UK} (h:LO1 W4 K p pb fb lb A U S (p.on.length+2) a W):(Code.loop (loL 0)).wp prog Q a W:=by
 refine Mk.aN (λm a W=>LO1 W4 K p pb fb lb A U S m a W) (p.on.length+2) h ?_ ?_
 ·exact TR
 rintro m a0 W ⟨J,i,rfl,j1,j3,j5,j6,j7,hi,hm,HF,HS⟩;unfold FL
 conv=>arg 2;whnf
 have w2:IntKind.i64.wrap ((i:Int)+1)=((i+1:Nat):Int):=by have:=tb.on;have:=tb.g;rw[bJ _ lI];omega
 rw[j1,j3,j5,j6,j7];clear j1 j3 j5 j6 j7;obtain⟨oa,oc,ko,-,-⟩:=aZ.val a0f.o.o;have hp:=HP.o.aG HF.o (by have:=sU.o;simp;exact this);obtain⟨-,-,-,p3,p4⟩:=hp.c5;have lp:=hp.lt;rw[ko]at p3;have wD:(p.on++[p.aT]).length=p.on.length+1:=by simp
 obtain⟨-,-,-,-,-,-,v6,-,v8⟩:=HS.o.dS.c9;have lv:=HS.o.dS.lt;obtain⟨n1,n2,n3,n4,n5,n6⟩:=HS.o.ne;have Rw:∀o,W.frozen? (G A o)=false:=λo=>HS.o.at_.frozen o;have Vn:∀o,W.frozen? (G S o)=false:=λo=>HS.o.st.frozen o;have hAl:A<W.heap.size:=(HS.o.at_.slice).2.2.2;have hSl:S<W.heap.size:=(HS.o.st.slice).2.2.2;clear n3 n5 n6;by_cases be:i<p.on.length+1
 ·have hbi:∃z,(p.on++[p.aT]).getD i 0=z/\(-1<=z/\z<p.code.length):=by exact qX4
  obtain⟨z,hz,nQ,qm⟩:=hbi;have dE:=Z be;have MT:=Z (λh:z<0=>aao (bl:=p.on++[p.aT]) (i:=i) O (by rw[hz];exact h));have HYE:=Z (λ(m:Nat) (h:z=m)=>adT (bl:=p.on++[p.aT]) (i:=i) (m:=m) O (by rw[hz];exact h));have oY:=Z (λ(m:Nat) (hm:z=m) (h:m<p.code.length)=>HS.o.put h);have hold:∀k,k<4->∀m,m<p.code.length->∃v,UJ W (G A (m*4+k))=H v:=λk hk m hm=>⟨_,HS.o.at_.cell (o:=m*4+k) O⟩;have TA:∀m,m<p.code.length->∃v,UJ W (G S m)=H v:=λm hm=>⟨_,HS.o.st.cell (o:=m) O⟩;by_cases hio:i<p.on.length
  ·obtain⟨b,off,cap,eo,q1,q2,lo,c⟩:=a0f.o.o.some O O;have hbo:=HOA.o O b off cap eo;rw[ko]at eo;simp only[cM]at eo;obtain⟨rfl,-,rfl⟩:=eo;have c0:UJ W (G b (off+i))=H (Y z):=by refine(dN (HF.o.block _ lo (by simp;exact hbo))).trans ((c i O).trans ?_);rw[<-hz,aY,oK hio,<-aY];rfl
   clear c hz lo q2;by_cases jn:0<=z
   ·exact LQ
   ·exact O1
  ·have c0:p.aT=z:=by rw[<-hz,aY,jy O,show i-p.on.length=0 by omega];simp
   rw[c0]at p4;clear c0 hz;by_cases jn:0<=z
   ·exact LQ
   ·exact O1
 ·obtain rfl:i=p.on.length+1:=O;clear be Rw Vn;have HSE:=Z HS.o;go_wp2;exact Eq.mpr (bu (λa=>Q (.exit 0) a W) (FL.of _ rfl)) (d_ _ _ rfl rfl rfl rfl HF.o HSE.o)
def LO2(W5:UK)(K:Kp)(p:aQ)(fb lb A U S:Nat)(m:Nat)(a:Act)(W:UK):Prop:=
 ∃(J:Nat->UL) (i:Nat) (L:lE),a=FL J/\J 3=UI fb/\J 5=Y p.code.length/\J 6=UI lb/\J 9=Y i/\i<=p.code.length/\m+i=p.code.length+1/\Hid (aA [A,U] W5 W)/\Hid (rU W K p lb (to (H (G A 0)) p.code.length p.code.length) (to (H (G U 0)) p.code.length p.code.length) (to (H (G S 0)) p.code.length p.code.length) L)/\Hid (0<p.code.length->mr p L)/\Hid (fB p p.code.length 0 (gO p)=fB p (p.code.length-i) i L)
def pg{W5:UK}(T8:Hid (∀V,aA [A,U] W5 V->fW V K p))(XU:Hid (aF W5 fb 99 #[Y 0,Y 0]))(sU:Hid (fb≠A/\fb≠U))(hlen:p.code.length<=262144)(me:Hid (∀i,i∈p.code->jH i=true/\ir p i=true))
 (iU:∀(B:Array UL) W (i:Nat) (e:Int),B.getD 2 undef= .pointer K7->B.getD 3 undef=UI fb->aA [A,U] W5 W->e≠0->fB p p.code.length 0 (gO p)= .inl (e,i)->Q .ret {tmps:=B,defers:=[]} ((W.setCell (G fb 0) (Y e)).setCell (G fb 1) (Y i)))
 (d_:∀(J:Nat->UL) W L,J 3=UI fb->J 6=UI lb->aA [A,U] W5 W->fB p p.code.length 0 (gO p)= .inr L->Q (.exit 2) (FL J) W)
 {a:Act} {W:UK} (h:LO2 W5 K p fb lb A U S (p.code.length+1) a W):(Code.loop (loL 1)).wp prog Q a W:=by
 refine Mk.aN (λm a W=>LO2 W5 K p fb lb A U S m a W) (p.code.length+1) h ?_ ?_
 ·rintro a W ⟨J,i,L,-,-,-,-,-,h1,h2,-⟩;omega
 rintro m a0 W ⟨J,i,L,rfl,j3,j5,j6,j9,hi,hm,HF,HL,HO,uj⟩;unfold FL
 conv=>arg 2;whnf
 have w2:=mO i O;rw[j3,j5,j6,j9];clear j3 j5 j6 j9;by_cases be:i<p.code.length
 ·have Dy:=Z (aaG (T8.o _ HF.o) HL.o (HO.o O) be hlen (me.o _ (gj be)).1 (me.o _ (gj be)).2);have Ad:=Z (λe=>afH (HO.o O) be e);have lN:=Z (show fB p (p.code.length-i) i L=if(cA p L i).1=0 then fB p (p.code.length - (i+1)) (i+1) (cA p L i).2 else .inl ((cA p L i).1,i)by
   rw[show p.code.length-i=(p.code.length - (i+1))+1 by omega];rfl)
  have dE:=Z be;unfold vy at Dy;generalize cA p L i=pr at*;obtain⟨pe,pL⟩:=pr;dsimp only at Dy lN Ad;go_wp2_with fail;refine Dy.o.mono ?_;rintro e W1 ⟨rfl,hf,hl⟩;have E7:=Z (HF.o.trans (show aA [A,U] W W1 from hf));have Nc:=Z hl;have hk:=XU.o.aG E7.o (by have:=sU.o;simp;exact this);obtain⟨c0,c1⟩:=hk.c2;have vT:=hk.frozen;have lf:=hk.lt;clear hf hl hk;by_cases he:pe=0
  ·subst he;have HG:=Z (show fB p p.code.length 0 (gO p)=fB p (p.code.length - (i+1)) (i+1) pL by rw[uj.o,lN.o,bk rfl]);have Ry:=Z (Nc.o rfl);have yL:=Z (Ad.o rfl);clear vT c0 c1 lN Nc Ad;go_wp2;exact⟨_,i+1,pL,FL.of _ rfl,rfl,rfl,rfl,rfl,dE.o,O,E7,Ry,Z (λ_=>yL.o),HG⟩
  ·have bm:(pe !=0)=true:=by simpa using he
   have HG:=Z (show fB p p.code.length 0 (gO p)= .inl (pe,i)by rw[uj.o,lN.o,aw he]);have HZ:=Z he;clear he lN Nc Ad;go_wp2;exact iU _ _ i pe rfl rfl E7.o HZ.o HG.o
 ·obtain rfl:i=p.code.length:=O;clear be;have HG:=Z (show fB p p.code.length 0 (gO p)= .inr L by rw[uj.o,Nat.sub_self];rfl);go_wp2;exact Eq.mpr (bu (λa=>Q (.exit 2) a W) (FL.of _ rfl)) (d_ _ _ _ rfl rfl HF.o HG.o)
end
end Go.Rv
end
namespace Go.Rv
open Go.RowKit aj.Vm
open aj hiding aR an ak
open Ma (dP ci aX vb aI aV)
open Vf (Kp fW pV rT bN aZ iw gZ)
def jt(p:aQ):Int×Int:=if bq p≠0 then(bq p,0)else match fB p p.code.length 0 (gO p)with| .inl (e,at_)=>(e,(at_:Int))| .inr _=>(0,0)
def adG(w:UK)(p:aQ)(e:Ending)(w':UK):Prop:=∃pv,e=C8 (.tuple #[pv,.agg #[Y (jt p).1,Y (jt p).2]])/\Below w.heap.size w w'
def vB{R:Ending->UK->Prop}{A:Array UL}{W:UK}{fb:Nat}{u v pv:UL}(h2:A.getD 2 undef=pv)(h3:A.getD 3 undef=UI fb)(kf:aF W fb 99 #[u,v])
 (hR:R (C8 (.tuple #[pv,.agg #[u,v]])) W):bodyPost prog Proofs.Tryz.f144 R .ret {tmps:=A,defers:=[]} W:=by
 obtain⟨f0,f1⟩:=kf.c2;rw[oL]at h2 h3;refine bK (v:= .tuple #[pv,.agg #[u,v]]) ?_ rfl hR;simp[results,results144,go_sem,h2,h3,f0,f1]
def RLK(W1:UK)(K:Kp)(p:aQ)(pb fb:Nat)(a:Act)(W:UK):Prop:=∃(J:Nat->UL) (lb A U S:Nat),a=FL J/\J 1=UI pb/\J 3=UI fb/\J 5=Y p.code.length/\J 6=UI lb/\Hid (Below W1.heap.size W1 W)/\Hid (LB W K p lb A U S (λ_=>s0) (λ_=>false))/\Hid (W1.heap.size<=A/\W1.heap.size<=U/\W1.heap.size<=S)
def q_:(prog.info? 262).map (λi=>(i.zero,i.size,i.bytes))=H (H (.agg #[.string ⟨#[]⟩,Y 0,Y 0,.bool false]),4,40):=by kernel_rfl
def nE:(prog.info? 4).map (λi=>(i.zero,i.size,i.bytes))=H (H (.bool false),1,1):=by kernel_rfl
def MQ(o:Nat):(#[.string ⟨#[]⟩,Y 0,Y 0,.bool false]:Array UL).getD (o % 4) undef=Fz (λ_=>s0) o:=rfl
def Bu{p:Prop}(h:p:=by
 unfold IY;rw[HK.o.1,HK.o.2.1,HK.o.2.2.1,HK.o.2.2.2.1,HK.o.2.2.2.2];exact aF.new _ _ _):p:=h
def Iy{w:UK}{K:Kp}{p:aQ}(h:fW w K p):Calls prog 144 #[pV K p] w (adG w p):=by
 obtain⟨⟨ga,gc,g1,g2,g3⟩,⟨va,vc,v1,v2,v3⟩,⟨ta,tc,t1,t2,t3⟩,⟨oa,oc,o1,o2,o3⟩,⟨ca,cc,c1,c2,c3⟩⟩:=h.sl;have Nn:=Z (λV (X:Below w.heap.size w V)=>CF (w:=V) (h.aG (aA.af X)));have a0f:=Z h;obtain⟨W0,kX⟩:∃W0,W0=(w.alloc (QP #[to ga p.bw.length gc,to va p.vars.length vc,to ta p.aS.length tc,to oa p.on.length oc,Y p.aT,to ca p.code.length cc] 27)).alloc (QP #[Y 0,Y 0] 99):=⟨_,rfl⟩;have kp:aF W0 w.heap.size 27 (iw K p):=by rw[kX];unfold iw;rw[g1,v1,t1,o1,c1];exact(aF.new _ _ _).alloc _
 have kf:aF W0 (w.heap.size+1) 99 #[Y 0,Y 0]:=by rw[kX];exact aF.bR ay
 have ep:Below w.heap.size w W0:=by rw[kX];exact((aB _ _).alloc (aL _) _).alloc ay _
 have ru:W0.heap.size=w.heap.size+1+1:=by rw[kX];simp
 have HK:=Z (And.intro g1 (And.intro v1 (And.intro t1 (And.intro o1 c1))));unfold pV at Nn ⊢;rw[g1,v1,t1,o1,c1]at Nn ⊢;clear h g1 v1 t1 o1 c1 g2 g3 v2 v3 t2 t3 o2 o3 c2 c3;go_enter func144,ntmps144;go_wp2_with fail;rw[<-kX];refine(Nn.o _ ep).mono ?_;rintro e W1 ⟨rfl,X⟩;have KP:=Z (kp.of (X.block _ kp.lt));have KF:=Z (kf.of (X.block _ kf.lt));have cR:=Z (ep.trans (X.mono ep.size));have tu:Hid (w.heap.size+1<W1.heap.size):=Z (by have:=X.size;omega);clear kp kf X ep ru kX Nn;obtain⟨f0,f1⟩:=KF.o.c2;have hff:=KF.o.frozen;have lf:=KF.o.lt;by_cases sr:bq p=0
 case neg=>
  have HV:=Z (show jt p=(bq p,0)by unfold jt;rw[bk sr]);have bm:(bq p !=0)=true:=by simpa using sr
  generalize bq p=ce at*;clear sr;go_wp2_with fail
  first
   |refine vB (fb:=w.heap.size+1) rfl rfl ((KF.o.set 0 (.int .i64 ce)).set 1 (.int .i64 0)) ?_
   |(rw[ja];refine vB (fb:=w.heap.size+1) rfl rfl ((KF.o.set 0 (.int .i64 ce)).set 1 (.int .i64 0)) ?_)
  exact⟨_,by rw[HV.o],by exact(cR.o.setCell (p:=(G (w.heap.size+1) 0)) ay _).setCell (p:=(G (w.heap.size+1) 1)) ay _⟩
 obtain⟨tb,qT⟩:=cE sr;have HCD:=Z qT;have TB:=Z tb;have hlen:=tb.code;have uj:=Z (show jt p=(match fB p p.code.length 0 (gO p)with| .inl (e,at_)=>(e,(at_:Int))| .inr _=>(0,0))by unfold jt;rw[aw (by simp[sr])]);rw[sr];clear sr qT tb;have p0:UJ W1 (G w.heap.size 0)=H (to ga p.bw.length gc):=by rw[<-HK.o.1];exact KP.o.cell 0
 have p1:UJ W1 (G w.heap.size 1)=H (to va p.vars.length vc):=by rw[<-HK.o.2.1];exact KP.o.cell 1
 have p2:UJ W1 (G w.heap.size 2)=H (to ta p.aS.length tc):=by rw[<-HK.o.2.2.1];exact KP.o.cell 2
 have p3:UJ W1 (G w.heap.size 3)=H (to oa p.on.length oc):=by rw[<-HK.o.2.2.2.1];exact KP.o.cell 3
 have p4:UJ W1 (G w.heap.size 4)=H (Y p.aT):=KP.o.cell 4;have p5:UJ W1 (G w.heap.size 5)=H (to ca p.code.length cc):=by rw[<-HK.o.2.2.2.2];exact KP.o.cell 5
 have lp:=KP.o.lt;have jN:Hid (40*p.code.length<=281474976710656/\8*p.code.length<=281474976710656/\1*p.code.length<=281474976710656/\p.code.length<=maxLen):=Z ⟨O,O,O,by unfold maxLen;omega⟩;clear f0 f1 hff lf;go_wp2;refine wp_mono (Q:=λe a W=>e=Exit.normal/\RLK W1 K p w.heap.size (w.heap.size+1) a W) ?_ ?_
 ·refine Mk.bH (S:=λwx=>Below W1.heap.size W1 wx) bh (az _ W1 1) (λau=>?_);refine Mk.tk 0 (v:=?_) rfl (λwz fj=>?_) au ?_;rotate_left
  ·exact PM
  refine Mk.pt ?_;refine Mk.fC 1 ?_;refine Mk.fC 3 ?_;refine Mk.fC 5 ?_;refine Mk.oD (rs:=[2,4,6]) (bZ rfl (λK9 hK=>?_) (bZ rfl (λK9 hK=>?_) (bZ rfl (λK9 hK=>?_) cz)))
  ·refine bO rfl (.tmp 21) (.tmp 21) 258 rfl 262 underlying258 q_ rfl bd .i64 .i64 _ _ p.code.length rfl rfl rfl rfl jN.o.1 jN.o.2.2.2 ?_;intro Wa Xr hba;have hS:=au.trans (hba.mono au.size);have Xs:=au.size;clear au;refine hK.out _ _ hS (λau=>?_);clear hK K9;refine Mk.pt ?_;refine Mk.oD (rs:=[4,6]) (bZ rfl (λK9 hK=>?_) (bZ rfl (λK9 hK=>?_) cz))
   ·refine bO rfl (.tmp 23) (.tmp 23) 24 rfl 3 underlying24 Vf.ck rfl bd .i64 .i64 _ _ p.code.length rfl rfl rfl rfl jN.o.2.1 jN.o.2.2.2 ?_;intro Wb oE qK;have hS:=au.trans (qK.mono au.size);have MY:=au.size;clear au;refine hK.out _ _ hS (λau=>?_);clear hK K9;refine Mk.pt ?_;refine Mk.oD (rs:=[6]) (bZ rfl (λK9 hK=>?_) cz);refine bO rfl (.tmp 25) (.tmp 25) 22 rfl 4 underlying22 nE rfl bd .i64 .i64 _ _ p.code.length rfl rfl rfl rfl jN.o.2.2.1 jN.o.2.2.2 ?_;intro Wc Kb uF;have hS:=au.trans (uF.mono au.size);have Q5:=au.size;clear au;refine hK.out _ _ hS (λau=>?_);clear hK K9;refine Mk.pt ?_;refine Mk.fC 7 ?_;refine Mk.oD (rs:=[8]) (bZ rfl (λK9 hK=>?_) cz);refine fH ?_;go_simp;refine hK.out _ _ (au.alloc au.size _) (λau=>?_);clear hK K9;refine Mk.pt ?_;refine Mk.fC 9 ?_;refine nW bh ⟨rfl,rfl,_,_,_,_,_,FL.of _ rfl,rfl,rfl,rfl,rfl,Z au,Z ⟨?_,((((Xr.aG (aA.af (S:=[]) qK) ay).aG (aA.af (S:=[]) uF) ay).alloc _)).congr (λo _=>MQ o),(((oE.aG (aA.af (S:=[]) uF) ay).alloc _)).congr (λo _=>by rw[Nat.mod_one];rfl),((Kb.alloc _)).congr (λo _=>by rw[Nat.mod_one];rfl)⟩,Z ⟨Xs,MY,Q5⟩⟩ _;exact Bu
   ·refine bO rfl (.tmp 25) (.tmp 25) 22 rfl 4 underlying22 nE rfl bd .i64 .i64 _ _ p.code.length rfl rfl rfl rfl jN.o.2.2.1 jN.o.2.2.2 ?_;intro Wb oE qK;have hS:=au.trans (qK.mono au.size);have MY:=au.size;clear au;refine hK.out _ _ hS (λau=>?_);clear hK K9;refine Mk.pt ?_;refine Mk.oD (rs:=[4]) (bZ rfl (λK9 hK=>?_) cz);refine bO rfl (.tmp 23) (.tmp 23) 24 rfl 3 underlying24 Vf.ck rfl bd .i64 .i64 _ _ p.code.length rfl rfl rfl rfl jN.o.2.1 jN.o.2.2.2 ?_;intro Wc Kb uF;have hS:=au.trans (uF.mono au.size);have Q5:=au.size;clear au;refine hK.out _ _ hS (λau=>?_);clear hK K9;refine Mk.pt ?_;refine Mk.fC 7 ?_;refine Mk.oD (rs:=[8]) (bZ rfl (λK9 hK=>?_) cz);refine fH ?_;go_simp;refine hK.out _ _ (au.alloc au.size _) (λau=>?_);clear hK K9;refine Mk.pt ?_;refine Mk.fC 9 ?_;refine nW bh ⟨rfl,rfl,_,_,_,_,_,FL.of _ rfl,rfl,rfl,rfl,rfl,Z au,Z ⟨?_,((((Xr.aG (aA.af (S:=[]) qK) ay).aG (aA.af (S:=[]) uF) ay).alloc _)).congr (λo _=>MQ o),((Kb.alloc _)).congr (λo _=>by rw[Nat.mod_one];rfl),(((oE.aG (aA.af (S:=[]) uF) ay).alloc _)).congr (λo _=>by rw[Nat.mod_one];rfl)⟩,Z ⟨Xs,Q5,MY⟩⟩ _;exact Bu
  ·refine bO rfl (.tmp 23) (.tmp 23) 24 rfl 3 underlying24 Vf.ck rfl bd .i64 .i64 _ _ p.code.length rfl rfl rfl rfl jN.o.2.1 jN.o.2.2.2 ?_;intro Wa Xr hba;have hS:=au.trans (hba.mono au.size);have Xs:=au.size;clear au;refine hK.out _ _ hS (λau=>?_);clear hK K9;refine Mk.pt ?_;refine Mk.oD (rs:=[2,6]) (bZ rfl (λK9 hK=>?_) (bZ rfl (λK9 hK=>?_) cz))
   ·refine bO rfl (.tmp 21) (.tmp 21) 258 rfl 262 underlying258 q_ rfl bd .i64 .i64 _ _ p.code.length rfl rfl rfl rfl jN.o.1 jN.o.2.2.2 ?_;intro Wb oE qK;have hS:=au.trans (qK.mono au.size);have MY:=au.size;clear au;refine hK.out _ _ hS (λau=>?_);clear hK K9;refine Mk.pt ?_;refine Mk.oD (rs:=[6]) (bZ rfl (λK9 hK=>?_) cz);refine bO rfl (.tmp 25) (.tmp 25) 22 rfl 4 underlying22 nE rfl bd .i64 .i64 _ _ p.code.length rfl rfl rfl rfl jN.o.2.2.1 jN.o.2.2.2 ?_;intro Wc Kb uF;have hS:=au.trans (uF.mono au.size);have Q5:=au.size;clear au;refine hK.out _ _ hS (λau=>?_);clear hK K9;refine Mk.pt ?_;refine Mk.fC 7 ?_;refine Mk.oD (rs:=[8]) (bZ rfl (λK9 hK=>?_) cz);refine fH ?_;go_simp;refine hK.out _ _ (au.alloc au.size _) (λau=>?_);clear hK K9;refine Mk.pt ?_;refine Mk.fC 9 ?_;refine nW bh ⟨rfl,rfl,_,_,_,_,_,FL.of _ rfl,rfl,rfl,rfl,rfl,Z au,Z ⟨?_,(((oE.aG (aA.af (S:=[]) uF) ay).alloc _)).congr (λo _=>MQ o),((((Xr.aG (aA.af (S:=[]) qK) ay).aG (aA.af (S:=[]) uF) ay).alloc _)).congr (λo _=>by rw[Nat.mod_one];rfl),((Kb.alloc _)).congr (λo _=>by rw[Nat.mod_one];rfl)⟩,Z ⟨MY,Xs,Q5⟩⟩ _;exact Bu
   ·refine bO rfl (.tmp 25) (.tmp 25) 22 rfl 4 underlying22 nE rfl bd .i64 .i64 _ _ p.code.length rfl rfl rfl rfl jN.o.2.2.1 jN.o.2.2.2 ?_;intro Wb oE qK;have hS:=au.trans (qK.mono au.size);have MY:=au.size;clear au;refine hK.out _ _ hS (λau=>?_);clear hK K9;refine Mk.pt ?_;refine Mk.oD (rs:=[2]) (bZ rfl (λK9 hK=>?_) cz);refine bO rfl (.tmp 21) (.tmp 21) 258 rfl 262 underlying258 q_ rfl bd .i64 .i64 _ _ p.code.length rfl rfl rfl rfl jN.o.1 jN.o.2.2.2 ?_;intro Wc Kb uF;have hS:=au.trans (uF.mono au.size);have Q5:=au.size;clear au;refine hK.out _ _ hS (λau=>?_);clear hK K9;refine Mk.pt ?_;refine Mk.fC 7 ?_;refine Mk.oD (rs:=[8]) (bZ rfl (λK9 hK=>?_) cz);refine fH ?_;go_simp;refine hK.out _ _ (au.alloc au.size _) (λau=>?_);clear hK K9;refine Mk.pt ?_;refine Mk.fC 9 ?_;refine nW bh ⟨rfl,rfl,_,_,_,_,_,FL.of _ rfl,rfl,rfl,rfl,rfl,Z au,Z ⟨?_,((Kb.alloc _)).congr (λo _=>MQ o),((((Xr.aG (aA.af (S:=[]) qK) ay).aG (aA.af (S:=[]) uF) ay).alloc _)).congr (λo _=>by rw[Nat.mod_one];rfl),(((oE.aG (aA.af (S:=[]) uF) ay).alloc _)).congr (λo _=>by rw[Nat.mod_one];rfl)⟩,Z ⟨Q5,Xs,MY⟩⟩ _;exact Bu
  ·refine bO rfl (.tmp 25) (.tmp 25) 22 rfl 4 underlying22 nE rfl bd .i64 .i64 _ _ p.code.length rfl rfl rfl rfl jN.o.2.2.1 jN.o.2.2.2 ?_;intro Wa Xr hba;have hS:=au.trans (hba.mono au.size);have Xs:=au.size;clear au;refine hK.out _ _ hS (λau=>?_);clear hK K9;refine Mk.pt ?_;refine Mk.oD (rs:=[2,4]) (bZ rfl (λK9 hK=>?_) (bZ rfl (λK9 hK=>?_) cz))
   ·refine bO rfl (.tmp 21) (.tmp 21) 258 rfl 262 underlying258 q_ rfl bd .i64 .i64 _ _ p.code.length rfl rfl rfl rfl jN.o.1 jN.o.2.2.2 ?_;intro Wb oE qK;have hS:=au.trans (qK.mono au.size);have MY:=au.size;clear au;refine hK.out _ _ hS (λau=>?_);clear hK K9;refine Mk.pt ?_;refine Mk.oD (rs:=[4]) (bZ rfl (λK9 hK=>?_) cz);refine bO rfl (.tmp 23) (.tmp 23) 24 rfl 3 underlying24 Vf.ck rfl bd .i64 .i64 _ _ p.code.length rfl rfl rfl rfl jN.o.2.1 jN.o.2.2.2 ?_;intro Wc Kb uF;have hS:=au.trans (uF.mono au.size);have Q5:=au.size;clear au;refine hK.out _ _ hS (λau=>?_);clear hK K9;refine Mk.pt ?_;refine Mk.fC 7 ?_;refine Mk.oD (rs:=[8]) (bZ rfl (λK9 hK=>?_) cz);refine fH ?_;go_simp;refine hK.out _ _ (au.alloc au.size _) (λau=>?_);clear hK K9;refine Mk.pt ?_;refine Mk.fC 9 ?_;refine nW bh ⟨rfl,rfl,_,_,_,_,_,FL.of _ rfl,rfl,rfl,rfl,rfl,Z au,Z ⟨?_,(((oE.aG (aA.af (S:=[]) uF) ay).alloc _)).congr (λo _=>MQ o),((Kb.alloc _)).congr (λo _=>by rw[Nat.mod_one];rfl),((((Xr.aG (aA.af (S:=[]) qK) ay).aG (aA.af (S:=[]) uF) ay).alloc _)).congr (λo _=>by rw[Nat.mod_one];rfl)⟩,Z ⟨MY,Q5,Xs⟩⟩ _;exact Bu
   ·refine bO rfl (.tmp 23) (.tmp 23) 24 rfl 3 underlying24 Vf.ck rfl bd .i64 .i64 _ _ p.code.length rfl rfl rfl rfl jN.o.2.1 jN.o.2.2.2 ?_;intro Wb oE qK;have hS:=au.trans (qK.mono au.size);have MY:=au.size;clear au;refine hK.out _ _ hS (λau=>?_);clear hK K9;refine Mk.pt ?_;refine Mk.oD (rs:=[2]) (bZ rfl (λK9 hK=>?_) cz);refine bO rfl (.tmp 21) (.tmp 21) 258 rfl 262 underlying258 q_ rfl bd .i64 .i64 _ _ p.code.length rfl rfl rfl rfl jN.o.1 jN.o.2.2.2 ?_;intro Wc Kb uF;have hS:=au.trans (uF.mono au.size);have Q5:=au.size;clear au;refine hK.out _ _ hS (λau=>?_);clear hK K9;refine Mk.pt ?_;refine Mk.fC 7 ?_;refine Mk.oD (rs:=[8]) (bZ rfl (λK9 hK=>?_) cz);refine fH ?_;go_simp;refine hK.out _ _ (au.alloc au.size _) (λau=>?_);clear hK K9;refine Mk.pt ?_;refine Mk.fC 9 ?_;refine nW bh ⟨rfl,rfl,_,_,_,_,_,FL.of _ rfl,rfl,rfl,rfl,rfl,Z au,Z ⟨?_,((Kb.alloc _)).congr (λo _=>MQ o),(((oE.aG (aA.af (S:=[]) uF) ay).alloc _)).congr (λo _=>by rw[Nat.mod_one];rfl),((((Xr.aG (aA.af (S:=[]) qK) ay).aG (aA.af (S:=[]) uF) ay).alloc _)).congr (λo _=>by rw[Nat.mod_one];rfl)⟩,Z ⟨Q5,MY,Xs⟩⟩ _;exact Bu
 rintro e a W4 ⟨rfl,J,lb,A,U,S,rfl,j1,j3,j5,j6,jK,HLB,BL⟩;clear p0 p1 p2 p3 p4 p5 lp jN;unfold FL;rw[j1,j3,j5,j6];clear j1 j3 j5 j6;have yo:=Z (cR.o.trans (jK.o.mono cR.o.size));have KF4:=Z (KF.o.of (jK.o.block _ KF.o.lt));have KP4:=Z (KP.o.of (jK.o.block _ KP.o.lt));have Vc:=Z (show w.heap.size<=A/\w.heap.size<=U/\w.heap.size<=S by have:=tu.o;have:=BL.o;omega);have ep:vz (p.on++[p.aT]) 0=(λ_=>s0)/\vA (p.on++[p.aT]) 0=(λ_=>false):=⟨by funext n;simp[vz],by funext n;simp[vA]⟩;have eV:=Z ep;clear ep;go_wp2_with fail;refine lo1 (W4:=W4) (A:=A) (U:=U) (S:=S) (Z (a0f.o.aG (aA.af (by exact yo.o)))) KP4 (Z (by have:=tu.o;have:=BL.o;omega)) (Z (λhon b off c e=>by
  obtain⟨b',Zp,oh,e',-,-,hl,-⟩:=a0f.o.o.some hon O;rw[e]at e';simp only[cM,im,Addr.mk.injEq]at e';have:=Vc.o;omega)) TB.o (λJ3 W5 j1 j3 j5 j6 RQ hl5=>?_) ⟨_,0,FL.of _ rfl,rfl,rfl,rfl,rfl,rfl,cK _,O,Z (aA.refl _ _),Z (by rw[eV.o.1,eV.o.2];exact HLB.o)⟩
 have Og:=Z RQ;have I0:=Z hl5.done;have nU:=Z (yo.o.trans (RQ.below yo.o.size (by have:=Vc.o;simp;omega)));have ZG:=Z (KF4.o.aG RQ (by have:=tu.o;have:=BL.o;simp;omega));unfold FL;rw[j1,j3,j5,j6];clear j1 j3 j5 j6 RQ hl5;go_wp2_with fail;refine pg (W5:=W5) (A:=A) (U:=U) (S:=S) (lb:=lb) (Z (λV hf=>a0f.o.aG (aA.af (by exact nU.o.trans (hf.below nU.o.size (by have:=Vc.o;simp;omega)))))) ZG (Z (by have:=tu.o;have:=BL.o;omega)) hlen HCD (λB W6 i e h2 h3 hf6 bm Np=>?_) (λJ6 W6 L j3 j6 hf6 Np=>?_) ⟨_,0,gO p,FL.of _ rfl,rfl,rfl,rfl,rfl,cK _,O,Z (aA.refl _ _),I0,Z (λh=>abF h),Z (by rw[Nat.sub_zero])⟩
 ·try simp only[Exit.inBlock,Exit.then]
  have HV:=Z (show jt p=(e,(i:Int))by rw[uj.o,Np]);have hk:=ZG.o.aG hf6 (by have:=tu.o;have:=BL.o;simp;omega);have AK:=nU.o.trans (hf6.below nU.o.size (by have:=Vc.o;simp;omega))
  first
   |refine vB (fb:=w.heap.size+1) h2 h3 ((hk.set 0 (.int .i64 e)).set 1 (.int .i64 i)) ?_
   |(rw[ja];refine vB (fb:=w.heap.size+1) h2 h3 ((hk.set 0 (.int .i64 e)).set 1 (.int .i64 i)) ?_)
  exact⟨_,by rw[HV.o],by exact(AK.setCell (p:=(G (w.heap.size+1) 0)) ay _).setCell (p:=(G (w.heap.size+1) 1)) ay _⟩
 ·have HV:=Z (show jt p=(0,0)by rw[uj.o,Np]);have Ng:=Z (ZG.o.aG hf6 (by have:=tu.o;have:=BL.o;simp;omega));have wk:=Z (nU.o.trans (hf6.below nU.o.size (by have:=Vc.o;simp;omega)));unfold FL;rw[j3,j6];clear j3 j6 hf6 Np;obtain⟨f0,f1⟩:=Ng.o.c2;have hff:=Ng.o.frozen;have lf:=Ng.o.lt;go_wp2_with fail
  first
   |refine vB (fb:=w.heap.size+1) rfl rfl ((Ng.o.set 0 (.int .i64 0)).set 1 (.int .i64 0)) ?_
   |(rw[ja];refine vB (fb:=w.heap.size+1) rfl rfl ((Ng.o.set 0 (.int .i64 0)).set 1 (.int .i64 0)) ?_)
  exact⟨_,by rw[HV.o],by exact(wk.o.setCell (p:=(G (w.heap.size+1) 0)) ay _).setCell (p:=(G (w.heap.size+1) 1)) ay _⟩
end Go.Rv
section
namespace aj.Vm
def uv{a b:Nat}(ha:a<=MS)(X:b<=MS):bG a b=min (a+b) MS:=by unfold bG;split<;>omega
def adR{a b:Nat}(ha:a<=MS)(X:b<=MS):bG 1 (bG a b)=bG (bG 1 a) b:=by
 have h1:1<=MS:=by decide
 rw[uv ha X,uv h1 O,uv h1 ha,uv O X];omega
end aj.Vm
namespace Go.Rv
open Go.RowKit aj.Vm
open aj hiding aR an ak
open Ma (dP ci aX vb aI aV)
open Vf (Kp fW pV rT bN aZ gC ck)
def FH(J:Nat->UL):Act:={tmps:=#[J 0,J 1,J 2,J 3,J 4,J 5,J 6,J 7,J 8,J 9,J 10,J 11,J 12,J 13,J 14,J 15,J 16,J 17,J 18,J 19,J 20,J 21,J 22,J 23,J 24,J 25,J 26,J 27,J 28,J 29,J 30,J 31,J 32,J 33,J 34,J 35,J 36,J 37,J 38,J 39,J 40,J 41,J 42,J 43,J 44,J 45,J 46,J 47,J 48,J 49,J 50,J 51,J 52,J 53,J 54,J 55,J 56,J 57,J 58,J 59,J 60,J 61,J 62,J 63,J 64,J 65,J 66,J 67,J 68,J 69,J 70,J 71,J 72,J 73,J 74,J 75,J 76,J 77,J 78,J 79,J 80,J 81,J 82,J 83,J 84],defers:=[]}
def FH.of(A:Array UL)(h:A=(FH λk=>A.getD k undef).tmps):({tmps:=A,defers:=[]}:Act)=FH λk=>A.getD k undef:=by rw[h];rfl
def FuR(w:UK)(p:aQ)(cv:UL)(fb:Nat)(fc:Nat)(μ:Nat)(a:Act)(W:UK):Prop:=
 ∃(J:Nat->UL) (m:Nat),a=FH J/\J 0=cv/\J 3=to (H (G fb 0)) p.code.length fc/\J 4=Y ((m:Int) - 1)/\m<=p.code.length/\μ=m+1/\Hid (w.heap.size<=fb/\Below w.heap.size w W/\Row W 3 1 (to (H (G fb 0)) p.code.length fc) p.code.length (gC (dQ p (p.code.length-m))))
section
variable {w:UK}{K:Kp}{p:aQ}
def Vh{p:Prop}(h:p:=by
 go_wp2_with fail;refine(Fi.o _).mono ?_;exact S4):p:=h
def S4{p:Prop}(h:p:=by
 rintro e W1 ⟨rfl,rfl⟩;go_wp2;exact⟨_,j,FH.of _ rfl,rfl,(by rw[HN.o];rfl),rfl,(by rw[HN.o];omega),(by have:=ZI.o;omega),Z (by rw[HN.o];exact Kg.o _ _ 0 _ qg.o.symm)⟩):p:=h
def IB(h:fW w K p)(hlen:p.code.length<=262144)(fD:CY p):
 Calls prog 145 #[K.c] w (Vf.ui w p):=by
 obtain⟨ca,cc,kc,WK,Fb⟩:=aZ.val h.cd;rw[kc];have a0f:=Z h;have B0:=Z kc;have me:=Z fD;have jN:Hid (8*p.code.length<=281474976710656/\p.code.length<=maxLen):=Z ⟨O,by unfold maxLen;omega⟩;have IC:Hid (∀V (b:Nat),b<=MS->Calls prog 233 #[Y 1,Y b] V λe w'=>e=C8 (Y (bG 1 b))/\w'=V):=Z λV b X=>JH V 1 b bd X;have HPM:=Z (λV (a b:Nat) ha X=>JH V a b ha X);have HTM:=Z (λV (a b:Nat) ha X=>adb V a b ha X);clear h kc fD;generalize hn:p.code.length=n at*;have HN:=Z hn;clear hn;have w3:IntKind.i64.wrap ((n:Int) - 1)=(n:Int) - 1:=bJ _ lI;go_enter func145,ntmps145;go_wp2_with (refine jr rfl (.tmp 8) (.tmp 8) 24 rfl 3 underlying24 ck rfl .i64 .i64 _ _ n rfl rfl rfl rfl jN.o.1 jN.o.2 ?_;intro W0 ZA ep);have vJ:=Z ZA;have eV:=Z ep;clear ZA ep;go_wp2_with fail;obtain⟨fb,WL⟩:∃fb,fb=w.heap.size:=⟨_,rfl⟩;refine Mk.aN (FuR w p (to ca n cc) fb n) (n+1) ⟨_,n,FH.of _ rfl,rfl,by rw[HN.o,WL];rfl,rfl,by rw[HN.o];exact aL _,rfl,Z ⟨by rw[WL];exact aL _,eV.o,by rw[HN.o,WL,Nat.sub_self];exact vJ.o⟩⟩ (λa W hh=>by obtain⟨J,m,-,-,-,-,-,h2,-⟩:=hh;omega) ?_;clear vJ eV WL;rintro μ a W ⟨J,m,rfl,j0,j3,j4,hm,aaF,HF⟩;rw[HN.o]at j3 hm HF;unfold FH;rw[j0,j3,j4];clear j0 j3 j4;by_cases hm0:m=0
 ·subst hm0;have HE:=Z (show Vf.ui w p (C8 (to (H (G fb 0)) n n)) W from⟨fb,n,by rw[HN.o],HF.o.1,HF.o.2.1,by rw[HN.o];have h:=HF.o.2.2;rw[Nat.sub_zero]at h;unfold lB;rw[HN.o];exact h⟩);go_wp2_with fail;refine Vf.TS rfl ?_;exact HE.o
 obtain⟨j,rfl⟩:∃j,m=j+1:=⟨m-1,O⟩;have w1:(((j+1:Nat):Int) - 1)=(j:Int):=O;have w2:IntKind.i64.wrap ((j:Int) - 1)=(j:Int) - 1:=bJ _ lI;rw[w1];clear w1 hm0;have hj:j<n:=O;obtain⟨b,off,cap,e,-,-,c0,c1,c2,c3,c4⟩:=(a0f.o.aG (aA.af HF.o.2.1)).ins (i:=j) (by rw[HN.o];exact hj);rw[B0.o,HN.o]at e;simp only[cM]at e;obtain⟨rfl,-,rfl⟩:=e;have lN:=Z (zo (p:=p) (j:=j) (by rw[HN.o];exact hj));rw[HN.o]at lN;have ZI:=Z aaF;have HX:=Z (λcs T=>(show Row (W.alloc (QP cs T)) 3 1 (to (H (G fb 0)) n n) n (gC (dQ p (n - (j+1))))from HF.o.2.2.alloc _));have gU:∀i,i<n->UJ W (G fb i)=H (Y (dQ p (n - (j+1)) i:Nat)):=λi hi=>HF.o.2.2.cell (o:=i) O;have PU:∀i,dQ p (n - (j+1)) i<=MS:=uh p _;have WL:fb<W.heap.size:=(HF.o.2.2.slice).2.2.2;have vT:∀o,W.frozen? (G fb o)=false:=λo=>HF.o.2.2.frozen o;have lb:=aH c0;have Kg:=Z (λ(cs:Array UL) (T:TypeId) (k v:Nat) (hv:v=lP p (dQ p (n - (j+1))) j)=>show w.heap.size<=fb/\Below w.heap.size w (((W.setCell (G fb j) (Y v)).alloc (QP cs T)).drewN k)/\Row (((W.setCell (G fb j) (Y v)).alloc (QP cs T)).drewN k) 3 1 (to (H (G fb 0)) n n) n (gC (dQ p (n-j)))from by
  have h1:Below w.heap.size w (W.setCell (G fb j) (Y v)):=HF.o.2.1.setCell HF.o.1 _;have h2:=h1.alloc h1.size (QP cs T);refine⟨HF.o.1,h2.trans ((az _ _ k).mono h2.size),?_⟩;rw[lN.o];refine Row.drewN (Row.alloc ?_ _) k;refine(HF.o.2.2.set (o:=j) O (Y v)).congr λo ho=>?_;unfold gC;rw[dq];by_cases e:o=j
  ·subst e;rw[bk rfl,bk rfl,hv]
  ·rw[aw e,aw e])
 have Ex:=Z (λ(V:UK) (X:Below W.heap.size W V) (v:Nat) (hv:v=lP p (dQ p (n - (j+1))) j)=>show w.heap.size<=fb/\Below w.heap.size w (V.setCell (G fb j) (Y v))/\Row (V.setCell (G fb j) (Y v)) 3 1 (to (H (G fb 0)) n n) n (gC (dQ p (n-j)))from by
  refine⟨HF.o.1,(HF.o.2.1.trans (X.mono HF.o.2.1.size)).setCell HF.o.1 _,?_⟩;rw[lN.o];have hr:=(HF.o.2.2.aG (aA.af (S:=[]) X) ay).set (o:=j) O (Y v);refine hr.congr λo ho=>?_;unfold gC;rw[dq];by_cases e:o=j
  ·subst e;rw[bk rfl,bk rfl,hv]
  ·rw[aw e,aw e])
 have pY:=Z (λ(V:UK) (X:Below W.heap.size W V)=>HF.o.2.2.aG (aA.af (S:=[]) X) ay);have cR:=Z (λcs T=>(aB W.heap.size W).alloc (aL _) (QP cs T));have cj:=gU j hj;have hx:=me.o j (by rw[HN.o];exact hj);rw[HN.o]at hx;have Rw:lP p (dQ p (n - (j+1))) j=if(al p j).op=0\/(al p j).op=27 then 1 else if(al p j).op=22 then bG 1 (dQ p (n - (j+1)) (al p j).a.toNat)else if(al p j).op=23 then bG 1 (max (dQ p (n - (j+1)) (j+1)) (dQ p (n - (j+1)) (al p j).a.toNat))else if(al p j).op=24 then bG (bG 1 (eM (al p j).a.toNat (bG 1 (dQ p (n - (j+1)) (j+2))))) (bG 1 (dQ p (n - (j+1)) (al p (j+1)).a.toNat))else bG 1 (dQ p (n - (j+1)) (j+1)):=rfl;have qg:=Z Rw;clear Rw;have Nj:=Z HF.o.2.1;generalize dQ p (n - (j+1))=g at*;have HG:=Z PU;have yM:=Z gU;clear PU gU;obtain⟨RN,Kh,uU,GO⟩:=hx;obtain⟨op,dW⟩:∃z,(al p j).op=z:=⟨_,rfl⟩;obtain⟨xa,zJ⟩:∃z,(al p j).a=z:=⟨_,rfl⟩;obtain⟨xb,kW⟩:∃z,(al p j).b=z:=⟨_,rfl⟩;obtain⟨xc,hxc⟩:∃z,(al p j).c=z:=⟨_,rfl⟩;obtain⟨xd,Vv⟩:∃z,(al p j).d=z:=⟨_,rfl⟩;rw[dW]at c0 RN Kh uU GO qg;rw[zJ]at c1 Kh uU qg;rw[kW]at c2;rw[hxc]at c3;rw[Vv]at c4;clear dW zJ kW hxc Vv;by_cases o1:op=0\/op=27
 ·rw[bk o1]at qg;have Fi:=Z (λV=>IC.o V 0 bd);rw[show bG 1 0=1 by decide]at Fi;rcases o1 with rfl|rfl
  all_goals
   exact Vh
 rw[aw o1]at qg;have o0:(op==0)=false:=by simp;exact λh=>o1 (.inl h)
 have Zv:(op==27)=false:=by simp;exact λh=>o1 (.inr h)
 by_cases o2:op=22
 ·subst o2;rw[bk rfl]at qg;obtain⟨a1,a2⟩:=Kh (.inl rfl);obtain⟨xm,rfl⟩:=dz a1;have Zw:xm<n:=O;have ca9:=yM.o xm Zw;have Fi:=Z (λV=>IC.o V (g xm) (HG.o _));rw[Int.toNat_natCast]at qg;generalize g xm=gx at*;exact Vh
 rw[aw o2]at qg;have o22:(op==22)=false:=by simpa using o2
 have hj1:j+1<n:=GO (λh=>o1 (.inl h)) (λh=>o1 (.inr h)) o2;have w4:IntKind.i64.wrap ((j:Int)+1)=((j+1:Nat):Int):=by rw[bJ _ lI];omega
 have cj1:=yM.o (j+1) hj1;by_cases o3:op=23
 ·subst o3;rw[bk rfl]at qg;obtain⟨a1,a2⟩:=Kh (.inr rfl);obtain⟨xm,rfl⟩:=dz a1;have Zw:xm<n:=O;have ca9:=yM.o xm Zw;rw[Int.toNat_natCast]at qg;have Fi:=Z (λV=>IC.o V (g (j+1)) (HG.o _));have Nb:=Z (λV=>IC.o V (g xm) (HG.o _));have HMX:=Z (λh:g (j+1)<g xm=>show max (g (j+1)) (g xm)=g xm by omega);have HMY:=Z (λh:¬g (j+1)<g xm=>show max (g (j+1)) (g xm)=g (j+1)by omega);generalize max (g (j+1)) (g xm)=mx at*;generalize g (j+1)=gx at*;generalize g xm=gy at*;by_cases hc:gx<gy
  ·rw[HMX.o hc]at qg;clear HMX HMY;go_wp2_with fail;refine(Nb.o _).mono ?_;exact S4
  ·rw[HMY.o hc]at qg;clear HMX HMY;exact Vh
 rw[aw o3]at qg;have o23:(op==23)=false:=by simpa using o3
 by_cases o4:op=24
 ·subst o4;rw[bk rfl]at qg;obtain⟨a1,a2,hj2,t1,t2⟩:=uU rfl;obtain⟨xm,rfl⟩:=dz a1;have xle:xm<=4194304:=O;have Zy:=yM.o (j+2) hj2;obtain⟨b2,Ip,CH,e2,-,-,-,e1,-⟩:=(a0f.o.aG (aA.af Nj.o)).ins (i:=j+1) (by rw[HN.o];exact hj1);rw[B0.o,HN.o]at e2;simp only[cM,im,Addr.mk.injEq]at e2;obtain⟨⟨rfl,rfl,-⟩,-,-⟩:=e2;obtain⟨tm,htm⟩:=dz t1;have tlt:tm<n:=O;rw[htm]at e1 qg;have Zz:=yM.o tm tlt;rw[Int.toNat_natCast,Int.toNat_natCast]at qg;rw[<-adR (ug _ _) (iG (HG.o _))]at qg;have Fi:=Z (λV=>IC.o V (g (j+2)) (HG.o _));have Nb:=Z (λV=>HTM.o V xm (bG 1 (g (j+2))) (by unfold MS;omega) (iG (HG.o _)));have HP4:=Z (λV=>IC.o V (g tm) (HG.o _));have Wk:=Z (λV=>HPM.o V (eM xm (bG 1 (g (j+2)))) (bG 1 (g tm)) (ug _ _) (iG (HG.o _)));have HP6:=Z (λV=>IC.o V (bG (eM xm (bG 1 (g (j+2)))) (bG 1 (g tm))) (iG (iG (HG.o _))));clear htm t1 t2 a1 a2 RN Kh uU GO cj1;generalize bG (eM xm (bG 1 (g (j+2)))) (bG 1 (g tm))=r5 at*;generalize eM xm (bG 1 (g (j+2)))=r2 at*;generalize bG 1 (g (j+2))=r1 at*;generalize bG 1 (g tm)=r4 at*;generalize g (j+2)=gx at*;generalize g tm=gy at*;have JG:0<=(j:Int)+1:=O;have Bj:(j:Int)+1<(n:Int):=O;have Dq:((j:Int)+1).toNat=j+1:=O;have xZ:0<=(j:Int)+2:=O;have hs5:(j:Int)+2<(n:Int):=O;have hs6:((j:Int)+2).toNat=j+2:=O;have w6:IntKind.i64.wrap ((j:Int)+2)=(j:Int)+2:=bJ _ lI;clear w4;have w4:IntKind.i64.wrap ((j:Int)+1)=(j:Int)+1:=bJ _ lI;have fI:=cR.o #[Y 24,Y xm,Y xb,Y xc,Y xd] 40;have kx:aF (W.alloc (QP #[Y 24,Y xm,Y xb,Y xc,Y xd] 40)) W.heap.size 40 #[Y 24,Y xm,Y xb,Y xc,Y xd]:=aF.new _ _ _;go_wp2_with fail;obtain⟨W1,CW⟩:∃W1,W1=W.alloc (QP #[Y 24,Y xm,Y xb,Y xc,Y xd] 40):=⟨_,rfl⟩;rw[<-CW]at fI kx ⊢;have d1:UJ W1 (G W.heap.size 1)=H (Y xm):=kx.cell 1;have key:∀b o v,UJ W (G b o)=H v->UJ W1 (G b o)=H v:=λb o v h=>(dN (fI.block _ (aH h))).trans h;replace cj:=key _ _ _ cj;replace Zy:=key _ _ _ Zy;replace Zz:=key _ _ _ Zz;replace e1:=key _ _ _ e1;have kE:=Z fI;clear CW kx fI key c0 c1 c2 c3 c4 vT;generalize gu:W.heap.size=bx at*;clear gu;refine wp_region_still_tail 20 bh bh ?_;simp only[List.take_succ_cons,List.take_zero,List.drop_succ_cons,List.drop_zero]
  iterate 7 still_step
  still_call (Fi.o _)
  still_call (Nb.o _)
  iterate 9 still_step
  still_call (HP4.o _)
  still_call (Wk.o _)
  refine wpStill_nil ?_;change wpList _ _ _ _ _ (W1.drewN 1);have dC:=kE.o.trans (az _ W1 1);have cj9:(W1.drewN 1).cell? (G fb j)=H (Y (g j:Nat)):=cj;have vT:∀o,(W1.drewN 1).frozen? (G fb o)=false:=λo=>(pY.o _ dC).frozen o;have eF:=Z dC;clear dC cj Zy Zz e1 JG Bj Dq xZ hs5 hs6 d1;generalize W1.drewN 1=V0 at*;go_wp2_with fail;refine(HP6.o _).mono ?_;rintro e W1 ⟨rfl,rfl⟩;go_wp2;exact⟨_,j,FH.of _ rfl,rfl,(by rw[HN.o];rfl),rfl,(by rw[HN.o];omega),(by have:=ZI.o;omega),Z (by rw[HN.o];exact Ex.o _ eF.o _ qg.o.symm)⟩
 rw[aw o4]at qg;have WM:(op==24)=false:=by simpa using o4
 have Fi:=Z (λV=>IC.o V (g (j+1)) (HG.o _));generalize g (j+1)=gx at*;clear o1 o2 o3 o4 RN Kh uU GO;exact Vh
end
end Go.Rv
end
namespace Go.Rv
open Go.RowKit aj.Vm
open aj hiding aR an ak
open Ma (dP ci aX vb aI aV)
open Vf (Kp fW pV rT bN aZ iw gZ Ac xh nY gC ck)
def FM(J:Nat->UL):Act:={tmps:=#[J 0,J 1,J 2,J 3,J 4,J 5,J 6,J 7,J 8,J 9,J 10,J 11,J 12,J 13,J 14,J 15,J 16,J 17,J 18,J 19,J 20,J 21,J 22,J 23,J 24,J 25,J 26,J 27,J 28,J 29,J 30,J 31,J 32,J 33,J 34,J 35,J 36,J 37,J 38,J 39,J 40,J 41,J 42,J 43,J 44,J 45,J 46,J 47,J 48,J 49,J 50,J 51,J 52,J 53,J 54,J 55,J 56,J 57,J 58,J 59,J 60,J 61,J 62,J 63,J 64,J 65,J 66,J 67,J 68],defers:=[]}
def FM.of(A:Array UL)(h:A=(FM λk=>A.getD k undef).tmps):({tmps:=A,defers:=[]}:Act)=FM λk=>A.getD k undef:=by rw[h];rfl
noncomputable def ruL(k:Nat):Code:=Mk.iS Proofs.Tryz.f70.body k
section
variable {w W7:UK}{K:Kp}{p:aQ}{pb gb:Nat}{Q:Exit->Act->UK->Prop}
def RR1(W7:UK)(K:Kp)(p:aQ)(pb gb:Nat)(fv:UL)(m:Nat)(a:Act)(W:UK):Prop:=
 ∃(J:Nat->UL) (i n:Nat) (lv:UL) (ms:Int),a=FM J/\J 1=UI pb/\J 2=UI (pb+1)/\J 3=UI (pb+1+1)/\J 6=fv/\J 7=UI gb/\J 8=Y i/\
  i<=p.on.length+1/\m+i=p.on.length+2/\(i<=p.on.length->n=i)/\(i=p.on.length+1->n=p.on.length/\ms=(bU p p.aT:Nat))/\Hid (Below W7.heap.size W7 W)/\Hid (Row W 3 1 lv n (Ac p (p.on++[p.aT])))/\Hid (∀b,lv.ownBlock=H b->W7.heap.size<=b)/\Hid (aF W gb 97 #[lv,Y ms])/\Hid (bt p (p.on++[p.aT])=bt p ((p.on++[p.aT]).drop i))
def O0{p:Prop}(h:p:=by
 obtain⟨a9,m9,c9,hv9⟩:∃a m c,v'=to a m c:=by rcases f2.val with⟨h,-⟩|⟨_,_,h,-⟩<;>exact⟨_,_,_,h⟩
 subst hv9;have F1:=Z f1;have F2:=Z f2;have F3:=Z f3;have F4:=Z f4;clear bo hf hv f1 f2 f3 f4 g0 g1 hfg ID;go_wp2;refine⟨_,n+1,n+1,_,ms,FM.of _ rfl,rfl,rfl,rfl,rfl,rfl,rfl,by have:=dE.o;omega,O,(λ_=>rfl),(λh=>by omega),F1,F2,F3,F4,pX⟩):p:=h
def ES{p:Prop}(h:p:=by
 have pX:=Z (show bt p (p.on++[p.aT])=H (n9:Int)by rw[HE.o,Fk.o,bk z_]);have IE:1152921504606846976<fu:=z_;have kc:=B0.o.of (HB.o.block _ B0.o.lt);have kf:=SP.o.of (HB.o.block _ SP.o.lt);obtain⟨z0,z1⟩:=kc.c2;obtain⟨z2,z3⟩:=kf.c2;have z4:=kc.frozen;have z5:=kf.frozen;have z6:=kf.lt;have z7:=kc.lt;clear kc kf z_ ID Fk;go_wp2;exact iU _ _ _ rfl rfl HB.o pX.o):p:=h
def rr1{fb fc:Nat}(a0f:Hid (fW W7 K p))(HP:Hid (aF W7 pb 27 (iw K p)))(HGB:Hid (W7.heap.size<=gb))(HFV:Hid (Row W7 3 1 (to (H (G fb 0)) p.code.length fc) p.code.length (gC (lB p))))(tb:tM p)
 (B0:Hid (aF W7 (pb+1) 97 #[Pl,Y 0])) (SP:Hid (aF W7 (pb+1+1) 99 #[Y 0,Y 0]))
 (iU:∀(B:Array UL) W (n:Int),B.getD 2 undef=UI (pb+1)->B.getD 3 undef=UI (pb+1+1)->Below W7.heap.size W7 W->bt p (p.on++[p.aT])=H n->Q .ret {tmps:=B,defers:=[]} ((((W.setCell (G (pb+1) 0) Pl).setCell (G (pb+1) 1) (Y 0)).setCell (G (pb+1+1) 0) (Y 97)).setCell (G (pb+1+1) 1) (Y n)))
 (d_:∀(J:Nat->UL) W lv,J 2=UI (pb+1)->J 3=UI (pb+1+1)->J 7=UI gb->Below W7.heap.size W7 W->Row W 3 1 lv p.on.length (Ac p (p.on++[p.aT]))->(∀b,lv.ownBlock=H b->W7.heap.size<=b)->aF W gb 97 #[lv,Y (bU p p.aT:Nat)]->bt p (p.on++[p.aT])=K7->Q (.exit 0) (FM J) W)
 {a:Act} {W:UK} (h:RR1 W7 K p pb gb (to (H (G fb 0)) p.code.length fc) (p.on.length+2) a W):(Code.loop (ruL 0)).wp prog Q a W:=by
 refine Mk.aN (λm a W=>RR1 W7 K p pb gb (to (H (G fb 0)) p.code.length fc) m a W) (p.on.length+2) h ?_ ?_
 ·rintro a W ⟨J,i,n,lv,ms,-,-,-,-,-,-,-,h1,h2,-⟩;omega
 rintro m a0 W ⟨J,i,n,lv,ms,rfl,j1,j2,j3,j6,j7,j8,hi,hm,xy,Cv,HB,HR,HO,HG,HE⟩;unfold FM
 conv=>arg 2;whnf
 have afz:p.on.length<=16:=by have:=tb.on;have:=tb.g;omega
 have w2:=mO i O;rw[j1,j2,j3,j6,j7,j8];clear j1 j2 j3 j6 j7 j8;obtain⟨oa,oc,ko,-,-⟩:=aZ.val a0f.o.o;have hp:=HP.o.of (HB.o.block _ HP.o.lt);obtain⟨-,-,-,p3,p4⟩:=hp.c5;have lp:=hp.lt;rw[ko]at p3;obtain⟨g0,g1⟩:=HG.o.c2;have lg:=HG.o.lt;have hfg:=HG.o.frozen;have HMS:=Z Cv;have JL:=Z xy;clear Cv xy hp;by_cases be:i<p.on.length+1
 ·have hbi:∃z,(p.on++[p.aT]).getD i 0=z/\(-1<=z/\z<p.code.length):=by exact qX4
  obtain⟨z,hz,nQ,qm⟩:=hbi;have dE:=Z be;have HZ:=Z hz;have Fk:=Z (nY p (p.on++[p.aT]) (i:=i) jz);rw[hz]at Fk;have bm:=Z (λ(V:UK) (v:UL) (n:Nat) (hr:Row V 3 1 v n (Ac p (p.on++[p.aT]))) (hk:∃x y,aF V gb 97 #[x,y])=>show v.ownBlock≠H gb from by obtain⟨x,y,hk⟩:=hk;exact hr.eZ hk bd);by_cases hio:i<p.on.length
  ·obtain⟨b,off,cap,eo,q1,q2,lo,c⟩:=a0f.o.o.some O O;rw[ko]at eo;simp only[cM]at eo;obtain⟨rfl,-,rfl⟩:=eo;have c0:UJ W (G b (off+i))=H (Y z):=by refine(dN (HB.o.block _ lo)).trans ((c i O).trans ?_);rw[<-hz,aY,oK hio,<-aY];rfl
   have jN:Hid (i+1<=maxLen/\(i+1)*8<=140737488355328):=Z ⟨by unfold maxLen;omega,O⟩;have hn:n=i:=JL.o O;subst hn;have iE:∃la ln lc,lv=to la ln lc:=by rcases HR.o.val with⟨h,-⟩|⟨_,_,h,-⟩<;>exact⟨_,_,_,h⟩
   have ID:=Z (λ(k:Int) (V:UK) (v':UL) (w1:UK) (hv:Below W.heap.size W V) (hn:k=(bU p z:Nat)) (hr:Row w1 3 1 v' (n+1) (fY n (Ac p (p.on++[p.aT])) λ_=> Y k)) (hf:aA lv.ownBlock.toList V w1) (ho:v'.ownBlock=lv.ownBlock\/v'.ownBlock=H V.heap.size)=>
    show Below W7.heap.size W7 (w1.setCell (G gb 0) v')/\Row (w1.setCell (G gb 0) v') 3 1 v' (n+1) (Ac p (p.on++[p.aT]))/\(∀b,v'.ownBlock=H b->W7.heap.size<=b)/\aF (w1.setCell (G gb 0) v') gb 97 #[v',Y ms]/\UJ w1 (G gb 0)=H lv/\(∀o,w1.frozen? (G gb o)=false)/\gb<w1.heap.size from by
    have h1:Below W7.heap.size W7 V:=HB.o.trans (hv.mono HB.o.size);have h2:=h1.trans (hf.below h1.size (λb X=>HO.o b (by simpa using X)));have gm:aF w1 gb 97 #[lv,Y ms]:=(HG.o.of (hv.block _ HG.o.lt)).aG hf (λX=>bm.o _ _ _ HR.o ⟨_,_,HG.o⟩ (by simpa using X));have VG:=xh p (p.on++[p.aT]) (by rw[HZ.o];exact hn) hr;refine⟨h2.setCell (p:=(G gb 0)) HGB.o _,VG.other (bm.o _ _ _ VG ⟨_,_,gm⟩) _ _,λb X=>?_,gm.set 0 v',gm.cell 0,gm.frozen,gm.lt⟩;rcases ho with h|h
    ·exact HO.o b (by rw[<-h];exact X)
    ·rw[h]at X;have:=sd X;have:=h1.size;omega)
   clear c hz lo q2;by_cases jn:z<0
   ·have JN:=Z (show(0:Int)=(bU p z:Nat)by unfold bU;rw[bk jn];rfl);have pX:=Z (show bt p (p.on++[p.aT])=bt p ((p.on++[p.aT]).drop (n+1))by rw[HE.o,Fk.o,aw (by have:=JN.o;unfold MF;omega)]);have hd:decide (0<=z)=false:=by simp;omega
    clear jn;go_wp2_with (at_builtin;refine bX rfl _ _ 24 rfl 3 underlying24 ck rfl bd lv n (Ac p (p.on++[p.aT])) rfl (HR.o.alloc _) (G W.heap.size 0) 1 1 (λ_=> Y 0) rfl (λj hj=>(by obtain rfl:j=0:=O;exact(aF.new W 3 #[Y 0]).cell 0)) (λ_ _=>rfl) jN.o.1 jN.o.2 ?_);intro v' w1 bo hf hv;obtain⟨f1,f2,f3,f4,f5,f6,f7⟩:=ID.o 0 _ v' w1 ((aB _ _).alloc (aL _) _) JN.o bo hf (by simpa using hv);exact O0
   ·obtain⟨n9,rfl⟩:=dz (by omega:0<=z);have hn9:n9<p.code.length:=O;have hfc:UJ W (G fb n9)=H (Y (lB p n9:Nat)):=(HFV.o.aG (aA.af (S:=[]) HB.o) ay).cell (o:=n9) O;have sO:bU p (n9:Int)=lB p n9:=by unfold bU;rw[aw O];rfl
    rw[sO]at Fk ID;have lfb:=aH hfc;clear jn;generalize lB p n9=fu at*;clear sO;by_cases z_:MF<fu
    ·exact ES
    ·have pX:=Z (show bt p (p.on++[p.aT])=bt p ((p.on++[p.aT]).drop (n+1))by rw[HE.o,Fk.o,aw z_]);have IE:¬1152921504606846976<fu:=z_;have Zh:fu<=1152921504606846976:=O;clear z_ IE Fk;go_wp2_with (at_builtin;refine bX rfl _ _ 24 rfl 3 underlying24 ck rfl bd lv n (Ac p (p.on++[p.aT])) rfl (HR.o.alloc _) (G W.heap.size 0) 1 1 (λ_=> Y (fu:Nat)) rfl (λj hj=>(by obtain rfl:j=0:=O;exact(aF.new W 3 #[Y (fu:Nat)]).cell 0)) (λ_ _=>rfl) jN.o.1 jN.o.2 ?_);intro v' w1 bo hf hv;obtain⟨f1,f2,f3,f4,f5,f6,f7⟩:=ID.o (fu:Nat) _ v' w1 ((aB _ _).alloc (aL _) _) rfl bo hf (by simpa using hv);exact O0
  ·have uB:=Z (show i=p.on.length by omega);have c0:p.aT=z:=by rw[<-hz,aY,jy O,show i-p.on.length=0 by have:=uB.o;omega];simp
   rw[c0]at p4;have HMZ:=Z c0;have hn:=Z (show n=p.on.length by have:=JL.o O;omega);have ID:=Z (λ(k:Int) (hk:k=(bU p z:Nat))=>show Below W7.heap.size W7 (W.setCell (G gb 1) (Y k))/\Row (W.setCell (G gb 1) (Y k)) 3 1 lv n (Ac p (p.on++[p.aT]))/\aF (W.setCell (G gb 1) (Y k)) gb 97 #[lv,Y k]/\k=(bU p p.aT:Nat)from
    ⟨HB.o.setCell (p:=(G gb 1)) HGB.o _,HR.o.other (bm.o _ _ _ HR.o ⟨_,_,HG.o⟩) _ _,HG.o.set 1 _,by rw[HMZ.o];exact hk⟩)
   clear c0 hz;by_cases jn:z<0
   ·have JN:=Z (show(0:Int)=(bU p z:Nat)by unfold bU;rw[bk jn];rfl);have pX:=Z (show bt p (p.on++[p.aT])=bt p ((p.on++[p.aT]).drop (i+1))by rw[HE.o,Fk.o,aw (by have:=JN.o;unfold MF;omega)]);have hd:decide (0<=z)=false:=by simp;omega
    clear jn;have F:=ID.o 0 JN.o;have F1:=Z F.1;have F2:=Z F.2.1;have F3:=Z F.2.2.1;have F4:=Z F.2.2.2;clear F ID;go_wp2;refine⟨_,i+1,n,lv,0,FM.of _ rfl,rfl,rfl,rfl,rfl,rfl,rfl,by have:=dE.o;omega,O,(λh=>by have:=uB.o;omega),(λ_=>⟨hn.o,F4.o⟩),F1,F2,HO,F3,pX⟩
   ·obtain⟨n9,rfl⟩:=dz (by omega:0<=z);have hn9:n9<p.code.length:=O;have hfc:UJ W (G fb n9)=H (Y (lB p n9:Nat)):=(HFV.o.aG (aA.af (S:=[]) HB.o) ay).cell (o:=n9) O;have sO:bU p (n9:Int)=lB p n9:=by unfold bU;rw[aw O];rfl
    rw[sO]at Fk ID;have lfb:=aH hfc;clear jn;generalize lB p n9=fu at*;clear sO;by_cases z_:MF<fu
    ·exact ES
    ·have pX:=Z (show bt p (p.on++[p.aT])=bt p ((p.on++[p.aT]).drop (i+1))by rw[HE.o,Fk.o,aw z_]);have IE:¬1152921504606846976<fu:=z_;have Zh:fu<=1152921504606846976:=O;clear z_ IE Fk;have F:=ID.o (fu:Nat) rfl;have F1:=Z F.1;have F2:=Z F.2.1;have F3:=Z F.2.2.1;have F4:=Z F.2.2.2;clear F ID;go_wp2;refine⟨_,i+1,n,lv,(fu:Nat),FM.of _ rfl,rfl,rfl,rfl,rfl,rfl,rfl,by have:=dE.o;omega,O,(λh=>by have:=uB.o;omega),(λ_=>⟨hn.o,F4.o⟩),F1,F2,HO,F3,pX⟩
 ·obtain rfl:i=p.on.length+1:=O;obtain⟨e1,e2⟩:=HMS.o rfl;have Yv:=Z (show Row W 3 1 lv p.on.length (Ac p (p.on++[p.aT]))by rw[<-e1];exact HR.o);have HG9:=Z (show aF W gb 97 #[lv,Y (bU p p.aT:Nat)]by rw[<-e2];exact HG.o);have HE9:=Z (show bt p (p.on++[p.aT])=K7 by rw[HE.o,show p.on.length+1=(p.on++[p.aT]).length by simp,List.drop_length];rfl);clear be e1 e2 g1 hfg;go_wp2;exact Eq.mpr (bu (λa=>Q (.exit 0) a W) (FM.of _ rfl)) (d_ _ _ _ rfl rfl rfl HB.o Yv.o HO.o HG9.o HE9.o)
def Q6(w:UK)(p:aQ)(e:Ending)(w':UK):Prop:=∃w_ ms,e=C8 (.tuple #[.agg #[w_,Y ms],.agg #[Y (aW p).1,Y (aW p).2]])/\Below w.heap.size w w'/\(∀b,w_.ownBlock=H b->w.heap.size<=b)/\
 ((aW p).1=0->ms=(bU p p.aT:Nat)/\aZ w' 1 w_ p.on.length (λi=> Y (bU p (p.on.getD i 0):Nat)))/\((aW p).1≠0->w_=Pl/\ms=0)
def aaE{p:aQ}:∀{k pc:Nat} {T:Map} {e1:Int} {a:Nat},looks p k pc T= .inl (e1,a)->e1≠0:=by
 intro k
 induction k with
 |zero=>intro pc T e1 a h;unfold looks at h;simp at h
 |succ k ih=>
  intro pc T e1 a h;unfold looks at h;split at h
  ·exact ih h
  ·next bm=>simp at h;rw[<-h.1];exact bm
def wu{p:aQ}:(jt p).1=0↔bq p=0/\∃T,looks p p.code.length 0 (dA p)= .inr T:=by
 unfold jt;by_cases h:bq p=0
 ·rw[aw (by simp[h])];obtain⟨tb,qT⟩:=cE h;obtain⟨h1,h2⟩:=sH qT p.code.length 0 _ _ (pG tb) O;cases hl:looks p p.code.length 0 (dA p)with
  |inl e=>
   have hx:e.1≠0:=by have:=vW p;obtain⟨e1,e2⟩:=e;exact λh0=>aaE hl h0
   rw[h1 e hl];exact⟨λh0=>absurd h0 hx,λ⟨_,T,hT⟩=>by cases hT⟩
  |inr T=>obtain⟨L',e⟩:=h2 T hl;rw[e];exact⟨λ_=>⟨h,T,rfl⟩,λ_=>rfl⟩
 ·rw[bk h];exact⟨λe=>absurd e h,λe=>absurd e.1 h⟩
def aaD{p:aQ}:((jt p).1≠0->aW p=jt p)/\((jt p).1=0->aW p=match bt p (p.on++[p.aT])with|some n=>(97,n)|none=>(0,0)):=by
 have hz:= @wu p;rw[<-vW];unfold yU;unfold jt at hz ⊢;by_cases h:bq p=0
 ·rw[aw (by simp[h])]at hz ⊢;rw[aw (by simp[h])];cases hl:fB p p.code.length 0 (gO p)with
  |inl e=>rw[hl]at hz;exact⟨λ_=>rfl,λh0=>by obtain⟨_,T,hT⟩:=hz.1 h0;obtain⟨tb,qT⟩:=cE h;obtain⟨L',e9⟩:=(sH qT p.code.length 0 _ _ (pG tb) O).2 T hT;rw[hl]at e9;cases e9⟩
  |inr L=>exact⟨λh0=>absurd rfl h0,λ_=>rfl⟩
 ·rw[bk h]at hz ⊢;rw[bk h];exact⟨λ_=>rfl,λh0=>absurd h0 h⟩
def vC{R:Ending->UK->Prop}{A:Array UL}{W:UK}{cb fb:Nat}{x y u v:UL}(h2:A.getD 2 undef=UI cb)(h3:A.getD 3 undef=UI fb)(kc:aF W cb 97 #[x,y])(kf:aF W fb 99 #[u,v])
 (hR:R (C8 (.tuple #[.agg #[x,y],.agg #[u,v]])) W):bodyPost prog Proofs.Tryz.f70 R .ret {tmps:=A,defers:=[]} W:=by
 obtain⟨c0,c1⟩:=kc.c2;obtain⟨f0,f1⟩:=kf.c2;rw[oL]at h2 h3;refine bK (v:= .tuple #[.agg #[x,y],.agg #[u,v]]) ?_ rfl hR;simp[results,results70,go_sem,h2,h3,c0,c1,f0,f1]
def st4(W:UK)(c f:Nat)(x y u v:UL):UK:=(((W.setCell (G c 0) x).setCell (G c 1) y).setCell (G f 0) u).setCell (G f 1) v
def Dg{W:UK}{c f:Nat}{x y u v x0 y0 u0 v0:UL}(hn:c≠f)(kc:aF W c 97 #[x0,y0])(kf:aF W f 99 #[u0,v0]):aF (st4 W c f x y u v) c 97 #[x,y]/\aF (st4 W c f x y u v) f 99 #[u,v]/\aA [c,f] W (st4 W c f x y u v):=
 ⟨((((kc.set 0 x).set 1 y).other hn 0 u).other hn 1 v),((((kf.other hn.symm 0 x).other hn.symm 1 y).set 0 u).set 1 v),
   ((((aA.refl [c,f] W).setCell (p:=(G c 0)) ay x).setCell (p:=(G c 1)) ay y).setCell (p:=(G f 0)) ay u).setCell (p:=(G f 1)) ay v⟩
def aaC{w:UK}{K:Kp}{p:aQ}(h:fW w K p):Calls prog 70 #[pV K p] w (Q6 w p):=by
 obtain⟨⟨ga,gc,g1,g2,g3⟩,⟨va,vc,v1,v2,v3⟩,⟨ta,tc,t1,t2,t3⟩,⟨oa,oc,o1,o2,o3⟩,⟨ca,cc,c1,c2,c3⟩⟩:=h.sl;have uj:=Z (λV (X:Below w.heap.size w V)=>Iy (w:=V) (h.aG (aA.af X)));have Nj:=Z (λV (X:Below w.heap.size w V) hl hi=>IB (w:=V) (h.aG (aA.af X)) hl hi);have a0f:=Z h;obtain⟨W0,kX⟩:∃W0,W0=((w.alloc (QP #[to ga p.bw.length gc,to va p.vars.length vc,to ta p.aS.length tc,to oa p.on.length oc,Y p.aT,to ca p.code.length cc] 27)).alloc (QP #[Pl,Y 0] 97)).alloc (QP #[Y 0,Y 0] 99):=⟨_,rfl⟩;have kp:aF W0 w.heap.size 27 (iw K p):=by rw[kX];unfold iw;rw[g1,v1,t1,o1,c1];exact((aF.new _ _ _).alloc _).alloc _
 have kc:aF W0 (w.heap.size+1) 97 #[Pl,Y 0]:=by rw[kX];exact(aF.bR ay).alloc _
 have kf:aF W0 (w.heap.size+1+1) 99 #[Y 0,Y 0]:=by rw[kX];exact aF.bR ay
 have ep:Below w.heap.size w W0:=by rw[kX];exact(((aB _ _).alloc (aL _) _).alloc ay _).alloc jz _
 have ru:W0.heap.size=w.heap.size+1+1+1:=by rw[kX];simp
 have HK:=Z (And.intro g1 (And.intro v1 (And.intro t1 (And.intro o1 c1))));unfold pV at uj ⊢;rw[g1,v1,t1,o1,c1]at uj ⊢;rw[c1]at Nj;clear h g1 v1 t1 o1 c1 g2 g3 v2 v3 t2 t3 o2 o3 c2 c3;go_enter func70,ntmps70;go_wp2_with fail;rw[<-kX];refine(uj.o _ ep).mono ?_;rintro e W1 ⟨pv,rfl,X⟩;have KP:=Z (kp.of (X.block _ kp.lt));have KC:=Z (kc.of (X.block _ kc.lt));have KF:=Z (kf.of (X.block _ kf.lt));have cR:=Z (ep.trans (X.mono ep.size));have tu:Hid (w.heap.size+1+1<W1.heap.size):=Z (by have:=X.size;omega);have HZ:=Z (@wu p);have HVL:=Z (@aaD p);clear kp kc kf X ep ru kX uj;generalize jt p=lk at*;obtain⟨le,la⟩:=lk;dsimp only at HZ HVL;have HN:Hid (w.heap.size+1≠w.heap.size+1+1):=Z O;have KG:=Z (aF.new W1 99 #[Y le,Y la]);by_cases hle:le=0
 case neg=>
  have bm:(le !=0)=true:=by simpa using hle
  have HV:=Z (show aW p=(le,la)from HVL.o.1 hle);have BL:=Z hle;clear hle;go_wp2_with fail;have dC:Below W1.heap.size W1 (W1.alloc (QP #[Y le,Y la] 99)):=(aB _ _).alloc (aL _) _;have eF:=Z (cR.o.trans (dC.mono cR.o.size));have KC2:=Z (KC.o.of (dC.block _ KC.o.lt));have KF2:=Z (KF.o.of (dC.block _ KF.o.lt));have HG:=Z (show W1.heap.size∉[w.heap.size+1,w.heap.size+1+1]by have:=tu.o;simp;omega);clear dC;generalize vK:W1.heap.size=gb at*;generalize W1.alloc (QP #[Y le,Y la] 99)=W2 at*;obtain⟨n0,n1⟩:=KG.o.c2;refine Mk.bH (S:=λwx=>aA [w.heap.size+1,w.heap.size+1+1] W2 wx) bh (aA.af (az _ W2 1)) (λau=>?_);have DC:=Z (KC2.o.drewN 1);have Bk:=Z (KF2.o.drewN 1);change Hid (aF W2.drew _ _ _)at DC;change Hid (aF W2.drew _ _ _)at Bk;have HD:=Z (az W2.heap.size W2 1);change Hid (Below W2.heap.size W2 W2.drew)at HD;generalize World.drew _=V0 at*;have z0:=DC.o.cell 0;have z1:=DC.o.cell 1;have z2:=Bk.o.cell 0;have z3:=Bk.o.cell 1;have z4:=DC.o.frozen;have z5:=Bk.o.frozen;have z6:=Bk.o.lt;have z7:=DC.o.lt;simp only[List.getElem?_toArray,List.getElem?_cons_zero,List.getElem?_cons_succ]at z0 z1 z2 z3;refine Mk.fC 0 ?_;refine Mk.tk 1 (v:=?_) rfl (λwz fj=>?_) au ?_;rotate_left
  ·have key:∀b i v,b∉[w.heap.size+1,w.heap.size+1+1]->UJ W2 (G b i)=H v->UJ wz (G b i)=H v:=λb i v hn hc=>(dN (fj.block _ (aH hc) hn)).trans hc;have y0:=key _ _ _ HG.o n0;have y1:=key _ _ _ HG.o n1;exact qj
  refine Mk.pt ?_;refine Mk.oD (rs:=[2]) (bZ rfl (λK9 hK=>?_) cz);refine fH ?_;go_simp;refine hK.out _ _ ((au.setCell (p:=(G (w.heap.size+1) 0)) ay Pl).setCell (p:=(G (w.heap.size+1) 1)) ay (Y 0)) (λau=>?_);clear hK K9;refine Mk.pt ?_;refine Mk.oD (rs:=[3]) (bZ rfl (λK9 hK=>?_) cz);refine fH ?_;go_simp;refine hK.out _ _ ((au.setCell (p:=(G (w.heap.size+1+1) 0)) ay (Y le)).setCell (p:=(G (w.heap.size+1+1) 1)) ay (Y la)) (λau=>?_);clear hK K9;refine Mk.pt ?_;refine nW bh ⟨rfl,?_⟩ _;have hs:=Dg (x:=Pl) (y:=Y 0) (u:=Y le) (v:=Y la) HN.o DC.o Bk.o;clear au;go_wp2
  first|refine vC (cb:=w.heap.size+1) (fb:=w.heap.size+1+1) rfl rfl hs.1 hs.2.1 ?_|(rw[ja];refine vC (cb:=w.heap.size+1) (fb:=w.heap.size+1+1) rfl rfl hs.1 hs.2.1 ?_)
  refine⟨_,_,by rw[HV.o],(eF.o.trans (HD.o.mono eF.o.size)).trans (hs.2.2.below (eF.o.trans (HD.o.mono eF.o.size)).size jz),(λb X=>by cases X),(λh=>by rw[HV.o]at h;exact absurd h BL.o),λ_=>⟨rfl,rfl⟩⟩
 subst hle;obtain⟨sr,T,hT⟩:=HZ.o.1 rfl;obtain⟨tb,-⟩:=cE sr;have TB:=Z tb;have HFI:=Z (Bi sr hT);have HV:=Z (HVL.o.2 rfl);have hlen:=tb.code;clear sr hT tb;have p5:(W1.alloc (QP #[Y 0,Y la] 99)).cell? (G w.heap.size 5)=H (to ca p.code.length cc):=by rw[<-HK.o.2.2.2.2];exact(KP.o.alloc _).cell 5
 have lp:=(KP.o.alloc (QP #[Y 0,Y la] 99)).lt;go_wp2_with fail;refine(Nj.o _ (cR.o.alloc cR.o.size _) hlen HFI.o).mono ?_;rintro e W3 ⟨fb9,fc9,rfl,P5,pz,Tt⟩;have wM:Below W1.heap.size W1 W3:=((aB _ _).alloc (aL _) _).trans (pz.mono ay);have iy:=Z (cR.o.trans (wM.mono cR.o.size));have KP3:=Z (KP.o.of (wM.block _ KP.o.lt));have KC3:=Z (KC.o.of (wM.block _ KC.o.lt));have KF3:=Z (KF.o.of (wM.block _ KF.o.lt));have RF:=Z (show w.heap.size+1+1<W3.heap.size by have:=tu.o;have:=wM.size;omega);have HR3:=Z Tt;clear pz wM Tt P5 p5 lp Nj HZ HVL KG;go_wp2_with fail;refine rr1 (W7:=W3) (gb:=W3.heap.size) (Z (a0f.o.aG (aA.af iy.o))) KP3 (Z (aL _)) HR3 TB.o KC3 KF3 (λB W n h2 h3 X he=>?_) (λJ W lv j2 j3 j7 X hr ho hg he=>?_) ⟨_,0,0,Pl,0,FM.of _ rfl,rfl,rfl,rfl,rfl,rfl,rfl,cK _,O,(λ_=>rfl),(λh=>by omega),Z ((aB _ _).alloc (aL _) _),Z (Row.nil _ _ _ _),Z (λb X=>by cases X),Z (aF.new _ _ _),Z (by rw[List.drop_zero])⟩
 ·try simp only[Exit.inBlock,Exit.then]
  have FY:=Z (show aW p=(97,n)by rw[HV.o,he]);have hs:=Dg (x:=Pl) (y:=Y 0) (u:=Y 97) (v:=Y n) HN.o (KC3.o.of (X.block _ KC3.o.lt)) (KF3.o.of (X.block _ KF3.o.lt));have CQ:=iy.o.trans (X.mono iy.o.size)
  first|refine vC (cb:=w.heap.size+1) (fb:=w.heap.size+1+1) h2 h3 hs.1 hs.2.1 ?_|(rw[ja];refine vC (cb:=w.heap.size+1) (fb:=w.heap.size+1+1) h2 h3 hs.1 hs.2.1 ?_)
  refine⟨_,_,by rw[FY.o],CQ.trans (hs.2.2.below CQ.size jz),(λb X=>by cases X),(λh=>by rw[FY.o]at h;cases h),λ_=>⟨rfl,rfl⟩⟩
 ·have FY:=Z (show aW p=(0,0)by rw[HV.o,he]);have hs:=Dg (x:=lv) (y:=Y (bU p p.aT:Nat)) (u:=Y 0) (v:=Y 0) HN.o (KC3.o.of (X.block _ KC3.o.lt)) (KF3.o.of (X.block _ KF3.o.lt));have CQ:=iy.o.trans (X.mono iy.o.size);have HT:=Z (show Q6 w p (C8 (.tuple #[.agg #[lv,Y (bU p p.aT:Nat)],.agg #[Y 0,Y 0]])) (st4 W (w.heap.size+1) (w.heap.size+1+1) lv (Y (bU p p.aT:Nat)) (Y 0) (Y 0))from by
   refine⟨lv,(bU p p.aT:Nat),by rw[FY.o],CQ.trans (hs.2.2.below CQ.size jz),(λb wZ=>by have:=ho b wZ;have:=RF.o;omega),λ_=>⟨rfl,?_⟩,λh=>absurd (by rw[FY.o]) h⟩;have h1:=hr.aG hs.2.2 (λb wZ=>by have:=ho b wZ;have:=RF.o;simp;omega);refine Vf.aZ.congr (aZ.vd h1) (λo ho=>?_);unfold Ac;rw[aY,oK ho,<-aY])
  have Gn:=Z (And.intro hs.1 hs.2.1);obtain⟨a9,m9,c9,hv9⟩:∃a m c,lv=to a m c:=by rcases hr.val with⟨h,-⟩|⟨_,_,h,-⟩<;>exact⟨_,_,_,h⟩
  subst hv9;obtain⟨g0,g1⟩:=hg.c2;have lg:=hg.lt;have kc:=KC3.o.of (X.block _ KC3.o.lt);have kf:=KF3.o.of (X.block _ KF3.o.lt);obtain⟨z0,z1⟩:=kc.c2;obtain⟨z2,z3⟩:=kf.c2;have z4:=kc.frozen;have z5:=kf.frozen;have z6:=kf.lt;have z7:=kc.lt;unfold FM;rw[j2,j3,j7];clear kc kf hs CQ X hr ho hg he j2 j3 j7;generalize bU p p.aT=em at*;go_wp2
  first|refine vC (cb:=w.heap.size+1) (fb:=w.heap.size+1+1) rfl rfl Gn.o.1 Gn.o.2 ?_|(rw[ja];refine vC (cb:=w.heap.size+1) (fb:=w.heap.size+1+1) rfl rfl Gn.o.1 Gn.o.2 ?_)
  exact HT.o
def Q8(w:UK)(p:aQ)(e:Ending)(w':UK):Prop:=∃w_ ms,e=C8 (.agg #[w_,Y ms])/\Below w.heap.size w w'/\
 ((aW p).1=0->ms=(bU p p.aT:Nat)/\aZ w' 1 w_ p.on.length (λi=> Y (bU p (p.on.getD i 0):Nat)))/\((aW p).1≠0->w_=Pl/\ms=0)
def aaB{w:UK}{K:Kp}{p:aQ}(h:fW w K p):Calls prog 52 #[pV K p] w (Q8 w p):=by
 obtain⟨⟨ga,gc,g1,g2,g3⟩,⟨va,vc,v1,v2,v3⟩,⟨ta,tc,t1,t2,t3⟩,⟨oa,oc,o1,o2,o3⟩,⟨ca,cc,c1,c2,c3⟩⟩:=h.sl;have LW:=Z (λV (X:Below w.heap.size w V)=>aaC (w:=V) (h.aG (aA.af X)));obtain⟨W0,kX⟩:∃W0,W0=(w.alloc (QP #[to ga p.bw.length gc,to va p.vars.length vc,to ta p.aS.length tc,to oa p.on.length oc,Y p.aT,to ca p.code.length cc] 27)).alloc (QP #[Pl,Y 0] 97):=⟨_,rfl⟩;have kc:aF W0 (w.heap.size+1) 97 #[Pl,Y 0]:=by rw[kX];exact aF.bR ay
 have ep:Below w.heap.size w W0:=by rw[kX];exact((aB _ _).alloc (aL _) _).alloc ay _
 have ru:W0.heap.size=w.heap.size+1+1:=by rw[kX];simp
 unfold pV at LW ⊢;rw[g1,v1,t1,o1,c1]at LW ⊢;clear h g1 v1 t1 o1 c1 g2 g3 v2 v3 t2 t3 o2 o3 c2 c3;go_enter func52,ntmps52;go_wp2_with fail;rw[<-kX];refine(LW.o _ ep).mono ?_;rintro e W1 ⟨w_,ms,rfl,X,jo,h1,h2⟩;have rF:∃a m c,w_=to a m c:=by
  by_cases hv:(aW p).1=0
  ·obtain⟨a,c,e,-,-⟩:=aZ.val (h1 hv).2;exact⟨_,_,_,e⟩
  ·exact⟨_,_,_,(h2 hv).1⟩
 obtain⟨a9,m9,c9,rfl⟩:=rF;have cR:=Z (ep.trans (X.mono ep.size));have KC:=Z (kc.of (X.block _ kc.lt));have tu:=Z (show w.heap.size+1<W1.heap.size by have:=X.size;omega);have Hl:=Z (λb (h:(Value.slice a9 m9 c9).ownBlock=H b)=>show b∉[w.heap.size+1]by have:=jo b h;simp;omega);have H1:=Z h1;have H2:=Z h2;obtain⟨ve,ZR⟩:∃v,aW p=v:=⟨_,rfl⟩;rw[ZR]at H1 H2 ⊢;have Ua:=Z ZR;obtain⟨v1,v2⟩:=ve;clear X ep kc ru kX h1 h2 LW ZR jo;obtain⟨W2,hW2⟩:∃W2,W2=(W1.alloc (QP #[to a9 m9 c9,Y ms] 97)).alloc (QP #[Y v1,Y v2] 99):=⟨_,rfl⟩;have dC:Below W1.heap.size W1 W2:=by rw[hW2];exact((aB _ _).alloc (aL _) _).alloc ay _
 have Fb:=KC.o.of (dC.block _ KC.o.lt);obtain⟨z0,z1⟩:=Fb.c2;have z4:=Fb.frozen;have z5:=Fb.lt;have Vi:=Z ((Fb.set 0 (to a9 m9 c9)).set 1 (Y ms));have HF:=Z (show aA [w.heap.size+1] W2 ((W2.setCell (G (w.heap.size+1) 0) (to a9 m9 c9)).setCell (G (w.heap.size+1) 1) (Y ms))from((aA.refl _ _).setCell (p:=(G (w.heap.size+1) 0)) ay _).setCell (p:=(G (w.heap.size+1) 1)) ay _);have eF:=Z (cR.o.trans (dC.mono cR.o.size));have sg:=Z (aA.af (S:=[]) dC);clear dC Fb;subst hW2;go_wp2_with fail;have HT:=Z (show Q8 w p (C8 (.agg #[to a9 m9 c9,Y ms])) _ from⟨_,_,rfl,eF.o.trans (HF.o.below eF.o.size ay),λh=>⟨(H1.o (by rw[<-h,Ua.o])).1,Vf.rz ((H1.o (by rw[<-h,Ua.o])).2.aG sg.o) HF.o Hl.o⟩,λh=>H2.o (λe=>h (by rw[Ua.o];exact e))⟩);have xH:=Vi.o.cell 0;have pR:=Vi.o.cell 1;simp only[List.getElem?_toArray,List.getElem?_cons_zero,List.getElem?_cons_succ,List.setIfInBounds_toArray,List.set_cons_zero,List.set_cons_succ]at xH pR;refine bK (v:= .agg #[to a9 m9 c9,Y ms]) ?_ rfl HT.o;simp[results,results52,go_sem,xH,pR]
end
end Go.Rv
section
def S3{p:Prop}(h:p:=by
 have sr:bq p=0:=by
  by_cases h0:bq p=0
  ·exact h0
  ·unfold aW at hv;rw[bk h0]at hv;exact absurd hv h0
 exact(cE sr).1):p:=h
namespace Go.Rv
open Go.RowKit aj.Vm
open aj hiding aR an ak
open Ma (dP ci aX vb aI aV)
open Vf (Kp fW pV rT bN aZ iw cV)
def Uu(J:Nat->UL):Act:={tmps:=#[J 0,J 1,J 2,J 3,J 4,J 5,J 6,J 7,J 8,J 9,J 10,J 11,J 12,J 13,J 14,J 15,J 16,J 17,J 18,J 19,J 20,J 21,J 22,J 23,J 24,J 25,J 26,J 27,J 28,J 29,J 30,J 31,J 32,J 33,J 34,J 35,J 36,J 37,J 38,J 39,J 40,J 41,J 42,J 43,J 44,J 45,J 46,J 47,J 48,J 49,J 50,J 51,J 52,J 53,J 54,J 55,J 56,J 57,J 58,J 59],defers:=[]}
def Uu.of(A:Array UL)(h:A=(Uu λk=>A.getD k undef).tmps):({tmps:=A,defers:=[]}:Act)=Uu λk=>A.getD k undef:=by rw[h];rfl
noncomputable def snL(k:Nat):Code:=Mk.iS Proofs.Tryz.f14.body k
def Af(l:List Int):Option Bool:=(l.find? λq=>decide (5000<q)).map λq=>decide (1048576<q)
def rW(p:aQ)(c:Cp):Bool:=match Af c.aK with
 |some b=>b
 |none=>if(aW p).1=0 then decide (bU p p.aT<=jC)&&p.on.all (λn=>decide (bU p n<=jC))else true
def oO{l:List Int}(h:∀j,j<l.length->l.getD j 0<=5000):Af l=K7:=by unfold Af;rw[Option.map_eq_none_iff,List.find?_eq_none];intro q hq;obtain⟨j,hj,rfl⟩:=yZ hq;have:=h j hj;rw[aY,fq hj]at this;simp at this ⊢;omega
def rn{l:List Int}:∀{i:Nat},i<l.length->(∀j,j<i->l.getD j 0<=5000)->5000<l.getD i 0->Af l=H (decide (1048576<l.getD i 0)):=by
 induction l with
 |nil=>intro i h;simp at h
 |cons q l ih=>
  intro i hi h1 h2;cases i with
  |zero=>simp only[List.getD_cons_zero]at h2 ⊢;unfold Af;rw[List.find?_cons_of_pos (by simpa using h2)];rfl
  |succ i=>have h0:=h1 0 O;simp only[List.getD_cons_zero]at h0;rw[List.getD_cons_succ]at h2 ⊢;have:=ih (i:=i) (by simpa using hi) (λj hj=>by have:=h1 (j+1) O;rwa[List.getD_cons_succ]at this) h2;unfold Af at this ⊢;rw[List.find?_cons_of_neg jz];exact this
def aaA{p:aQ}{c:Cp}(h:rW p c=true)(hv:(aW p).1=0)(hq:∀j,j<c.aK.length->c.aK.getD j 0<=1048576):nw p:=by
 unfold rW at h;cases X:Af c.aK with
 |some b=>exfalso;rw[X]at h;dsimp only at h;subst h;unfold Af at X;rw[Option.map_eq_some_iff]at X;obtain⟨q,h1,h2⟩:=X;have hm:=List.mem_of_find?_eq_some h1;obtain⟨j,hj,rfl⟩:=yZ hm;have:=hq j hj;rw[aY,fq hj]at this;simp at this h2;omega
 |none=>
  rw[X]at h;dsimp only at h;rw[bk hv]at h;simp only[fp,ft,qM]at h;intro n hn;rcases List.mem_append.1 hn with hn|hn
  ·exact h.2 n hn
  ·simp at hn;subst hn;exact h.1
section
variable {w W0:UK}{K:Kp}{p:aQ}{c:Cp}{qa:Option Addr}{qc pb cb gb:Nat}{Q:Exit->Act->UK->Prop}
def SN1(W0:UK)(c:Cp)(pb cb:Nat)(m:Nat)(a:Act)(W:UK):Prop:=∃(J:Nat->UL) (i:Nat) (x:Int),a=Uu J/\J 2=UI pb/\J 3=UI cb/\J 5=Y x/\J 6=Y i/\i<=c.aK.length/\m+i=c.aK.length+1/\W=W0/\Hid (∀j,j<i->c.aK.getD j 0<=5000)
def sn1(HQ:Hid (aZ W0 1 (to qa c.aK.length qc) c.aK.length (aX c.aK)))(HC:Hid (aF W0 cb 29 #[Y c.size,to qa c.aK.length qc]))
 (iU:∀(A:Array UL) b,A.getD 4 undef= .bool b->Af c.aK=H b->Q .ret {tmps:=A,defers:=[]} W0)
 (d_:∀(J:Nat->UL),J 2=UI pb->Af c.aK=K7->Q (.exit 0) (Uu J) W0)
 {a:Act} (h:SN1 W0 c pb cb (c.aK.length+1) a W0):(Code.loop (snL 0)).wp prog Q a W0:=by
 refine Mk.aN (λm a W=>SN1 W0 c pb cb m a W) (c.aK.length+1) h ?_ ?_
 ·rintro a W ⟨J,i,x,-,-,-,-,-,h1,h2,-⟩;omega
 rintro m a0 W ⟨J,i,x,rfl,j2,j3,j5,j6,hi,hm,rfl,HA⟩;unfold Uu
 conv=>arg 2;whnf
 have hle:=HQ.o.len;rw[j2,j3,j5,j6];clear j2 j3 j5 j6;obtain⟨k0,k1⟩:=HC.o.c2;have lc:=HC.o.lt;by_cases be:i<c.aK.length
 ·obtain⟨b,off,cap,e,q1,q2,lb,hc⟩:=HQ.o.some O O;have w2:IntKind.i64.wrap ((i:Int)+1)=((i+1:Nat):Int):=by unfold maxLen at hle;rw[bJ _ lI];omega
  clear hle;simp only[cM]at e;obtain⟨rfl,-,rfl⟩:=e;have c0:UJ W (G b (off+i))=H (Y (c.aK.getD i 0)):=hc i O;have dE:=Z be;have Z8:=Z (λh=>rn (l:=c.aK) be HA.o h);obtain⟨z,hz⟩:∃z,c.aK.getD i 0=z:=⟨_,rfl⟩;rw[hz]at c0 Z8;have HZ:=Z hz;clear hz hc q2;by_cases h1:5000<z
  ·have HG:=Z (Z8.o h1);clear Z8;go_wp2;exact iU _ _ rfl HG.o
  ·have HG:=Z h1;clear Z8;go_wp2;refine⟨_,i+1,_,Uu.of _ rfl,rfl,rfl,rfl,rfl,dE.o,O,rfl,Z λj hj=>?_⟩;by_cases e:j=i
   ·subst e;rw[HZ.o];have:=HG.o;omega
   ·exact HA.o j O
 ·obtain rfl:i=c.aK.length:=O;clear be;have HG:=Z (oO HA.o);go_wp2;exact Eq.mpr (bu (λa=>Q (.exit 0) a W) (Uu.of _ rfl)) (d_ _ rfl HG.o)
def SN2(W0:UK)(n:Nat)(g:Nat->Int)(ms:Int)(gb:Nat)(m:Nat)(a:Act)(W:UK):Prop:=∃(J:Nat->UL) (i:Nat) (ok:Bool),a=Uu J/\J 7=UI gb/\J 8= .bool ok/\J 9=Y i/\i<=n/\m+i=n+1/\W=W0/\Hid (ok=true↔ms<=20000/\∀j,j<i->g j<=20000)
def sn2{n:Nat}{g:Nat->Int}{ms:Int}(HQ:Hid (aZ W0 1 (to qa n qc) n (λi=> Y (g i))))(hn:n<=16)(HC:Hid (aF W0 gb 97 #[to qa n qc,Y ms]))
 (d_:∀(J:Nat->UL) ok,J 8= .bool ok->(ok=true↔ms<=20000/\∀j,j<n->g j<=20000)->Q (.exit 2) (Uu J) W0)
 {a:Act} (h:SN2 W0 n g ms gb (n+1) a W0):(Code.loop (snL 1)).wp prog Q a W0:=by
 refine Mk.aN (λm a W=>SN2 W0 n g ms gb m a W) (n+1) h ?_ ?_
 ·rintro a W ⟨J,i,ok,-,-,-,-,h1,h2,-⟩;omega
 rintro m a0 W ⟨J,i,ok,rfl,j7,j8,j9,hi,hm,rfl,HA⟩;unfold Uu
 conv=>arg 2;whnf
 have w2:=mO i O;rw[j7,j8,j9];clear j7 j8 j9;obtain⟨k0,k1⟩:=HC.o.c2;have lc:=HC.o.lt;by_cases be:i<n
 ·obtain⟨b,off,cap,e,q1,q2,lb,hc⟩:=HQ.o.some O O;simp only[cM]at e;obtain⟨rfl,-,rfl⟩:=e;have c0:UJ W (G b (off+i))=H (Y (g i)):=hc i O;have dE:=Z be;have HS:Hid (∀z,g i=z->∀ok',(ok'=true↔ok=true/\z<=20000)->(ok'=true↔ms<=20000/\∀j,j<i+1->g j<=20000)):=Z λz hz ok' h=>by
   rw[h,HA.o];constructor
   ·rintro⟨⟨h1,h2⟩,h3⟩;refine⟨h1,λj hj=>?_⟩;by_cases e:j=i
    ·subst e;omega
    ·exact h2 j O
   ·rintro⟨h1,h2⟩;exact⟨⟨h1,λj hj=>h2 j O⟩,by rw[<-hz];exact h2 i O⟩
  obtain⟨z,hz⟩:∃z,g i=z:=⟨_,rfl⟩;rw[hz]at c0;have wL:=Z (HS.o z hz);clear hz hc q2 HS;cases ok with
  |false=>have HG:=Z (wL.o false ay);clear wL;go_wp2;exact⟨_,i+1,_,Uu.of _ rfl,rfl,rfl,rfl,dE.o,O,rfl,HG⟩
  |true=>have HG:=Z (wL.o (decide (z<=20000)) ay);clear wL;go_wp2;exact⟨_,i+1,_,Uu.of _ rfl,rfl,rfl,rfl,dE.o,O,rfl,HG⟩
 ·obtain rfl:i=n:=O;clear be;go_wp2;exact Eq.mpr (bu (λa=>Q (.exit 2) a W) (Uu.of _ rfl)) (d_ _ _ rfl HA.o)
def aat{qv:UL}(h:fW w K p)(hq:aZ w 1 qv c.aK.length (aX c.aK)):Calls prog 14 #[pV K p,cV c qv] w (λe w'=>e=C8 (.bool (rW p c))/\Below w.heap.size w w'):=by
 obtain⟨⟨ga,gc,g1,g2,g3⟩,⟨va,vc,v1,v2,v3⟩,⟨ta,tc,t1,t2,t3⟩,⟨oa,oc,o1,o2,o3⟩,⟨ca,cc,c1,c2,c3⟩⟩:=h.sl;obtain⟨qa,qc,rfl,-,-⟩:=hq.val;have TL:=Z (λV (X:Below w.heap.size w V)=>aaB (w:=V) (h.aG (aA.af X)));have HQ:=Z hq;obtain⟨W0,kX⟩:∃W0,W0=(w.alloc (QP #[to ga p.bw.length gc,to va p.vars.length vc,to ta p.aS.length tc,to oa p.on.length oc,Y p.aT,to ca p.code.length cc] 27)).alloc (QP #[Y c.size,to qa c.aK.length qc] 29):=⟨_,rfl⟩;have kp:aF W0 w.heap.size 27 #[to ga p.bw.length gc,to va p.vars.length vc,to ta p.aS.length tc,to oa p.on.length oc,Y p.aT,to ca p.code.length cc]:=by rw[kX];exact(aF.new _ _ _).alloc _
 have kc:aF W0 (w.heap.size+1) 29 #[Y c.size,to qa c.aK.length qc]:=by rw[kX];exact aF.bR ay
 have ep:Below w.heap.size w W0:=by rw[kX];exact((aB _ _).alloc (aL _) _).alloc ay _
 have k0:=kc.c1;unfold pV cV at*;rw[g1,v1,t1,o1,c1]at TL ⊢;clear h hq g1 v1 t1 o1 c1 g2 g3 v2 v3 t2 t3 o2 o3 c2 c3;go_enter func14,ntmps14;have eV:=Z ep;have KP:=Z kp;have KC:=Z kc;clear ep kp kc;subst kX;go_wp2_with fail;obtain⟨W0,kX⟩:∃W0,W0=(w.alloc (QP #[to ga p.bw.length gc,to va p.vars.length vc,to ta p.aS.length tc,to oa p.on.length oc,Y p.aT,to ca p.code.length cc] 27)).alloc (QP #[Y c.size,to qa c.aK.length qc] 29):=⟨_,rfl⟩;rw[<-kX]at eV KP KC ⊢;clear kX k0;refine sn1 (W0:=W0) (pb:=w.heap.size) (cb:=w.heap.size+1) (Z (HQ.o.aG (aA.af eV.o))) KC (λB b h4 X=>?_) (λJ j2 X=>?_) ⟨_,0,c.size,Uu.of _ rfl,rfl,rfl,rfl,rfl,cK _,O,rfl,Z (λj hj=>absurd hj O)⟩
 ·try simp only[Exit.inBlock,Exit.then]
  have HV:=Z (show rW p c=b by unfold rW;rw[X])
  first|refine Vf.fy (P:=prog) (fn:=Proofs.Tryz.f14) rfl ?_|(rw[ja];refine Vf.fy (P:=prog) (fn:=Proofs.Tryz.f14) rfl ?_)
  exact⟨by rw[h4,HV.o],eV.o⟩
 have HV:=Z (show rW p c=(if(aW p).1=0 then decide (bU p p.aT<=jC)&&p.on.all (λn=>decide (bU p n<=jC))else true)by unfold rW;rw[X]);unfold Uu;rw[j2];clear j2 X;obtain⟨p0,p1,p2,p3,p4,p5⟩:=KP.o.c6;go_wp2_with fail;refine(TL.o _ eV.o).mono ?_;rintro e W1 ⟨w_,ms,rfl,X,h1,h2⟩;have HT:Hid (∃(n:Nat) (g:Nat->Int),n<=16/\aZ W1 1 w_ n (λi=> Y (g i))/\(∀ok:Bool,(ok=true↔ms<=20000/\∀j,j<n->g j<=20000)->rW p c=ok)):=by
  refine Z ?_;by_cases hv:(aW p).1=0
  ·obtain⟨e1,hr⟩:=h1 hv;have tb:tM p:=by exact S3
   refine⟨p.on.length,λi=>(bU p (p.on.getD i 0):Nat),by have:=tb.on;have:=tb.g;omega,hr,λok yv=>?_⟩;rw[HV.o,bk hv];have:(decide (bU p p.aT<=jC)&&p.on.all (λn=>decide (bU p n<=jC)))=true↔ok=true:=by
    rw[yv,fp,ft,zD (0:Int),e1];simp only[ft];unfold jC;constructor
    ·rintro⟨a,b⟩;exact⟨O,λj hj=>by have:=b j hj;omega⟩
    ·rintro⟨a,b⟩;exact⟨O,λj hj=>by have:=b j hj;omega⟩
   exact Bool.eq_iff_iff.2 this
  ·obtain⟨e1,e2⟩:=h2 hv;refine⟨0,λ_=>0,O,.inl ⟨e1,rfl⟩,λok yv=>?_⟩;rw[HV.o,aw hv];exact(yv.2 ⟨by rw[e2];decide,λj hj=>absurd hj O⟩).symm
 obtain⟨n,g,hn,hr,yv⟩:=HT.o;have Ad:=Z yv;have HR:=Z hr;have cR:=Z (eV.o.trans (X.mono eV.o.size));obtain⟨a9,c9,rfl,-,-⟩:=hr.val;clear p0 p1 p2 p3 p4 p5 h1 h2 HT X hr yv TL HV;go_wp2_with fail;refine sn2 (W0:=W1.alloc (QP #[to a9 n c9,Y ms] 97)) (gb:=W1.heap.size) (Z (HR.o.aG ((aA.refl [] _).alloc _))) hn (Z (aF.new _ _ _)) (λJ ok j8 yv=>?_) ⟨_,0,decide (ms<=20000),Uu.of _ rfl,rfl,rfl,rfl,cK _,O,rfl,Z ay⟩;have HG:=Z (Ad.o ok yv);unfold Uu;rw[j8];clear j8 yv;go_wp2
 first|refine Vf.fy (P:=prog) (fn:=Proofs.Tryz.f14) rfl ?_|(rw[ja];refine Vf.fy (P:=prog) (fn:=Proofs.Tryz.f14) rfl ?_)
 exact⟨by rw[HG.o];rfl,cR.o.alloc cR.o.size _⟩
end
end Go.Rv
end
namespace Go.Ma
open Go.RowKit aj.Vm
open aj hiding aR an ak
open Vf (aZ Kp fW pV zp IF)
def FO(J:Nat->UL):Act:={tmps:=#[J 0,J 1,J 2,J 3,J 4,J 5,J 6,J 7,J 8,J 9,J 10,J 11,J 12,J 13,J 14,J 15,J 16,J 17,J 18,J 19,J 20,J 21,J 22,J 23,J 24,J 25,J 26,J 27,J 28,J 29,J 30,J 31,J 32,J 33,J 34],defers:=[]}
def FO.of(A:Array UL)(h:A=(FO λk=>A.getD k undef).tmps):({tmps:=A,defers:=[]}:Act)=FO λk=>A.getD k undef:=by rw[h];rfl
def SO1(W0:UK)(n gb:Nat)(m:Nat)(a:Act)(W:UK):Prop:=∃(J:Nat->UL) (i:Nat) (ok:Bool),a=FO J/\J 3=UI gb/\J 5= .bool ok/\J 6=Y i/\i<=n/\m+i=n+1/\W=W0
section
variable {w:UK}{K:Kp}{p:aQ}
def KH(hv:(aW p).1=0):tM p:=by exact S3
def adQ(h:fW w K p):Calls prog 13 #[pV K p] w (λe w'=>(∃b,e=C8 (.bool b))/\Below w.heap.size w w'):=by
 have HR:=Z (λV (X:Below w.heap.size w V)=>IF (w:=V) (h.aG (aA.af X)));obtain⟨⟨ga,gc,g1,g2,g3⟩,⟨va,vc,v1,v2,v3⟩,⟨ta,tc,t1,t2,t3⟩,⟨oa,oc,o1,o2,o3⟩,⟨ca,cc,c1,c2,c3⟩⟩:=h.sl;unfold pV at HR ⊢;rw[g1,v1,t1,o1,c1]at HR ⊢;have eV:=Z (show Below w.heap.size w (w.alloc (QP #[to ga p.bw.length gc,to va p.vars.length vc,to ta p.aS.length tc,to oa p.on.length oc,Y p.aT,to ca p.code.length cc] 27))from(aB _ _).alloc (aL _) _);clear h g1 v1 t1 o1 c1 g2 g3 v2 v3 t2 t3 o2 o3 c2 c3;go_enter func13,ntmps13;go_wp2_with fail;refine(HR.o _ eV.o).mono ?_;rintro e W1 ⟨w_,ms,rfl,⟨xa,xn,xc,rfl⟩,X,h1⟩;have cR:=Z (eV.o.trans (X.mono eV.o.size));have H1:=Z h1;clear X h1 HR eV;have hB:Below W1.heap.size W1 ((W1.alloc (QP #[to xa xn xc,Y ms] 97)).alloc (QP #[Y (aW p).1,Y (aW p).2] 99)):=((aB _ _).alloc (aL _) _).alloc ay _;have kc:aF ((W1.alloc (QP #[to xa xn xc,Y ms] 97)).alloc (QP #[Y (aW p).1,Y (aW p).2] 99)) W1.heap.size 97 #[to xa xn xc,Y ms]:=(aF.new _ _ _).alloc _;have LR:=Z hB;have KC:=Z kc;clear hB kc;by_cases hv:(aW p).1=0
 ·obtain⟨-,hr⟩:=H1.o hv;have hn:p.on.length<=16:=by have:=(KH hv).on;have:=(KH hv).g;omega
  have hrx:=hr;obtain⟨za,zc,ez,-,-⟩:=hrx.val;simp only[cM]at ez;obtain⟨rfl,rfl,rfl⟩:=ez;have HR:=Z (hr.aG (aA.af (S:=[]) LR.o));have d:((aW p).1 !=0)=false:=by simp[hv]
  clear hr hrx H1;generalize(aW p).1=x1 at*;generalize(aW p).2=x2 at*;generalize hL:p.on.length=n at*;clear hL hv;go_wp2_with fail;have iy:=Z (cR.o.trans (LR.o.mono cR.o.size));clear LR cR;generalize(W1.alloc (QP #[to xa n xc,Y ms] 97)).alloc (QP #[Y x1,Y x2] 99)=W0 at*;generalize W1.heap.size=gb at*;refine Mk.aN (SO1 W0 n gb) (n+1) ⟨_,0,_,FO.of _ rfl,rfl,rfl,rfl,cK _,O,rfl⟩ (λa W hh=>by obtain⟨J,i,ok,-,-,-,-,h1,h2,-⟩:=hh;omega) ?_;rintro m a W ⟨J,i,ok,rfl,j3,j5,j6,hi,hm,rfl⟩;unfold FO;rw[j3,j5,j6];clear j3 j5 j6;have w2:=mO i O;have k0:=KC.o.c1;have lc:=KC.o.lt;by_cases be:i<n
  ·obtain⟨b,off,cap,e,q1,q2,lb,hc⟩:=HR.o.some O O;simp only[cM]at e;obtain⟨rfl,-,rfl⟩:=e;obtain⟨z,c0⟩:∃z,UJ W (G b (off+i))=H (Y z):=⟨_,hc i O⟩;have dE:=Z be;clear hc q2;cases ok with
   |false=>go_wp2_with fail;exact⟨_,i+1,_,FO.of _ rfl,rfl,rfl,rfl,dE.o,O,rfl⟩
   |true=>go_wp2_with fail;exact⟨_,i+1,_,FO.of _ rfl,rfl,rfl,rfl,dE.o,O,rfl⟩
  ·obtain rfl:i=n:=O;clear be;go_wp2
   first|refine Vf.fy (P:=prog) (fn:=Proofs.Tryz.f13) rfl ?_|(rw[ja];refine Vf.fy (P:=prog) (fn:=Proofs.Tryz.f13) rfl ?_)
   exact⟨⟨_,rfl⟩,iy.o⟩
 ·have d:((aW p).1 !=0)=true:=by simpa using hv
  clear H1;generalize(aW p).1=x1 at*;generalize(aW p).2=x2 at*;clear hv;go_wp2
  first|refine Vf.fy (P:=prog) (fn:=Proofs.Tryz.f13) rfl ?_|(rw[ja];refine Vf.fy (P:=prog) (fn:=Proofs.Tryz.f13) rfl ?_)
  exact⟨⟨_,rfl⟩,cR.o.trans (LR.o.mono cR.o.size)⟩
end
end Go.Ma
namespace Go.Ma
open Go.RowKit aj.Vm
open aj hiding aR an ak
open Vf (Kp fW pV aZ cV)
section
variable {w:UK}{K:Kp}{p:aQ}{c:Cp}{qv:UL}{sa:Option Addr}{sn sc:Nat}
def afV(h:Rv.rW p c=true)(hv:(aW p).1=0)(yv:mi p c=true):nw p:=by obtain⟨T,E⟩:=Qy hv yv;exact Rv.aaA h hv λj hj=>(E.gM.q1 j (by rw[<-E.gM.len];exact hj)).2
def afU{W W':UK}(h:Vf.P7 w W K p)(b:Below W.heap.size W W'):fW W' K p:=
 ⟨.vd (h.g.later b).1,.vd (h.v.later b).1,.vd (h.t.later b).1,.vd (h.o.later b).1,.vd (h.c.later b).1⟩
def agK(h:fW w K p)(hq:aZ w 1 qv c.aK.length (aX c.aK))(hs:um w sa sn)(hm:Vf.nu p):Calls prog 3 #[pV K p,cV c qv,to sa sn sc] w (λe w'=>e=C8 (.bool true)/\Below w.heap.size w w'):=by
 obtain⟨⟨ga,gc,g1,g2,g3⟩,⟨va,vc,v1,v2,v3⟩,⟨ta,tc,t1,t2,t3⟩,⟨oa,oc,o1,o2,o3⟩,⟨ca,cc,c1,c2,c3⟩⟩:=h.sl;obtain⟨qa,qc,rfl,-,-⟩:=hq.val;have HFW:=Z (λV (X:Below w.heap.size w V)=>Vf.adL V (h.aG (aA.af X)));have HSP:=Z (λV (X:Below w.heap.size w V)=>adQ (w:=V) (h.aG (aA.af X)));have HSO:=Z (λV (X:Below w.heap.size w V)=>Rv.aat (w:=V) (h.aG (aA.af X)) (hq.aG (aA.af X)));have HNW:=Z (λV (X:Below w.heap.size w V) (hS:(aW p).1=0->mi p c=true->nw p)=>IM (w:=V) (h.aG (aA.af X)) (hq.aG (aA.af X)) hS);have HTW:=Z (λV (X:Below w.heap.size w V)=>Vf.afT V (h.aG (aA.af X)) hm);have HQ:=Z (λV (X:Below w.heap.size w V)=>hq.aG (aA.af X));have HS:=Z hs;have ER:=Z (show Arg w K.g (to qa c.aK.length qc) p c from⟨h.g,hq⟩);obtain⟨W0,kX⟩:∃W0,W0=(w.alloc (QP #[to ga p.bw.length gc,to va p.vars.length vc,to ta p.aS.length tc,to oa p.on.length oc,Y p.aT,to ca p.code.length cc] 27)).alloc (QP #[Y c.size,to qa c.aK.length qc] 29):=⟨_,rfl⟩;have kp:aF W0 w.heap.size 27 #[to ga p.bw.length gc,to va p.vars.length vc,to ta p.aS.length tc,to oa p.on.length oc,Y p.aT,to ca p.code.length cc]:=by rw[kX];exact(aF.new _ _ _).alloc _
 have kc:aF W0 (w.heap.size+1) 29 #[Y c.size,to qa c.aK.length qc]:=by rw[kX];exact aF.bR ay
 have ep:Below w.heap.size w W0:=by rw[kX];exact((aB _ _).alloc (aL _) _).alloc ay _
 have HKN:=Z (agJ W0);unfold pV cV at*;rw[g1]at ER;rw[g1,v1,t1,o1,c1]at HFW HSP HSO HNW HTW ⊢;clear h hq hs hm g1 v1 t1 o1 c1 g2 g3 v2 v3 t2 t3 o2 o3 c2 c3;have eV:=Z ep;have KP:=Z kp;have KC:=Z kc;clear ep kp kc;go_enter func3,ntmps3;go_wp2_with fail;rw[<-kX];clear kX;refine HKN.o.mono ?_;rintro e W1 ⟨rfl,fI⟩;have cR:=Z (eV.o.trans (fI.mono eV.o.size));have xI:=Z fI;clear fI;have kp9:=KP.o.aG (aA.af (S:=[]) xI.o) ay;obtain⟨p0,p1,p2,p3,p4,p5⟩:=kp9.c6;clear kp9;have kc9:=KC.o.aG (aA.af (S:=[]) xI.o) ay;obtain⟨q0,q1⟩:=kc9.c2;clear kc9;go_wp2_with fail;refine(HFW.o _ cR.o).mono ?_;rintro e W2 ⟨rfl,dC⟩;have lF:=Z (xI.o.trans (dC.mono xI.o.size));have eF:=Z (cR.o.trans (dC.mono cR.o.size));clear p0 p1 p2 p3 p4 p5 q0 q1 dC;have kp9:=KP.o.aG (aA.af (S:=[]) lF.o) ay;obtain⟨p0,p1,p2,p3,p4,p5⟩:=kp9.c6;clear kp9;have kc9:=KC.o.aG (aA.af (S:=[]) lF.o) ay;obtain⟨q0,q1⟩:=kc9.c2;clear kc9;by_cases hf:p.code.length<=3000;rotate_left
 ·have d:decide (p.code.length<=3000)=false:=decide_eq_false hf;rw[d];clear d hf;go_wp2
  first|refine Vf.fy (P:=prog) (fn:=Proofs.Tryz.f3) rfl ?_|(rw[ja];refine Vf.fy (P:=prog) (fn:=Proofs.Tryz.f3) rfl ?_)
  exact⟨rfl,eF.o⟩
 have d:decide (p.code.length<=3000)=true:=xx hf;rw[d];clear d hf;go_wp2_with fail;refine(HSP.o _ eF.o).mono ?_;rintro e W3 ⟨⟨b3,rfl⟩,pz⟩;have GI:=Z (lF.o.trans (pz.mono lF.o.size));have iy:=Z (eF.o.trans (pz.mono eF.o.size));clear p0 p1 p2 p3 p4 p5 q0 q1 pz;cases b3 with
 |false=>
  go_wp2
  first|refine Vf.fy (P:=prog) (fn:=Proofs.Tryz.f3) rfl ?_|(rw[ja];refine Vf.fy (P:=prog) (fn:=Proofs.Tryz.f3) rfl ?_)
  exact⟨rfl,iy.o⟩
 |true=>
  have kp9:=KP.o.aG (aA.af (S:=[]) GI.o) ay;obtain⟨p0,p1,p2,p3,p4,p5⟩:=kp9.c6;clear kp9;have kc9:=KC.o.aG (aA.af (S:=[]) GI.o) ay;obtain⟨q0,q1⟩:=kc9.c2;clear kc9;go_wp2_with fail;refine(HSO.o _ iy.o).mono ?_;rintro e Vb ⟨rfl,wM⟩;have Q9:=Z (GI.o.trans (wM.mono GI.o.size));have jK:=Z (iy.o.trans (wM.mono iy.o.size));clear p0 p1 p2 p3 p4 p5 q0 q1 wM;cases pk:Rv.rW p c with
  |false=>
   clear pk;go_wp2
   first|refine Vf.fy (P:=prog) (fn:=Proofs.Tryz.f3) rfl ?_|(rw[ja];refine Vf.fy (P:=prog) (fn:=Proofs.Tryz.f3) rfl ?_)
   exact⟨rfl,jK.o⟩
  |true=>
  have HSN:=Z (afV (p:=p) (c:=c) pk);clear pk HFW HSP HSO HKN eV cR eF iy xI lF GI;have Gg:=Z (show w.heap.size+1<Vb.heap.size from eJ KC.o.lt Q9.o.size);have kp9:=KP.o.aG (aA.af (S:=[]) Q9.o) ay;obtain⟨p0,p1,p2,p3,p4,p5⟩:=kp9.c6;clear kp9;have kc9:=KC.o.aG (aA.af (S:=[]) Q9.o) ay;obtain⟨q0,q1⟩:=kc9.c2;clear kc9;go_wp2_with fail;refine(HTW.o _ jK.o).mono ?_;rintro e W5 ⟨⟨kg,kv,kt,ko,kc⟩,rfl,po,uM⟩;obtain⟨xg,xgc,e1,-,-⟩:=(aZ.vd po.g.1).val;obtain⟨xv,xvc,e2,-,-⟩:=(aZ.vd po.v.1).val;obtain⟨xt,xtc,e3,-,-⟩:=(aZ.vd po.t.1).val;obtain⟨xo,xoc,e4,-,-⟩:=(aZ.vd po.o.1).val;obtain⟨xc,xcc,e5,-,-⟩:=(aZ.vd po.c.1).val;dsimp only at e1 e2 e3 e4 e5;subst e1 e2 e3 e4 e5;have HPO:=Z po;have HX5:=Z (Q9.o.trans (uM.mono Q9.o.size));have nU:=Z (jK.o.trans (uM.mono jK.o.size));have HI1:=Z po.c.2;have YY:=Z po.o.2;have HI3:=Z po.t.2;obtain⟨W5b,hW5⟩:∃W,W=W5.alloc (QP #[to xg p.bw.length xgc,to xv p.vars.length xvc,to xt p.aS.length xtc,to xo p.on.length xoc,Y p.aT,to xc p.code.length xcc] 27):=⟨_,rfl⟩;have Fq:=Z (show Below W5.heap.size W5 W5b by rw[hW5];exact(aB _ _).alloc (aL _) _);have Qb:=Z (show aF W5b W5.heap.size 27 #[to xg p.bw.length xgc,to xv p.vars.length xvc,to xt p.aS.length xtc,to xo p.on.length xoc,Y p.aT,to xc p.code.length xcc]by rw[hW5];exact aF.new _ _ _);have S2:=Z (show W5b.heap.size=W5.heap.size+1 by rw[hW5];simp);have HVX:=Z (show Vb.heap.size<=W5.heap.size from uM.size);clear p0 p1 p2 p3 p4 p5 q0 q1 uM po;have HXC:=Z (HX5.o.trans (Fq.o.mono HX5.o.size));have kc9:=KC.o.aG (aA.af (S:=[]) HXC.o) ay;obtain⟨q0,q1⟩:=kc9.c2;clear kc9;rw[hW5]at q0 q1;unfold pV;dsimp only;go_wp2_with fail;rw[<-hW5];clear hW5 q0 q1;have GU:=Z (IM (afU HPO.o Fq.o) (HQ.o _ (nU.o.trans (Fq.o.mono nU.o.size))) HSN.o);have kE:=Z (nU.o.trans (Fq.o.mono nU.o.size));unfold pV at GU;dsimp only at GU;refine GU.o.mono ?_;rintro e W6 ⟨AK,⟨hn6,er,XD,rfl⟩|⟨hv,yv,CA,rfl,hvA⟩⟩
  ·have wk:=Z (kE.o.trans (AK.mono kE.o.size));have Ui:=Z (HXC.o.trans (AK.mono HXC.o.size));have he0:(er==0)=false:=by simpa using XD
   have he1:(er !=0)=true:=by simpa using XD
   clear AK hn6 GU;have kp9:=KP.o.aG (aA.af (S:=[]) Ui.o) ay;obtain⟨p0,p1,p2,p3,p4,p5⟩:=kp9.c6;clear kp9;have kc9:=KC.o.aG (aA.af (S:=[]) Ui.o) ay;obtain⟨q0,q1⟩:=kc9.c2;clear kc9;go_wp2_with fail;refine(HNW.o _ wk.o HSN.o).mono ?_;rintro e W7 ⟨Qn,⟨-,er2,-,rfl⟩|⟨-,-,C2,rfl,-⟩⟩
   all_goals
    have EJ:=Z (wk.o.trans (Qn.mono wk.o.size));clear p0 p1 p2 p3 p4 p5 q0 q1 Qn;go_wp2
    first|refine Vf.fy (P:=prog) (fn:=Proofs.Tryz.f3) rfl ?_|(rw[ja];refine Vf.fy (P:=prog) (fn:=Proofs.Tryz.f3) rfl ?_)
    exact⟨rfl,EJ.o⟩
  have wk:=Z (kE.o.trans (AK.mono kE.o.size));have Ui:=Z (HXC.o.trans (AK.mono HXC.o.size));have HL6:=Z AK;have HVA:=Z hvA;have HVO:=Z (And.intro hv yv);clear AK GU hv yv hvA;have kp9:=KP.o.aG (aA.af (S:=[]) Ui.o) ay;obtain⟨p0,p1,p2,p3,p4,p5⟩:=kp9.c6;clear kp9;have kc9:=KC.o.aG (aA.af (S:=[]) Ui.o) ay;obtain⟨q0,q1⟩:=kc9.c2;clear kc9;go_wp2_with fail;refine(HNW.o _ wk.o HSN.o).mono ?_;rintro e W7 ⟨Qn,⟨hn,-⟩|⟨-,-,CB,rfl,hvB⟩⟩
  ·exact absurd HVO.o hn
  have HT:=Z (show TG W7 W5b.heap.size p c 2 (WZ CA.mb CB.mb) (λ_=>((zs p,(⟨0,0,0,0⟩:dZ),(0:Int)):St×dZ×Int))from(TG.two HVA.o HL6.o.size Qn hvB).IT λj hj=>⟨rfl,by rcases(by omega:j=0\/j=1)with rfl|rfl<;>rfl⟩);have HB:=Z (wk.o.trans (Qn.mono wk.o.size));have HX7:=Z (Ui.o.trans (Qn.mono Ui.o.size));have T5:=Z (KP.o.aG (aA.af (S:=[]) HX7.o) ay);have HCB:=Z (KC.o.aG (aA.af (S:=[]) HX7.o) ay);have HW:=Z (show Below W5b.heap.size W5b W7 from HL6.o.trans (Qn.mono HL6.o.size));replace Qb:=Z (Qb.o.aG (aA.af (S:=[]) HW.o) ay);have Dk:=Z (Dc.of ((HPO.o.c.later Fq.o).later HW.o).1 bd);have sR:=Z (Dc.of ((HPO.o.o.later Fq.o).later HW.o).1 bd);have HR3:=Z (Dc.of ((HPO.o.t.later Fq.o).later HW.o).1 bd);clear p0 p1 p2 p3 p4 p5 q0 q1 Qn hvB;clear HW HX7 Ui HXC HX5 Q9 HVA HVO HL6 HPO Fq KP KC HNW HTW HQ HSN kE jK nU wk;generalize CA.mb=mA at*;generalize CB.mb=mB at*;generalize W5.heap.size=xb at*;generalize jn:((zs p,(⟨0,0,0,0⟩:dZ),(0:Int)):St×dZ×Int)=z0 at*;clear jn;have MT:=Z (And.intro Gg.o S2.o);go_wp2_with fail;refine ow1 (W0:=W7) (xb:=xb) (n:=p.code.length) (v:=to xc p.code.length xcc) (U2:=to sa sn sc) (U3:=(UI w.heap.size)) (U4:=(UI (w.heap.size+1))) (U8:=(UI mA)) (U10:=(UI mB)) (Z ⟨_,_,Qb.o,rfl,λhc=>by have:=HI1.o xb (by simpa[vb]using hc);omega⟩) (λJ W8 j2 j3 j4 j7 j8 nM f r g=>?_) ⟨_,0,ux.of _ rfl,rfl,rfl,rfl,rfl,rfl,rfl,rfl,cK _,O,Z ⟨aA.refl _ _,Dk.o,λ_ _ _ _ h=>h⟩⟩;have sg:=Z (show aA (Fx Vb.heap.size xb) W7 W8 from f.mono (λb X=>ed.2 (HI1.o b (by simpa[vb]using X))));replace sR:=Z (g _ _ _ _ sR.o);replace HR3:=Z (g _ _ _ _ HR3.o);clear f r g Dk HI1;replace T5:=Z (T5.o.aG sg.o (λhc=>by have:=ed.1 hc;have z:=MT.o;omega));replace HCB:=Z (HCB.o.aG sg.o (λhc=>by have:=ed.1 hc;have z:=MT.o;omega));replace Qb:=Z (Qb.o.aG sg.o (λhc=>by have:=ed.1 hc;have z:=MT.o;omega));replace HT:=Z (HT.o.off sg.o (λb X=>by have:=ed.1 X;have z:=MT.o;omega));replace HB:=Z (HB.o.trans (sg.o.below (B:=w.heap.size) HB.o.size (λb X=>by have:=ed.1 X;have z:=MT.o;omega)));clear sg;unfold ux
  conv=>arg 2;whnf
  rw[j2,j3,j4,j7,j8,nM];clear j2 j3 j4 j7 j8 nM;go_wp2_with fail;refine ow2 (W0:=W8) (xb:=xb) (n:=p.on.length) (v:=to xo p.on.length xoc) (U2:=to sa sn sc) (U3:=(UI w.heap.size)) (U4:=(UI (w.heap.size+1))) (U8:=(UI mA)) (U10:=(UI mB)) (Z ⟨_,_,Qb.o,rfl,λhc=>by have:=YY.o xb (by simpa[vb]using hc);omega⟩) (λJ W9 j2 j3 j4 j7 j8 nM f r g=>?_) ⟨_,0,ux.of _ rfl,rfl,rfl,rfl,rfl,rfl,rfl,rfl,cK _,O,Z ⟨aA.refl _ _,sR.o,λ_ _ _ _ h=>h⟩⟩;have sg:=Z (show aA (Fx Vb.heap.size xb) W8 W9 from f.mono (λb X=>ed.2 (YY.o b (by simpa[vb]using X))));replace HR3:=Z (g _ _ _ _ HR3.o);clear f r g sR YY;replace T5:=Z (T5.o.aG sg.o (λhc=>by have:=ed.1 hc;have z:=MT.o;omega));replace HCB:=Z (HCB.o.aG sg.o (λhc=>by have:=ed.1 hc;have z:=MT.o;omega));replace Qb:=Z (Qb.o.aG sg.o (λhc=>by have:=ed.1 hc;have z:=MT.o;omega));replace HT:=Z (HT.o.off sg.o (λb X=>by have:=ed.1 X;have z:=MT.o;omega));replace HB:=Z (HB.o.trans (sg.o.below (B:=w.heap.size) HB.o.size (λb X=>by have:=ed.1 X;have z:=MT.o;omega)));clear sg;unfold ux
  conv=>arg 2;whnf
  rw[j2,j3,j4,j7,j8,nM];clear j2 j3 j4 j7 j8 nM;go_wp2_with fail;refine ow3 (W0:=W9) (xb:=xb) (n:=p.aS.length) (v:=to xt p.aS.length xtc) (U2:=to sa sn sc) (U3:=(UI w.heap.size)) (U4:=(UI (w.heap.size+1))) (U8:=(UI mA)) (U10:=(UI mB)) (Z ⟨_,_,Qb.o,rfl,λhc=>by have:=HI3.o xb (by simpa[vb]using hc);omega⟩) (λJ W10 j2 j3 j4 j7 j8 nM f r g=>?_) ⟨_,0,ux.of _ rfl,rfl,rfl,rfl,rfl,rfl,rfl,rfl,cK _,O,Z ⟨aA.refl _ _,HR3.o,λ_ _ _ _ h=>h⟩⟩;have sg:=Z (show aA (Fx Vb.heap.size xb) W9 W10 from f.mono (λb X=>ed.2 (HI3.o b (by simpa[vb]using X))));clear f r g HR3 HI3;replace T5:=Z (T5.o.aG sg.o (λhc=>by have:=ed.1 hc;have z:=MT.o;omega));replace HCB:=Z (HCB.o.aG sg.o (λhc=>by have:=ed.1 hc;have z:=MT.o;omega));replace Qb:=Z (Qb.o.aG sg.o (λhc=>by have:=ed.1 hc;have z:=MT.o;omega));replace HT:=Z (HT.o.off sg.o (λb X=>by have:=ed.1 X;have z:=MT.o;omega));replace HB:=Z (HB.o.trans (sg.o.below (B:=w.heap.size) HB.o.size (λb X=>by have:=ed.1 X;have z:=MT.o;omega)));clear sg;unfold ux
  conv=>arg 2;whnf
  rw[j2,j3,j4,j7,j8,nM];clear j2 j3 j4 j7 j8 nM;go_wp2_with fail;refine af3 (w:=w) (lo:=W5b.heap.size) (pb:=w.heap.size) (cb:=w.heap.size+1) (mA:=mA) (mB:=mB) (sn:=sn) (sc:=sc) (sa:=sa) (p:=p) (c:=c) HS ER (Z (show _/\_/\_ by have z1:=Gg.o;have z2:=S2.o;have z3:=HVX.o;exact⟨O,O,O⟩)) (λJ W X=>?_) ⟨_,0,ux.of _ rfl,rfl,rfl,rfl,rfl,rfl,rfl,cK _,O,Z ⟨HB.o,T5.o,HCB.o,z0,HT.o⟩⟩;have JV:=Z X;clear X;unfold ux;go_wp2
  first|refine Vf.fy (P:=prog) (fn:=Proofs.Tryz.f3) rfl ?_|(rw[ja];refine Vf.fy (P:=prog) (fn:=Proofs.Tryz.f3) rfl ?_)
  exact⟨rfl,JV.o⟩
end
end Go.Ma
namespace Go.Ma
open Go.RowKit aj.Vm Go.ChangeShapes Go.WideShapes Go.Deep
open aj hiding aR an ak
open Vf (Kp fW pV aZ)
section
variable {a0f:Type}{enc:TypeId×UL->a0f}{P:Program}{w:UK}{base:Nat}{spare:Nat->Bool}{held:Bool}
def Rd(enc:TypeId×UL->a0f)(P:Program)(w:UK)(base:Nat)(spare:Nat->Bool)(held:Bool)(t:TypeId)(cs:List UL):Prop:=∃n y,DataW.trod enc P w base spare held n t cs=H y
def Rd.int{t:TypeId}{k:IntKind}{v:UL}(ht:P.underlying t=H (.int k))(h:Rd enc P w base spare held t [v]):∃n,v= .int k n/\(Lit.int k n).wf=true:=by obtain⟨f,y,h⟩:=h;obtain⟨n,e,-,hw⟩:=DataW.trod_int ht h;simp at e;exact⟨n,e,hw⟩
def Rd.bool{t:TypeId}{v:UL}(ht:P.underlying t=H .bool)(h:Rd enc P w base spare held t [v]):∃b,v= .bool b:=by obtain⟨f,y,h⟩:=h;obtain⟨n,e,-⟩:=DataW.trod_bool ht h;simp at e;exact⟨n,e⟩
def Rd.fields{t:TypeId}{fs:Array Field}{cs:List UL}(ht:P.underlying t=H (.struct fs))(uA:oneCellFields P fs=true)(hC:P.cellsOf t=fs.size)(h:Rd enc P w base spare held t cs):
 cs.length=fs.size/\∀(j:Nat) (f:Field),fs[j]? =H f->∃v,cs[j]? =H v/\Rd enc P w base spare held f.type [v]:=by
 obtain⟨fu,y,h⟩:=h;obtain⟨xs,n,-,-,hl,hx,hf⟩:=DataW.trod_struct ht h;rw[hC]at hl;refine⟨hl,λj f hj=>?_⟩;have be:j<fs.size:=(Array.getElem?_eq_some_iff.1 hj).1;obtain⟨ho,hk⟩:=hone_of uA j f hj;have h1:=hf j f hj;rw[ho,hk,fq O]at h1;have:(cs.drop j).take 1=[cs[j]'O]:=by rw[qU O];rfl
 rw[this]at h1;exact⟨_,fq O,n,_,h1⟩
def Rd.rows{t e:TypeId}{v:UL}(ht:P.underlying t=H (.slice e))(h:Rd enc P w base spare held t [v]):
 v=Pl\/∃a len cap,v=to (H a) len cap/\len<=cap/\cap<=maxLen/\∀i,i<len->∃cs,cs.length=P.cellsOf e/\(∀j,j<P.cellsOf e->UJ w (a.add (i*P.cellsOf e+j))=cs[j]?)/\Rd enc P w base spare held e cs:=by
 obtain⟨fu,y,h⟩:=h;rcases open_slice ht h with⟨h0,-⟩|⟨a,len,cap,m,n,D,a1r,zB,X,hl,hm,BK,hx,hi⟩
 ·simp at h0;exact .inl h0
 ·simp at zB;refine .inr ⟨a,len,cap,zB,hl,hm,λi jh=>?_⟩;obtain⟨cs',hc,ht'⟩:=hi i (by rw[BK];split<;>omega);obtain⟨-,hcl,M5⟩:=World.cells?_some hc;exact⟨cs',hcl,λj hj=>by rw[<-Go.Deep.add_add];exact M5 j hj,n,_,ht'⟩
def at_plain{a:Addr}{n:Nat}{v:UL}(h:UJ w (a.add n)=H v)(h0:∃u,UJ w (a.add 0)=H u):a.spot=K7/\UJ w (G a.block (a.off+n))=H v:=by
 obtain⟨u,h0⟩:=h0;have hs:a.spot=K7:=by simpa[Addr.add]using World.cell?_spot h0
 obtain⟨b,o,sp⟩:=a;dsimp only at hs;subst hs;rw[add_plain]at h;exact⟨rfl,h⟩
def cI(w:UK)(b o:Nat):Int:=match UJ w ⟨b,o,K7⟩with|some (.int _ n)=>n|_=>0
def cB(w:UK)(b o:Nat):Bool:=match UJ w ⟨b,o,K7⟩with|some (.bool n)=>n|_=>false
def Rd.ints{t e:TypeId}{v:UL}{k:Nat}(ht:P.underlying t=H (.slice e))(hk:P.cellsOf e=k)(Is:0<k)
 (he:∀cs,Rd enc P w base spare held e cs->∀j,j<k->∃n,cs[j]? =H (Y n)) (h:Rd enc P w base spare held t [v]):∃(n:Nat) (g:Nat->Int),aZ w k v n (λo=> Y (g o)):=by
 rcases h.rows ht with rfl|⟨a,len,cap,rfl,h1,h2,h3⟩
 ·exact⟨0,λ_=>0,.inl ⟨rfl,rfl⟩⟩
 ·rw[hk]at h3;have at_:∀o,o<len*k->∃n,UJ w (a.add o)=H (Y n):=λo ho=>by have hi:o / k<len:=Nat.div_lt_of_lt_mul (by rw[Nat.mul_comm];exact ho);have hj:o % k<k:=Nat.mod_lt _ Is;obtain⟨cs,hl,hc,hr⟩:=h3 (o / k) hi;obtain⟨n,hn⟩:=he cs hr _ hj;have:=hc _ hj;rw[show o / k*k+o % k=o from Nat.div_add_mod' o k]at this;exact⟨n,this.trans hn⟩
  refine⟨len,λo=>cI w a.block (a.off+o),.inr ⟨a,cap,rfl,h1,h2,λo ho=>?_⟩⟩;obtain⟨n,hn⟩:=at_ o ho;obtain⟨u,hu⟩:=at_ 0 O;obtain⟨e1,e2⟩:=at_plain hn ⟨_,hu⟩;refine⟨e1,?_⟩;unfold cI;dsimp only;rw[e2]
def Rd.ada{t e:TypeId}{v:UL}(ht:P.underlying t=H (.slice e))(hk:P.cellsOf e=1)(he:P.underlying e=H .bool)(h:Rd enc P w base spare held t [v]):∃(n:Nat) (g:Nat->Bool),aZ w 1 v n (λo=> .bool (g o)):=by
 rcases h.rows ht with rfl|⟨a,len,cap,rfl,h1,h2,h3⟩
 ·exact⟨0,λ_=>false,.inl ⟨rfl,rfl⟩⟩
 ·rw[hk]at h3;have at_:∀o,o<len->∃n,UJ w (a.add o)=H (.bool n):=λo ho=>by
   obtain⟨cs,hl,hc,hr⟩:=h3 o ho
   match cs,hl with
   |[x],_=>obtain⟨b,rfl⟩:=hr.bool he;have:=hc 0 O;rw[Nat.mul_one,Nat.add_zero]at this;exact⟨b,this⟩
  refine⟨len,λo=>cB w a.block (a.off+o),.inr ⟨a,cap,rfl,h1,h2,λo ho=>?_⟩⟩;obtain⟨n,hn⟩:=at_ o O;obtain⟨u,hu⟩:=at_ 0 O;obtain⟨e1,e2⟩:=at_plain hn ⟨_,hu⟩;refine⟨e1,?_⟩;unfold cB;dsimp only;rw[e2]
def pM{size n:Nat}{v:UL}{g f:Nat->UL}(h:aZ w size v n g)(e:∀o,o<n*size->g o=f o):aZ w size v n f:=by
 rcases h with h|⟨a,cap,h0,h1,h2,h3⟩
 ·exact .inl h
 ·exact .inr ⟨a,cap,h0,h1,h2,λo ho=>⟨(h3 o ho).1,by rw[<-e o ho];exact(h3 o ho).2⟩⟩
def pN{α:Type}(g:Nat->α)(d:α){n i:Nat}(h:i<n):((List.range n).map g).getD i d=g i:=by simp[List.getD,h]
def zz{t:TypeId}{fs:Array Field}{k:Nat}(ht:prog.underlying t=H (.struct fs))(uA:oneCellFields prog fs=true)(hC:prog.cellsOf t=k)(hk:fs.size=k)
 (hi:∀(j:Nat) f,fs[j]? =H f->prog.underlying f.type=H (.int .i64)) (cs:List UL) (h:Rd enc prog w base spare held t cs) (j:Nat) (hj:j<k):∃n,cs[j]? =H (Y n):=by
 obtain⟨hl,hf⟩:=h.fields ht uA (hC.trans hk.symm);obtain⟨v,h1,h2⟩:=hf j fs[j] (tR O);obtain⟨n,rfl,-⟩:=h2.int (hi j _ (tR O));exact⟨n,h1⟩
def Dd{v:UL}(h:Rd enc prog w base spare held 24 [v]):∃l:List Int,aZ w 1 v l.length (aX l):=by
 obtain⟨n,g,hr⟩:=h.ints (k:=1) underlying24 bh O (λcs hc j hj=>by
  have hl:cs.length=1:=by obtain⟨f,y,hc⟩:=hc;obtain⟨n,e,-⟩:=DataW.trod_int underlying3 hc;rw[e];rfl
  match cs,hl with
  |[x],_=>
   obtain⟨n,rfl,-⟩:=hc.int underlying3;obtain rfl:j=0:=O;exact⟨n,rfl⟩)
 refine⟨(List.range n).map g,?_⟩;rw[List.length_map,List.length_range];exact pM hr λo ho=>by unfold aX;rw[pN g 0 O]
def a0h{v:UL}(h:Rd enc prog w base spare held 22 [v]):∃l:List Bool,aZ w 1 v l.length (λi=> .bool (l.getD i false)):=by obtain⟨n,g,hr⟩:=h.ada underlying22 bh underlying4;refine⟨(List.range n).map g,?_⟩;rw[List.length_map,List.length_range];exact pM hr λo ho=>by rw[pN g false O]
def a0i{v:UL}(h:Rd enc prog w base spare held 23 [v]):∃l:List Vr,aZ w 3 v l.length (λo=>let x:=l.getD (o / 3) ⟨0,0,0⟩;if o % 3=0 then Y x.init else if o % 3=1 then Y x.lo else Y x.hi):=by
 obtain⟨n,g,hr⟩:=h.ints (k:=3) underlying23 bh O (zz underlying122 bh bh rfl (λj f hf=>by
  match j,hf with
  |0,hf=>cases hf;exact underlying3
  |1,hf=>cases hf;exact underlying3
  |2,hf=>cases hf;exact underlying3
  |n+3,hf=>cases hf))
 refine⟨(List.range n).map λi=>⟨g (i*3),g (i*3+1),g (i*3+2)⟩,?_⟩;rw[List.length_map,List.length_range];refine pM hr λo ho=>?_;dsimp only;rw[pN _ _ O];dsimp only;split
 ·congr;omega
 split
 ·congr;omega
 ·congr;omega
def a0j{v:UL}(h:Rd enc prog w base spare held 25 [v]):∃l:List Ins,aZ w 5 v l.length (λo=>let x:=l.getD (o / 5) ⟨0,0,0,0,0⟩;if o % 5=0 then Y x.op else if o % 5=1 then Y x.a else if o % 5=2 then Y x.b else if o % 5=3 then Y x.c else Y x.d):=by
 obtain⟨n,g,hr⟩:=h.ints (k:=5) underlying25 bh O (zz underlying40 bh bh rfl (λj f hf=>by
  match j,hf with
  |0,hf=>cases hf;exact underlying3
  |1,hf=>cases hf;exact underlying3
  |2,hf=>cases hf;exact underlying3
  |3,hf=>cases hf;exact underlying3
  |4,hf=>cases hf;exact underlying3
  |n+5,hf=>cases hf))
 refine⟨(List.range n).map λi=>⟨g (i*5),g (i*5+1),g (i*5+2),g (i*5+3),g (i*5+4)⟩,?_⟩;rw[List.length_map,List.length_range];refine pM hr λo ho=>?_;dsimp only;rw[pN _ _ O];dsimp only;split
 ·congr;omega
 split
 ·congr;omega
 split
 ·congr;omega
 split
 ·congr;omega
 ·congr;omega
def a0k{v:UL}{cs:Array UL}(e:v= .agg cs)(h:Rd enc prog w base spare held 27 cs.toList):∃(K:Kp) (p:aQ),v=pV K p/\fW w K p:=by
 obtain⟨hl,hf⟩:=h.fields underlying27 bh bh;obtain⟨v0,e0,r0⟩:=hf 0 _ rfl;obtain⟨v1,e1,r1⟩:=hf 1 _ rfl;obtain⟨v2,e2,r2⟩:=hf 2 _ rfl;obtain⟨v3,e3,r3⟩:=hf 3 _ rfl;obtain⟨v4,e4,r4⟩:=hf 4 _ rfl;obtain⟨v5,e5,r5⟩:=hf 5 _ rfl;obtain⟨g,hg⟩:=a0h r0;obtain⟨vs,hv⟩:=a0i r1;obtain⟨ts,htg⟩:=Dd r2;obtain⟨on,ho⟩:=Dd r3;obtain⟨m,rfl,-⟩:=r4.int underlying3;obtain⟨c,hc⟩:=a0j r5;refine⟨⟨v0,v1,v2,v3,v5⟩,⟨g,vs,ts,on,m,c⟩,?_,hg,hv,htg,ho,hc⟩;subst e;obtain⟨l⟩:=cs
 match l,hl with
 |[x0,x1,x2,x3,x4,x5],_=>simp only[List.getElem?_cons_zero,List.getElem?_cons_succ,im]at e0 e1 e2 e3 e4 e5;subst e0 e1 e2 e3 e4 e5;rfl
def a0l{v:UL}{cs:Array UL}(e:v= .agg cs)(h:Rd enc prog w base spare held 29 cs.toList):∃(c:Cp) (qv:UL),v=Vf.cV c qv/\aZ w 1 qv c.aK.length (aX c.aK):=by
 obtain⟨hl,hf⟩:=h.fields underlying29 bh bh;obtain⟨v0,e0,r0⟩:=hf 0 _ rfl;obtain⟨v1,e1,r1⟩:=hf 1 _ rfl;obtain⟨m,rfl,-⟩:=r0.int underlying3;obtain⟨q,hq⟩:=Dd r1;refine⟨⟨m,q⟩,v1,?_,hq⟩;subst e;obtain⟨l⟩:=cs
 match l,hl with
 |[x0,x1],_=>simp only[List.getElem?_cons_zero,List.getElem?_cons_succ,im]at e0 e1;subst e0 e1;rfl
end
end Go.Ma
