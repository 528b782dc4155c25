import Derived.Test.YtblkblclmbhjiaaGreatY4
import Derived.Shelf.Bits.Mul64
import Derived.Deep.Onto
import Derived.ArgAppend
set_option linter.all false
set_option maxHeartbeats 40000000
set_option maxRecDepth 100000
open Go.Proofs.Tryz
open Option renaming some->O,none->MT
open Go renaming Value->to,World->ek
open Go.Value renaming slice->H
open Go.Obj renaming cells->CA
open Go.Ending renaming returned->Vl
open Go.World renaming cell?->Vo
abbrev qU:=@List.getElem_of_mem
abbrev yZ:=@Array.getD_eq_getD_getElem?
abbrev y_:=@Array.getElem?_eq_getElem
namespace Go.Vf
open Go.RowKit aj.Vm
open aj hiding aR an ak
open Ma (dP ci aX vb)
structure KpS(K:Kp)(p:aQ):Prop where
 g:∃a c,K.g=H a p.ax.length c/\p.ax.length<=c/\c<=maxLen
 v:∃a c,K.v=H a p.vars.length c/\p.vars.length<=c/\c<=maxLen
 t:∃a c,K.t=H a p.aS.length c/\p.aS.length<=c/\c<=maxLen
 o:∃a c,K.o=H a p.on.length c/\p.on.length<=c/\c<=maxLen
 c:∃a c,K.c=H a p.code.length c/\p.code.length<=c/\c<=maxLen
def fW.sl{w:ek}{K:Kp}{p:aQ}(h:fW w K p):KpS K p:=⟨h.g.val,h.v.val,h.t.val,h.o.val,h.cd.val⟩
def qV(n c:Nat)(h:n<=c)(hc:c<=maxLen):IntKind.i64.wrap ((n:Int) - 1)=(n:Int) - 1:=bJ _ (by unfold maxLen at hc;constructor<;>omega)
def JS{p:Prop}(h:p:=by
 go_enter func240,ntmps240;simp only[vY,List.getD_cons_zero,List.getD_cons_succ];exact Wx):p:=h
def JT{p:Prop}(h:p:=by
 go_enter func240,ntmps240;simp only[vY,List.getD_cons_zero,List.getD_cons_succ];go_wp2;go_quiet (fail);exact Wx):p:=h
def Wx{p:Prop}(h:p:=by
 go_wp2;go_ret2
 first|exact⟨by simp[jA,jB],hB _ _⟩|exact⟨by simp[jA,jB],(hB _ _).trans (az _ _ _)⟩):p:=h
def adE(w:ek){K:Kp}{p:aQ}(h:KpS K p)(k:Nat)(hk:1<=k/\k<=8):Calls prog 240 #[pV K p,.int .u8 (vY k)] w (λe w'=>e=Vl (.tuple #[Y (jA k),Y (jB p k)])/\Below w.heap.size w w'):=by
 obtain⟨⟨ga,gc,g1,g2,g3⟩,⟨va,vc,v1,v2,v3⟩,⟨ta,tc,t1,t2,t3⟩,⟨oa,oc,o1,o2,o3⟩,⟨ca,cc,c1,c2,c3⟩⟩:=h;unfold pV;rw[g1,v1,t1,o1,c1];have w1:=qV _ _ g2 g3;have w2:=qV _ _ v2 v3;have w3:=qV _ _ t2 t3;have w4:=qV _ _ c2 c3;clear g1 g2 g3 v1 v2 v3 t1 t2 t3 o1 o2 o3 c1 c2 c3;have e:k=1\/k=2\/k=3\/k=4\/k=5\/k=6\/k=7\/k=8:=G;have hB:=qq w;rcases e with rfl|rfl|rfl|rfl|rfl|rfl|rfl|rfl
 ·exact JT
 ·exact JT
 ·exact JT
 ·exact JS
 ·exact JS
 ·exact JS
 ·exact JS
 ·exact JT
section
variable {w:ek}{K:Kp}{p:aQ}
def fW.vr(h:fW w K p){i:Nat}(hi:i<p.vars.length):∃b off cap,K.v=H (O (I b off)) p.vars.length cap/\p.vars.length<=cap/\cap<=maxLen/\b<w.heap.size/\
 Vo w (I b (off+i*3))=O (Y (p.vars.getD i ⟨0,0,0⟩).init)/\Vo w (I b (off+i*3+1))=O (Y (p.vars.getD i ⟨0,0,0⟩).lo)/\Vo w (I b (off+i*3+2))=O (Y (p.vars.getD i ⟨0,0,0⟩).hi):=by
 obtain⟨b,off,cap,hv,h1,h2,X,hc⟩:=h.v.some G G;have key:∀k,k<3->Vo w (I b (off+i*3+k))=O (dP p (i*3+k)):=λk hk=>by rw[Nat.add_assoc];exact hc (i*3+k) G
 have hd:∀k,k<3->(i*3+k) / 3=i:=λk hk=>G;have hm:∀k,k<3->(i*3+k) % 3=k:=λk hk=>G;refine⟨b,off,cap,hv,h1,h2,X,(key 0 G).trans ?_,(key 1 G).trans ?_,(key 2 G).trans ?_⟩
 ·unfold dP;dsimp only;rw[hd 0 G,hm 0 G];rfl
 ·unfold dP;dsimp only;rw[hd 1 G,hm 1 G];rfl
 ·unfold dP;dsimp only;rw[hd 2 G,hm 2 G];rfl
def all_false{α:Type}{l:List α}{f:α->Bool}{i:Nat}{d:α}(hi:i<l.length)(h:f (l.getD i d)=false):l.all f=false:=by rw[List.all_eq_false];refine⟨l[i],ja hi,?_⟩;rw[dN,fq hi]at h;simpa using h
def all_true{α:Type}{l:List α}{f:α->Bool}{d:α}(h:∀i,i<l.length->f (l.getD i d)=true):l.all f=true:=by rw[qM];intro x hx;obtain⟨i,hi,rfl⟩:=qU hx;have:=h i hi;rw[dN,fq hi]at this;simpa using this
def FrV(w:ek)(v:to)(n i:Nat)(a:Act):Prop:=∃J:Nat->to,a={tmps:=#[J 0,V5 w.heap.size,J 2,J 3,J 4,J 5,J 6,J 7,J 8,J 9,J 10,J 11,J 12,J 13,J 14,J 15,J 16,J 17,J 18,J 19,J 20,J 21,J 22,J 23,J 24,J 25,J 26,J 27,J 28,J 29,J 30,J 31,J 32,J 33,J 34,J 35,J 36,J 37,J 38,J 39,J 40,v,Y n,Y i,J 44,J 45,J 46,J 47,J 48,J 49,J 50,J 51,J 52,J 53,J 54,J 55,J 56,J 57,J 58,J 59,J 60,J 61,J 62,J 63,J 64,J 65,J 66,J 67,J 68,J 69,J 70,J 71,J 72,J 73,J 74,J 75,J 76,J 77,J 78,J 79,J 80,J 81,J 82,J 83,J 84,J 85,J 86,J 87,J 88,J 89,J 90,J 91,J 92,J 93,J 94,J 95,J 96,J 97,J 98,J 99,J 100,J 101,J 102],defers:=[]}
def FrT(w:ek)(v:to)(n i:Nat)(a:Act):Prop:=∃J:Nat->to,a={tmps:=#[J 0,V5 w.heap.size,J 2,J 3,J 4,J 5,J 6,J 7,J 8,J 9,J 10,J 11,J 12,J 13,J 14,J 15,J 16,J 17,J 18,J 19,J 20,J 21,J 22,J 23,J 24,J 25,J 26,J 27,J 28,J 29,J 30,J 31,J 32,J 33,J 34,J 35,J 36,J 37,J 38,J 39,J 40,J 41,J 42,J 43,J 44,J 45,J 46,J 47,J 48,J 49,J 50,J 51,J 52,J 53,J 54,J 55,J 56,J 57,J 58,J 59,J 60,J 61,J 62,J 63,J 64,J 65,J 66,J 67,J 68,J 69,J 70,v,Y n,Y i,J 74,J 75,J 76,J 77,J 78,J 79,J 80,J 81,J 82,J 83,J 84,J 85,J 86,J 87,J 88,J 89,J 90,J 91,J 92,J 93,J 94,J 95,J 96,J 97,J 98,J 99,J 100,J 101,J 102],defers:=[]}
def FrO(w:ek)(v:to)(n i:Nat)(a:Act):Prop:=∃J:Nat->to,a={tmps:=#[J 0,V5 w.heap.size,J 2,J 3,J 4,J 5,J 6,J 7,J 8,J 9,J 10,J 11,J 12,J 13,J 14,J 15,J 16,J 17,J 18,J 19,J 20,J 21,J 22,J 23,J 24,J 25,J 26,J 27,J 28,J 29,J 30,J 31,J 32,J 33,J 34,J 35,J 36,J 37,J 38,J 39,J 40,J 41,J 42,J 43,J 44,J 45,J 46,J 47,J 48,J 49,J 50,J 51,J 52,J 53,J 54,J 55,J 56,J 57,J 58,J 59,J 60,J 61,J 62,J 63,J 64,J 65,J 66,J 67,J 68,J 69,J 70,J 71,J 72,J 73,J 74,J 75,J 76,J 77,J 78,J 79,J 80,J 81,v,Y n,Y i,J 85,J 86,J 87,J 88,J 89,J 90,J 91,J 92,J 93,J 94,J 95,J 96,J 97,J 98,J 99,J 100,J 101,J 102],defers:=[]}
def iw(K:Kp)(p:aQ):Array to:=#[K.g,K.v,K.t,K.o,Y p.aT,K.c]
def Ps(w:ek)(K:Kp)(p:aQ)(v:to)(m:Nat)(a:Act)(W:ek):Prop:=
 ∃i,i<=p.vars.length/\m+i=p.vars.length+1/\FrV w v p.vars.length i a/\Below w.heap.size w W/\aF W w.heap.size 27 (iw K p)/\∀j,j<i->nV (p.vars.getD j ⟨0,0,0⟩)=true
def Pt(w:ek)(K:Kp)(p:aQ)(v:to)(m:Nat)(a:Act)(W:ek):Prop:=
 ∃i,i<=p.aS.length/\m+i=p.aS.length+1/\FrT w v p.aS.length i a/\Below w.heap.size w W/\aF W w.heap.size 27 (iw K p)/\∀j,j<i->aO (p.aS.getD j 0) 1 255=true
def abJ(w:ek)(K:Kp)(p:aQ)(v:to)(m:Nat)(a:Act)(W:ek):Prop:=
 ∃i,i<=p.ax.length/\m+i=p.ax.length+1/\FrO w v p.ax.length i a/\Below w.heap.size w W/\aF W w.heap.size 27 (iw K p)/\∀j,j<i->aO (p.on.getD j 0) (-1) ((p.code.length:Int) - 1)=true
def JU{p:Prop}(h:p:=by
 go_wp2;go_ret;exact⟨by rw[HF.o];rfl,JV.o.alloc JV.o.size _⟩):p:=h
def Pu{p:Prop}(h:p:=by
 go_wp2_with fail;refine sg.o.mono ?_;rintro e w' ⟨rfl,rfl⟩;go_wp2;go_ret;exact⟨by rw[HF.o];rfl,JV.o⟩):p:=h
def adD(w:ek){K:Kp}{p:aQ}(h:fW w K p):Calls prog 238 #[pV K p] w (λe w'=>e=Vl (.bool (cm p))/\Below w.heap.size w w'):=by
 obtain⟨⟨ga,gc,g1,g2,g3⟩,⟨va,vc,v1,v2,v3⟩,⟨ta,tc,t1,t2,t3⟩,⟨oa,oc,o1,o2,o3⟩,⟨ca,cc,c1,c2,c3⟩⟩:=h.sl;have hB:=qq w;have HW:=Z (qV _ _ c2 c3);have a0g:=Z h;have Tv:aF (w.alloc (CA (iw K p) 27)) w.heap.size 27 (iw K p):=aF.new w _ _;obtain⟨kg,kv,kt,ko,kc⟩:=K;dsimp only at g1 v1 t1 o1 c1;subst g1 v1 t1 o1 c1;unfold pV;unfold iw at Tv;have nG:=Z Tv;have m3:=Z v3;have m4:=Z t3;have m5:=Z o3;clear h g2 g3 v2 v3 t2 t3 o2 o3 c2 c3 Tv;by_cases h1:p.ax.length<=16
 case neg=>go_enter func238,ntmps238;go_wp2;go_ret;exact⟨by simp[cm,h1],hB _ _⟩
 by_cases h2:p.vars.length<=16
 case neg=>go_enter func238,ntmps238;go_wp2;go_ret;exact⟨by simp[cm,h2],hB _ _⟩
 by_cases h3:p.aS.length<=4
 case neg=>go_enter func238,ntmps238;go_wp2;go_ret;exact⟨by simp[cm,h3],hB _ _⟩
 by_cases h4:p.on.length=p.ax.length
 case neg=>go_enter func238,ntmps238;go_wp2;go_ret;exact⟨by simp[cm,h4],hB _ _⟩
 by_cases h5:p.code.length<=262144
 case neg=>go_enter func238,ntmps238;go_wp2;go_ret;exact⟨by simp[cm,h5],hB _ _⟩
 go_enter func238,ntmps238;go_wp2_with fail;simp only[h4]at a0g nG;refine Mk.aN (Ps w ⟨H ga p.ax.length gc,H va p.vars.length vc,H ta p.aS.length tc,H oa p.ax.length oc,H ca p.code.length cc⟩ p (H va p.vars.length vc)) (p.vars.length+1) ?start ?zero ?round
 case start=>exact⟨0,cM _,G,qi rfl,hB _ _,nG.o,λj hj=>absurd hj G⟩
 case zero=>exact λa W hh=>by obtain⟨q,h1,h2,_⟩:=hh;omega
 clear nG
 case round=>
  rintro m a W ⟨i,hi,hm,⟨J,rfl⟩,X,hk,f_⟩;have HA:=Z f_;by_cases be:i<p.vars.length
  ·obtain⟨b,off,cap,hv,q1,q2,wD,c0,c1,c2⟩:=(a0g.o.aG (aA.af X)).vr be;simp only[cz]at hv;obtain⟨rfl,-,rfl⟩:=hv;have fin:∀r,nV (p.vars.getD i ⟨0,0,0⟩)=r->(r=false->cm p=false):=λr e hr=>by subst hr;have:=all_false be e;simp[cm,this]
   generalize hx:p.vars.getD i ⟨0,0,0⟩=x at*;have HX:=Z hx;have JV:=Z X;have HK:=Z hk;have q1':=Z q1;clear f_ hx hk q1 q2;have Nh:nV x=(decide (x.lo<=x.init)&&decide (x.init<=x.hi)&&decide (-1073741824<=x.lo)&&decide (x.hi<=1073741824)):=rfl;by_cases k1:x.lo<=x.init
   case neg=>have HF:=Z (fin false (by simp[Nh,k1]) rfl);clear fin Nh;exact JU
   by_cases k2:x.init<=x.hi
   case neg=>have HF:=Z (fin false (by simp[Nh,k2]) rfl);clear fin Nh;exact JU
   by_cases k3: -1073741824<=x.lo
   case neg=>have HF:=Z (fin false (by simp[Nh,k3]) rfl);clear fin Nh;exact JU
   by_cases k4:x.hi<=1073741824
   case neg=>have HF:=Z (fin false (by simp[Nh,k4]) rfl);clear fin Nh;exact JU
   go_wp2;refine⟨i+1,G,G,qi rfl,JV.o.alloc JV.o.size _,HK.o.alloc _,λj hj=>?_⟩;by_cases e:j=i
   ·subst e;rw[HX.o,Nh];simp[k1,k2,k3,k4]
   ·exact HA.o j G
  ·obtain rfl:i=p.vars.length:=G;have x2:Vo W (I w.heap.size 2)=O (H ta p.aS.length tc):=hk.cell 2;have lx:=hk.lt;have JV:=Z X;have HK:=Z hk;have OG:=Z (all_true HA.o);clear f_ hk X;go_wp2;refine Mk.aN (Pt w ⟨H ga p.ax.length gc,H va p.vars.length vc,H ta p.aS.length tc,H oa p.ax.length oc,H ca p.code.length cc⟩ p (H ta p.aS.length tc)) (p.aS.length+1) ?yX ?E8 ?yY
   case yX=>exact⟨0,cM _,G,qi rfl,JV.o,HK.o,λj hj=>absurd hj G⟩
   case E8=>exact λa W hh=>by obtain⟨q,h1,h2,_⟩:=hh;omega
   clear HK JV x2 lx
   case yY=>
    rintro m2 a2 W2 ⟨i,vG,rD,⟨J2,rfl⟩,X,hk,f_⟩;have HA2:=Z f_;have JV:=Z X;have HK:=Z hk;by_cases pZ:i<p.aS.length
    ·obtain⟨b,off,cap,hv,q1,q2,wD,hc⟩:=(a0g.o.aG (aA.af X)).t.some G G;simp only[cz]at hv;obtain⟨rfl,-,rfl⟩:=hv;have c0:Vo W2 (I b (off+i))=O (Y (p.aS.getD i 0)):=hc i G;generalize hx:p.aS.getD i 0=x at*;have HX:=Z hx;clear hc q1 q2 X hk f_ hx;cases hf:aO x 1 255 with
     |false=>
      have HF:=Z (show cm p=false by
       have:=all_false (f:=λt=>aO t 1 255) pZ (by rw[HX.o];exact hf);simp[cm,this])
      have sg:=Z (show Calls prog 241 #[Y x,Y 1,Y 255] W2 _ from hf▸sL W2 x 1 255);clear hf;exact Pu
     |true=>
      have sg:=Z (show Calls prog 241 #[Y x,Y 1,Y 255] W2 _ from hf▸sL W2 x 1 255);have lF:=Z hf;clear hf;go_wp2_with fail;refine sg.o.mono ?_;rintro e w' ⟨rfl,rfl⟩;go_wp2;refine⟨i+1,G,G,qi rfl,JV.o,HK.o,λj hj=>?_⟩;by_cases e:j=i
      ·subst e;rw[HX.o];exact lF.o
      ·exact HA2.o j G
    ·obtain rfl:i=p.aS.length:=G;have HTS:=Z (all_true (f:=λt=>aO t 1 255) HA2.o);have x3:Vo W2 (I w.heap.size 3)=O (H oa p.ax.length oc):=hk.cell 3;have lx:=hk.lt;clear X hk f_;go_wp2;refine Mk.aN (abJ w ⟨H ga p.ax.length gc,H va p.vars.length vc,H ta p.aS.length tc,H oa p.ax.length oc,H ca p.code.length cc⟩ p (H oa p.ax.length oc)) (p.ax.length+1) ?adC ?abK ?aam
     case adC=>exact⟨0,cM _,G,qi rfl,JV.o,HK.o,λj hj=>absurd hj G⟩
     case abK=>exact λa W hh=>by obtain⟨q,h1,h2,_⟩:=hh;omega
     clear HK JV x3 lx
     case aam=>
      rintro m3 a3 W3 ⟨i,MU,hm3,⟨J3,rfl⟩,X,hk,f_⟩;have Eo:=Z f_;have JV:=Z X;have HK:=Z hk;have y5:Vo W3 (I w.heap.size 5)=O (H ca p.code.length cc):=hk.cell 5;have y4:Vo W3 (I w.heap.size 4)=O (Y p.aT):=hk.cell 4;have lx:=hk.lt;have hws:=HW.o;by_cases ae3:i<p.ax.length
      ·obtain⟨b,off,cap,hv,q1,q2,wD,hc⟩:=(a0g.o.aG (aA.af X)).o.some G G;simp only[cz]at hv;obtain⟨rfl,-,rfl⟩:=hv;have c0:Vo W3 (I b (off+i))=O (Y (p.on.getD i 0)):=hc i G;generalize hx:p.on.getD i 0=x at*;have HX:=Z hx;clear hc q1 q2 X hk f_ hx y4;cases hf:aO x (-1) ((p.code.length:Int) - 1)with
       |false=>
        have HF:=Z (show cm p=false by
         have:=all_false (f:=λn=>aO n (-1) ((p.code.length:Int) - 1)) (l:=p.on) (i:=i) G (by rw[HX.o];exact hf);simp[cm,this])
        have sg:=Z (show Calls prog 241 #[Y x,Y (-1),Y ((p.code.length:Int) - 1)] W3 _ from hf▸sL W3 x (-1) ((p.code.length:Int) - 1));clear hf;exact Pu
       |true=>
        have sg:=Z (show Calls prog 241 #[Y x,Y (-1),Y ((p.code.length:Int) - 1)] W3 _ from hf▸sL W3 x (-1) ((p.code.length:Int) - 1));have lF:=Z hf;clear hf;go_wp2_with fail;refine sg.o.mono ?_;rintro e w' ⟨rfl,rfl⟩;go_wp2;refine⟨i+1,G,G,qi rfl,JV.o,HK.o,λj hj=>?_⟩;by_cases e:j=i
        ·subst e;rw[HX.o];exact lF.o
        ·exact Eo.o j G
      ·obtain rfl:i=p.ax.length:=G;have HOS:=Z (all_true (f:=λn=>aO n (-1) ((p.code.length:Int) - 1)) (l:=p.on) (d:=0) (λi hi=>Eo.o i G));have sg:=Z (sL W3 p.aT (-1) ((p.code.length:Int) - 1));have HF:=Z (show cm p=aO p.aT (-1) ((p.code.length:Int) - 1)by
        unfold cm;rw[OG.o,HTS.o,HOS.o];simp[h1,h2,h3,h4,h5])
       clear X hk f_;exact Pu
end
end Go.Vf
section
def Tw{p:Prop}(h:p:=by
 go_wp2;go_ret;exact⟨by rw[HF.o];rfl,HB.o⟩):p:=h
namespace Go.Vf
open Go.RowKit aj.Vm
open aj hiding aR an ak
open Ma (dP ci aX vb)
def FrC(w:ek)(v:to)(n i:Nat)(a:Act):Prop:=∃J:Nat->to,a={tmps:=#[J 0,V5 w.heap.size,J 2,J 3,J 4,J 5,J 6,J 7,J 8,J 9,J 10,J 11,J 12,J 13,J 14,v,Y n,Y i,J 18,J 19,J 20,J 21,J 22,J 23,J 24,J 25,J 26,J 27,J 28,J 29,J 30,J 31,J 32,J 33,J 34,J 35,J 36,J 37,J 38,J 39,J 40,J 41,J 42,J 43,J 44,J 45,J 46,J 47,J 48,J 49,J 50,J 51,J 52,J 53,J 54,J 55,J 56,J 57,J 58,J 59,J 60,J 61,J 62,J 63,J 64],defers:=[]}
def FrD(w:ek)(v:to)(n i ib sb j:Nat)(a:Act):Prop:=∃J:Nat->to,a={tmps:=#[J 0,V5 w.heap.size,J 2,J 3,V5 ib,V5 sb,J 6,J 7,J 8,J 9,J 10,J 11,J 12,J 13,J 14,v,Y n,Y i,J 18,J 19,J 20,J 21,J 22,J 23,J 24,J 25,J 26,J 27,J 28,J 29,J 30,J 31,J 32,J 33,J 34,J 35,J 36,H (O (I (sb+1) 0)) 4 4,Y 4,Y j,J 40,J 41,J 42,J 43,J 44,J 45,J 46,J 47,J 48,J 49,J 50,J 51,J 52,J 53,J 54,J 55,J 56,J 57,J 58,J 59,J 60,J 61,J 62,J 63,J 64],defers:=[]}
def nL(x:Ins)(j:Nat):Int:=(operands x).getD j 0
def dG(x:Ins)(j:Nat):Nat:=(cC x.op.toNat).getD j 0
def ue{p:aQ}{x:Ins}(h:∀j,j<4->br p (dG x j) (nL x j)=true):ir p x=true:=by unfold ir;have h0:=h 0 G;have h1:=h 1 G;have h2:=h 2 G;have h3:=h 3 G;simp only[dG,nL,operands,List.getD_cons_zero,List.getD_cons_succ]at h0 h1 h2 h3;rw[h0,h1,h2,h3];rfl
def pf{p:aQ}{x:Ins}{j:Nat}(hj:j<4)(h:br p (dG x j) (nL x j)=false):ir p x=false:=by unfold ir;have e:j=0\/j=1\/j=2\/j=3:=G;rcases e with rfl|rfl|rfl|rfl<;>simp only[dG,nL,operands,List.getD_cons_zero,List.getD_cons_succ]at h<;>rw[h]<;>simp
def aal:∀op,op<42->∀j,j<(cC op).length->1<=(cC op).getD j 0/\(cC op).getD j 0<=8:=by decide
def Be(op:Nat):(ox op).size=(cC op).length:=by simp[ox,bytesOf,ByteArray.size]
def JW:∀op,op<42->∀j,j<(cC op).length->((ox op).data.getD j 0).toNat=vY ((cC op).getD j 0):=by decide
def aak(w:ek){n j:Nat}(hn:n<42)(hj:j<(cC n).length):(Instr.index 9 (.string (ox n)) (Y j)).run prog w= .ok (.int .u8 (vY ((cC n).getD j 0))) w:=by
 have hs:=Be n;have hi:0<=(j:Int)/\(j:Int)<((ox n).size:Int):=G;have h2:j<(ox n).size:=G;rw[run_index_string w _ _ _ _ underlying9,dif_pos hi];have h3:=JW n hn j hj;simp only[Int.toNat_natCast];have h4:(ox n).data.getD j 0=(ox n)[j]:=by simp only[yZ];rw[y_ (show j<(ox n).data.size from h2)];rfl
 rw[<-h3,h4]
def mE{p:aQ}{i:Nat}(hi:i<p.code.length):dH p (p.code.drop i)=if jH (al p i)then(if ir p (al p i)then dH p (p.code.drop (i+1))else 92)else 91:=by
 rw[tR hi];show(if _ then _ else _)=_;have e:al p i=p.code[i]:=by unfold al;rw[dN,fq hi];rfl
 rw[e]
def abL(w:ek)(K:Kp)(p:aQ)(m:Nat)(a:Act)(W:ek):Prop:=
 ∃i,i<=p.code.length/\m+i=p.code.length+1/\FrC w K.c p.code.length i a/\Hid (Below w.heap.size w W)/\Hid (aF W w.heap.size 27 (iw K p))/\Hid (dH p p.code=dH p (p.code.drop i))
def abM(w:ek)(K:Kp)(p:aQ)(i ib sb:Nat)(nm:ByteArray)(m:Nat)(a:Act)(W:ek):Prop:=
 ∃j,j<=4/\m+j=5/\FrD w K.c p.code.length i ib sb j a/\Hid (Below w.heap.size w W)/\Hid (aF W w.heap.size 27 (iw K p))/\
  Hid (aF W sb 266 #[.string nm,.string (ox (al p i).op.toNat)])/\Hid (aF W (sb+1) 3 #[Y (al p i).a,Y (al p i).b,Y (al p i).c,Y (al p i).d])/\Hid (∀j',j'<j->br p (dG (al p i) j') (nL (al p i) j')=true)
def CF(w:ek){K:Kp}{p:aQ}(h:fW w K p):Calls prog 172 #[pV K p] w (λe w'=>e=Vl (Y (bq p))/\Below w.heap.size w w'):=by
 obtain⟨⟨ga,gc,g1,g2,g3⟩,⟨va,vc,v1,v2,v3⟩,⟨ta,tc,t1,t2,t3⟩,⟨oa,oc,o1,o2,o3⟩,⟨ca,cc,c1,c2,c3⟩⟩:=h.sl;have a0g:=Z h;obtain⟨kg,kv,kt,ko,kc⟩:=K;dsimp only at g1 v1 t1 o1 c1;subst g1 v1 t1 o1 c1;have ep:Below w.heap.size w (w.alloc (CA (iw ⟨H ga p.ax.length gc,H va p.vars.length vc,H ta p.aS.length tc,H oa p.on.length oc,H ca p.code.length cc⟩ p) 27)):=(aY _ _).alloc (aL _) _;have eV:=Z ep;have Tv:aF (w.alloc (CA (iw ⟨H ga p.ax.length gc,H va p.vars.length vc,H ta p.aS.length tc,H oa p.on.length oc,H ca p.code.length cc⟩ p) 27)) w.heap.size 27 _:=aF.new w _ _;have nG:=Z Tv;have HC:=Z (adD _ (h.aG (aA.af ep)));unfold pV at HC ⊢;unfold iw at eV nG HC;dsimp only at eV nG HC ⊢;clear h ep Tv g2 g3 v2 v3 t2 t3 o2 o3 c2 c3;cases hT:cm p with
 |false=>rw[hT]at HC;go_enter func172,ntmps172;go_wp2_with fail;refine HC.o.mono ?_;rintro e w' ⟨rfl,X⟩;have HB:=Z X;clear X;go_wp2;go_ret;exact⟨by simp[bq,hT],eV.o.trans (HB.o.mono ay)⟩
 |true=>
  rw[hT]at HC;have Px:=Z hT;have hcl:p.code.length<=262144:=by have:=hT;simp[cm]at this;omega
  clear hT;go_enter func172,ntmps172;go_wp2_with fail;refine HC.o.mono ?_;rintro e w' ⟨rfl,X⟩;have HB:=Z (eV.o.trans (X.mono ay));have kb:=nG.o.of (X.block _ ay);have k5:Vo w' (I w.heap.size 5)=O (H ca p.code.length cc):=kb.cell 5;have lw:=kb.lt;have SF:=Z kb;clear X kb eV nG HC;go_wp2;refine Mk.aN (abL w ⟨H ga p.ax.length gc,H va p.vars.length vc,H ta p.aS.length tc,H oa p.on.length oc,H ca p.code.length cc⟩ p) (p.code.length+1) ?start ?zero ?round
  case start=>exact⟨0,cM _,G,qi rfl,HB,SF,Z rfl⟩
  case zero=>exact λa W hh=>by obtain⟨q,h1,h2,_⟩:=hh;omega
  clear HB SF k5 lw w'
  case round=>
   rintro m a W ⟨i,hi,hm,⟨J,rfl⟩,HB,HK,HE⟩;by_cases be:i<p.code.length
   ·obtain⟨b,off,cap,hv,q1,q2,c0,c1,c2,c3,c4⟩:=(a0g.o.aG (aA.af HB.o)).ins be;simp only[cz]at hv;obtain⟨rfl,-,rfl⟩:=hv;have lN:=Z (mE be);clear q1 q2;by_cases dW:0<=(al p i).op/\(al p i).op<42
    ·obtain⟨n,hn⟩:=eJ dW.1;have E_:n<42:=G;have Tx:(al p i).op.toNat=n:=G;have ni:jH (al p i)=true:=by unfold jH aO;simp;omega
     have YW:=Z (show dH p (p.code.drop i)=if ir p (al p i)then dH p (p.code.drop (i+1))else 92 by rw[lN.o,ni];rfl);have HS:=Z (λV=>adF V n E_);have tW:=Z Tx;have YX:=Z E_;rw[hn]at c0;have ae4:i<p.code.length:=be;clear dW lN ni hn Tx E_;go_wp2_with fail;refine(HS.o _).mono ?_;rintro e w' ⟨⟨nm,rfl⟩,X⟩;have fI:Below W.heap.size W w':=((aY _ W).alloc (aL _) _).trans (X.mono ay);have cR:=Z (HB.o.trans (fI.mono HB.o.size));have uw:=Z (HK.o.of (fI.block _ HK.o.lt));have kib:aF w' W.heap.size 40 #[Y n,Y (al p i).a,Y (al p i).b,Y (al p i).c,Y (al p i).d]:=(aF.new W _ _).of (X.block _ ay);obtain⟨-,d1,d2,d3,d4⟩:=kib.c5;have lw:=kib.lt;clear X fI kib c0 c1 c2 c3 c4;generalize W.heap.size=ib at*;go_wp2_with fail;clear HS d1 d2 d3 d4 lw HB HK;refine Mk.aN (abM w ⟨H ga p.ax.length gc,H va p.vars.length vc,H ta p.aS.length tc,H oa p.on.length oc,H (O (I b off)) p.code.length cc⟩ p i ib w'.heap.size nm) 5 ?yX ?E8 ?yY
     case yX=>exact⟨0,G,G,qi rfl,Z ((cR.o.alloc cR.o.size _).alloc (by simp only[aM];have:=cR.o.size;omega) _),Z ((uw.o.alloc _).alloc _),Z (by rw[tW.o];exact(aF.new w' _ _).alloc _),Z (aF.bR ay),Z (λj' h=>absurd h G)⟩
     case E8=>exact λa W hh=>by obtain⟨q,h1,h2,_⟩:=hh;omega
     clear cR uw;generalize w'.heap.size=sb;clear w'
     case yY=>
      rintro m2 a2 W2 ⟨j,hj,rD,⟨J2,rfl⟩,eF,nI,wL,YY,HA2⟩;by_cases hj4:j<4
      ·have d0:Vo W2 (I (sb+1) j)=O (Y (nL (al p i) j)):=by rw[YY.o.cell];have e:j=0\/j=1\/j=2\/j=3:=G;rcases e with rfl|rfl|rfl|rfl<;>rfl
       have e1:Vo W2 (I sb 1)=O (.string (ox n)):=by have h:=wL.o.cell 1;rw[tW.o]at h;exact h
       have ez:=Be n;by_cases hk:j<(cC n).length
       ·have Py:dG (al p i) j=(cC n).getD j 0:=by unfold dG;rw[tW.o]
        have wC:=aal n YX.o j hk;rw[<-Py]at wC;have hby:=JW n YX.o j hk;rw[<-Py]at hby;obtain⟨f0,f1,f2,f3,f4,f5⟩:=nI.o.c6;have C1:Hid (Calls prog 240 #[pV ⟨H ga p.ax.length gc,H va p.vars.length vc,H ta p.aS.length tc,H oa p.on.length oc,H (O (I b off)) p.code.length cc⟩ p,.int .u8 (vY (dG (al p i) j))] (W2.drewN 1) λe w3=>e=Vl (.tuple #[Y (jA (dG (al p i) j)),Y (jB p (dG (al p i) j))])/\
         (Vo w3 (I w.heap.size 0)=O (H ga p.ax.length gc)/\Vo w3 (I w.heap.size 1)=O (H va p.vars.length vc)/\Vo w3 (I w.heap.size 2)=O (H ta p.aS.length tc)/\Vo w3 (I w.heap.size 3)=O (H oa p.on.length oc)/\Vo w3 (I w.heap.size 4)=O (Y p.aT)/\Vo w3 (I w.heap.size 5)=O (H (O (I b off)) p.code.length cc)/\Vo w3 (I sb 1)=O (.string (ox n)))/\Hid (Below W2.heap.size W2 w3)):=by
         refine Z ((adE (W2.drewN 1) a0g.o.sl _ wC).mono ?_);rintro e w3 ⟨rfl,X⟩;have pz:Below W2.heap.size W2 w3:=(az _ W2 1).trans X;have l8:=nI.o.of (pz.block _ nI.o.lt);have Dq:=wL.o.of (pz.block _ wL.o.lt);rw[tW.o]at Dq;exact⟨rfl,⟨l8.cell 0,l8.cell 1,l8.cell 2,l8.cell 3,l8.cell 4,l8.cell 5,Dq.cell 1⟩,Z pz⟩
        have hix:∀V,(Instr.index 9 (.string (ox n)) (Y j)).run prog V= .ok (.int .u8 (vY (dG (al p i) j))) V:=λV=>by rw[Py];exact aak V YX.o hk
        rw[<-ez]at hk;clear hby Py wC ez;generalize ox n=ob at*;unfold pV at C1;dsimp only at C1;go_wp2
        go_region_held3 (λwx=>Vo wx (I w.heap.size 0)=O (H ga p.ax.length gc)/\Vo wx (I w.heap.size 1)=O (H va p.vars.length vc)/\Vo wx (I w.heap.size 2)=O (H ta p.aS.length tc)/\Vo wx (I w.heap.size 3)=O (H oa p.on.length oc)/\Vo wx (I w.heap.size 4)=O (Y p.aT)/\Vo wx (I w.heap.size 5)=O (H (O (I b off)) p.code.length cc)/\Vo wx (I sb 1)=O (.string ob)) (first|exact⟨f0,f1,f2,f3,f4,f5,e1⟩|assumption) (first|(go_at_call 240;refine C1.o.mono ?_;rintro e w3 ⟨rfl,ET,Rz⟩))
        have iy:=Z (eF.o.trans (Rz.o.mono eF.o.size));have Dw:=Z (nI.o.of (Rz.o.block _ nI.o.lt));have RF:=Z (wL.o.of (Rz.o.block _ wL.o.lt));have HI3:=Z (YY.o.of (Rz.o.block _ YY.o.lt));have zd:=Z (sL w3 (nL (al p i) j) (jA (dG (al p i) j)) (jB p (dG (al p i) j)));have Wg:aO (nL (al p i) j) (jA (dG (al p i) j)) (jB p (dG (al p i) j))=br p (dG (al p i) j) (nL (al p i) j):=rfl;rw[Wg]at zd;clear Wg Rz eF nI wL YY C1 hix f0 f1 f2 f3 f4 f5 e1 d0 ET;cases hf:br p (dG (al p i) j) (nL (al p i) j)with
        |false=>
         have HF:=Z (show bq p=92 by
          have h1:=HE.o;rw[YW.o,pf hj4 hf]at h1;simp[bq,Px.o,h1])
         have sg:=Z (zd.o.mono (λe w' h=>(show(e=Ending.returned (.bool false)/\w'=w3)from hf▸h)));clear hf zd;go_wp2_with fail;refine sg.o.mono ?_;rintro e w9 ⟨rfl,rfl⟩;go_wp2;go_ret;exact⟨by rw[HF.o];rfl,iy.o⟩
        |true=>
         have sg:=Z (zd.o.mono (λe w' h=>(show(e=Ending.returned (.bool true)/\w'=w3)from hf▸h)));have HF:=Z hf;clear hf zd;go_wp2_with fail;refine sg.o.mono ?_;rintro e w9 ⟨rfl,rfl⟩;go_wp2;refine⟨j+1,G,G,qi rfl,iy,Dw,RF,HI3,Z λj' OM=>?_⟩;by_cases e:j'=j
         ·subst e;exact HF.o
         ·exact HA2.o j' G
       ·have Py:dG (al p i) j=0:=by unfold dG;rw[tW.o,dN,List.getElem?_eq_none G];rfl
        have zd:=Z (sL W2 (nL (al p i) j) 0 0);have Wg:aO (nL (al p i) j) 0 0=br p (dG (al p i) j) (nL (al p i) j):=by rw[Py];rfl
        rw[Wg]at zd;clear Wg Py;cases hf:br p (dG (al p i) j) (nL (al p i) j)with
        |false=>
         have HF:=Z (show bq p=92 by
          have h1:=HE.o;rw[YW.o,pf hj4 hf]at h1;simp[bq,Px.o,h1])
         have sg:=Z (zd.o.mono (λe w' h=>(show(e=Ending.returned (.bool false)/\w'=W2)from hf▸h)));clear hf zd;go_wp2_with fail;refine sg.o.mono ?_;rintro e w9 ⟨rfl,rfl⟩;go_wp2;go_ret;exact⟨by rw[HF.o];rfl,eF.o⟩
        |true=>
         have sg:=Z (zd.o.mono (λe w' h=>(show(e=Ending.returned (.bool true)/\w'=W2)from hf▸h)));have HF:=Z hf;clear hf zd;go_wp2_with fail;refine sg.o.mono ?_;rintro e w9 ⟨rfl,rfl⟩;go_wp2;refine⟨j+1,G,G,qi rfl,eF,nI,wL,YY,Z λj' OM=>?_⟩;by_cases e:j'=j
         ·subst e;exact HF.o
         ·exact HA2.o j' G
      ·have Io:ir p (al p i)=true:=ue λj' OM=>HA2.o j' G;have pX:=Z (show dH p p.code=dH p (p.code.drop (i+1))by rw[HE.o,YW.o,Io];rfl);clear Io;go_wp2;exact⟨i+1,G,G,qi rfl,eF,nI,pX⟩
    ·have HS:=Z (λV=>aap V (al p i).op G);have HF:=Z (show bq p=91 by
      have e:jH (al p i)=false:=by unfold jH aO;simp;omega
      have h1:=HE.o;rw[lN.o,e]at h1;simp[bq,Px.o,h1])
     clear dW lN;go_wp2_with fail;refine(HS.o _).mono ?_;rintro e w' ⟨rfl,X⟩;have cR:=Z (HB.o.trans (((aY _ W).alloc (aL _) _).trans (X.mono ay) |>.mono HB.o.size));clear X;go_wp2;go_ret;exact⟨by rw[HF.o];rfl,cR.o.alloc cR.o.size _⟩
   ·obtain rfl:i=p.code.length:=G;have HF:=Z (show bq p=0 by
     have h1:=HE.o;rw[List.drop_length]at h1;simp[bq,Px.o,h1,dH])
    exact Tw
end Go.Vf
end
namespace Go.Vf
open Go.RowKit aj.Vm
open aj hiding aR an ak
open Go.Shelf
def aaj:Go.Shelf.Ren:=⟨λ|264=>304|n=>n,λ|46=>256|53=>46|n=>n,λ|n=>n⟩
def aai:Go.Proofs.Lays.n264 prog aaj:={
 mixed:=by kernel_rfl
 f264:=func304.trans (bu O bh)
 t46:=underlying256
 a46:=isAgg256
 z46:=sizeOf256
 v46:=zeroValue256
 t53:=underlying46
 a53:=isAgg46
 z53:=sizeOf46
 v53:=zeroValue46}
def aah(x y:Nat)(hx:x<18446744073709551616)(hy:y<18446744073709551616)(w:ek):
 Calls prog 304 #[.int .u64 x,.int .u64 y] w λe w'=>e=Vl (.tuple #[.int .u64 ((x*y / 18446744073709551616:Nat):Int),.int .u64 ((x*y % 18446744073709551616:Nat):Int)])/\w'=w:=Proofs.Any.bits_Mul64 aai x y hx hy w
def Pz(w:ek)(a b:Nat)(ha:a<=MS)(X:b<=MS):Calls prog 249 #[Y a,Y b] w λe w'=>e=Vl (Y (bG a b))/\w'=w:=by
 unfold MS at ha X;have w1:IntKind.i64.wrap (4611686018427387904 - (b:Int))=4611686018427387904 - (b:Int):=bJ _ lI;by_cases h:4611686018427387904-b<a
 ·have e:bG a b=4611686018427387904:=by unfold bG MS;rw[aB h]
  have h2:((4611686018427387904:Int) - b<a)=True:=by simp;omega
  rw[e];clear e h;go_enter func249,ntmps249;go_wp2;exact zM
 ·have e:bG a b=a+b:=by unfold bG MS;rw[aw h]
  have h2:((4611686018427387904:Int) - b<a)=False:=by simp;omega
  have w2:IntKind.i64.wrap ((a:Int)+(b:Int))=((a+b:Nat):Int):=by rw[bJ _ lI];omega
  rw[e];clear e h;go_enter func249,ntmps249;go_wp2;go_ret;exact⟨ay,rfl⟩
def YZ{p:Prop}(h:p:=by
 go_enter func250,ntmps250;go_wp2_with fail;refine HM.o.mono ?_;rintro e w' ⟨rfl,rfl⟩;go_wp2;go_ret;exact⟨rfl,rfl⟩):p:=h
def adB(w:ek)(a b:Nat)(ha:a<=MS)(X:b<=MS):Calls prog 250 #[Y a,Y b] w λe w'=>e=Vl (Y (eM a b))/\w'=w:=by
 unfold MS at ha X;have HM:=Z (aah a b G G w);have w1:IntKind.u64.wrap (a:Int)=a:=by rw[IntKind.wrap_u64];omega
 have w2:IntKind.u64.wrap (b:Int)=b:=by rw[IntKind.wrap_u64];omega
 generalize hx:a*b=x at*;have ht:eM a b=if x<=4611686018427387904 then x else 4611686018427387904:=by unfold eM MS;rw[hx]
 rw[ht];clear ht hx;by_cases h1:x / 18446744073709551616=0
 ·have e2:x % 18446744073709551616=x:=Nat.mod_eq_of_lt G;rw[h1,e2]at HM;by_cases h:x<=4611686018427387904
  ·rw[aB h];have w3:IntKind.i64.wrap (x:Int)=x:=bJ _ lI;have h3:((x:Int)<=4611686018427387904)=True:=by simp;omega
   clear h1 e2 h;exact YZ
  ·rw[aw h];have h3:((x:Int)<=4611686018427387904)=False:=by simp;omega
   clear h1 e2 h;exact YZ
 ·have h:¬x<=4611686018427387904:=G;rw[aw h];generalize x / 18446744073709551616=hi at*;clear h;exact YZ
end Go.Vf
namespace Go.Vf
open Go.RowKit aj.Vm
open aj hiding aR an ak
open Ma (dP ci aX vb)
def cQ(th:Bool)(s:Std)(mv:to):Array to:=
 #[.bool th,.string (gE s.ty),Y (bI s.lo 0),Y (bI s.lo 1),Y (bI s.lo 2),Y (bI s.lo 3),Y (bI s.lo 4),Y (bI s.lo 5),Y (bI s.lo 6),Y (bI s.lo 7),Y s.lo.length,Y s.ha,mv]
def dY(th:Bool)(s:Std)(mv:to):to:= .agg (cQ th s mv)
def dx(w:ek)(mv:to)(lo:List Nat):Prop:=aZ w 1 mv (lo.length-8) (λi=> Y (bI lo (8+i)))
def dx.aG{w w':ek}{mv:to}{lo:List Nat}(h:dx w mv lo)(f:aA [] w w'):dx w' mv lo:=aZ.aG h f
def pH(lo:List Nat):Int:=match lo with|[]=> -1|t::_=>(t:Int)
def adA{lo:List Nat}(h:0<lo.length):pH lo=(bI lo (lo.length-1):Nat):=by
 cases lo with
 |nil=>simp at h
 |cons t l=>show(t:Int)=_;rw[show(t::l).length-1=l.length by simp,Pm]
def Y5{p:Prop}(h:p:=by
 go_enter func300,ntmps300;go_wp2;go_ret;exact⟨rfl,hB _ _⟩):p:=h
def JX(w:ek){mv:to}(th:Bool){s:Std}(h:dx w mv s.lo)(hl:s.lo.length<=4611686018427387904):Calls prog 300 #[dY th s mv] w (λe w'=>e=Vl (Y (pH s.lo))/\Below w.heap.size w w'):=by
 obtain⟨ty,lo,ha⟩:=s;dsimp only at h hl;obtain⟨ma,mc,rfl,m1,m2⟩:=aZ.val h;unfold dY cQ;dsimp only;have hB:=qq w;by_cases h0:lo.length=0
 ·have hi:pH lo= -1:=by have:=List.length_eq_zero_iff.1 h0;subst this;rfl
  rw[hi];generalize gE ty=tb;generalize bI lo=lc;clear h hi m1 m2;have h1:(lo.length=0)=True:=by simp[h0]
  exact Y5
 ·have hi:=adA (lo:=lo) G;rw[hi];by_cases h8:lo.length<=8
  ·have e:lo.length=1\/lo.length=2\/lo.length=3\/lo.length=4\/lo.length=5\/lo.length=6\/lo.length=7\/lo.length=8:=G;generalize gE ty=tb;clear h hi m1 m2;generalize bI lo=lc;generalize lo.length=n at*;clear lo;rcases e with rfl|rfl|rfl|rfl|rfl|rfl|rfl|rfl
   all_goals
    exact Y5
  ·obtain⟨b,off,cap,hv,q1,q2,X,hc⟩:=aZ.some h G G;simp only[cz]at hv;obtain⟨rfl,-,rfl⟩:=hv;have c0:Vo w (I b (off+(lo.length-8-1)))=O (Y (bI lo (lo.length-1))):=by rw[hc (lo.length-8-1) G];congr 3;congr 1;omega
   have w1:IntKind.i64.wrap (((lo.length-8:Nat):Int) - 1)=((lo.length-8-1:Nat):Int):=by rw[bJ _ (by unfold maxLen at q2;constructor<;>omega)];omega
   have be:lo.length-8-1<lo.length-8:=G;generalize gE ty=tb;clear h hi hc;generalize bI lo=lc at*;generalize CG:lo.length-8=n8 at*;exact Y5
def pI(w:ek)(sv:to)(th:Bool)(s:Std)(e:Ending)(w':ek):Prop:=∃mv,e=Vl (dY th s mv)/\dx w' mv s.lo/\Below w.heap.size w w'/\∀b,mv.ownBlock=O b->sv.ownBlock=O b\/w.heap.size<=b
def aZ.take{w:ek}{n m:Nat}{a:Option Addr}{c:Nat}{g:Nat->to}(h:aZ w 1 (H a n c) n g)(hm:m<=n)(ha:∃x,a=Option.some x):aZ w 1 (H a m c) m g:=by
 obtain⟨x,rfl⟩:=ha;rcases h with⟨h,-⟩|⟨a',cap,hv,h1,h2,h3⟩
 ·simp at h
 ·simp only[cz,im]at hv;obtain⟨rfl,-,rfl⟩:=hv;exact .inr ⟨_,c,rfl,G,h2,λo ho=>h3 o G⟩
def aZ.zero{w:ek}{v:to}{g g':Nat->to}(h:aZ w 1 v 0 g):aZ w 1 v 0 g':=by
 rcases h with h|⟨a,cap,h,h1,h2,h3⟩
 ·exact .inl h
 ·exact .inr ⟨a,cap,h,h1,h2,λo ho=>absurd ho G⟩
def aZ.congr{w:ek}{v:to}{n:Nat}{g g':Nat->to}(h:aZ w 1 v n g)(e:∀o,o<n->g o=g' o):aZ w 1 v n g':=by
 rcases h with h|⟨a,cap,h,h1,h2,h3⟩
 ·exact .inl h
 ·exact .inr ⟨a,cap,h,h1,h2,λo ho=>⟨(h3 o ho).1,by rw[(h3 o ho).2,e o G]⟩⟩
def Bf(w:ek){mv:to}(th:Bool){s:Std}(h:dx w mv s.lo)(h0:0<s.lo.length)(hl:s.lo.length<=4611686018427387904):Calls prog 301 #[dY th s mv] w (pI w mv th {s with lo:=s.lo.tail}):=by
 obtain⟨ty,lo,ha⟩:=s;dsimp only at h hl h0;obtain⟨ma,mc,rfl,m1,m2⟩:=aZ.val h;have a0g:=Z h;have be:lo.tail.length=lo.length-1:=by simp
 have PA:=Pn lo;by_cases h8:lo.length<=8
 ·have hm:dx w (H ma (lo.length-8) mc) lo.tail:=by have e:lo.length-8=0:=G;have e2:lo.tail.length-8=0:=G;unfold dx at h ⊢;rw[e]at h;rw[e2,e];exact aZ.zero h
  have HM:=Z hm;unfold dY cQ pI;dsimp only;unfold dY cQ;dsimp only;have e:lo.length=1\/lo.length=2\/lo.length=3\/lo.length=4\/lo.length=5\/lo.length=6\/lo.length=7\/lo.length=8:=G;have hB:=qq w;generalize gE ty=tb;rw[be];clear h hm m1 m2 a0g;simp only[PA];generalize bI lo=lc at*;rcases e with e|e|e|e|e|e|e|e
  all_goals
   simp only[e]at HM ⊢;clear PA be h0 hl h8;go_enter func301,ntmps301;go_wp2_with fail;refine bK ?_ rfl ⟨H ma 0 mc,rfl,HM.o.aG (aA.af ((hB _ _).alloc (by simp only[aM];omega) _)),(hB _ _).alloc (by simp only[aM];omega) _,λ_ X=> .inl (by simpa[Value.ownBlock]using X)⟩;simp[results,results301,go_sem]
 ·obtain⟨b,off,cap,hv,q1,q2,X,hc⟩:=aZ.some h G G;simp only[cz]at hv;obtain⟨rfl,-,rfl⟩:=hv;have hm:dx w (H (O (I b off)) (lo.length-8-1) mc) lo.tail:=by have h1:=aZ.take h (m:=lo.length-8-1) G ⟨_,rfl⟩;unfold dx;rw[show lo.tail.length-8=lo.length-8-1 by omega];refine h1.congr λo ho=>?_;rw[PA,aw G]
  have HM:=Z hm;unfold dY cQ pI;dsimp only;unfold dY cQ;dsimp only;have hB:=qq w;have w1:IntKind.i64.wrap (((lo.length-8:Nat):Int) - 1)=((lo.length-8-1:Nat):Int):=by rw[bJ _ (by unfold maxLen at q2;constructor<;>omega)];omega
  have w2:IntKind.i64.wrap ((lo.length:Int) - 1)=((lo.length-1:Nat):Int):=by rw[bJ _ lI];omega
  have h9:((lo.length-1:Nat)<8)=False:=by simp;omega
  have h7:lo.length-8-1<=mc:=G;generalize gE ty=tb;simp only[PA,be];have hn:∀k,k<8->(k+1=lo.length)=False:=λk hk=>by simp;omega
  rw[aw G,aw G,aw G,aw G,aw G,aw G,aw G,aw G];clear h hm hc a0g PA be hn;generalize bI lo=lc at*;generalize lo.length-8-1=n9 at*;generalize CG:lo.length-8=n8 at*;generalize xy:lo.length-1=n1 at*;generalize RY:lo.length=n0 at*;go_enter func301,ntmps301;go_wp2_with fail;refine bK ?_ rfl ⟨H (O (I b off)) n9 mc,rfl,HM.o.aG (aA.af ((hB _ _).alloc (by simp only[aM];omega) _)),(hB _ _).alloc (by simp only[aM];omega) _,λ_ X=> .inl X⟩;simp[results,results301,go_sem]
def FrE(v v2:to)(n i:Nat)(a:Act):Prop:=∃J:Nat->to,a={tmps:=#[v,v2,J 2,J 3,J 4,J 5,J 6,J 7,J 8,J 9,J 10,J 11,Y n,Y i,J 14,J 15,J 16,J 17,J 18,J 19,J 20,J 21,J 22,J 23,J 24,J 25],defers:=[]}
def JY(f:Nat->Int)(i:Nat):to:=Y (f i)
def Ni(n n':Nat)(f f':Nat->Int):Bool:=decide (n=n'/\∀i,i<n->f i=f' i)
def abN(w:ek)(v v2:to)(n:Nat)(f f':Nat->Int)(m:Nat)(a:Act)(W:ek):Prop:=
 ∃i,i<=n/\m+i=n+1/\FrE v v2 n i a/\Hid (Below w.heap.size w W)/\Hid (∀j,j<i->f j=f' j)
def aag{w:ek}{v v2:to}{n n':Nat}{f f':Nat->Int}(h:aZ w 1 v n (JY f))(h2:aZ w 1 v2 n' (JY f')):
 Calls prog 303 #[v,v2] w (λe w'=>e=Vl (.bool (Ni n n' f f'))/\Below w.heap.size w w'):=by
 obtain⟨a,c,rfl,q1,q2⟩:=h.val;obtain⟨a2,c2,rfl,p1,p2⟩:=h2.val;have a0g:=Z h;have H2:=Z h2;by_cases hn:n=n'
 case neg=>have HF:=Z (show Ni n n' f f'=false by simp[Ni,hn]);clear h h2;go_enter func303,ntmps303;go_wp2;go_ret;exact⟨by rw[HF.o];rfl,aY _ _⟩
 case pos=>
  subst hn;have hm:n<=9223372036854775807:=by unfold maxLen at q2;omega
  clear h h2;go_enter func303,ntmps303;go_wp2;refine Mk.aN (abN w (H a n c) (H a2 n c2) n f f') (n+1) ?start ?zero ?round
  case start=>exact⟨0,cM _,G,qi rfl,Z (aY _ _),Z (λj hj=>absurd hj G)⟩
  case zero=>exact λa W hh=>by obtain⟨q,h1,h2,_⟩:=hh;omega
  case round=>
   rintro m a0 W ⟨i,hi,rD,⟨J,rfl⟩,HB,HA⟩;by_cases be:i<n
   ·obtain⟨b,off,cap,hv,-,-,X,hc⟩:=(a0g.o.aG (aA.af HB.o)).some G G;simp only[cz]at hv;obtain⟨rfl,-,rfl⟩:=hv;obtain⟨b2,Ip,CH,hv,-,-,dC,mZ⟩:=(H2.o.aG (aA.af HB.o)).some G G;simp only[cz]at hv;obtain⟨rfl,-,rfl⟩:=hv;have c0:Vo W (I b (off+i))=O (Y (f i)):=hc i G;have c1:Vo W (I b2 (Ip+i))=O (Y (f' i)):=mZ i G;clear hc mZ;by_cases he:f i=f' i
    ·have HE:=Z he;rw[he]at c0;clear he;generalize f' i=y at c0 c1;go_wp2;go_quiet (fail);go_wp2;refine⟨i+1,G,G,qi rfl,Z (HB.o.trans (az _ _ _)),Z λj hj=>?_⟩;by_cases e:j=i
     ·subst e;exact HE.o
     ·exact HA.o j G
    ·have HF:=Z (show Ni n n f f'=false by
      unfold Ni;rw[qS];rintro⟨-,h⟩;exact he (h i be))
     generalize f i=x at c0 he;generalize f' i=y at c1 he;go_wp2;go_quiet (fail);go_wp2;go_ret;exact⟨by rw[HF.o];rfl,HB.o.trans (az _ _ _)⟩
   ·obtain rfl:i=n:=G;have HF:=Z (show Ni i i f f'=true by simp[Ni];exact HA.o);exact Tw
def eq8(a0 a1 a2 a3 a4 a5 a6 a7 b0 b1 b2 b3 b4 b5 b6 b7:Int)(w:ek):(Op.equalIn 10000 231 (.agg #[Y a0,Y a1,Y a2,Y a3,Y a4,Y a5,Y a6,Y a7]) (.agg #[Y b0,Y b1,Y b2,Y b3,Y b4,Y b5,Y b6,Y b7])).run prog w= .ok (a0==b0&&a1==b1&&a2==b2&&a3==b3&&a4==b4&&a5==b5&&a6==b6&&a7==b7) w:=by
 have u3:=underlying3;have q3:=isAgg3;have z3:=sizeOf3;rw[show(10000:Nat)=9999+1 from rfl,Op.equalIn];simp only[Sem.run_bind,run_underlying underlying231,Result.andThen_ok];simp only[Std.Legacy.Range.forIn_eq_forIn_range',Std.Legacy.Range.size,Nat.sub_zero,Nat.add_sub_cancel,Nat.div_one,List.range'_succ,List.range'_zero,List.forIn_cons,List.forIn_nil];go_simp;by_cases h0:a0=b0
 case neg=>simp[h0]
 by_cases h1:a1=b1
 case neg=>simp[h1]
 by_cases h2:a2=b2
 case neg=>simp[h2]
 by_cases h3:a3=b3
 case neg=>simp[h3]
 by_cases h4:a4=b4
 case neg=>simp[h4]
 by_cases h5:a5=b5
 case neg=>simp[h5]
 by_cases h6:a6=b6
 case neg=>simp[h6]
 by_cases h7:a7=b7
 case neg=>simp[h7]
 simp[h0,h1,h2,h3,h4,h5,h6,h7]
def adz{a b:List Nat}(ha:fe a)(X:fe b):((gE a).toList=(gE b).toList)=(a=b):=propext ⟨λh=>Tj ha X (by
 rw[ByteArray.toList_eq,ByteArray.toList_eq]at h;exact ByteArray.ext (Array.toList_inj.1 h)),λh=>by rw[h]⟩
def TC{p:Prop}(h:p:=by
 go_enter func248,ntmps248;go_wp2;go_ret;exact⟨by rw[HF.o];rfl,hB _ _ _ _⟩):p:=h
def Iq{w:ek}{mv Y6:to}(th th2:Bool){s s2:Std}(h:dx w mv s.lo)(h2:dx w Y6 s2.lo)(t1:fe s.ty)(t2:fe s2.ty)(l1:s.lo.length<=1000000000)(l2:s2.lo.length<=1000000000):
 Calls prog 248 #[dY th s mv,dY th2 s2 Y6] w (λe w'=>e=Vl (.bool (decide (s=s2)))/\Below w.heap.size w w'):=by
 obtain⟨ty,lo,ha⟩:=s;obtain⟨Yp,pg,JZ⟩:=s2;dsimp only at h h2 t1 t2 l1 l2;obtain⟨ma,mc,rfl,m1,m2⟩:=aZ.val h;obtain⟨ma2,mc2,rfl,m3,m4⟩:=aZ.val h2;unfold dY cQ;dsimp only;have hB:=KJ w;have RH:=Z (λcs T vF T2=>aag (w:=(w.alloc (CA cs T)).alloc (CA vF T2)) (aZ.aG h (aA.af (hB cs T vF T2))) (aZ.aG h2 (aA.af (hB cs T vF T2))));by_cases e1:ty=Yp
 case neg=>
  have HF:=Z (show decide ((⟨ty,lo,ha⟩:Std)=⟨Yp,pg,JZ⟩)=false by simp[e1]);have e3:((gE ty).toList=(gE Yp).toList)=False:=by rw[adz t1 t2];simp[e1]
  clear RH h h2 t1 t2 e1;generalize gE ty=tb at*;generalize gE Yp=tb2 at*;exact TC
 subst e1;generalize gE ty=tb at*;have hE:=λV=>eq8 (bI lo 0) (bI lo 1) (bI lo 2) (bI lo 3) (bI lo 4) (bI lo 5) (bI lo 6) (bI lo 7) (bI pg 0) (bI pg 1) (bI pg 2) (bI pg 3) (bI pg 4) (bI pg 5) (bI pg 6) (bI pg 7) V;have hsp:decide ((⟨ty,lo,ha⟩:Std)=⟨ty,pg,JZ⟩)=decide (lo=pg/\ha=JZ):=by simp
 rw[hsp];clear hsp t1 t2 h h2;have jo:lo=pg↔(((((bI lo 0:Nat):Int)==((bI pg 0:Nat):Int)&&((bI lo 1:Nat):Int)==((bI pg 1:Nat):Int)&&((bI lo 2:Nat):Int)==((bI pg 2:Nat):Int)&&((bI lo 3:Nat):Int)==((bI pg 3:Nat):Int)&&((bI lo 4:Nat):Int)==((bI pg 4:Nat):Int)&&((bI lo 5:Nat):Int)==((bI pg 5:Nat):Int)&&((bI lo 6:Nat):Int)==((bI pg 6:Nat):Int)&&((bI lo 7:Nat):Int)==((bI pg 7:Nat):Int))=true)/\lo.length=pg.length/\Ni (lo.length-8) (pg.length-8) (λi=>((bI lo (8+i):Nat):Int)) (λi=>((bI pg (8+i):Nat):Int))=true):=by
  constructor
  ·rintro rfl;refine⟨ay,rfl,by simp[Ni]⟩
  ·rintro⟨h1,h2,h3⟩;simp only[fp,beq_iff_eq]at h1;obtain⟨⟨⟨⟨⟨⟨⟨x0,x1⟩,x2⟩,x3⟩,x4⟩,x5⟩,x6⟩,x7⟩:=h1;unfold Ni at h3;have h4:=(rS h3).2;refine Tl h2 λi hi=>?_;by_cases h8:i<8
   ·have e:i=0\/i=1\/i=2\/i=3\/i=4\/i=5\/i=6\/i=7:=G;rcases e with rfl|rfl|rfl|rfl|rfl|rfl|rfl|rfl<;>omega
   ·have:=h4 (i-8) G;dsimp only at this;rw[show 8+(i-8)=i by omega]at this;omega
 have yo:=Z jo;clear jo;generalize qK:(((bI lo 0:Nat):Int)==((bI pg 0:Nat):Int)&&((bI lo 1:Nat):Int)==((bI pg 1:Nat):Int)&&((bI lo 2:Nat):Int)==((bI pg 2:Nat):Int)&&((bI lo 3:Nat):Int)==((bI pg 3:Nat):Int)&&((bI lo 4:Nat):Int)==((bI pg 4:Nat):Int)&&((bI lo 5:Nat):Int)==((bI pg 5:Nat):Int)&&((bI lo 6:Nat):Int)==((bI pg 6:Nat):Int)&&((bI lo 7:Nat):Int)==((bI pg 7:Nat):Int))=bb at*;clear qK;generalize xy:lo.length=n1 at*;generalize Cv:pg.length=n2 at*;clear xy Cv;cases bb with
 |false=>have HF:=Z (show decide (lo=pg/\ha=JZ)=false by rw[qS];rintro⟨h,-⟩;exact absurd (yo.o.1 h).1 bd);clear yo RH;exact TC
 |true=>
  by_cases e3:n1=n2
  case neg=>
   have HF:=Z (show decide (lo=pg/\ha=JZ)=false by rw[qS];rintro⟨h,-⟩;exact e3 (yo.o.1 h).2.1);have e3':((n1:Int)=n2)=False:=by simp;omega
   clear yo RH;exact TC
  by_cases e4:ha=JZ
  case neg=>
   have HF:=Z (show decide (lo=pg/\ha=JZ)=false by rw[qS];rintro⟨-,h⟩;exact e4 h);have e4':((ha:Int)=JZ)=False:=by simp;omega
   clear yo RH;subst e3;exact TC
  subst e3 e4;have HF:=Z (show decide (lo=pg/\ha=ha)=Ni (n1-8) (n1-8) (λi=>((bI lo (8+i):Nat):Int)) (λi=>((bI pg (8+i):Nat):Int))by
   rw[jy,decide_eq_true_iff];constructor
   ·rintro⟨h,-⟩;exact(yo.o.1 h).2.2
   ·intro h;exact⟨yo.o.2 ⟨rfl,rfl,h⟩,rfl⟩)
  clear yo;generalize Ni (n1-8) (n1-8) (λi=>((bI lo (8+i):Nat):Int)) (λi=>((bI pg (8+i):Nat):Int))=r at*;go_enter func248,ntmps248;go_wp2_with fail;refine(RH.o _ _ _ _).mono ?_;rintro e w' ⟨rfl,X⟩;have HB:=Z (X.mono (show w.heap.size<=_ by simp only[aM];omega));clear X;cases r with
  |false=>go_wp2_with fail;go_ret;exact⟨by rw[HF.o];rfl,(hB _ _ _ _).trans HB.o⟩
  |true=>go_wp2_with fail;go_ret;exact⟨by rw[HF.o];rfl,(hB _ _ _ _).trans HB.o⟩
def fy{P:Program}{fn:Func}{R:Ending->ek->Prop}{A:Array to}{w:ek}{t:Tmp}(h:fn.results=#[.tmp t])(hR:R (Vl (A.getD t undef)) w):bodyPost P fn R .ret {tmps:=A,defers:=[]} w:=bK (results_tmp h _ _ _) rfl hR
def TD{P:Program}{fn:Func}{R:Ending->ek->Prop}{A:Array to}{w:ek}{t u:Tmp}(h:fn.results=#[.tmp t,.tmp u])(hR:R (Vl (.tuple #[A.getD t undef,A.getD u undef])) w):bodyPost P fn R .ret {tmps:=A,defers:=[]} w:=bK (results_tmp2 h _ _ _) rfl hR
def FrI(v:to)(x:Int)(n i:Nat)(a:Act):Prop:=∃J:Nat->to,a={tmps:=#[v,Y x,J 2,J 3,J 4,J 5,v,Y n,Y i,J 9,J 10,J 11,J 12,J 13,J 14,J 15,J 16,J 17,J 18],defers:=[]}
def CI(n:Nat)(f:Nat->Int)(x:Int):Bool:= !decide (∀i,i<n->f i≠x)
def aae(w:ek)(n:Nat)(f:Nat->Int)(x:Int)(e:Ending)(w':ek):Prop:=∃r:Int,e=Vl (Y r)/\w'=w/\decide (0<=r)=CI n f x
def abO(w:ek)(v:to)(n:Nat)(f:Nat->Int)(x:Int)(m:Nat)(a:Act)(W:ek):Prop:=
 ∃i,i<=n/\m+i=n+1/\FrI v x n i a/\W=w/\Hid (∀j,j<i->f j≠x)
def adx{w:ek}{v:to}{n:Nat}{f:Nat->Int}(h:aZ w 1 v n (JY f))(x:Int):Calls prog 320 #[v,Y x] w (aae w n f x):=by
 obtain⟨a,c,rfl,q1,q2⟩:=h.val;have a0g:=Z h;have hm:n<=9223372036854775807:=by unfold maxLen at q2;omega
 clear h;go_enter func320,ntmps320;go_wp2;refine Mk.aN (abO w (H a n c) n f x) (n+1) ?start ?zero ?round
 case start=>exact⟨0,cM _,G,qi rfl,rfl,Z (λj hj=>absurd hj G)⟩
 case zero=>exact λa W hh=>by obtain⟨q,h1,h2,_⟩:=hh;omega
 case round=>
  rintro m a0 W ⟨i,hi,rD,⟨J,rfl⟩,rfl,HA⟩;by_cases be:i<n
  ·obtain⟨b,off,cap,hv,-,-,X,hc⟩:=a0g.o.some G G;simp only[cz]at hv;obtain⟨rfl,-,rfl⟩:=hv;have c0:Vo W (I b (off+i))=O (Y (f i)):=hc i G;clear hc;by_cases he:f i=x
   ·have HF:=Z (show CI n f x=true by unfold CI;simp;exact⟨i,be,he⟩);rw[he]at c0;clear he;go_wp2;go_ret;exact⟨i,rfl,rfl,by rw[HF.o];simp⟩
   ·have HE:=Z he;generalize f i=y at c0 he;have Na:¬x=y:=λe=>he e.symm;go_wp2;refine⟨i+1,G,G,qi rfl,rfl,Z λj hj=>?_⟩;by_cases e:j=i
    ·subst e;exact HE.o
    ·exact HA.o j G
  ·obtain rfl:i=n:=G;have HF:=Z (show CI i f x=false by unfold CI;simp;exact HA.o);go_wp2;go_ret;exact⟨-1,rfl,rfl,by rw[HF.o];rfl⟩
def adw{w:ek}{v:to}{n:Nat}{f:Nat->Int}(h:aZ w 1 v n (JY f))(x:Int):Calls prog 299 #[v,Y x] w (λe w'=>e=Vl (.bool (CI n f x))/\w'=w):=by
 have HI:=Z (adx h x);clear h;go_enter func299,ntmps299;go_wp2_with fail;refine HI.o.mono ?_;rintro e w' ⟨r,rfl,rfl,hr⟩;have HR:=Z hr;clear hr;by_cases h0:0<=r
 ·go_wp2;go_ret;exact⟨by rw[<-HR.o];simp[h0],rfl⟩
 ·go_wp2;go_ret;exact⟨by rw[<-HR.o];simp[h0],rfl⟩
def sf{p:Prop}(h:p:=by
 go_enter func321,ntmps321;go_wp2;exact bK (results_tmp rfl _ _ _) rfl ⟨rfl,rfl⟩):p:=h
def ado(w:ek)(ao:Option Addr){n cap:Nat}(h:n<=cap)(h0:ao=MT->n=0/\cap=0):Calls prog 321 #[H ao n cap] w (λe w'=>e=Vl (H ao n n)/\w'=w):=by
 cases ao with
 |none=>obtain⟨rfl,rfl⟩:=h0 rfl;exact sf
 |some a=>obtain⟨b,off,sp⟩:=a;exact sf
def adn{P:Program}{w:ek}{ops:Array Oper}{rest:List Oper}{o:Oper}{a:Act}{Q:Exit->Act->ek->Prop}(Bz:o.guard=MT)(s x:Operand)(t:TypeId)
 (ho:o.op= .call {callee:= .builtin .append,args:=#[s,x],argTypes:=#[t,t]})
 (e:TypeId) {bytes:Nat} {z:to} (ht:P.underlying t=O (.slice e)) (hi:(P.info? e).map (λi=>(i.zero,i.size,i.bytes))=O (O z,1,bytes)) (Nz:z.cells.size=1)
 (ao:Option Addr) (n:Nat) (g:Nat->to) (hs:a.eval s=H ao n n) (bo:aZ w 1 (H ao n n) n g)
 (ad:Addr) (c:Nat) (y:to) (hx:a.eval x=H (O ad) 1 c) (qt:Vo w ad=O y) (h1:y.oneCell'=true)
 (RV:n+1<=maxLen) (mP:(n+1)*bytes<=140737488355328)
 (h:∀v' w',Row w' e 1 v' (n+1) (fY n g λ_=>y)->aA [] w w'->(∀b,v'.ownBlock=O b->w.heap.size<=b)->wpList P ops Q rest (a.put o.dst v') w'):wpList P ops Q (o::rest) a w:=by
 obtain⟨i,FU,vG,MU,NA⟩:=oL hi;refine wpList_append_grows w Bz s x t ho e i z 1 bytes ht FU vG MU NA Nz bd ao n n (eY n g) hs ?_ (by rw[fO,Nat.mul_one]) ?_ ad 1 c [y] hx rfl ?_ ?_ G RV mP ?_
 ·rintro rfl;rcases bo with⟨h,h'⟩|⟨_,_,h,_⟩
  ·simp at h;exact⟨h,h⟩
  ·simp at h
 ·rintro b rfl j u hu;have hj:j<n:=by
   rcases Nat.lt_or_ge j n with be|Rb
   ·exact be
   ·rw[List.getElem?_eq_none (by rw[fO];exact Rb)]at hu;cases hu
  rw[nN g hj]at hu;cases hu;rcases bo with⟨h,-⟩|⟨a',cap,hv,q1,q2,q3⟩
  ·simp at h
  ·simp only[cz,im]at hv;obtain⟨rfl,-,rfl⟩:=hv;obtain⟨e1,e2⟩:=q3 j G;obtain⟨dS,off,sp⟩:=b;dsimp only at e1;subst e1;rw[Addr.add_lit];exact e2
 ·intro j u hu;cases j with
  |zero=>
   simp at hu;subst hu;have:ad.add 0=ad:=by unfold Addr.add;split<;>simp_all
   rw[this];exact qt
  |succ j=>simp at hu
 ·intro u hu;simp at hu;subst hu;exact h1
 ·intro v' w' hr hg;refine h v' w' ?_ (eK hg) (λb X=>(fE hr b X).1);unfold Row;have e1:eY ((n+1)*1) (fY n g λ_=>y)=eY n g++[y]:=by rw[Nat.mul_one,xA n 1 g (λ_=>y)];rfl
  rw[e1];exact hr.mono (cM _)
def adm(w:ek){mv:to}(th:Bool){s:Std}(ou:Nat)(h:dx w mv s.lo)(hl:s.lo.length<=1000000000):Calls prog 302 #[dY th s mv,Y ou] w (pI w mv th {s with lo:=ou::s.lo}):=by
 obtain⟨ty,lo,ha⟩:=s;dsimp only at h hl;obtain⟨ma,mc,rfl,m1,m2⟩:=aZ.val h;have a0g:=Z h;have be:(ou::lo).length=lo.length+1:=rfl;have PA:=yV ou lo;by_cases h8:lo.length<8
 ·have hm:dx w (H ma (lo.length-8) mc) (ou::lo):=by have e:lo.length-8=0:=G;have e2:(ou::lo).length-8=0:=G;unfold dx at h ⊢;rw[e]at h;rw[e2,e];exact aZ.zero h
  have HM:=Z hm;unfold dY cQ pI;dsimp only;unfold dY cQ;dsimp only;have e:lo.length=0\/lo.length=1\/lo.length=2\/lo.length=3\/lo.length=4\/lo.length=5\/lo.length=6\/lo.length=7:=G;have hB:=qq w;generalize gE ty=tb;rw[be];clear h hm m1 m2 a0g;simp only[PA];generalize bI lo=lc at*;generalize hLL:ou::lo=LL at*;clear hLL;rcases e with e|e|e|e|e|e|e|e
  all_goals
   simp only[e]at HM ⊢;clear PA be hl h8;go_enter func302,ntmps302;go_wp2_with fail;refine bK ?_ rfl ⟨H ma 0 mc,rfl,HM.o.aG (aA.af ((hB _ _).alloc (by simp only[aM];omega) _)),(hB _ _).alloc (by simp only[aM];omega) _,λ_ X=> .inl (by simpa[Value.ownBlock]using X)⟩;simp[results,results302,go_sem]
 ·have KK:ma=MT->lo.length-8=0/\mc=0:=by
   rintro rfl;rcases a0g.o with⟨h,h'⟩|⟨_,_,h,_⟩
   ·simp at h;omega
   ·simp at h
  have EI:aZ w 1 (H ma (lo.length-8) (lo.length-8)) (lo.length-8) (λi=> Y (bI lo (8+i))):=by
   rcases a0g.o with⟨h,h'⟩|⟨a',cap,h,q1,q2,q3⟩
   ·simp only[cz]at h;obtain⟨rfl,h1,h2⟩:=h;rw[h1];exact .inl ⟨rfl,rfl⟩
   ·simp only[cz]at h;obtain⟨rfl,-,rfl⟩:=h;exact .inr ⟨a',_,rfl,aL _,G,q3⟩
  have Nj:=Z EI;have yM:=Z (λV=>ado V ma m1 KK);have HCT:=Z PA;have HL:=Z hl;unfold dY cQ pI;dsimp only;unfold dY cQ;dsimp only;have hB:=qq w;rw[be];simp only[PA];rw[aw G,aw G,aw G,aw G,aw G,aw G,aw G,aw G];generalize gE ty=tb;have w1:IntKind.i64.wrap ((lo.length:Int)+1)=((lo.length+1:Nat):Int):=by rw[bJ _ lI];omega
  clear h EI PA KK a0g;generalize CG:lo.length-8=n8 at*;have RK:=Z CG;clear CG;generalize Fc:bI lo=lc at*;have CN:=Z Fc;clear Fc;generalize RY:lo.length=n0 at*;have HN0:=Z RY;clear RY;have h9:¬n0<8:=h8;clear h8 be;go_enter func302,ntmps302;go_wp2_with fail;refine(yM.o _).mono ?_;rintro e w' ⟨rfl,rfl⟩;go_wp2_with (at_builtin;refine adn rfl _ _ 24 rfl 3 underlying24 ck rfl ma n8 (λi=> Y (lc (8+i))) rfl (Nj.o.aG ((((aA.refl [] w).alloc _).alloc _).alloc _)) (I (w.heap.size+1+1) 0) 1 (Y ou) rfl ?zZ rfl ?E5 ?E6 ?_)
  case zZ=>exact(aF.bR ay).cell 0
  case E5=>have:=RK.o;have:=HL.o;unfold maxLen;omega
  case E6=>have:=RK.o;have:=HL.o;omega
  intro v' w1 r1 f1 i1;obtain⟨va,vc,rfl,-,-⟩:=(aZ.vd r1).val;have k1:aF w1 w.heap.size 233 #[.bool th,.string tb,Y (lc 0),Y (lc 1),Y (lc 2),Y (lc 3),Y (lc 4),Y (lc 5),Y (lc 6),Y (lc 7),Y n0,Y ha,H ma n8 mc]:=(((aF.new w _ _).alloc _).alloc _).aG f1 ay;have k2:aF w1 (w.heap.size+1) 233 #[.bool false,.string ⟨#[]⟩,Y 0,Y 0,Y 0,Y 0,Y 0,Y 0,Y 0,Y 0,Y 0,Y 0,Vn]:=((aF.bR ay).alloc _).aG f1 ay;have fI:Below w.heap.size w w1:=((((aY _ w).alloc (aL _) _).alloc (by simp only[aM];omega) _).alloc (by simp only[aM];omega) _).trans (f1.below (by simp only[aM];omega) ay);have HI1:=Z (λb (X:(Value.slice va (n8+1) vc).ownBlock=O b)=>show w.heap.size<=b by have:=i1 b X;(try simp only[aM]at this);omega);have hmo:∀W',aA [w.heap.size,w.heap.size+1] w1 W'->dx W' (H va (n8+1) vc) (ou::lo):=by
   intro W' f;have r2:=r1.aG f (λb X hc=>by have:=i1 b X;(try simp only[aM]at this);simp at hc;omega);have h1:=aZ.vd r2;unfold dx;have TN:(ou::lo).length-8=n8+1:=by have a1:=RK.o;have a2:=HN0.o;show lo.length+1-8=n8+1;omega
   rw[TN];refine h1.congr λo ho=>?_;unfold fY;rw[HCT.o];have a1:=RK.o;by_cases Cw:o<n8
   ·rw[aB Cw,aw G]
   ·rw[aw Cw,aB G]
  have HMO:=Z hmo;have cR:=Z fI;have nI:=Z k2;obtain⟨p0,p1,p2,p3,p4,p5,p6,p7,adi,adh,p10,p11,p12⟩:=k1.ri;obtain⟨z0,z1,z2,z3,z4,z5,z6,z7,z8,z9,z10,TO,z12⟩:=k2.ri;have fz1:=k1.frozen;have fz2:=k2.frozen;have l1:=k1.lt;have l2:=k2.lt;clear r1 f1 i1 k1 k2 hmo fI Nj yM hB;go_wp2_with fail;have kA:=nI.o.aG (w':=((w1.setCell (I w.heap.size 12) (H va (n8+1) vc)).setCell (I w.heap.size 10) (Y ((n0:Int)+1)))) (((aA.refl [w.heap.size] w1).setCell ay _).setCell ay _) ay;have b9:=(((((((((((((kA.set 0 (.bool th)).set 1 (.string tb)).set 2 (Y (lc 0))).set 3 (Y (lc 1))).set 4 (Y (lc 2))).set 5 (Y (lc 3))).set 6 (Y (lc 4))).set 7 (Y (lc 5))).set 8 (Y (lc 6))).set 9 (Y (lc 7))).set 10 (Y ((n0:Int)+1))).set 11 (Y ha)).set 12 (H va (n8+1) vc));simp only[List.setIfInBounds_toArray,List.set_cons_zero,List.set_cons_succ]at b9;have f9:aA [w.heap.size,w.heap.size+1] w1 _:=((((((((((((((((aA.refl [w.heap.size,w.heap.size+1] w1).setCell (p:=(I w.heap.size 12)) ay (H va (n8+1) vc)).setCell (p:=(I w.heap.size 10)) ay (Y ((n0:Int)+1))).setCell (p:=(I (w.heap.size+1) 0)) ay (.bool th)).setCell (p:=(I (w.heap.size+1) 1)) ay (.string tb)).setCell (p:=(I (w.heap.size+1) 2)) ay (Y (lc 0))).setCell (p:=(I (w.heap.size+1) 3)) ay (Y (lc 1))).setCell (p:=(I (w.heap.size+1) 4)) ay (Y (lc 2))).setCell (p:=(I (w.heap.size+1) 5)) ay (Y (lc 3))).setCell (p:=(I (w.heap.size+1) 6)) ay (Y (lc 4))).setCell (p:=(I (w.heap.size+1) 7)) ay (Y (lc 5))).setCell (p:=(I (w.heap.size+1) 8)) ay (Y (lc 6))).setCell (p:=(I (w.heap.size+1) 9)) ay (Y (lc 7))).setCell (p:=(I (w.heap.size+1) 10)) ay (Y ((n0:Int)+1))).setCell (p:=(I (w.heap.size+1) 11)) ay (Y ha)).setCell (p:=(I (w.heap.size+1) 12)) ay (H va (n8+1) vc));have m9:=HMO.o _ f9;have hB9:=cR.o.trans (f9.below (B:=w.heap.size) cR.o.size ay);generalize(((((((((((((((w1.setCell (I w.heap.size 12) (H va (n8+1) vc)).setCell (I w.heap.size 10) (Y ((n0:Int)+1))).setCell (I (w.heap.size+1) 0) (.bool th)).setCell (I (w.heap.size+1) 1) (.string tb)).setCell (I (w.heap.size+1) 2) (Y (lc 0))).setCell (I (w.heap.size+1) 3) (Y (lc 1))).setCell (I (w.heap.size+1) 4) (Y (lc 2))).setCell (I (w.heap.size+1) 5) (Y (lc 3))).setCell (I (w.heap.size+1) 6) (Y (lc 4))).setCell (I (w.heap.size+1) 7) (Y (lc 5))).setCell (I (w.heap.size+1) 8) (Y (lc 6))).setCell (I (w.heap.size+1) 9) (Y (lc 7))).setCell (I (w.heap.size+1) 10) (Y ((n0:Int)+1))).setCell (I (w.heap.size+1) 11) (Y ha)).setCell (I (w.heap.size+1) 12) (H va (n8+1) vc))=W9 at*;obtain⟨i0,i1,i2,i3,i4,i5,i6,i7,i8,i9,i10,i11,i12⟩:=b9.ri;clear b9 f9 kA p0 p1 p2 p3 p4 p5 p6 p7 adi adh p10 p11 p12 z0 z1 z2 z3 z4 z5 z6 z7 z8 z9 z10 TO z12 fz1 fz2;refine bK ?_ rfl ⟨H va (n8+1) vc,rfl,m9,hB9,λb X=> .inr (HI1.o b X)⟩;simp[results,results302,go_sem,i0,i1,i2,i3,i4,i5,i6,i7,i8,i9,i10,i11,i12]
open Ma (aI aV)
def sM(K:Kp)(p:aQ)(jg:to):Array to:=#[K.g,K.v,K.t,K.o,Y p.aT,K.c,jg]
def rT(p:aQ)(n:Int):Prop:=0<=n/\n<p.ax.length
def bN{w:ek}{K:Kp}{p:aQ}(h:fW w K p){n:Int}(hq:rT p n):∃(m b off cap:Nat),n=m/\m<p.ax.length/\K.g=H (O (I b off)) p.ax.length cap/\b<w.heap.size/\Vo w (I b (off+m))=O (.bool (bF p n)):=by
 obtain⟨m,rfl⟩:=eJ hq.1;have hm:m<p.ax.length:=by have:=hq.2;omega
 obtain⟨b,off,cap,e,q1,q2,c⟩:=h.gh hm;exact⟨m,b,off,cap,rfl,hm,e,aH c,by unfold bF;simpa using c⟩
section
variable {w:ek}{K:Kp}{p:aQ}{jg:to}{vb:Nat}{x:Ins}{ha:Nat}
def PC{p:Prop}(h:p:=by
 go_wp2;go_ret;exact⟨rfl,hB _ _⟩):p:=h
def Y7{p:Prop}(h:p:=by
 go_wp2;go_quiet (fail);go_wp2;go_ret;exact⟨rfl,hC _ _ _⟩):p:=h
def Y8{p:Prop}(h:p:=by
 go_enter func246,ntmps246;go_wp2;go_ret;exact⟨by simp[bE],hB _ _⟩):p:=h
def adu(h:fW w K p)(hv:aF w vb 230 (sM K p jg))(hq:x.op=34->rT p x.a):Calls prog 246 #[V5 vb,aV x,Y ha] w (λe w'=>e=Vl (Y (bE p x ha))/\Below w.heap.size w w'):=by
 obtain⟨op,xa,xb,xc,xd⟩:=x;unfold aV aI;dsimp only;have hB:=qq w;have hC:∀cs T k,Below w.heap.size w ((w.alloc (CA cs T)).drewN k):=λcs T k=>(hB cs T).trans (az _ _ k);have lv:=hv.lt;dsimp only at hq;by_cases o1:op=36
 ·subst o1;exact Y8
 by_cases o2:op=35
 ·subst o2;exact Y8
 by_cases o3:op=37
 ·subst o3;exact Y8
 by_cases o4:op=34
 ·subst o4;replace hq:=hq rfl;obtain⟨m,gb,off,cap,rfl,hm,hk,vK,gc⟩:=bN h hq;have v0:=hv.c1;rw[hk]at v0;have hf:bE p ⟨34,(m:Int),xb,xc,xd⟩ ha=if bF p m then 1 else 2:=by simp[bE]
  rw[hf];clear hf hk h hv hq;cases hg:bF p m with
  |false=>rw[hg]at gc;clear hg;go_enter func246,ntmps246;exact Y7
  |true=>rw[hg]at gc;clear hg;go_enter func246,ntmps246;exact Y7
 ·have hf:bE p ⟨op,xa,xb,xc,xd⟩ ha=ha:=by simp[bE,o1,o2,o3,o4]
  rw[hf];clear hf;go_enter func246,ntmps246;exact PC
def Qx{p:Prop}(h:p:=by
 rcases hh with rfl|rfl|rfl|rfl
 all_goals
  go_enter func242,ntmps242;go_wp2;go_ret;exact⟨by simp[fo],hB _ _⟩):p:=h
def L8{p:Prop}(h:p:=by
 rcases hh with rfl|rfl|rfl|rfl
 all_goals
  go_enter func242,ntmps242;go_wp2;go_ret;exact⟨by simp<;>omega,hB _ _⟩):p:=h
def S9{p:Prop}(h:p:=by
 rw[hg]at gc;clear hg;rcases hh with rfl|rfl|rfl|rfl
 all_goals
  go_enter func242,ntmps242;go_wp2;go_quiet (fail);go_wp2;go_ret;exact⟨ay,hC _ _ _⟩):p:=h
def adt(h:fW w K p)(hv:aF w vb 230 (sM K p jg))(hq:x.op=35->rT p x.a)(h3:ha<=3):Calls prog 242 #[V5 vb,aV x,Y ha] w (λe w'=>e=Vl (.bool (fo p x ha))/\Below w.heap.size w w'):=by
 obtain⟨op,xa,xb,xc,xd⟩:=x;unfold aV aI;dsimp only;have hB:=qq w;have hC:∀cs T k,Below w.heap.size w ((w.alloc (CA cs T)).drewN k):=λcs T k=>(hB cs T).trans (az _ _ k);have lv:=hv.lt;dsimp only at hq;have hh:ha=0\/ha=1\/ha=2\/ha=3:=G;clear h3;by_cases o1:op=36
 ·subst o1;exact Qx
 by_cases o2:op=37
 ·subst o2;exact Qx
 by_cases o3:op=35
 ·subst o3;replace hq:=hq rfl;obtain⟨m,gb,off,cap,rfl,hm,hk,vK,gc⟩:=bN h hq;have v0:=hv.c1;rw[hk]at v0;have hf:fo p ⟨35,(m:Int),xb,xc,xd⟩ ha=if bF p m then ha==1||ha==3 else ha==2:=by simp[fo]
  rw[hf];clear hf hk h hv hq;cases hg:bF p m with
  |false=>exact S9
  |true=>exact S9
 by_cases o4:op=28\/op=29\/op=30
 ·have hf:fo p ⟨op,xa,xb,xc,xd⟩ ha=true:=by unfold fo;rw[aw o1,aw o2,aw o3,aB o4]
  rw[hf];clear hf hh;rcases o4 with rfl|rfl|rfl
  all_goals
   go_enter func242,ntmps242;exact PC
 ·have hf:fo p ⟨op,xa,xb,xc,xd⟩ ha=((decide (1<=op)&&decide (op<=21))||ha==0):=by unfold fo;rw[aw o1,aw o2,aw o3,aw o4]
  rw[hf];have o5:¬op=28:=λe=>o4 (.inl e);have o6:¬op=29:=λe=>o4 (.inr (.inl e));have o7:¬op=30:=λe=>o4 (.inr (.inr e));clear hf o4 hq;by_cases r1:1<=op
  ·by_cases r2:op<=21
   ·clear hh;go_enter func242,ntmps242;go_wp2;go_ret;exact⟨by simp[r1,r2],hB _ _⟩
   ·exact L8
  ·exact L8
def Y_{p:Prop}(h:p:=by
 obtain⟨m,gb,off,cap,rfl,hm,hk,vK,gc⟩:=bN h hq;have v0:=hv.c1;rw[hk]at v0;rw[hf];clear hf hk h hv hq nH;generalize bF p m=g1 at*;cases g1
 all_goals
  go_enter func244,ntmps244;exact PC):p:=h
def ads(h:fW w K p)(hv:aF w vb 230 (sM K p jg))(hq:x.op=32\/x.op=40\/x.op=41\/x.op=38\/x.op=39->rT p x.a)(nH:x.op=38\/x.op=39->rT p x.c):Calls prog 244 #[V5 vb,aV x] w (λe w'=>e=Vl (.bool (c_ p x))/\Below w.heap.size w w'):=by
 obtain⟨op,xa,xb,xc,xd⟩:=x;unfold aV aI;dsimp only;have hB:=qq w;have hC:∀cs T k,Below w.heap.size w ((w.alloc (CA cs T)).drewN k):=λcs T k=>(hB cs T).trans (az _ _ k);have lv:=hv.lt;dsimp only at hq nH;by_cases o1:op=32
 ·subst o1;have hf:∀n:Int,c_ p ⟨32,n,xb,xc,xd⟩= !bF p n:=λn=>by simp[c_]
  replace hq:=hq ay;exact Y_
 by_cases o2:op=40
 ·subst o2;have hf:∀n:Int,c_ p ⟨40,n,xb,xc,xd⟩= !bF p n:=λn=>by simp[c_]
  replace hq:=hq ay;exact Y_
 by_cases o3:op=41
 ·subst o3;have hf:∀n:Int,c_ p ⟨41,n,xb,xc,xd⟩=bF p n:=λn=>by simp[c_]
  replace hq:=hq ay;exact Y_
 by_cases o4:op=38
 ·subst o4;have hf:∀n n2:Int,c_ p ⟨38,n,xb,n2,xd⟩=(bF p n==bF p n2):=λn n2=>by simp[c_]
  replace hq:=hq ay;replace nH:=nH ay;obtain⟨m,gb,off,cap,rfl,hm,hk,vK,gc⟩:=bN h hq;obtain⟨m2,gb2,Ip,CH,rfl,rD,jZ,Za,gc2⟩:=bN h nH;have v0:=hv.c1;rw[hk]at v0 jZ;simp only[cz,im,Addr.mk.injEq]at jZ;obtain⟨⟨rfl,rfl,-⟩,-,rfl⟩:=jZ;rw[hf];clear hf hk h hv hq nH;generalize bF p m=g1 at*;generalize bF p m2=g2 at*;cases g1
  all_goals
   cases g2
   all_goals
    go_enter func244,ntmps244;exact Y7
 by_cases o5:op=39
 ·subst o5;have hf:∀n n2:Int,c_ p ⟨39,n,xb,n2,xd⟩=(!bF p n&&bF p n2):=λn n2=>by simp[c_]
  replace hq:=hq ay;replace nH:=nH ay;obtain⟨m,gb,off,cap,rfl,hm,hk,vK,gc⟩:=bN h hq;obtain⟨m2,gb2,Ip,CH,rfl,rD,jZ,Za,gc2⟩:=bN h nH;have v0:=hv.c1;rw[hk]at v0 jZ;simp only[cz,im,Addr.mk.injEq]at jZ;obtain⟨⟨rfl,rfl,-⟩,-,rfl⟩:=jZ;rw[hf];clear hf hk h hv hq nH;generalize bF p m=g1 at*;generalize bF p m2=g2 at*;cases g1
  all_goals
   cases g2
   all_goals
    go_enter func244,ntmps244;exact PC
 ·have hf:c_ p ⟨op,xa,xb,xc,xd⟩=true:=by simp[c_,o1,o2,o3,o4,o5]
  obtain⟨ga,gcp,hk,-,-⟩:=h.g.val;have v0:=hv.c1;rw[hk]at v0;rw[hf];clear hf hk h hv hq nH;go_enter func244,ntmps244;exact PC
def TH(w V:ek)(x0 x1 x2 x3 x4 x5 x6 x7 x8 x9 uB xz RU x13:to):Prop:=Vo V (I w.heap.size 1)=O x0/\Vo V (I (w.heap.size+1) 0)=O x1/\Vo V (I (w.heap.size+1) 1)=O x2/\Vo V (I (w.heap.size+1) 2)=O x3/\Vo V (I (w.heap.size+1) 3)=O x4/\Vo V (I (w.heap.size+1) 4)=O x5/\Vo V (I (w.heap.size+1) 5)=O x6/\Vo V (I (w.heap.size+1) 6)=O x7/\Vo V (I (w.heap.size+1) 7)=O x8/\Vo V (I (w.heap.size+1) 8)=O x9/\Vo V (I (w.heap.size+1) 9)=O uB/\Vo V (I (w.heap.size+1) 10)=O xz/\Vo V (I (w.heap.size+1) 11)=O RU/\Vo V (I (w.heap.size+1) 12)=O x13
def StK(w V:ek)(x0 x1 x2 x3 x4 x5 x6 x7 x8 x9 uB xz RU x13:to)(q:Addr)(y:to):Prop:=Vo V (I w.heap.size 1)=O x0/\Vo V (I (w.heap.size+1) 0)=O x1/\Vo V (I (w.heap.size+1) 1)=O x2/\Vo V (I (w.heap.size+1) 2)=O x3/\Vo V (I (w.heap.size+1) 3)=O x4/\Vo V (I (w.heap.size+1) 4)=O x5/\Vo V (I (w.heap.size+1) 5)=O x6/\Vo V (I (w.heap.size+1) 6)=O x7/\Vo V (I (w.heap.size+1) 7)=O x8/\Vo V (I (w.heap.size+1) 8)=O x9/\Vo V (I (w.heap.size+1) 9)=O uB/\Vo V (I (w.heap.size+1) 10)=O xz/\Vo V (I (w.heap.size+1) 11)=O RU/\Vo V (I (w.heap.size+1) 12)=O x13/\Vo V q=O y
def Zb:Std:=⟨[],[],0⟩
def fA(T:Map)(i:Nat):Std:=(T i).getD Zb
def stC(T:Map)(mv:Nat->to)(o:Nat):to:=(cQ (T (o / 13)).isSome (fA T (o / 13)) (mv (o / 13))).getD (o % 13) undef
structure iM(w:ek)(jg:to)(n:Nat)(T:Map)(mv:Nat->to):Prop where
 row:Row w 233 13 jg n (stC T mv)
 more:∀i,i<n->dx w (mv i) (fA T i).lo
 off:∀i,i<n->∀b,(mv i).ownBlock=O b->jg.ownBlock≠O b
variable {w':ek}{n:Nat}{T:Map}{mv:Nat->to}
def iM.aG(h:iM w jg n T mv)(f:aA [] w w'):iM w' jg n T mv:=⟨h.row.aG f ay,λi hi=>(h.more i hi).aG f,h.off⟩
def iM.Wy(h:iM w jg n T mv){i:Nat}(hi:i<n):∃b cap,jg=H (O (I b 0)) n cap/\n<=cap/\cap<=maxLen/\b<w.heap.size/\
 Vo w (I b (i*13))=O (.bool (T i).isSome)/\Vo w (I b (i*13+1))=O (.string (gE (fA T i).ty))/\
 Vo w (I b (i*13+2))=O (Y (bI (fA T i).lo 0))/\Vo w (I b (i*13+3))=O (Y (bI (fA T i).lo 1))/\Vo w (I b (i*13+4))=O (Y (bI (fA T i).lo 2))/\
 Vo w (I b (i*13+5))=O (Y (bI (fA T i).lo 3))/\Vo w (I b (i*13+6))=O (Y (bI (fA T i).lo 4))/\Vo w (I b (i*13+7))=O (Y (bI (fA T i).lo 5))/\
 Vo w (I b (i*13+8))=O (Y (bI (fA T i).lo 6))/\Vo w (I b (i*13+9))=O (Y (bI (fA T i).lo 7))/\Vo w (I b (i*13+10))=O (Y (fA T i).lo.length)/\
 Vo w (I b (i*13+11))=O (Y (fA T i).ha)/\Vo w (I b (i*13+12))=O (mv i):=by
 obtain⟨b,cap,rfl,h1,h2,h3⟩:=h.row.some G;have key:∀k,k<13->Vo w (I b (i*13+k))=O ((cQ (T i).isSome (fA T i) (mv i)).getD k undef):=λk hk=>by have e:=h.row.cell (o:=i*13+k) G;rw[e];unfold stC;rw[show(i*13+k) / 13=i by omega,show(i*13+k) % 13=k by omega]
 exact⟨b,cap,rfl,h1,h2,h3,key 0 G,key 1 G,key 2 G,key 3 G,key 4 G,key 5 G,key 6 G,key 7 G,key 8 G,key 9 G,key 10 G,key 11 G,key 12 G⟩
def J0{p:aQ}{T:Map}(hT:∀q s,T q=O s->dB p T q s.lo):∀(l:List Nat) (q:Nat),dB p T q l->l.length<=q:=by
 intro l
 induction l with
 |nil=>intro q _;exact cM _
 |cons t l ih=>intro q h;obtain⟨h1,-,s,h2,rfl⟩:=h;have:=ih t (hT t s h2);simp only[List.length_cons];omega
def adr(p:aQ)(n:Int):CI p.on.length (λi=>p.on.getD i 0) n=p.on.contains n:=by
 unfold CI;rw[jy];simp only[Bool.not_eq_true',qS,List.contains_iff_mem];constructor
 ·intro h;apply Classical.byContradiction;intro hn;refine h λi hi e=>hn ?_;rw[<-e,dN,fq hi];exact ja hi
 ·intro h hn;obtain⟨i,hi,e⟩:=qU h;refine hn i hi ?_;rw[dN,fq hi];exact e
def PD(p:aQ)(xa:Int):List Nat->Bool
 |[]=>false
 |t::_=>decide (xa=(al p t).a)
def Ir(T:Map)(xa:Int)(ty:List Nat):List Nat->Bool
 |[]=>false
 |t::l=>decide (xa=t)&&(match T t with|some s=>decide (s.ty=ty/\s.lo=l)|none=>decide (ty=[]/\l=[]))
structure aeh(p:aQ)(T:Map)(pc:Nat)(x:Ins)(s:Std):Prop where
 oT:pc<p.code.length
 dW:0<=x.op
 zJ:x.op=22\/x.op=23\/x.op=25\/x.op=26->0<=x.a/\x.a<p.code.length
 jo:dB p T pc s.lo
 hty:fe s.ty
 hT:∀q st,T q=O st->dB p T q st.lo/\fe st.ty
 len:p.code.length<=262144
variable {pc:Nat}{s:Std}{smv:to}
def L9{p:Prop}(h:p:=by
 unfold aV aI dY cQ;dsimp only;rw[HF.o];generalize gE ty=tb;generalize bI lo=lc;rcases hj with rfl|rfl|rfl|rfl
 all_goals
  exact TI):p:=h
def TJ{p:Prop}(h:p:=by
 unfold aV aI dY cQ;dsimp only;generalize gE ty=tb;generalize bI lo=lc;exact TI):p:=h
def TI{p:Prop}(h:p:=by
 go_enter func245,ntmps245;go_wp2_with fail;refine fy rfl ?_;exact⟨rfl,hB _ _ _ _⟩):p:=h
def p_{p:Prop}(h:p:=by
 intro wz fj
 (try dsimp only at fj)
 exact qj):p:=h
def CK(h:fW w K p)(hv:aF w vb 230 (sM K p jg))(hs:iM w jg p.code.length T mv)(hm:dx w smv s.lo)(J:aeh p T pc x s):
 Calls prog 245 #[V5 vb,Y pc,aV x,dY true s smv] w (λe w'=>e=Vl (.bool (cP p T pc x s.ty s.lo))/\Below w.heap.size w w'):=by
 obtain⟨op,xa,xb,xc,xd⟩:=x;obtain⟨ty,lo,ha⟩:=s;obtain⟨oT,dW,zJ,jo,hty,hT,hlen⟩:=J;dsimp only at dW zJ jo hty hm;obtain⟨ma,mc,rfl,m1,m2⟩:=aZ.val hm;have La:=J0 (λq s h=>(hT q s h).1) lo pc jo;have abT:pc<262144:=G;have hB:=KJ w;obtain⟨v0,-,-,v3,v4,v5,v6⟩:=hv.c7;have lv:=hv.lt;obtain⟨cb,ze,Cj,kc,q1,q2,lcb,-⟩:=h.cd.some G G;have INS:∀i,i<p.code.length->Vo w (I cb (ze+i*5))=O (Y (al p i).op)/\Vo w (I cb (ze+i*5+1))=O (Y (al p i).a):=by intro i hi;obtain⟨b,off,cap,hv,-,-,c0,c1,-⟩:=h.ins hi;rw[kc]at hv;simp only[cz,im,Addr.mk.injEq]at hv;obtain⟨⟨rfl,rfl,-⟩,-,-⟩:=hv;exact⟨c0,c1⟩
 have Mq:=Z INS;rw[kc]at v5;clear INS;by_cases hj:op=22\/op=23\/op=25\/op=26
 ·obtain⟨a0,a1⟩:=zJ hj;obtain⟨m,rfl⟩:=eJ a0;have I9:m<p.code.length:=G;obtain⟨c0,-⟩:=Mq.o m I9;by_cases h1:m<=pc
  ·have HF:=Z (show cP p T pc ⟨op,m,xb,xc,xd⟩ ty lo=false by unfold cP;rw[aB ⟨hj,.inl (by dsimp only;omega)⟩]);clear hv hs hm jo hT h q1 q2 m1 m2;exact L9
  ·have Dr:cP p T pc ⟨op,m,xb,xc,xd⟩ ty lo=if(al p m).op=25 then false else if op=25 then decide (0<pc)&&decide ((al p (pc-1)).op=24)&&decide (p.aT≠pc)&& !p.on.contains (pc:Int)else if op=26 then PD p m lo else true:=by
    unfold cP;dsimp only[Int.toNat_natCast];by_cases e:(al p m).op=25
    ·rw[aB ⟨hj,.inr e⟩,aB e]
    ·rw[aw (by rintro⟨-,h'|h'⟩;omega;exact e h'),aw (show¬op=24 by omega),aw e];rcases hj with rfl|rfl|rfl|rfl<;>cases lo<;>rfl
   by_cases h2:(al p m).op=25
   ·have HF:=Z (show cP p T pc ⟨op,m,xb,xc,xd⟩ ty lo=false by rw[Dr,aB h2]);rw[h2]at c0;clear hv hs jo hT h q1 q2 m1 m2 Dr h2;exact L9
   rw[aw h2]at Dr;generalize(al p m).op=om at c0 h2;rw[Dr];have HT:=Z hT;have HM:=Z hm;have HH:=Z h;clear Dr hT h hs;by_cases o5:op=25
   ·subst o5;rw[aB rfl];by_cases hp0:pc=0
    ·subst hp0;unfold aV aI dY cQ;dsimp only;generalize gE ty=tb;generalize bI lo=lc;go_enter func245,ntmps245;go_wp2_with fail;refine fy rfl ?_;exact⟨ay,hB _ _ _ _⟩
    ·have w2:IntKind.i64.wrap ((pc:Int) - 1)=((pc-1:Nat):Int):=by rw[bJ _ lI];omega
     have e1:decide (0<pc)=true:=by simp<;>omega
     have hpp:0<pc:=G;have Zd:pc-1<p.code.length:=G;rw[e1];generalize pc-1=k at*;obtain⟨d0,-⟩:=Mq.o k Zd;by_cases d24:(al p k).op=24
     ·rw[d24]at d0;rw[d24];by_cases hmi:p.aT=(pc:Int)
      ·have hr:∀b:Bool,(true&&decide ((24:Int)=24)&&decide (p.aT≠(pc:Int))&&b)=false:=λb=>by simp[hmi]
       rw[hr];rw[hmi]at v4;exact TJ
      ·have hr:∀b:Bool,(true&&decide ((24:Int)=24)&&decide (p.aT≠(pc:Int))&&b)=b:=λb=>by have e9:decide (p.aT≠(pc:Int))=true:=yR hmi;rw[e9];cases b<;>rfl
       rw[hr,<-adr];have TL:=Z (λV (f:aA [] w V)=>adw (w:=V) (f:=λi=>p.on.getD i 0) (HH.o.aG f).o (pc:Int));obtain⟨oa,oc,ko,-,-⟩:=HH.o.o.val;rw[ko]at v3 TL;generalize p.aT=pm at*;generalize CI p.on.length (λi=>p.on.getD i 0) (pc:Int)=X at*;unfold aV aI dY cQ;dsimp only;generalize gE ty=tb;generalize bI lo=lc;go_enter func245,ntmps245;go_wp2_with fail;refine(TL.o _ ((aA.af (hB _ _ _ _)))).mono ?_;rintro e w' ⟨rfl,rfl⟩;cases X
       ·go_wp2_with fail;refine fy rfl ?_;have e9:(pm !=(pc:Int))=true:=by simp[hmi]
        exact⟨by rw[show(!false)=true from rfl,<-e9];rfl,hB _ _ _ _⟩
       ·go_wp2_with fail;refine fy rfl ?_;exact⟨rfl,hB _ _ _ _⟩
     ·have hr:∀b c:Bool,(true&&decide ((al p k).op=24)&&b&&c)=false:=λb c=>by simp[d24]
      rw[hr];generalize(al p k).op=ok at d0 d24;unfold aV aI dY cQ;dsimp only;generalize gE ty=tb;generalize bI lo=lc;go_enter func245,ntmps245;go_wp2_with fail;refine fy rfl ?_;exact⟨by simp[d24],hB _ _ _ _⟩
   rw[aw o5];by_cases o6:op=26
   ·subst o6;rw[aB rfl];have me:Hid (∀V,Below w.heap.size w V->Calls prog 300 #[dY true ⟨ty,lo,ha⟩ (H ma (lo.length-8) mc)] V (λe w'=>e=Vl (Y (pH lo))/\Below V.heap.size V w')):=Z (λV X=>JX V true (s:=⟨ty,lo,ha⟩) (aZ.aG HM.o (aA.af X)) (by dsimp only;omega));clear v0 v3 v4 v6 HM;unfold aV aI dY cQ;dsimp only;unfold dY cQ at me;dsimp only at me;generalize gE ty=tb at*;cases lo with
    |nil=>
     rw[show PD p m []=false from rfl];rw[show pH []= -1 from rfl]at me;generalize bI []=lc at*;generalize([]:List Nat).length=ln at*;generalize ln-8=n8 at*;have Is:aF (((w.alloc (CA #[Y 26,Y m,Y xb,Y xc,Y xd] 40)).alloc (CA #[.bool true,.string tb,Y (lc 0),Y (lc 1),Y (lc 2),Y (lc 3),Y (lc 4),Y (lc 5),Y (lc 6),Y (lc 7),Y ln,Y ha,H ma n8 mc] 233)).drew) w.heap.size 40 #[Y 26,Y m,Y xb,Y xc,Y xd]:=((aF.new w _ _).alloc _).drewN 1;have gm:aF (((w.alloc (CA #[Y 26,Y m,Y xb,Y xc,Y xd] 40)).alloc (CA #[.bool true,.string tb,Y (lc 0),Y (lc 1),Y (lc 2),Y (lc 3),Y (lc 4),Y (lc 5),Y (lc 6),Y (lc 7),Y ln,Y ha,H ma n8 mc] 233)).drew) (w.heap.size+1) 233 #[.bool true,.string tb,Y (lc 0),Y (lc 1),Y (lc 2),Y (lc 3),Y (lc 4),Y (lc 5),Y (lc 6),Y (lc 7),Y ln,Y ha,H ma n8 mc]:=(aF.bR ay).drewN 1;have ru:TH w (((w.alloc (CA #[Y 26,Y m,Y xb,Y xc,Y xd] 40)).alloc (CA #[.bool true,.string tb,Y (lc 0),Y (lc 1),Y (lc 2),Y (lc 3),Y (lc 4),Y (lc 5),Y (lc 6),Y (lc 7),Y ln,Y ha,H ma n8 mc] 233)).drew) (Y m) (.bool true) (.string tb) (Y (lc 0)) (Y (lc 1)) (Y (lc 2)) (Y (lc 3)) (Y (lc 4)) (Y (lc 5)) (Y (lc 6)) (Y (lc 7)) (Y ln) (Y ha) (H ma n8 mc):=⟨Is.cell 1,gm.cell 0,gm.cell 1,gm.cell 2,gm.cell 3,gm.cell 4,gm.cell 5,gm.cell 6,gm.cell 7,gm.cell 8,gm.cell 9,gm.cell 10,gm.cell 11,gm.cell 12⟩;have eV:Hid (Below w.heap.size w ((w.alloc (CA #[Y 26,Y m,Y xb,Y xc,Y xd] 40)).alloc (CA #[.bool true,.string tb,Y (lc 0),Y (lc 1),Y (lc 2),Y (lc 3),Y (lc 4),Y (lc 5),Y (lc 6),Y (lc 7),Y ln,Y ha,H ma n8 mc] 233)).drew):=Z ((hB #[Y 26,Y m,Y xb,Y xc,Y xd] 40 #[.bool true,.string tb,Y (lc 0),Y (lc 1),Y (lc 2),Y (lc 3),Y (lc 4),Y (lc 5),Y (lc 6),Y (lc 7),Y ln,Y ha,H ma n8 mc] 233).trans (az _ _ 1));have C1:Hid (∀V:ek,Hid (Below w.heap.size w V)->(TH w V (Y m) (.bool true) (.string tb) (Y (lc 0)) (Y (lc 1)) (Y (lc 2)) (Y (lc 3)) (Y (lc 4)) (Y (lc 5)) (Y (lc 6)) (Y (lc 7)) (Y ln) (Y ha) (H ma n8 mc))->Calls prog 300 #[.agg #[.bool true,.string tb,Y (lc 0),Y (lc 1),Y (lc 2),Y (lc 3),Y (lc 4),Y (lc 5),Y (lc 6),Y (lc 7),Y ln,Y ha,H ma n8 mc]] V λe V'=>e=Vl (Y (-1))/\(TH w V' (Y m) (.bool true) (.string tb) (Y (lc 0)) (Y (lc 1)) (Y (lc 2)) (Y (lc 3)) (Y (lc 4)) (Y (lc 5)) (Y (lc 6)) (Y (lc 7)) (Y ln) (Y ha) (H ma n8 mc))/\Hid (Below w.heap.size w V')):=by refine Z λV X hs=>(me.o V X.o).mono ?_;rintro e V' ⟨rfl,qK⟩;have key:∀b i v,Vo V (I b i)=O v->Vo V' (I b i)=O v:=λb i v hc=>(bk (qK.block _ (aH hc))).trans hc;exact⟨rfl,⟨key _ _ _ hs.1,key _ _ _ hs.2.1,key _ _ _ hs.2.2.1,key _ _ _ hs.2.2.2.1,key _ _ _ hs.2.2.2.2.1,key _ _ _ hs.2.2.2.2.2.1,key _ _ _ hs.2.2.2.2.2.2.1,key _ _ _ hs.2.2.2.2.2.2.2.1,key _ _ _ hs.2.2.2.2.2.2.2.2.1,key _ _ _ hs.2.2.2.2.2.2.2.2.2.1,key _ _ _ hs.2.2.2.2.2.2.2.2.2.2.1,key _ _ _ hs.2.2.2.2.2.2.2.2.2.2.2.1,key _ _ _ hs.2.2.2.2.2.2.2.2.2.2.2.2.1,key _ _ _ hs.2.2.2.2.2.2.2.2.2.2.2.2.2⟩,Z (X.o.trans (qK.mono X.o.size))⟩
     clear Is gm me;go_enter func245,ntmps245;go_wp2;refine Mk.bH (S:=(λwx=>Vo wx (I w.heap.size 1)=O (Y m)/\Vo wx (I (w.heap.size+1) 0)=O (.bool true)/\Vo wx (I (w.heap.size+1) 1)=O (.string tb)/\Vo wx (I (w.heap.size+1) 2)=O (Y (lc 0))/\Vo wx (I (w.heap.size+1) 3)=O (Y (lc 1))/\Vo wx (I (w.heap.size+1) 4)=O (Y (lc 2))/\Vo wx (I (w.heap.size+1) 5)=O (Y (lc 3))/\Vo wx (I (w.heap.size+1) 6)=O (Y (lc 4))/\Vo wx (I (w.heap.size+1) 7)=O (Y (lc 5))/\Vo wx (I (w.heap.size+1) 8)=O (Y (lc 6))/\Vo wx (I (w.heap.size+1) 9)=O (Y (lc 7))/\Vo wx (I (w.heap.size+1) 10)=O (Y ln)/\Vo wx (I (w.heap.size+1) 11)=O (Y ha)/\Vo wx (I (w.heap.size+1) 12)=O (H ma n8 mc))) bh ru (λau=>?_);generalize World.drew _=V0 at*;refine Mk.tk 0 (v:=?_) rfl ?_ cY ?_;rotate_left
     ·exact p_
     refine Mk.pt ?_;refine dJ (rs:=[1]) bh ay ?_;refine bZ rfl (λK hK=>?_) cK;refine fH ?_;go_simp;go_at_call 300;refine(C1.o _ eV ru).mono ?_;rintro e w1 ⟨rfl,wY,hQ1⟩;clear au;refine hK.out _ _ wY (λau=>?_);clear hK K;refine Mk.pt ?_;refine Mk.tk 2 (v:=?_) rfl ?_ cY ?_;rotate_left
     ·exact p_
     refine Mk.pt ?_;refine Mk.tk 3 (v:=?_) rfl ?_ cY ?_;rotate_left
     ·exact p_
     refine Mk.pt ?_;refine Mk.Sr 4 ?_;refine Mk.Sr 5 ?_;refine Mk.Sr 6 ?_;refine Mk.Sr 7 ?_;refine Mk.Sr 8 ?_;refine Mk.Sr 9 ?_;refine Mk.Sr 10 ?_;refine Mk.Sr 11 ?_;refine Mk.Sr 12 ?_;refine Mk.tk 13 (v:=?_) rfl ?_ cY ?_;rotate_left
     ·exact p_
     refine Mk.pt ?_;refine Mk.tk 14 (v:=?_) rfl ?_ cY ?_;rotate_left
     ·exact p_
     refine Mk.pt ?_;refine fx bh ⟨rfl,?_⟩ _;clear au;go_wp2_with fail;refine fy rfl ?_;exact⟨rfl,hQ1.o⟩
    |cons t l=>
     have htl:=jo.1;obtain⟨-,ca0⟩:=Mq.o t G;rw[show PD p m (t::l)=decide ((m:Int)=(al p t).a)from rfl];rw[show pH (t::l)=(t:Int)from rfl]at me;have htc:t<p.code.length:=G;clear jo;generalize bI (t::l)=lc at*;generalize(t::l).length=ln at*;generalize ln-8=n8 at*;generalize(al p t).a=ca at*;have Is:aF (((w.alloc (CA #[Y 26,Y m,Y xb,Y xc,Y xd] 40)).alloc (CA #[.bool true,.string tb,Y (lc 0),Y (lc 1),Y (lc 2),Y (lc 3),Y (lc 4),Y (lc 5),Y (lc 6),Y (lc 7),Y ln,Y ha,H ma n8 mc] 233)).drew) w.heap.size 40 #[Y 26,Y m,Y xb,Y xc,Y xd]:=((aF.new w _ _).alloc _).drewN 1;have gm:aF (((w.alloc (CA #[Y 26,Y m,Y xb,Y xc,Y xd] 40)).alloc (CA #[.bool true,.string tb,Y (lc 0),Y (lc 1),Y (lc 2),Y (lc 3),Y (lc 4),Y (lc 5),Y (lc 6),Y (lc 7),Y ln,Y ha,H ma n8 mc] 233)).drew) (w.heap.size+1) 233 #[.bool true,.string tb,Y (lc 0),Y (lc 1),Y (lc 2),Y (lc 3),Y (lc 4),Y (lc 5),Y (lc 6),Y (lc 7),Y ln,Y ha,H ma n8 mc]:=(aF.bR ay).drewN 1;have jZ:(((w.alloc (CA #[Y 26,Y m,Y xb,Y xc,Y xd] 40)).alloc (CA #[.bool true,.string tb,Y (lc 0),Y (lc 1),Y (lc 2),Y (lc 3),Y (lc 4),Y (lc 5),Y (lc 6),Y (lc 7),Y ln,Y ha,H ma n8 mc] 233)).drew).cell? (I cb (ze+t*5+1))=O (Y ca):=(bk (((hB _ _ _ _).trans (az _ _ 1)).block _ lcb)).trans ca0;have ru:StK w (((w.alloc (CA #[Y 26,Y m,Y xb,Y xc,Y xd] 40)).alloc (CA #[.bool true,.string tb,Y (lc 0),Y (lc 1),Y (lc 2),Y (lc 3),Y (lc 4),Y (lc 5),Y (lc 6),Y (lc 7),Y ln,Y ha,H ma n8 mc] 233)).drew) (Y m) (.bool true) (.string tb) (Y (lc 0)) (Y (lc 1)) (Y (lc 2)) (Y (lc 3)) (Y (lc 4)) (Y (lc 5)) (Y (lc 6)) (Y (lc 7)) (Y ln) (Y ha) (H ma n8 mc) (I cb (ze+t*5+1)) (Y ca):=⟨Is.cell 1,gm.cell 0,gm.cell 1,gm.cell 2,gm.cell 3,gm.cell 4,gm.cell 5,gm.cell 6,gm.cell 7,gm.cell 8,gm.cell 9,gm.cell 10,gm.cell 11,gm.cell 12,jZ⟩;have eV:Hid (Below w.heap.size w ((w.alloc (CA #[Y 26,Y m,Y xb,Y xc,Y xd] 40)).alloc (CA #[.bool true,.string tb,Y (lc 0),Y (lc 1),Y (lc 2),Y (lc 3),Y (lc 4),Y (lc 5),Y (lc 6),Y (lc 7),Y ln,Y ha,H ma n8 mc] 233)).drew):=Z ((hB #[Y 26,Y m,Y xb,Y xc,Y xd] 40 #[.bool true,.string tb,Y (lc 0),Y (lc 1),Y (lc 2),Y (lc 3),Y (lc 4),Y (lc 5),Y (lc 6),Y (lc 7),Y ln,Y ha,H ma n8 mc] 233).trans (az _ _ 1));have C1:Hid (∀V:ek,Hid (Below w.heap.size w V)->(StK w V (Y m) (.bool true) (.string tb) (Y (lc 0)) (Y (lc 1)) (Y (lc 2)) (Y (lc 3)) (Y (lc 4)) (Y (lc 5)) (Y (lc 6)) (Y (lc 7)) (Y ln) (Y ha) (H ma n8 mc) (I cb (ze+t*5+1)) (Y ca))->Calls prog 300 #[.agg #[.bool true,.string tb,Y (lc 0),Y (lc 1),Y (lc 2),Y (lc 3),Y (lc 4),Y (lc 5),Y (lc 6),Y (lc 7),Y ln,Y ha,H ma n8 mc]] V λe V'=>e=Vl (Y (t))/\(StK w V' (Y m) (.bool true) (.string tb) (Y (lc 0)) (Y (lc 1)) (Y (lc 2)) (Y (lc 3)) (Y (lc 4)) (Y (lc 5)) (Y (lc 6)) (Y (lc 7)) (Y ln) (Y ha) (H ma n8 mc) (I cb (ze+t*5+1)) (Y ca))/\Hid (Below w.heap.size w V')):=by refine Z λV X hs=>(me.o V X.o).mono ?_;rintro e V' ⟨rfl,qK⟩;have key:∀b i v,Vo V (I b i)=O v->Vo V' (I b i)=O v:=λb i v hc=>(bk (qK.block _ (aH hc))).trans hc;exact⟨rfl,⟨key _ _ _ hs.1,key _ _ _ hs.2.1,key _ _ _ hs.2.2.1,key _ _ _ hs.2.2.2.1,key _ _ _ hs.2.2.2.2.1,key _ _ _ hs.2.2.2.2.2.1,key _ _ _ hs.2.2.2.2.2.2.1,key _ _ _ hs.2.2.2.2.2.2.2.1,key _ _ _ hs.2.2.2.2.2.2.2.2.1,key _ _ _ hs.2.2.2.2.2.2.2.2.2.1,key _ _ _ hs.2.2.2.2.2.2.2.2.2.2.1,key _ _ _ hs.2.2.2.2.2.2.2.2.2.2.2.1,key _ _ _ hs.2.2.2.2.2.2.2.2.2.2.2.2.1,key _ _ _ hs.2.2.2.2.2.2.2.2.2.2.2.2.2.1,key _ _ _ hs.2.2.2.2.2.2.2.2.2.2.2.2.2.2⟩,Z (X.o.trans (qK.mono X.o.size))⟩
     clear Is gm jZ me;go_enter func245,ntmps245;go_wp2;refine Mk.bH (S:=(λwx=>Vo wx (I w.heap.size 1)=O (Y m)/\Vo wx (I (w.heap.size+1) 0)=O (.bool true)/\Vo wx (I (w.heap.size+1) 1)=O (.string tb)/\Vo wx (I (w.heap.size+1) 2)=O (Y (lc 0))/\Vo wx (I (w.heap.size+1) 3)=O (Y (lc 1))/\Vo wx (I (w.heap.size+1) 4)=O (Y (lc 2))/\Vo wx (I (w.heap.size+1) 5)=O (Y (lc 3))/\Vo wx (I (w.heap.size+1) 6)=O (Y (lc 4))/\Vo wx (I (w.heap.size+1) 7)=O (Y (lc 5))/\Vo wx (I (w.heap.size+1) 8)=O (Y (lc 6))/\Vo wx (I (w.heap.size+1) 9)=O (Y (lc 7))/\Vo wx (I (w.heap.size+1) 10)=O (Y ln)/\Vo wx (I (w.heap.size+1) 11)=O (Y ha)/\Vo wx (I (w.heap.size+1) 12)=O (H ma n8 mc)/\Vo wx (I cb (ze+t*5+1))=O (Y ca))) bh ru (λau=>?_);generalize World.drew _=V0 at*;refine Mk.tk 0 (v:=?_) rfl ?_ cY ?_;rotate_left
     ·exact p_
     refine Mk.pt ?_;refine dJ (rs:=[1]) bh ay ?_;refine bZ rfl (λK hK=>?_) cK;refine fH ?_;go_simp;go_at_call 300;refine(C1.o _ eV ru).mono ?_;rintro e w1 ⟨rfl,wY,hQ1⟩;clear au;refine hK.out _ _ wY (λau=>?_);clear hK K;refine Mk.pt ?_;refine Mk.tk 2 (v:=?_) rfl ?_ cY ?_;rotate_left
     ·exact p_
     refine Mk.pt ?_;refine Mk.tk 3 (v:=?_) rfl ?_ cY ?_;rotate_left
     ·exact p_
     refine Mk.pt ?_;refine Mk.tk 4 (v:=?_) rfl ?_ cY ?_;rotate_left
     ·exact p_
     refine Mk.pt ?_;refine Mk.tk 5 (v:=?_) rfl ?_ cY ?_;rotate_left
     ·exact p_
     refine Mk.pt ?_;refine Mk.tk 6 (v:=?_) rfl ?_ cY ?_;rotate_left
     ·exact p_
     refine Mk.pt ?_;refine Mk.tk 7 (v:=?_) rfl ?_ cY ?_;rotate_left
     ·exact p_
     refine Mk.pt ?_;refine dJ (rs:=[8]) bh ay ?_;refine bZ rfl (λK hK=>?_) cK;refine fH ?_;go_simp;go_at_call 300;refine(C1.o _ hQ1 wY).mono ?_;rintro e w2 ⟨rfl,RI,hQ2⟩;clear au;refine hK.out _ _ RI (λau=>?_);clear hK K;refine Mk.pt ?_;refine Mk.tk 9 (v:=?_) rfl ?_ cY ?_;rotate_left
     ·exact p_
     refine Mk.pt ?_;refine Mk.tk 10 (v:=?_) rfl ?_ cY ?_;rotate_left
     ·exact p_
     refine Mk.pt ?_;refine Mk.tk 11 (v:=?_) rfl ?_ cY ?_;rotate_left
     ·exact p_
     refine Mk.pt ?_;refine Mk.tk 12 (v:=?_) rfl ?_ cY ?_;rotate_left
     ·exact p_
     refine Mk.pt ?_;refine Mk.tk 13 (v:=?_) rfl ?_ cY ?_;rotate_left
     ·exact p_
     refine Mk.pt ?_;refine Mk.tk 14 (v:=?_) rfl ?_ cY ?_;rotate_left
     ·exact p_
     refine Mk.pt ?_;refine fx bh ⟨rfl,?_⟩ _;clear au;go_wp2_with fail;refine fy rfl ?_;exact⟨show Ending.returned (.bool ((m:Int)==ca))=_ by congr 2,hQ2.o⟩
   ·rw[aw o6];have ho:op=22\/op=23:=G;unfold aV aI dY cQ;dsimp only;generalize gE ty=tb;generalize bI lo=lc;rcases ho with rfl|rfl
    all_goals
     exact TI
 ·have n22:¬op=22:=λe=>hj (.inl e);have n23:¬op=23:=λe=>hj (.inr (.inl e));have n25:¬op=25:=λe=>hj (.inr (.inr (.inl e)));have n26:¬op=26:=λe=>hj (.inr (.inr (.inr e)));have Dr:cP p T pc ⟨op,xa,xb,xc,xd⟩ ty lo=if op=24 then decide (pc+1<p.code.length)&&decide ((al p (pc+1)).op=25)else if op=27 then Ir T xa ty lo else if op=0 then lo.isEmpty else true:=by unfold cP;dsimp only;rw[aw (by rintro⟨h',-⟩;exact hj h'),aw n25,aw n26];cases lo<;>rfl
  rw[Dr];have HT:=Z hT;have HM:=Z hm;have HH:=Z h;clear Dr hT h hj zJ;by_cases o4:op=24
  ·subst o4;rw[aB rfl];have w2:IntKind.i64.wrap ((pc:Int)+1)=((pc+1:Nat):Int):=by rw[bJ _ lI];omega
   by_cases be:pc+1<p.code.length
   ·obtain⟨d0,-⟩:=Mq.o (pc+1) be;have e1:decide (pc+1<p.code.length)=true:=by simp[be]
    rw[e1];generalize(al p (pc+1)).op=ok at d0 ⊢;by_cases ho:ok=25
    ·subst ho;exact TJ
    ·have hr:(true&&decide (ok=25))=false:=by simp[ho]
     rw[hr];unfold aV aI dY cQ;dsimp only;generalize gE ty=tb;generalize bI lo=lc;go_enter func245,ntmps245;go_wp2_with fail;refine fy rfl ?_;exact⟨by simp[ho],hB _ _ _ _⟩
   ·have hr:∀b:Bool,(decide (pc+1<p.code.length)&&b)=false:=λb=>by simp[be]
    rw[hr];exact TJ
  rw[aw o4];by_cases o7:op=27
  ·subst o7;rw[aB rfl];have me:Hid (∀V,Below w.heap.size w V->Calls prog 300 #[dY true ⟨ty,lo,ha⟩ (H ma (lo.length-8) mc)] V (λe w'=>e=Vl (Y (pH lo))/\Below V.heap.size V w')):=Z (λV X=>JX V true (s:=⟨ty,lo,ha⟩) (aZ.aG HM.o (aA.af X)) (by dsimp only;omega));cases lo with
   |nil=>rw[show Ir T xa ty []=false from rfl];rw[show pH []= -1 from rfl]at me;clear HM HT HH Mq hs v0 v3 v4 v6;unfold aV aI dY cQ;dsimp only;unfold dY cQ at me;dsimp only at me;generalize gE ty=tb at*;generalize bI []=lc at*;generalize([]:List Nat).length=ln at*;generalize ln-8=n8 at*;go_enter func245,ntmps245;go_wp2_with fail;refine(me.o _ (hB _ _ _ _)).mono ?_;rintro e w1 ⟨rfl,X⟩;have cR:=Z ((hB _ _ _ _).trans (X.mono (show w.heap.size<=_ by simp only[aM];omega)));clear X;go_wp2_with fail;refine fy rfl ?_;exact⟨rfl,cR.o⟩
   |cons t l=>
    rw[show pH (t::l)=(t:Int)from rfl]at me;obtain⟨htp,-,st,fL,rF⟩:=id jo;have htn:t<p.code.length:=G;have hag:Ir T xa ty (t::l)=(decide (xa=t)&&decide (st.ty=ty/\st.lo=l)):=by show(decide (xa=t)&&(match T t with|some s=>decide (s.ty=ty/\s.lo=l)|none=>decide (ty=[]/\l=[])))=_;rw[fL]
    rw[hag];have hsa:fA T t=st:=by unfold fA;rw[fL];rfl
    have his:(T t).isSome=true:=by rw[fL];rfl
    have lN:=Z (λV (X:Below w.heap.size w V)=>(iM.aG hs (aA.af X)).Wy htn);have HMR:=Z (λV (X:Below w.heap.size w V)=>(hs.more t htn).aG (aA.af X));rw[his,hsa]at lN;rw[hsa]at HMR;have HWO:Hid (∀V,Below w.heap.size w V->Calls prog 301 #[dY true ⟨ty,t::l,ha⟩ (H ma ((t::l).length-8) mc)] V (pI V (H ma ((t::l).length-8) mc) true ⟨ty,l,ha⟩)):=Z (λV X=>Bf V true (s:=⟨ty,t::l,ha⟩) (dx.aG HM.o (aA.af X)) ay (by dsimp only;omega));have hts:=(HT.o t st fL).2;have oC:=J0 (λq s h=>(HT.o q s h).1) st.lo t (HT.o t st fL).1;have RJ:=Z (λ(V:ek) (Gj Y6:to) (h1:dx V Gj st.lo) (h2:dx V Y6 l)=>Iq (w:=V) true true (s:=st) (s2:=⟨ty,l,st.ha⟩) h1 h2 hts hty G (by simp only[List.length_cons]at La;dsimp only;omega));have zg:decide (st=(⟨ty,l,st.ha⟩:Std))=decide (st.ty=ty/\st.lo=l):=by
     rw[decide_eq_decide];constructor
     ·intro h;rw[h];exact⟨rfl,rfl⟩
     ·rintro⟨h1,h2⟩;cases st;dsimp only at h1 h2 ⊢;rw[h1,h2]
    rw[zg]at RJ;generalize decide (st.ty=ty/\st.lo=l)=res at*;have HV:Hid (∀V,Below w.heap.size w V->Vo V (I vb 6)=O jg/\vb<V.heap.size):=Z (λV X=>by have:=hv.of (X.block _ hv.lt);exact⟨this.cell 6,this.lt⟩);have jN:=Z (λV (X:Below w.heap.size w V)=>HM.o.aG (aA.af X));clear hag hsa his fL rF HM HT HH Mq hs v0 v3 v4 v6 hts oC zg jo hty hv hlen oT abT La;unfold aV aI dY cQ;dsimp only;unfold dY cQ at me HWO RJ;dsimp only at me HWO RJ;generalize v_:gE ty=tb at*;have ub:=Z v_;clear v_;generalize bI (t::l)=lc at*;generalize(t::l).length=ln at*;generalize ln-8=n8 at*;go_enter func245,ntmps245;go_wp2_with fail;refine(me.o _ (hB _ _ _ _)).mono ?_;rintro e w1 ⟨rfl,X⟩;have Jm:Below w.heap.size w w1:=(hB _ _ _ _).trans (X.mono (show w.heap.size<=_ by simp only[aM];omega));have kx:aF w1 w.heap.size 40 #[Y 27,Y xa,Y xb,Y xc,Y xd]:=((aF.new w _ _).alloc _).of (X.block _ (by simp only[aM];omega));have ks:aF w1 (w.heap.size+1) 233 #[.bool true,.string tb,Y (lc 0),Y (lc 1),Y (lc 2),Y (lc 3),Y (lc 4),Y (lc 5),Y (lc 6),Y (lc 7),Y ln,Y ha,H ma n8 mc]:=(aF.bR ay).of (X.block _ (by simp only[aM];omega));have d1:Vo w1 (I w.heap.size 1)=O (Y xa):=kx.cell 1;have lx:=kx.lt;have a1h:=ks.lt;obtain⟨e0,e1,e2,e3,e4,e5,e6,e7,e8,e9,Gk,Gl,Gm⟩:=ks.ri;have cR:=Z Jm;clear X Jm kx ks me;by_cases hx:xa=(t:Int)
    ·obtain⟨v6,Ze⟩:=HV.o w1 cR.o;obtain⟨A,cap,rfl,a1,a2,a3,g0,g1,g2,g3,g4,g5,g6,g7,g8,g9,g10,g11,g12⟩:=lN.o w1 cR.o;have Dn:=HMR.o w1 cR.o;obtain⟨adp,Fb,hmv,-,-⟩:=aZ.val Dn;rw[hmv]at g12 Dn HMR;have HXT:=Z (show(decide (xa=(t:Int))&&res)=res by simp[hx]);rw[hx]at d1;clear hx hmv Dn;generalize gE st.ty=tb2 at*;generalize bI st.lo=oy at*;generalize st.lo.length=Wz at*;generalize st.ha=JZ at*;go_wp2_with fail;refine(HWO.o _ ((cR.o.alloc cR.o.size _))).mono ?_;rintro e w2 ⟨Y6,rfl,rD,dC,-⟩;obtain⟨na,nc,CM,-,-⟩:=aZ.val rD;rw[CM]at rD;dsimp only at rD CM;subst CM;have kin:aF w2 w1.heap.size 233 #[.bool true,.string tb2,Y (oy 0),Y (oy 1),Y (oy 2),Y (oy 3),Y (oy 4),Y (oy 5),Y (oy 6),Y (oy 7),Y Wz,Y JZ,H adp (Wz-8) Fb]:=(aF.new w1 _ _).of (dC.block _ ay);obtain⟨f0,f1,f2,f3,f4,f5,f6,f7,f8,f9,f10,f11,f12⟩:=kin.ri;have lin:=kin.lt;have eF:=Z ((cR.o.alloc cR.o.size _).trans (dC.mono (cU cR.o.size ay)));have J_:=Z rD;have SB:=Z (HMR.o w2 eF.o);generalize w1.heap.size=ib at*;unfold dY cQ;dsimp only;generalize bI l=lcm at*;generalize l.length=lm at*;generalize lm-8=n9 at*;rw[ub.o];go_wp2_with fail;refine(RJ.o _ _ _ (dx.aG SB.o ((aA.refl [] w2).alloc _)) (dx.aG J_.o ((aA.refl [] w2).alloc _))).mono ?_;rintro e w3 ⟨rfl,pz⟩;have iy:=Z ((eF.o.alloc eF.o.size _).trans (pz.mono (cU eF.o.size ay)));clear pz;go_wp2_with fail;refine fy rfl ?_;exact⟨by rw[HXT.o];rfl,iy.o⟩
    ·have HXT:=Z (show(decide (xa=(t:Int))&&res)=false by simp[hx]);have ae5:(xa !=(t:Int))=true:=by simp[hx]
     go_wp2_with fail;refine fy rfl ?_;exact⟨by rw[HXT.o];rfl,cR.o⟩
  rw[aw o7];by_cases o0:op=0
  ·subst o0;rw[aB rfl];cases lo with
   |nil=>unfold aV aI dY cQ;dsimp only;generalize gE ty=tb;generalize bI []=lc;exact TI
   |cons t l=>
    have bm:(((t::l).length:Nat):Int)≠0:=by simp<;>omega
    unfold aV aI dY cQ;dsimp only;generalize gE ty=tb;generalize bI (t::l)=lc;have hie:(t::l).isEmpty=false:=rfl;rw[hie];generalize(t::l).length=ln at*;have TM:¬ln=0:=G;go_enter func245,ntmps245;go_wp2_with fail;refine fy rfl ?_;exact⟨by simp[TM],hB _ _ _ _⟩
  ·rw[aw o0];exact TJ
def uA(a:Nat)(s:Std)(mv:to):Array to:=
 #[Y a,.bool true,.string (gE s.ty),Y (bI s.lo 0),Y (bI s.lo 1),Y (bI s.lo 2),Y (bI s.lo 3),Y (bI s.lo 4),Y (bI s.lo 5),Y (bI s.lo 6),Y (bI s.lo 7),Y s.lo.length,Y s.ha,mv]
def eP:Nat×Std:=(0,Zb)
def wyC(l:List (Nat×Std))(mv:Nat->to)(o:Nat):to:=(uA (l.getD (o / 14) eP).1 (l.getD (o / 14) eP).2 (mv (o / 14))).getD (o % 14) undef
structure iN(w:ek)(lo:Nat)(sv lv:to)(l:List (Nat×Std))(mv:Nat->to):Prop where
 row:aZ w 14 lv l.length (wyC l mv)
 more:∀i,i<l.length->dx w (mv i) (l.getD i eP).2.lo
 off:∀i,i<l.length->∀b,(mv i).ownBlock=O b->sv.ownBlock=O b\/lo<=b
def adg(w:ek)(sv:to)(l:List (Nat×Std))(e:Ending)(w':ek):Prop:=∃lv mv,e=Vl lv/\iN w' w.heap.size sv lv l mv/\Below w.heap.size w w'/\∀b,lv.ownBlock=O b->w.heap.size<=b
def iN.nil(w:ek)(lo:Nat)(sv:to):iN w lo sv Vn [] (λ_=>undef):=⟨.inl ⟨rfl,rfl⟩,λi hi=>absurd hi ay,λi hi=>absurd hi ay⟩
def iN.one{W:ek}{lo b:Nat}{sv:to}{a:Nat}{s:Std}{mv:to}{cs:Array to}(X:aF W b 279 cs)(e:cs=uA a s mv)(hm:dx W mv s.lo)(ho:∀b,mv.ownBlock=O b->sv.ownBlock=O b\/lo<=b):
 iN W lo sv (H (O (I b 0)) 1 1) [(a,s)] (λ_=>mv):=by
 subst e;refine⟨.inr ⟨_,_,rfl,aL _,bd,λo h=>⟨rfl,?_⟩⟩,λi hi=>?_,λi hi=>?_⟩
 ·have ho:o<14:=by simpa using h
  rw[Nat.zero_add];have hc:=X.cell o;rw[hc];unfold wyC;rw[show o / 14=0 by omega,show o % 14=o by omega];show _=O ((uA a s mv).getD o undef);rw[yZ,y_ (show o<(uA a s mv).size from ho)];rfl
 ·obtain rfl:i=0:=by simpa using hi
  exact hm
 ·exact ho
def iN.two{W:ek}{lo b:Nat}{sv:to}{a a':Nat}{s s':Std}{mv PH:to}{cs:Array to}(X:aF W b 279 cs)(e:cs=uA a s mv++uA a' s' PH)(hm:dx W mv s.lo)(ho:∀b,mv.ownBlock=O b->sv.ownBlock=O b\/lo<=b)(iY:dx W PH s'.lo)(ho':∀b,PH.ownBlock=O b->sv.ownBlock=O b\/lo<=b):
 iN W lo sv (H (O (I b 0)) 2 2) [(a,s),(a',s')] (λi=>if i=0 then mv else PH):=by
 subst e;have z1:(uA a s mv).size=14:=rfl;have z2:(uA a' s' PH).size=14:=rfl;refine⟨.inr ⟨_,_,rfl,aL _,bd,λo h=>⟨rfl,?_⟩⟩,λi hi=>?_,λi hi=>?_⟩
 ·have ho:o<28:=by simpa using h
  rw[Nat.zero_add];have hc:=X.cell o;rw[hc];unfold wyC;by_cases h14:o<14
  ·rw[show o / 14=0 by omega,show o % 14=o by omega];show _=O ((uA a s mv).getD o undef);rw[yZ,Array.getElem?_append_left (by rw[z1];exact h14),y_ (show o<(uA a s mv).size by rw[z1];exact h14)];rfl
  ·rw[show o / 14=1 by omega,show o % 14=o-14 by omega];show _=O ((uA a' s' PH).getD (o-14) undef);rw[yZ,Array.getElem?_append_right (by rw[z1];omega),z1,y_ (show o-14<(uA a' s' PH).size by rw[z2];omega)];rfl
 ·have:i=0\/i=1:=by have:i<2:=hi;omega
  rcases this with rfl|rfl
  ·exact hm
  ·exact iY
 ·have:i=0\/i=1:=by have:i<2:=hi;omega
  rcases this with rfl|rfl
  ·exact ho
  ·exact ho'
def l6{p:Prop}(h:p:=by
 go_enter func247,ntmps247;go_wp2;go_ret;exact⟨_,λ_=> H ma (s.lo.length-8) mc,rfl,iN.one (aF.bR ay) LS.o.symm (HM.o.aG (aA.af ((hB _ _ _ _).alloc (by simp only[aM];omega) _))) (λ_ X=> .inl X),(hB _ _ _ _).alloc (by simp only[aM];omega) _,λb X=>by have h1:_=b:=fF X;simp only[aM]at h1 ⊢;omega⟩):p:=h
def mm{p:Prop}(h:p:=by
 refine Z λV V' qK hs=>?_;have key:∀b i v,Vo V (I b i)=O v->Vo V' (I b i)=O v:=λb i v hc=>(bk (qK.block _ (aH hc))).trans hc;exact⟨key _ _ _ (hs.1),key _ _ _ (hs.2.1),key _ _ _ (hs.2.2.1),key _ _ _ (hs.2.2.2.1),key _ _ _ (hs.2.2.2.2.1),key _ _ _ (hs.2.2.2.2.2.1),key _ _ _ (hs.2.2.2.2.2.2.1),key _ _ _ (hs.2.2.2.2.2.2.2.1),key _ _ _ (hs.2.2.2.2.2.2.2.2.1),key _ _ _ (hs.2.2.2.2.2.2.2.2.2.1),key _ _ _ (hs.2.2.2.2.2.2.2.2.2.2.1),key _ _ _ (hs.2.2.2.2.2.2.2.2.2.2.2.1),key _ _ _ (hs.2.2.2.2.2.2.2.2.2.2.2.2.1),key _ _ _ (hs.2.2.2.2.2.2.2.2.2.2.2.2.2)⟩):p:=h
def pJ{p:Prop}(h:p:=by
 intro wz fj
 (try dsimp only at fj)
 exact qj):p:=h
def adf(w:ek){pc:Nat}{x:Ins}{s:Std}{smv:to}(hm:dx w smv s.lo)(oT:pc<262144)(h0:0<=x.op)(ha:x.op=22\/x.op=23\/x.op=25\/x.op=26->0<=x.a)(hl:s.lo.length<=262144)(hq:x.op=26->0<s.lo.length):
 Calls prog 247 #[Y pc,aV x,dY true s smv] w (adg w smv (cH pc x s)):=by
 obtain⟨op,xa,xb,xc,xd⟩:=x;dsimp only at h0 ha hq;obtain⟨ma,mc,rfl,m1,m2⟩:=aZ.val hm;have HM:=Z hm;have hB:=KJ w;have w1:IntKind.i64.wrap ((pc:Int)+1)=((pc+1:Nat):Int):=by rw[bJ _ lI];omega
 by_cases o1:op=0\/op=27
 ·have hf:cH pc ⟨op,xa,xb,xc,xd⟩ s=[]:=by unfold cH;rw[aB o1]
  rw[hf];clear hf hm ha hq;unfold aV aI dY cQ;dsimp only;generalize gE s.ty=tb;generalize bI s.lo=lc;rcases o1 with rfl|rfl
  all_goals
   go_enter func247,ntmps247;go_wp2;go_ret;exact⟨Vn,λ_=>undef,rfl,iN.nil _ _ _,hB _ _ _ _,λb X=>by cases X⟩
 by_cases o2:op=22
 ·subst o2;obtain⟨m,rfl⟩:=eJ (ha ay);have hf:cH pc ⟨22,m,xb,xc,xd⟩ s=[(m,s)]:=rfl;rw[hf];clear hf hm ha hq o1 h0;unfold aV aI dY cQ;dsimp only;have LS:Hid (uA (m) s (H ma (s.lo.length-8) mc)=#[Y (m:Nat),.bool true,.string (gE s.ty),Y (bI s.lo 0),Y (bI s.lo 1),Y (bI s.lo 2),Y (bI s.lo 3),Y (bI s.lo 4),Y (bI s.lo 5),Y (bI s.lo 6),Y (bI s.lo 7),Y s.lo.length,Y s.ha,H ma (s.lo.length-8) mc]):=Z rfl;generalize gE s.ty=tb at*;generalize bI s.lo=lc at*;exact l6
 by_cases o3:op=23
 ·subst o3;obtain⟨m,rfl⟩:=eJ (ha ay);have hf:cH pc ⟨23,m,xb,xc,xd⟩ s=[(pc+1,s),(m,s)]:=rfl;rw[hf];clear hf hm ha hq o1 h0 o2;unfold aV aI dY cQ;dsimp only;have LS:Hid (uA (pc+1) s (H ma (s.lo.length-8) mc)=#[Y (pc+1:Nat),.bool true,.string (gE s.ty),Y (bI s.lo 0),Y (bI s.lo 1),Y (bI s.lo 2),Y (bI s.lo 3),Y (bI s.lo 4),Y (bI s.lo 5),Y (bI s.lo 6),Y (bI s.lo 7),Y s.lo.length,Y s.ha,H ma (s.lo.length-8) mc]):=Z rfl;have pX:Hid (uA (m) s (H ma (s.lo.length-8) mc)=#[Y (m:Nat),.bool true,.string (gE s.ty),Y (bI s.lo 0),Y (bI s.lo 1),Y (bI s.lo 2),Y (bI s.lo 3),Y (bI s.lo 4),Y (bI s.lo 5),Y (bI s.lo 6),Y (bI s.lo 7),Y s.lo.length,Y s.ha,H ma (s.lo.length-8) mc]):=Z rfl;generalize gE s.ty=tb at*;generalize bI s.lo=lc at*;go_enter func247,ntmps247;go_wp2;go_ret;exact⟨_,λi=>if i=0 then H ma (s.lo.length-8) mc else H ma (s.lo.length-8) mc,rfl,iN.two (aF.bR ay) (by rw[LS.o,pX.o];rfl) (HM.o.aG (aA.af ((hB _ _ _ _).alloc (by simp only[aM];omega) _))) (λ_ X=> .inl X) (HM.o.aG (aA.af ((hB _ _ _ _).alloc (by simp only[aM];omega) _))) (λ_ X=> .inl X),(hB _ _ _ _).alloc (by simp only[aM];omega) _,λb X=>by have h1:_=b:=fF X;simp only[aM]at h1 ⊢;omega⟩
 by_cases o4:op=25
 ·subst o4;obtain⟨m,rfl⟩:=eJ (ha ay);have hf:cH pc ⟨25,m,xb,xc,xd⟩ s=[(pc+1,{s with lo:=pc::s.lo}),(m,s)]:=rfl;rw[hf];have HW:=Z (λV (X:Below w.heap.size w V)=>adm V true (s:=s) pc (dx.aG HM.o (aA.af X)) G);clear hf hm ha hq o1 h0;unfold aV aI dY cQ;dsimp only;unfold dY cQ at HW;have LS:Hid (∀(a:Nat),uA a s (H ma (s.lo.length-8) mc)=#[Y a,.bool true,.string (gE s.ty),Y (bI s.lo 0),Y (bI s.lo 1),Y (bI s.lo 2),Y (bI s.lo 3),Y (bI s.lo 4),Y (bI s.lo 5),Y (bI s.lo 6),Y (bI s.lo 7),Y s.lo.length,Y s.ha,H ma (s.lo.length-8) mc]):=Z λ_=>rfl;have pX:Hid (∀(a:Nat) (mv:to),uA a {s with lo:=pc::s.lo} mv=#[Y a,.bool true,.string (gE s.ty),Y (bI (pc::s.lo) 0),Y (bI (pc::s.lo) 1),Y (bI (pc::s.lo) 2),Y (bI (pc::s.lo) 3),Y (bI (pc::s.lo) 4),Y (bI (pc::s.lo) 5),Y (bI (pc::s.lo) 6),Y (bI (pc::s.lo) 7),Y (pc::s.lo).length,Y s.ha,mv]):=Z λ_ _=>rfl;generalize v_:gE s.ty=tb at*;have ub:=Z v_;clear v_;generalize bI s.lo=lc at*;generalize CO:s.lo.length=ln at*;generalize ln-8=n8 at*;have Is:aF (((w.alloc (CA #[Y 25,Y m,Y xb,Y xc,Y xd] 40)).alloc (CA #[.bool true,.string tb,Y (lc 0),Y (lc 1),Y (lc 2),Y (lc 3),Y (lc 4),Y (lc 5),Y (lc 6),Y (lc 7),Y ln,Y s.ha,H ma n8 mc] 233)).drew) w.heap.size 40 #[Y 25,Y m,Y xb,Y xc,Y xd]:=((aF.new w _ _).alloc _).drewN 1;have gm:aF (((w.alloc (CA #[Y 25,Y m,Y xb,Y xc,Y xd] 40)).alloc (CA #[.bool true,.string tb,Y (lc 0),Y (lc 1),Y (lc 2),Y (lc 3),Y (lc 4),Y (lc 5),Y (lc 6),Y (lc 7),Y ln,Y s.ha,H ma n8 mc] 233)).drew) (w.heap.size+1) 233 #[.bool true,.string tb,Y (lc 0),Y (lc 1),Y (lc 2),Y (lc 3),Y (lc 4),Y (lc 5),Y (lc 6),Y (lc 7),Y ln,Y s.ha,H ma n8 mc]:=(aF.bR ay).drewN 1;have ru:TH w (((w.alloc (CA #[Y 25,Y m,Y xb,Y xc,Y xd] 40)).alloc (CA #[.bool true,.string tb,Y (lc 0),Y (lc 1),Y (lc 2),Y (lc 3),Y (lc 4),Y (lc 5),Y (lc 6),Y (lc 7),Y ln,Y s.ha,H ma n8 mc] 233)).drew) (Y m) (.bool true) (.string tb) (Y (lc 0)) (Y (lc 1)) (Y (lc 2)) (Y (lc 3)) (Y (lc 4)) (Y (lc 5)) (Y (lc 6)) (Y (lc 7)) (Y ln) (Y s.ha) (H ma n8 mc):=⟨Is.cell 1,gm.cell 0,gm.cell 1,gm.cell 2,gm.cell 3,gm.cell 4,gm.cell 5,gm.cell 6,gm.cell 7,gm.cell 8,gm.cell 9,gm.cell 10,gm.cell 11,gm.cell 12⟩;have ep:Below w.heap.size w (((w.alloc (CA #[Y 25,Y m,Y xb,Y xc,Y xd] 40)).alloc (CA #[.bool true,.string tb,Y (lc 0),Y (lc 1),Y (lc 2),Y (lc 3),Y (lc 4),Y (lc 5),Y (lc 6),Y (lc 7),Y ln,Y s.ha,H ma n8 mc] 233)).drew):=(hB _ _ _ _).trans (az _ _ 1);have eV:=Z ep;have KA:Hid (∀V V':ek,Below V.heap.size V V'->(TH w V (Y m) (.bool true) (.string tb) (Y (lc 0)) (Y (lc 1)) (Y (lc 2)) (Y (lc 3)) (Y (lc 4)) (Y (lc 5)) (Y (lc 6)) (Y (lc 7)) (Y ln) (Y s.ha) (H ma n8 mc))->(TH w V' (Y m) (.bool true) (.string tb) (Y (lc 0)) (Y (lc 1)) (Y (lc 2)) (Y (lc 3)) (Y (lc 4)) (Y (lc 5)) (Y (lc 6)) (Y (lc 7)) (Y ln) (Y s.ha) (H ma n8 mc))):=by exact mm
  clear Is gm ep;go_enter func247,ntmps247;go_wp2;refine Mk.bH (S:=λwx=>Vo wx (I w.heap.size 1)=O (Y m)/\Vo wx (I (w.heap.size+1) 0)=O (.bool true)/\Vo wx (I (w.heap.size+1) 1)=O (.string tb)/\Vo wx (I (w.heap.size+1) 2)=O (Y (lc 0))/\Vo wx (I (w.heap.size+1) 3)=O (Y (lc 1))/\Vo wx (I (w.heap.size+1) 4)=O (Y (lc 2))/\Vo wx (I (w.heap.size+1) 5)=O (Y (lc 3))/\Vo wx (I (w.heap.size+1) 6)=O (Y (lc 4))/\Vo wx (I (w.heap.size+1) 7)=O (Y (lc 5))/\Vo wx (I (w.heap.size+1) 8)=O (Y (lc 6))/\Vo wx (I (w.heap.size+1) 9)=O (Y (lc 7))/\Vo wx (I (w.heap.size+1) 10)=O (Y ln)/\Vo wx (I (w.heap.size+1) 11)=O (Y s.ha)/\Vo wx (I (w.heap.size+1) 12)=O (H ma n8 mc)) bh ru (λau=>?_);generalize World.drew _=V0 at*;refine Mk.tk 0 (v:=?_) rfl ?_ cY ?_;rotate_left
  ·exact pJ
  refine Mk.pt ?_;refine Mk.tk 1 (v:=?_) rfl ?_ cY ?_;rotate_left
  ·exact pJ
  refine Mk.pt ?_;refine Mk.tk 2 (v:=?_) rfl ?_ cY ?_;rotate_left
  ·exact pJ
  refine Mk.pt ?_;refine Mk.tk 3 (v:=?_) rfl ?_ cY ?_;rotate_left
  ·exact pJ
  refine Mk.pt ?_;refine Mk.tk 6 (v:=?_) rfl ?_ cY ?_;rotate_left
  ·exact pJ
  refine Mk.pt ?_;refine Mk.tk 7 (v:=?_) rfl ?_ cY ?_;rotate_left
  ·exact pJ
  refine Mk.pt ?_;refine Mk.tk 8 (v:=?_) rfl ?_ cY ?_;rotate_left
  ·exact pJ
  refine Mk.pt ?_;refine Mk.tk 9 (v:=?_) rfl ?_ cY ?_;rotate_left
  ·exact pJ
  refine Mk.pt ?_;refine dJ (rs:=[4]) bh ay ?_;refine bZ rfl (λK hK=>?_) cK;refine fH ?_;go_simp;go_at_call 302;refine(HW.o _ eV.o).mono ?_;rintro e w2 ⟨Y6,rfl,rD,dC,Cw⟩;obtain⟨na,nc,CM,-,-⟩:=aZ.val rD;dsimp only at rD CM;subst CM;have wY:=KA.o _ _ dC ru;have J_:=Z rD;have eF:=Z (eV.o.trans (dC.mono eV.o.size));have yL:=Z Cw;have LR:=Z dC;clear rD dC Cw HW;unfold dY cQ;dsimp only;rw[ub.o];generalize(pc::s.lo).length-8=n9 at*;generalize bI (pc::s.lo)=oy at*;generalize(pc::s.lo).length=Wz at*;clear au;refine hK.out _ _ wY (λau=>?_);clear hK K;refine Mk.pt ?_;refine Mk.tk 5 (v:=?_) rfl ?_ cY ?_;rotate_left
  ·exact pJ
  refine Mk.pt ?_;refine dJ (rs:=[10]) bh ay ?_;refine bZ rfl (λK hK=>?_) cK;refine fH ?_;go_simp;refine hK.out _ _ (KA.o _ _ ((aY _ _).alloc (aL _) _) wY) (λau=>?_);clear hK K;refine Mk.pt ?_;refine Mk.tk 11 (v:=?_) rfl ?_ cY ?_;rotate_left
  ·exact pJ
  refine Mk.pt ?_;refine fx bh ⟨rfl,?_⟩ _;clear au;go_wp2_with fail;refine fy rfl ?_;have BF:=eF.o.alloc eF.o.size (CA #[Y ((pc:Int)+1),.bool true,.string tb,Y (oy 0),Y (oy 1),Y (oy 2),Y (oy 3),Y (oy 4),Y (oy 5),Y (oy 6),Y (oy 7),Y Wz,Y s.ha,H na n9 nc,Y m,.bool true,.string tb,Y (lc 0),Y (lc 1),Y (lc 2),Y (lc 3),Y (lc 4),Y (lc 5),Y (lc 6),Y (lc 7),Y ln,Y s.ha,H ma n8 mc] 279);have KB:=aF.new w2 279 #[Y ((pc:Int)+1),.bool true,.string tb,Y (oy 0),Y (oy 1),Y (oy 2),Y (oy 3),Y (oy 4),Y (oy 5),Y (oy 6),Y (oy 7),Y Wz,Y s.ha,H na n9 nc,Y m,.bool true,.string tb,Y (lc 0),Y (lc 1),Y (lc 2),Y (lc 3),Y (lc 4),Y (lc 5),Y (lc 6),Y (lc 7),Y ln,Y s.ha,H ma n8 mc];exact⟨_,λi=>if i=0 then H na n9 nc else H ma n8 mc,rfl,iN.two KB (by rw[pX.o,LS.o];rfl) (J_.o.aG ((aA.refl [] w2).alloc _)) (λb X=>(yL.o b X).imp id (λh=>cU eV.o.size h)) (HM.o.aG (aA.af BF)) (λ_ X=> .inl X),BF,λb X=>by have h1:w2.heap.size=b:=fF X;have h2:=eF.o.size;omega⟩
 by_cases o5:op=26
 ·subst o5;obtain⟨m,rfl⟩:=eJ (ha ay);have hf:cH pc ⟨26,m,xb,xc,xd⟩ s=[(pc+1,s),(m,{s with lo:=s.lo.tail})]:=rfl;rw[hf];have HW:=Z (λV (X:Below w.heap.size w V)=>Bf V true (s:=s) (dx.aG HM.o (aA.af X)) (hq rfl) G);clear hf hm ha hq o1 h0;unfold aV aI dY cQ;dsimp only;unfold dY cQ at HW;have LS:Hid (∀(a:Nat),uA a s (H ma (s.lo.length-8) mc)=#[Y a,.bool true,.string (gE s.ty),Y (bI s.lo 0),Y (bI s.lo 1),Y (bI s.lo 2),Y (bI s.lo 3),Y (bI s.lo 4),Y (bI s.lo 5),Y (bI s.lo 6),Y (bI s.lo 7),Y s.lo.length,Y s.ha,H ma (s.lo.length-8) mc]):=Z λ_=>rfl;have pX:Hid (∀(a:Nat) (mv:to),uA a {s with lo:=s.lo.tail} mv=#[Y a,.bool true,.string (gE s.ty),Y (bI s.lo.tail 0),Y (bI s.lo.tail 1),Y (bI s.lo.tail 2),Y (bI s.lo.tail 3),Y (bI s.lo.tail 4),Y (bI s.lo.tail 5),Y (bI s.lo.tail 6),Y (bI s.lo.tail 7),Y s.lo.tail.length,Y s.ha,mv]):=Z λ_ _=>rfl;generalize v_:gE s.ty=tb at*;have ub:=Z v_;clear v_;generalize bI s.lo=lc at*;generalize CO:s.lo.length=ln at*;generalize ln-8=n8 at*;have Is:aF (((w.alloc (CA #[Y 26,Y m,Y xb,Y xc,Y xd] 40)).alloc (CA #[.bool true,.string tb,Y (lc 0),Y (lc 1),Y (lc 2),Y (lc 3),Y (lc 4),Y (lc 5),Y (lc 6),Y (lc 7),Y ln,Y s.ha,H ma n8 mc] 233)).drew) w.heap.size 40 #[Y 26,Y m,Y xb,Y xc,Y xd]:=((aF.new w _ _).alloc _).drewN 1;have gm:aF (((w.alloc (CA #[Y 26,Y m,Y xb,Y xc,Y xd] 40)).alloc (CA #[.bool true,.string tb,Y (lc 0),Y (lc 1),Y (lc 2),Y (lc 3),Y (lc 4),Y (lc 5),Y (lc 6),Y (lc 7),Y ln,Y s.ha,H ma n8 mc] 233)).drew) (w.heap.size+1) 233 #[.bool true,.string tb,Y (lc 0),Y (lc 1),Y (lc 2),Y (lc 3),Y (lc 4),Y (lc 5),Y (lc 6),Y (lc 7),Y ln,Y s.ha,H ma n8 mc]:=(aF.bR ay).drewN 1;have ru:TH w (((w.alloc (CA #[Y 26,Y m,Y xb,Y xc,Y xd] 40)).alloc (CA #[.bool true,.string tb,Y (lc 0),Y (lc 1),Y (lc 2),Y (lc 3),Y (lc 4),Y (lc 5),Y (lc 6),Y (lc 7),Y ln,Y s.ha,H ma n8 mc] 233)).drew) (Y m) (.bool true) (.string tb) (Y (lc 0)) (Y (lc 1)) (Y (lc 2)) (Y (lc 3)) (Y (lc 4)) (Y (lc 5)) (Y (lc 6)) (Y (lc 7)) (Y ln) (Y s.ha) (H ma n8 mc):=⟨Is.cell 1,gm.cell 0,gm.cell 1,gm.cell 2,gm.cell 3,gm.cell 4,gm.cell 5,gm.cell 6,gm.cell 7,gm.cell 8,gm.cell 9,gm.cell 10,gm.cell 11,gm.cell 12⟩;have ep:Below w.heap.size w (((w.alloc (CA #[Y 26,Y m,Y xb,Y xc,Y xd] 40)).alloc (CA #[.bool true,.string tb,Y (lc 0),Y (lc 1),Y (lc 2),Y (lc 3),Y (lc 4),Y (lc 5),Y (lc 6),Y (lc 7),Y ln,Y s.ha,H ma n8 mc] 233)).drew):=(hB _ _ _ _).trans (az _ _ 1);have eV:=Z ep;have KA:Hid (∀V V':ek,Below V.heap.size V V'->(TH w V (Y m) (.bool true) (.string tb) (Y (lc 0)) (Y (lc 1)) (Y (lc 2)) (Y (lc 3)) (Y (lc 4)) (Y (lc 5)) (Y (lc 6)) (Y (lc 7)) (Y ln) (Y s.ha) (H ma n8 mc))->(TH w V' (Y m) (.bool true) (.string tb) (Y (lc 0)) (Y (lc 1)) (Y (lc 2)) (Y (lc 3)) (Y (lc 4)) (Y (lc 5)) (Y (lc 6)) (Y (lc 7)) (Y ln) (Y s.ha) (H ma n8 mc))):=by exact mm
  clear Is gm ep;go_enter func247,ntmps247;go_wp2;refine Mk.bH (S:=λwx=>Vo wx (I w.heap.size 1)=O (Y m)/\Vo wx (I (w.heap.size+1) 0)=O (.bool true)/\Vo wx (I (w.heap.size+1) 1)=O (.string tb)/\Vo wx (I (w.heap.size+1) 2)=O (Y (lc 0))/\Vo wx (I (w.heap.size+1) 3)=O (Y (lc 1))/\Vo wx (I (w.heap.size+1) 4)=O (Y (lc 2))/\Vo wx (I (w.heap.size+1) 5)=O (Y (lc 3))/\Vo wx (I (w.heap.size+1) 6)=O (Y (lc 4))/\Vo wx (I (w.heap.size+1) 7)=O (Y (lc 5))/\Vo wx (I (w.heap.size+1) 8)=O (Y (lc 6))/\Vo wx (I (w.heap.size+1) 9)=O (Y (lc 7))/\Vo wx (I (w.heap.size+1) 10)=O (Y ln)/\Vo wx (I (w.heap.size+1) 11)=O (Y s.ha)/\Vo wx (I (w.heap.size+1) 12)=O (H ma n8 mc)) bh ru (λau=>?_);generalize World.drew _=V0 at*;refine Mk.tk 0 (v:=?_) rfl ?_ cY ?_;rotate_left
  ·exact pJ
  refine Mk.pt ?_;refine Mk.tk 1 (v:=?_) rfl ?_ cY ?_;rotate_left
  ·exact pJ
  refine Mk.pt ?_;refine Mk.tk 2 (v:=?_) rfl ?_ cY ?_;rotate_left
  ·exact pJ
  refine Mk.pt ?_;refine Mk.tk 3 (v:=?_) rfl ?_ cY ?_;rotate_left
  ·exact pJ
  refine Mk.pt ?_;refine Mk.tk 4 (v:=?_) rfl ?_ cY ?_;rotate_left
  ·exact pJ
  refine Mk.pt ?_;refine Mk.tk 5 (v:=?_) rfl ?_ cY ?_;rotate_left
  ·exact pJ
  refine Mk.pt ?_;refine Mk.tk 6 (v:=?_) rfl ?_ cY ?_;rotate_left
  ·exact pJ
  refine Mk.pt ?_;refine dJ (rs:=[7]) bh ay ?_;refine bZ rfl (λK hK=>?_) cK;refine fH ?_;go_simp;go_at_call 301;refine(HW.o _ eV.o).mono ?_;rintro e w2 ⟨Y6,rfl,rD,dC,Cw⟩;obtain⟨na,nc,CM,-,-⟩:=aZ.val rD;dsimp only at rD CM;subst CM;have wY:=KA.o _ _ dC ru;have J_:=Z rD;have eF:=Z (eV.o.trans (dC.mono eV.o.size));have yL:=Z Cw;have LR:=Z dC;clear rD dC Cw HW;unfold dY cQ;dsimp only;rw[ub.o];generalize s.lo.tail.length-8=n9 at*;generalize bI s.lo.tail=oy at*;generalize s.lo.tail.length=Wz at*;clear au;refine hK.out _ _ wY (λau=>?_);clear hK K;refine Mk.pt ?_;refine Mk.tk 8 (v:=?_) rfl ?_ cY ?_;rotate_left
  ·exact pJ
  refine Mk.pt ?_;refine dJ (rs:=[9]) bh ay ?_;refine bZ rfl (λK hK=>?_) cK;refine fH ?_;go_simp;refine hK.out _ _ (KA.o _ _ ((aY _ _).alloc (aL _) _) wY) (λau=>?_);clear hK K;refine Mk.pt ?_;refine Mk.tk 10 (v:=?_) rfl ?_ cY ?_;rotate_left
  ·exact pJ
  refine Mk.pt ?_;refine fx bh ⟨rfl,?_⟩ _;clear au;go_wp2_with fail;refine fy rfl ?_;have BF:=eF.o.alloc eF.o.size (CA #[Y ((pc:Int)+1),.bool true,.string tb,Y (lc 0),Y (lc 1),Y (lc 2),Y (lc 3),Y (lc 4),Y (lc 5),Y (lc 6),Y (lc 7),Y ln,Y s.ha,H ma n8 mc,Y m,.bool true,.string tb,Y (oy 0),Y (oy 1),Y (oy 2),Y (oy 3),Y (oy 4),Y (oy 5),Y (oy 6),Y (oy 7),Y Wz,Y s.ha,H na n9 nc] 279);have KB:=aF.new w2 279 #[Y ((pc:Int)+1),.bool true,.string tb,Y (lc 0),Y (lc 1),Y (lc 2),Y (lc 3),Y (lc 4),Y (lc 5),Y (lc 6),Y (lc 7),Y ln,Y s.ha,H ma n8 mc,Y m,.bool true,.string tb,Y (oy 0),Y (oy 1),Y (oy 2),Y (oy 3),Y (oy 4),Y (oy 5),Y (oy 6),Y (oy 7),Y Wz,Y s.ha,H na n9 nc];exact⟨_,λi=>if i=0 then H ma n8 mc else H na n9 nc,rfl,iN.two KB (by rw[pX.o,LS.o];rfl) (HM.o.aG (aA.af BF)) (λ_ X=> .inl X) (J_.o.aG ((aA.refl [] w2).alloc _)) (λb X=>(yL.o b X).imp id (λh=>cU eV.o.size h)),BF,λb X=>by have h1:w2.heap.size=b:=fF X;have h2:=eF.o.size;omega⟩
 ·have hf:cH pc ⟨op,xa,xb,xc,xd⟩ s=[(pc+1,s)]:=by unfold cH;dsimp only;rw[aw o1,aw o2,aw o3,aw o4,aw o5]
  rw[hf];have o6:¬op=0:=λe=>o1 (.inl e);have o7:¬op=27:=λe=>o1 (.inr e);clear hf hm ha hq o1;unfold aV aI dY cQ;dsimp only;have LS:Hid (uA (pc+1) s (H ma (s.lo.length-8) mc)=#[Y (pc+1:Nat),.bool true,.string (gE s.ty),Y (bI s.lo 0),Y (bI s.lo 1),Y (bI s.lo 2),Y (bI s.lo 3),Y (bI s.lo 4),Y (bI s.lo 5),Y (bI s.lo 6),Y (bI s.lo 7),Y s.lo.length,Y s.ha,H ma (s.lo.length-8) mc]):=Z rfl;generalize gE s.ty=tb at*;generalize bI s.lo=lc at*;exact l6
def PI(op:Nat)(i:Nat):to:=Y ((b_ op).getD i 0:Nat)
def ade(w:ek)(op:Nat)(e:Ending)(w':ek):Prop:=∃tv,e=Vl (.agg #[tv,Y (cG op:Nat)])/\aZ w' 1 tv (b_ op).length (PI op)/\Below w.heap.size w w'
def aei{W:ek}{b:Nat}{x:to}{g:Nat->to}(h:aF W b 3 #[x])(e:g 0=x):aZ W 1 (H (O (I b 0)) 1 1) 1 g:=
 .inr ⟨_,_,rfl,aL _,by unfold maxLen;omega,λo ho=>⟨rfl,by
   obtain rfl:o=0:=G;rw[e];exact h.cell 0⟩⟩
def aej{W:ek}{b:Nat}{x y:to}{g:Nat->to}(h:aF W b 3 #[x,y])(e:g 0=x)(e2:g 1=y):aZ W 1 (H (O (I b 0)) 2 2) 2 g:=
 .inr ⟨_,_,rfl,aL _,by unfold maxLen;omega,λo ho=>⟨rfl,by
   have:o=0\/o=1:=G;rcases this with rfl|rfl
   ·rw[e];exact h.cell 0
   ·rw[e2];exact h.cell 1⟩⟩
def ac9(w:ek)(op:Nat)(dW:op<42):Calls prog 298 #[Y op] w (ade w op):=by
 have hB:=qq w;have e:op=0\/op=1\/op=2\/op=3\/op=4\/op=5\/op=6\/op=7\/op=8\/op=9\/op=10\/op=11\/op=12\/op=13\/op=14\/op=15\/op=16\/op=17\/op=18\/op=19\/op=20\/op=21\/op=22\/op=23\/op=24\/op=25\/op=26\/op=27\/op=28\/op=29\/op=30\/op=31\/op=32\/op=33\/op=34\/op=35\/op=36\/op=37\/op=38\/op=39\/op=40\/op=41:=G;rcases e with rfl|rfl|rfl|rfl|rfl|rfl|rfl|rfl|rfl|rfl|rfl|rfl|rfl|rfl|rfl|rfl|rfl|rfl|rfl|rfl|rfl|rfl|rfl|rfl|rfl|rfl|rfl|rfl|rfl|rfl|rfl|rfl|rfl|rfl|rfl|rfl|rfl|rfl|rfl|rfl|rfl|rfl
 all_goals
  go_enter func298,ntmps298;go_wp2_with fail
  first
  |(refine bK ?_ rfl ⟨H MT 0 0,rfl,.inl ⟨rfl,rfl⟩,hB _ _⟩;simp[results,results298,go_sem,cG];done)
  |(refine bK ?_ rfl ⟨H (O ⟨w.heap.size+1,0,MT⟩) 2 2,rfl,aej (aF.bR ay) rfl rfl,(hB _ _).alloc (by simp only[aM];omega) _⟩;simp[results,results298,go_sem,cG];done)
  |(refine bK ?_ rfl ⟨H (O ⟨w.heap.size+1,0,MT⟩) 1 1,rfl,aei (aF.bR ay) rfl,(hB _ _).alloc (by simp only[aM];omega) _⟩;simp[results,results298,go_sem,cG];done)
def ac8(n:Nat):∃k c,b_ n=List.replicate k c/\k<=2/\(c=1\/c=2\/(c=3/\k=2))/\(n=19↔c=3):=by
 have uQ:b_ 19=[3,3]:=rfl;rcases u_ n with h|h|h|h|⟨e,h⟩
 ·exact⟨0,1,h,G,.inl rfl,⟨λe=>(by subst e;rw[uQ]at h;cases h),λe=>by cases e⟩⟩
 ·exact⟨1,1,h,G,.inl rfl,⟨λe=>(by subst e;rw[uQ]at h;cases h),λe=>by cases e⟩⟩
 ·exact⟨1,2,h,G,.inr (.inl rfl),⟨λe=>(by subst e;rw[uQ]at h;cases h),λe=>by cases e⟩⟩
 ·exact⟨2,1,h,G,.inl rfl,⟨λe=>(by subst e;rw[uQ]at h;cases h),λe=>by cases e⟩⟩
 ·exact⟨2,3,h,G,.inr (.inr ⟨rfl,rfl⟩),⟨λ_=>rfl,λ_=>e⟩⟩
def ac7:∀n,n<42->cG n<=2:=by decide
def ac6(ty:List Nat)(w:ek){j:Nat}(hj:j<ty.length)(ht:fe ty):(Instr.index 9 (.string (gE ty)) (Y ((ty.length-1-j:Nat):Int))).run prog w= .ok (.int .u8 (ty.getD j 0)) w:=by have hs:=o_ ty;have hi:0<=((ty.length-1-j:Nat):Int)/\((ty.length-1-j:Nat):Int)<((gE ty).size:Int):=G;rw[run_index_string w _ _ _ _ underlying9,dif_pos hi];have h3:=E1 ty (ty.length-1-j);rw[Ih hj]at h3;simp only[Int.toNat_natCast];have h2:ty.length-1-j<(gE ty).size:=G;rw[getElem?_pos (gE ty) _ h2]at h3;simp only[Option.map_some,im]at h3;rw[h3];rcases ht.at hj with e|e<;>rw[e]<;>rfl
def ac5{k c:Nat}{ty:List Nat}(hk:k<=ty.length)(hc:c≠3):iK (List.replicate k c) ty=true↔∀j,j<k->ty.getD j 0=c:=by
 induction k generalizing ty with
 |zero=>simp[iK]
 |succ k ih=>
  cases ty with
  |nil=>simp at hk
  |cons t ts=>
   rw[List.replicate_succ,iK];simp only[fp,Bool.or_eq_true,beq_iff_eq,hc,false_or];rw[ih (by simpa using hk)];constructor
   ·rintro⟨e,h⟩ j hj;cases j with
    |zero=>exact e
    |succ j=>exact h j G
   ·intro h;exact⟨h 0 G,λj hj=>h (j+1) G⟩
def ry(w:ek)(th:Bool)(s:Std)(mv:to)(x:Ins)(e:Ending)(w':ek):Prop:=
 ∃s',e=Vl (.tuple #[dY th s' mv,Y (bQ x s.ty)])/\(bQ x s.ty=0->s'={s with ty:=a_ x s.ty})/\Below w.heap.size w w'
def Qr(xb sb rb X n:Nat)(tv:to)(k i:Nat)(a:Act):Prop:=∃J:Nat->to,a={tmps:=#[J 0,J 1,J 2,J 3,V5 xb,V5 sb,V5 rb,J 7,V5 X,Y n,J 10,J 11,J 12,J 13,J 14,J 15,J 16,J 17,J 18,J 19,J 20,J 21,J 22,J 23,J 24,J 25,J 26,J 27,J 28,J 29,J 30,J 31,J 32,J 33,J 34,J 35,J 36,J 37,J 38,J 39,J 40,J 41,J 42,J 43,J 44,J 45,tv,Y k,Y i,J 49,J 50,J 51,J 52,J 53,J 54,J 55,J 56,J 57,J 58,J 59,J 60,J 61,J 62,J 63,J 64,J 65,J 66,J 67,J 68,J 69,J 70,J 71,J 72,J 73,J 74,J 75,J 76,J 77,J 78,J 79,J 80,J 81,J 82,J 83,J 84,J 85,J 86,J 87,J 88,J 89,J 90,J 91,J 92,J 93,J 94,J 95,J 96,J 97,J 98,J 99,J 100,J 101,J 102,J 103],defers:=[]}
def OTk(ty:List Nat)(k c i:Nat):Prop:=(c=3->0<i->ty.getD 0 0=ty.getD 1 0)/\(c≠3->∀j,j<i->ty.getD (k-1-j) 0=c)
def It(w:ek)(xb sb rb X n:Nat)(tv:to)(k:Nat)(P:ek->Prop)(a0f:Nat->Prop)(m:Nat)(a:Act)(W:ek):Prop:=
 ∃i,i<=k/\m+i=k+1/\Qr xb sb rb X n tv k i a/\Hid (Below w.heap.size w W)/\Hid (P W)/\Hid (a0f i)
structure RL(W:ek)(cW:Nat)(op xa xb xc xd:Int)(th:Bool)(tb:ByteArray)(lc:Nat->Nat)(ln ha:Nat)(mv tv:to)(k n:Nat):Prop where
 x:aF W cW 40 #[Y op,Y xa,Y xb,Y xc,Y xd]
 s:aF W (cW+1) 233 #[.bool th,.string tb,Y (lc 0),Y (lc 1),Y (lc 2),Y (lc 3),Y (lc 4),Y (lc 5),Y (lc 6),Y (lc 7),Y ln,Y ha,mv]
 r:aF W (cW+1+1) 233 #[.bool false,.string ⟨#[]⟩,Y 0,Y 0,Y 0,Y 0,Y 0,Y 0,Y 0,Y 0,Y 0,Y 0,Vn]
 t:aZ W 1 tv k (PI n)
def RL.aG{W W':ek}{cW:Nat}{op xa xb xc xd:Int}{th:Bool}{tb:ByteArray}{lc:Nat->Nat}{ln ha:Nat}{mv tv:to}{k n:Nat}(h:RL W cW op xa xb xc xd th tb lc ln ha mv tv k n)(f:aA [] W W'):RL W' cW op xa xb xc xd th tb lc ln ha mv tv k n:=
 ⟨h.x.aG f ay,h.s.aG f ay,h.r.aG f ay,h.t.aG f⟩
def abY(w:ek)(cW X n:Nat)(xa xb xc xd:Int)(th:Bool)(tb:ByteArray)(lc:Nat->Nat)(ln ha:Nat)(mv:to)(ty:List Nat)(k c g:Nat)(ta:Option Addr)(tc:Nat)(a:Act)(W:ek):Prop:=
 Qr cW (cW+1) (cW+1+1) X (ty.length-k) (H ta k tc) k k a/\Hid (Below w.heap.size w W)/\Hid (RL W cW n xa xb xc xd th tb lc ln ha mv (H ta k tc) k n/\aF W X 316 #[H ta k tc,Y g])/\Hid (OTk ty k c k)
def kK:Code->Option Code
 | .loop c=>O c
 | .seq a b=>match kK a with
   |some c=>O c
   |none=>kK b
 | .block _ c=>kK c
 | .scope c=>kK c
 | .cond _ a b=>match kK a with
   |some c=>O c
   |none=>kK b
 |_=>MT
noncomputable def ac4:Code:=(Proofs.Tryz.f243.body.bind kK).getD .skip
def sy{p:Prop}(h:p:=by
 go_wp2;go_quiet (fail);go_wp2;exact⟨i+1,G,G,qi rfl,Z (HB.o.trans (az _ _ _)),Z (HPD.o _),yL⟩):p:=h
def ME{p:Prop}(h:p:=by
 rw[HE.o];simp[results,results243,go_sem,i0,i1,i2,i3,i4,i5,i6,i7,i8,i9,i10,i11,i12,dY,cQ,ub.o,CN.o,sD.o]):p:=h
def MD{p:Prop}(h:p:=by
 go_wp2;go_quiet (fail);generalize hW2:W.drewN _=W2 at*;have P2:RL W2 cW n xa xb xc xd th tb lc ln ha (H ma mn mc) (H (O (I rb_ Zj)) k tc) k n/\aF W2 X 316 #[H (O (I rb_ Zj)) k tc,Y g]:=by rw[<-hW2];exact HPD.o _
 have B2:Below w.heap.size w W2:=by rw[<-hW2];exact HB.o.trans (az _ _ _)
 clear hW2;obtain⟨K2,kh2⟩:=P2;have eF:=Z B2;have nI:=Z K2;obtain⟨s0,s1,s2,s3,s4,s5,s6,s7,s8,s9,RM,MV,Eu⟩:=K2.s.ri;obtain⟨z0,z1,z2,z3,z4,z5,z6,z7,z8,z9,z10,TO,z12⟩:=K2.r.ri;have fz:=K2.r.frozen;have l0:=K2.x.lt;have l1:=K2.s.lt;have l2:=K2.r.lt;clear K2 kh2 B2;go_wp2_with fail;have f9:aA [cW+1+1] W2 _:=((((((((((((((aA.refl [cW+1+1] W2).setCell (p:=(I (cW+1+1) 0)) ay (.bool th)).setCell (p:=(I (cW+1+1) 1)) ay (.string tb)).setCell (p:=(I (cW+1+1) 2)) ay (Y (lc 0))).setCell (p:=(I (cW+1+1) 3)) ay (Y (lc 1))).setCell (p:=(I (cW+1+1) 4)) ay (Y (lc 2))).setCell (p:=(I (cW+1+1) 5)) ay (Y (lc 3))).setCell (p:=(I (cW+1+1) 6)) ay (Y (lc 4))).setCell (p:=(I (cW+1+1) 7)) ay (Y (lc 5))).setCell (p:=(I (cW+1+1) 8)) ay (Y (lc 6))).setCell (p:=(I (cW+1+1) 9)) ay (Y (lc 7))).setCell (p:=(I (cW+1+1) 10)) ay (Y ln)).setCell (p:=(I (cW+1+1) 11)) ay (Y ha)).setCell (p:=(I (cW+1+1) 12)) ay (H ma mn mc));have b9:=(((((((((((((nI.o.r.set 0 (.bool th)).set 1 (.string tb)).set 2 (Y (lc 0))).set 3 (Y (lc 1))).set 4 (Y (lc 2))).set 5 (Y (lc 3))).set 6 (Y (lc 4))).set 7 (Y (lc 5))).set 8 (Y (lc 6))).set 9 (Y (lc 7))).set 10 (Y ln)).set 11 (Y ha)).set 12 (H ma mn mc));simp only[List.setIfInBounds_toArray,List.set_cons_zero,List.set_cons_succ]at b9;have B9:=eF.o.trans (f9.below (B:=w.heap.size) eF.o.size (by simp only[List.mem_singleton];intro k hk;have:=Zk.o;omega));generalize(((((((((((((W2.setCell (I (cW+1+1) 0) (.bool th)).setCell (I (cW+1+1) 1) (.string tb)).setCell (I (cW+1+1) 2) (Y (lc 0))).setCell (I (cW+1+1) 3) (Y (lc 1))).setCell (I (cW+1+1) 4) (Y (lc 2))).setCell (I (cW+1+1) 5) (Y (lc 3))).setCell (I (cW+1+1) 6) (Y (lc 4))).setCell (I (cW+1+1) 7) (Y (lc 5))).setCell (I (cW+1+1) 8) (Y (lc 6))).setCell (I (cW+1+1) 9) (Y (lc 7))).setCell (I (cW+1+1) 10) (Y ln)).setCell (I (cW+1+1) 11) (Y ha)).setCell (I (cW+1+1) 12) (H ma mn mc))=W9 at*;obtain⟨i0,i1,i2,i3,i4,i5,i6,i7,i8,i9,i10,i11,i12⟩:=b9.ri;clear b9 f9;refine iU _ _ (bK ?_ rfl ⟨⟨ty,lo,ha⟩,rfl,λh=>(by rw[HE.o]at h;cases h),B9⟩);exact ME):p:=h
def ac3{w:ek}{cW X n k c g ln ha tc mn mc:Nat}{xa xb xc xd:Int}{th:Bool}{tb:ByteArray}{lc:Nat->Nat}{ta ma:Option Addr}{ty lo:List Nat}(Zk:Hid (w.heap.size=cW))(Ka:Hid (∀(V:ek) (j:Nat),j<ty.length->(Instr.index 9 (.string tb) (Y ((ty.length-1-j:Nat):Int))).run prog V= .ok (.int .u8 (ty.getD j 0:Nat)) V))(Js:Hid (fe ty))(ub:Hid (gE ty=tb))(CN:Hid (bI lo=lc))(sD:Hid (lo.length=ln))
 (GV:Hid (bQ ⟨n,xa,xb,xc,xd⟩ ty=if(!iK (List.replicate k c) ty||(decide ((n:Int)=19)&&ty.getD 0 0 !=ty.getD 1 0))=true then 94 else 0)) (sg:Hid (k<=ty.length->c≠3->(iK (List.replicate k c) ty=true↔∀j,j<k->ty.getD j 0=c))) (HL:Hid (b_ n=List.replicate k c)) (uQ:n=19↔c=3) (hc:c=1\/c=2\/c=3/\k=2) (hk:k<=2) (Zd:k<=ty.length) (hl:ty.length<=256) (l9:cW+1+1<X)
 {Q:Exit->Act->ek->Prop} (iU:∀a W,bodyPost prog Proofs.Tryz.f243 (ry w th ⟨ty,lo,ha⟩ (H ma mn mc) ⟨n,xa,xb,xc,xd⟩) .ret a W->Q .ret a W) (d_:∀a W,abY w cW X n xa xb xc xd th tb lc ln ha (H ma mn mc) ty k c g ta tc a W->Q (.exit 0) a W)
 {m:Nat} {a0:Act} {W:ek} (hI:(It w cW (cW+1) (cW+1+1) X (ty.length-k) (H ta k tc) k (λW=>RL W cW n xa xb xc xd th tb lc ln ha (H ma mn mc) (H ta k tc) k n/\aF W X 316 #[H ta k tc,Y g]) (OTk ty k c)) (m+1) a0 W):ac4.wp prog (Exit.then ((It w cW (cW+1) (cW+1+1) X (ty.length-k) (H ta k tc) k (λW=>RL W cW n xa xb xc xd th tb lc ln ha (H ma mn mc) (H ta k tc) k n/\aF W X 316 #[H ta k tc,Y g]) (OTk ty k c)) m) Q) a0 W:=by
 have w2:IntKind.i64.wrap (((ty.length-k:Nat):Int)+1)=((ty.length-k:Nat):Int)+1:=bJ _ lI;unfold ry at iU;obtain⟨i,hi,hm,⟨J,rfl⟩,HB,HP,HO⟩:=hI
 conv=>arg 2;whnf
 obtain⟨K1,kh⟩:=HP.o;obtain⟨h0,h1⟩:=kh.c2;have lh:=kh.lt;clear kh;obtain⟨s0,s1,s2,s3,s4,s5,s6,s7,s8,s9,RM,MV,Eu⟩:=K1.s.ri;obtain⟨z0,z1,z2,z3,z4,z5,z6,z7,z8,z9,z10,TO,z12⟩:=K1.r.ri;have fz:=K1.r.frozen;have l0:=K1.x.lt;have l1:=K1.s.lt;have l2:=K1.r.lt;have c0:=K1.x.c1;have HPD:=Z (λq=>(show RL (W.drewN q) cW n xa xb xc xd th tb lc ln ha (H ma mn mc) (H ta k tc) k n/\aF (W.drewN q) X 316 #[H ta k tc,Y g]from⟨K1.aG ((aA.refl [] W).drewN q),HP.o.2.drewN q⟩));by_cases be:i<k
 ·obtain⟨rb_,Zj,ae6,hv,-,-,oE,Kb⟩:=K1.t.some G G;simp only[cz]at hv;obtain⟨rfl,-,rfl⟩:=hv;have d0:Vo W (I rb_ (Zj+i))=O (Y c):=by rw[Kb i G];unfold PI;rw[HL.o,dN,List.getElem?_replicate,aB be];rfl
  have hjl:k-1-i<ty.length:=G;have hix:∀V,(Instr.index 9 (.string tb) (Y (((ty.length-k:Nat):Int)+(i:Int)))).run prog V= .ok (.int .u8 (ty.getD (k-1-i) 0:Nat)) V:=λV=>by have:=Ka.o V (k-1-i) hjl;rw[show((ty.length-k:Nat):Int)+(i:Int)=((ty.length-1 - (k-1-i):Nat):Int)by omega];exact this
  have w3:IntKind.i64.wrap (((ty.length-k:Nat):Int)+(i:Int))=((ty.length-k:Nat):Int)+(i:Int):=bJ _ lI;have w4:IntKind.i64.wrap ((i:Int)+1)=(i:Int)+1:=bJ _ lI;have hti:=Js.o.at hjl;have HTI:=Z (rfl:ty.getD (k-1-i) 0=ty.getD (k-1-i) 0);clear K1 Kb oE HP;by_cases Mt:c=3
  ·have jZ:k=2:=G;have aek:((n:Int)==19)=true:=by have:=uQ.2 Mt;simp;omega
   have ha0:ty.getD 0 0=1\/ty.getD 0 0=2:=Js.o.at G;have ha1:ty.getD 1 0=1\/ty.getD 1 0=2:=Js.o.at G;have Nf:∀V,(Instr.index 9 (.string tb) (Y ((ty.length-k:Nat):Int))).run prog V= .ok (.int .u8 (ty.getD 1 0:Nat)) V:=λV=>by have:=Ka.o V 1 G;rw[show((ty.length-k:Nat):Int)=((ty.length-1-1:Nat):Int)by omega];exact this
   have FU:∀V,(Instr.index 9 (.string tb) (Y (((ty.length-k:Nat):Int)+1))).run prog V= .ok (.int .u8 (ty.getD 0 0:Nat)) V:=λV=>by have:=Ka.o V 0 G;rw[show((ty.length-k:Nat):Int)+1=((ty.length-1-0:Nat):Int)by omega];exact this
   have ae7:=Z jZ;have IJ:=Z (uQ.2 Mt);clear jZ uQ hc HTI;subst Mt;generalize ty.getD (k-1-i) 0=t at*;generalize Zl:ty.getD 0 0=t0 at*;generalize Jo:ty.getD 1 0=t1 at*;have Zm:=Z Zl;have O7:=Z Jo;clear Zl Jo;by_cases he:t0=t1
   ·subst he;have yL:=Z (show OTk ty k 3 (i+1)from⟨λ_ _=>Zm.o.trans O7.o.symm,λe=>absurd rfl e⟩);clear HO Zm O7 ha0;have e1:((t0:Int)!=(t0:Int))=false:=by simp
    clear hti ha1
    all_goals
     exact sy
   ·have HE:=Z (show bQ ⟨n,xa,xb,xc,xd⟩ ty=94 by
     rw[GV.o,aB];rw[IJ.o];simp[he])
    clear HO GV Zm O7 sg HL IJ;have e1:((t1:Int)!=(t0:Int))=true:=by simp;omega
    clear hti ha1 ha0
    all_goals
     clear he;exact MD
  ·have aek:((n:Int)==19)=false:=by have:=λe=>Mt (uQ.1 e);simp;omega
   have mZ:c=1\/c=2:=G;have HC3:=Z Mt;clear Mt uQ hc;generalize ht9:ty.getD (k-1-i) 0=t at*;have HT9:=Z ht9;clear ht9 HTI;by_cases Dr:t=c
   ·subst Dr;clear hti;have yL:=Z (show OTk ty k t (i+1)from⟨λe=>absurd e HC3.o,λe j hj=>by
     by_cases e2:j=i
     ·subst e2;exact HT9.o
     ·exact HO.o.2 e j G⟩)
    clear HO;have e1:((t:Int)!=3)=true:=by simp;omega
    have e3:((t:Int)!=(t:Int))=false:=by simp
    have wZ:t<=2:=G;clear mZ
    all_goals
     exact sy
   ·have HE:=Z (show bQ ⟨n,xa,xb,xc,xd⟩ ty=94 by
     rw[GV.o,aB];have:iK (List.replicate k c) ty=false:=by
      cases hf:iK (List.replicate k c) ty with
      |false=>rfl
      |true=>exact absurd (HT9.o.symm.trans ((sg.o Zd HC3.o).1 hf (k-1-i) G)) Dr
     rw[this];rfl)
    clear HO GV HT9 sg HL;have e1:((c:Int)!=3)=true:=by simp;omega
    have e2:((t:Int)!=(c:Int))=true:=by simp;omega
    have wZ:t<=2:=G;clear mZ hti
    all_goals
     clear Dr;exact MD
 ·obtain rfl:i=k:=G;go_wp2_with fail
  first
  |exact d_ _ _ ⟨qi rfl,HB,HP,HO⟩
  |exact⟨qi rfl,HB,HP,HO⟩
def aD{p:Prop}(h:p:=by
 obtain⟨i0,i1,i2,i3,i4,i5,i6,i7,i8,i9,i10,i11,i12⟩:=b9.ri;clear b9 f9;refine bK ?_ rfl ⟨⟨a_ ⟨n,xa,xb,xc,xd⟩ ty,lo,ha⟩,rfl,λ_=>rfl,B9⟩;rw[HE.o];simp[results,results243,go_sem,i0,i1,i2,i3,i4,i5,i6,i7,i8,i9,i10,i11,i12,dY,cQ,HTV.o,CN.o,sD.o]):p:=h
def Zn{p:Prop}(h:p:=by
 go_wp2_with fail;have f9:aA [cW+1+1] w' _:=(((((((((((((((aA.refl [cW+1+1] w').setCell (p:=(I (cW+1+1) 0)) ay (.bool th)).setCell (p:=(I (cW+1+1) 1)) ay (.string tb)).setCell (p:=(I (cW+1+1) 2)) ay (Y (lc 0))).setCell (p:=(I (cW+1+1) 3)) ay (Y (lc 1))).setCell (p:=(I (cW+1+1) 4)) ay (Y (lc 2))).setCell (p:=(I (cW+1+1) 5)) ay (Y (lc 3))).setCell (p:=(I (cW+1+1) 6)) ay (Y (lc 4))).setCell (p:=(I (cW+1+1) 7)) ay (Y (lc 5))).setCell (p:=(I (cW+1+1) 8)) ay (Y (lc 6))).setCell (p:=(I (cW+1+1) 9)) ay (Y (lc 7))).setCell (p:=(I (cW+1+1) 10)) ay (Y ln)).setCell (p:=(I (cW+1+1) 11)) ay (Y ha)).setCell (p:=(I (cW+1+1) 12)) ay (H ma mn mc)).alloc (CA #[H ta k tc,Y g] 316));have b9:=(((((((((((((nG.o.r.set 0 (.bool th)).set 1 (.string tb)).set 2 (Y (lc 0))).set 3 (Y (lc 1))).set 4 (Y (lc 2))).set 5 (Y (lc 3))).set 6 (Y (lc 4))).set 7 (Y (lc 5))).set 8 (Y (lc 6))).set 9 (Y (lc 7))).set 10 (Y ln)).set 11 (Y ha)).set 12 (H ma mn mc));simp only[List.setIfInBounds_toArray,List.set_cons_zero,List.set_cons_succ]at b9;replace b9:=b9.alloc (CA #[H ta k tc,Y g] 316);have B9:=CP.o.trans (f9.below (B:=w.heap.size) CP.o.size (by simp only[List.mem_singleton];intro k hk;have:=Zk.o;omega));generalize((((((((((((((w'.setCell (I (cW+1+1) 0) (.bool th)).setCell (I (cW+1+1) 1) (.string tb)).setCell (I (cW+1+1) 2) (Y (lc 0))).setCell (I (cW+1+1) 3) (Y (lc 1))).setCell (I (cW+1+1) 4) (Y (lc 2))).setCell (I (cW+1+1) 5) (Y (lc 3))).setCell (I (cW+1+1) 6) (Y (lc 4))).setCell (I (cW+1+1) 7) (Y (lc 5))).setCell (I (cW+1+1) 8) (Y (lc 6))).setCell (I (cW+1+1) 9) (Y (lc 7))).setCell (I (cW+1+1) 10) (Y ln)).setCell (I (cW+1+1) 11) (Y ha)).setCell (I (cW+1+1) 12) (H ma mn mc)).alloc (CA #[H ta k tc,Y g] 316))=W9 at*;obtain⟨i0,i1,i2,i3,i4,i5,i6,i7,i8,i9,i10,i11,i12⟩:=b9.ri;clear b9 f9;refine bK ?_ rfl ⟨⟨ty,lo,ha⟩,rfl,λh=>(by rw[HE.o]at h;cases h),B9⟩;exact ME):p:=h
def acZ(w:ek){mv vv:to}(th:Bool){s:Std}{x:Ins}(h0:0<=x.op)(h41:x.op<=41)(hl:s.ty.length<=256)(ht:fe s.ty)(hm:∃a n c,mv=H a n c):
 Calls prog 243 #[vv,aV x,dY th s mv] w (ry w th s mv x):=by
 obtain⟨op,xa,xb,xc,xd⟩:=x;obtain⟨ty,lo,ha⟩:=s;obtain⟨ma,mn,mc,rfl⟩:=hm;dsimp only at h0 h41 hl ht;obtain⟨n,rfl⟩:=eJ h0;have E_:n<42:=G;have HS:=Z (λV=>ac9 V n E_);obtain⟨k,c,hL,hk,hc,uQ⟩:=ac8 n;have hg:=ac7 n E_;have HT:=Z (show bQ ⟨n,xa,xb,xc,xd⟩ ty=if ty.length<k\/((n:Int)=0/\0<ty.length)\/(cG n≠0/\256<ty.length-k+1)then 93 else if !iK (List.replicate k c) ty||(decide ((n:Int)=19)&&ty.getD 0 0 !=ty.getD 1 0)then 94 else 0 by
  unfold bQ;dsimp only[Int.toNat_natCast];rw[hL,List.length_replicate])
 have HV:=Z (show a_ ⟨n,xa,xb,xc,xd⟩ ty=if cG n=0 then ty.drop k else cG n::ty.drop k by unfold a_;dsimp only[Int.toNat_natCast];rw[hL,List.length_replicate]);have kw:=o_ ty;have hB:=qq w;unfold aV aI dY cQ ry;dsimp only;have rF:(b_ n).length=k:=by rw[hL,List.length_replicate]
 have gen:∀(W:ek) (cx cs cr:Array to) (tx ts:TypeId),Below W.heap.size W (((W.alloc (CA cx tx)).alloc (CA cs ts)).alloc (CA cr ts)):=λW cx cs cr tx ts=>(((aY _ _).alloc (aL _) _).alloc ay _).alloc (by simp only[aM];omega) _;go_enter func243,ntmps243;go_wp2_with fail;refine(HS.o _).mono ?_;rintro e w' ⟨tv,rfl,bo,X⟩;have CQ:=(gen w _ _ _ _ _).trans (X.mono (by simp only[aM];omega));have kx:aF w' w.heap.size 40 #[Y n,Y xa,Y xb,Y xc,Y xd]:=(((aF.new w _ _).alloc _).alloc _).of (X.block _ (by simp only[aM];omega));have ks:aF w' (w.heap.size+1) 233 #[.bool th,.string (gE ty),Y (bI lo 0),Y (bI lo 1),Y (bI lo 2),Y (bI lo 3),Y (bI lo 4),Y (bI lo 5),Y (bI lo 6),Y (bI lo 7),Y lo.length,Y ha,H ma mn mc]:=((aF.bR ay).alloc _).of (X.block _ (by simp only[aM];omega));have kr:aF w' (w.heap.size+1+1) 233 #[.bool false,.string ⟨#[]⟩,Y 0,Y 0,Y 0,Y 0,Y 0,Y 0,Y 0,Y 0,Y 0,Y 0,Vn]:=(aF.bR ay).of (X.block _ (by simp only[aM];omega));obtain⟨ta,tc,rfl,t1,t2⟩:=bo.val;rw[rF]at bo t1;generalize kW:w.heap.size=cW at*;rw[rF];rw[<-kW]at CQ;have vK:=CQ.alloc CQ.size (CA #[H ta k tc,Y (cG n:Nat)] 316);have Ka:=Z (λV j (hj:j<ty.length)=>ac6 ty V hj ht);have Js:=Z ht;have sg:=Z (λ(hk:k<=ty.length) (hc:c≠3)=>ac5 hk hc);have HL:=Z hL;have RY:0<=n:=cM _;have CP:=Z CQ;have Zk:=Z kW;clear CQ X gen hB HS ht hL rF kW;generalize lG:cG n=g at*;have HG:=Z lG;clear lG;generalize v_:gE ty=tb at*;have ub:=Z v_;clear v_;generalize Fc:bI lo=lc at*;have CN:=Z Fc;clear Fc;generalize CO:lo.length=ln at*;have sD:=Z CO;clear CO;have HB:=Z vK;clear vK;have K0:RL w' cW n xa xb xc xd th tb lc ln ha (H ma mn mc) (H ta k tc) k n:=⟨kx,ks,kr,bo⟩;have nG:=Z K0;clear kx ks kr bo;obtain⟨s0,s1,s2,s3,s4,s5,s6,s7,s8,s9,RM,MV,Eu⟩:=K0.s.ri;obtain⟨z0,z1,z2,z3,z4,z5,z6,z7,z8,z9,z10,TO,z12⟩:=K0.r.ri;have fz:=K0.r.frozen;have l0:=K0.x.lt;have l1:=K0.s.lt;have l2:=K0.r.lt;have c0:=K0.x.c1;by_cases hA1:ty.length<k
 ·all_goals
   have qw:((ty.length:Int) - (k:Int)<0)=True:=by simp;omega
   have HE:=Z (show bQ ⟨n,xa,xb,xc,xd⟩ ty=93 by rw[HT.o,aB (.inl hA1)]);clear Ka;exact Zn
 have w1:IntKind.i64.wrap ((ty.length:Int) - (k:Int))=((ty.length-k:Nat):Int):=by rw[bJ _ lI];omega
 have Tx:((ty.length:Int) - (k:Int))=((ty.length-k:Nat):Int):=G;by_cases hA2:n=0/\0<ty.length
 ·all_goals
   obtain⟨rfl,Cm⟩:=hA2;have Is:k=0:=by have:=HL.o;rw[show b_ 0=[]from rfl]at this;exact(by simpa using bu List.length this.symm)
   have hp9:0<ty.length-k:=G;have HE:=Z (show bQ ⟨(0:Nat),xa,xb,xc,xd⟩ ty=93 by rw[HT.o,aB (.inr (.inl ⟨rfl,Cm⟩))]);clear Ka Is Cm;exact Zn
 by_cases Aa:g≠0/\256<ty.length-k+1
 ·all_goals
   obtain⟨Zl,Jo⟩:=Aa;have RY:0<n:=by
    rcases Nat.eq_zero_or_pos n with e|e
    ·subst e;exact absurd HG.o.symm Zl
    ·exact e
   have w2:IntKind.i64.wrap (((ty.length-k:Nat):Int)+1)=((ty.length-k:Nat):Int)+1:=bJ _ lI;have hg2:((g:Int)!=0)=true:=by simp;omega
   have HE:=Z (show bQ ⟨n,xa,xb,xc,xd⟩ ty=93 by rw[HT.o,aB (.inr (.inr ⟨Zl,Jo⟩))]);clear Ka;exact Zn
 have Zd:k<=ty.length:=G;have GV:=Z (show bQ ⟨n,xa,xb,xc,xd⟩ ty=if(!iK (List.replicate k c) ty||(decide ((n:Int)=19)&&ty.getD 0 0 !=ty.getD 1 0))=true then 94 else 0 by
  rw[HT.o,aw];rintro(h|h|h)
  ·exact hA1 h
  ·exact hA2 ⟨G,h.2⟩
  ·exact Aa h)
 have zh:(((n:Int)==0)=true/\decide (0<((ty.length-k:Nat):Int))=false/\decide (0<ty.length-k)=false/\((g:Int)!=0)=false)\/(0<n/\((g:Int)!=0)=false)\/(0<n/\0<g/\ty.length-k+1<=256):=by
  rcases Nat.eq_zero_or_pos n with e|e
  ·left;have Zl:g=0:=by rw[<-HG.o,e];rfl
   have hl0:ty.length-k=0:=G;exact⟨by rw[e];rfl,by rw[hl0];rfl,by rw[hl0];rfl,by rw[Zl];rfl⟩
  ·rcases Nat.eq_zero_or_pos g with e2|e2
   ·exact .inr (.inl ⟨e,by rw[e2];rfl⟩)
   ·exact .inr (.inr ⟨e,e2,by have:¬(g≠0/\256<ty.length-k+1):=Aa;omega⟩)
 have w2:IntKind.i64.wrap (((ty.length-k:Nat):Int)+1)=((ty.length-k:Nat):Int)+1:=bJ _ lI;have l9:cW+1+1<w'.heap.size:=l2;clear hA1 hA2 Aa HT;rcases zh with⟨b1,b2,b3,b4⟩|⟨b1,b2⟩|⟨b1,b2,b3⟩
 all_goals
  go_wp2;refine Mk.aN (It w cW (cW+1) (cW+1+1) w'.heap.size (ty.length-k) (H ta k tc) k (λW=>RL W cW n xa xb xc xd th tb lc ln ha (H ma mn mc) (H ta k tc) k n/\aF W w'.heap.size 316 #[H ta k tc,Y g]) (OTk ty k c)) (k+1) ?start ?zero ?round
  case start=>exact⟨0,cM _,G,qi rfl,HB,Z ⟨nG.o.aG ((aA.refl [] w').alloc _),aF.new _ _ _⟩,Z ⟨λ_ h=>absurd h G,λ_ j h=>absurd h G⟩⟩
  case zero=>exact λa W hh=>by obtain⟨q,h1,h2,_⟩:=hh;omega
  generalize w'.heap.size=X at*;clear s0 s1 s2 s3 s4 s5 s6 s7 s8 s9 RM MV Eu z0 z1 z2 z3 z4 z5 z6 z7 z8 z9 z10 TO z12 fz c0 l0 l1 l2 HB nG CP K0 w'
  case round=>
   intro m a W h;refine ac3 (lo:=lo) (mn:=mn) Zk Ka Js ub CN sD GV sg HL uQ hc hk Zd hl l9 ?_ ?_ h
   ·exact λa W h=>h
   clear h;clear a W m;intro a W h;obtain⟨⟨J,rfl⟩,HB,HP,HO⟩:=h;obtain⟨K1,kh⟩:=HP.o;obtain⟨h0,h1⟩:=kh.c2;have lh:=kh.lt;clear kh;obtain⟨s0,s1,s2,s3,s4,s5,s6,s7,s8,s9,RM,MV,Eu⟩:=K1.s.ri;obtain⟨z0,z1,z2,z3,z4,z5,z6,z7,z8,z9,z10,TO,z12⟩:=K1.r.ri;have fz:=K1.r.frozen;have l0:=K1.x.lt;have l1:=K1.s.lt;have l2:=K1.r.lt;have c0:=K1.x.c1;have HE:=Z (show bQ ⟨n,xa,xb,xc,xd⟩ ty=0 by
    rw[GV.o,aw];by_cases Mt:c=3
    ·have vG:k=2:=G;have hn:n=19:=uQ.2 Mt;have ho:=HO.o.1 Mt G;rw[ho,Mt,vG];have TN:2<=ty.length:=G
     match ty,TN with
     |a::b::r,_=>simp[iK,List.replicate]
    ·have hf:=(sg.o Zd Mt).2 (λj hj=>by have:=HO.o.2 Mt (k-1-j) G;rw[show k-1 - (k-1-j)=j by omega]at this;exact this);have hn:¬n=19:=λe=>Mt (uQ.1 e);rw[hf];simp;omega)
   clear HO GV sg HL hc uQ;have Gc:(convert 318 9 (H (O (I W.heap.size 0)) 1 1)).run prog ((W.setCell (I (cW+1) 1) (.string (tb.extract 0 (ty.length-k)))).alloc (CA #[.int .u8 g] 5))= .ok (.string ⟨#[UInt8.ofNat g]⟩) ((W.setCell (I (cW+1) 1) (.string (tb.extract 0 (ty.length-k)))).alloc (CA #[.int .u8 g] 5)):=by
    refine run_convert_bytes_back _ _ _ _ (I W.heap.size 0) 1 [UInt8.ofNat g] underlying318 underlying5 underlying9 (λj hj=>?_);obtain rfl:j=0:=by simpa using hj
    have hg3:g=0\/g=1\/g=2:=G;have hk9:aF ((W.setCell (I (cW+1) 1) (.string (tb.extract 0 (ty.length-k)))).alloc (CA #[.int .u8 g] 5)) W.heap.size 5 #[.int .u8 g]:=aF.bR ay;have hc9:=hk9.cell 0;refine hc9.trans ?_;rcases hg3 with e|e|e<;>subst e<;>rfl
   have HPR:=Z K1.r;have fs:=K1.s.frozen;have HTD:=Z (Pk ty k);rw[ub.o]at HTD;clear K1 HP Ka;by_cases hgz:((g:Int)!=0)=true
   ·(try (have hq:((g:Int)!=0)=false:=cY;exact absurd (hgz.symm.trans hq) bd))
    all_goals
     have HTV:=Z (show gE (a_ ⟨n,xa,xb,xc,xd⟩ ty)=tb.extract 0 (ty.length-k)++⟨#[UInt8.ofNat g]⟩by
      rw[HV.o,aw (λe=>by subst e;simp at hgz),<-Pj,HTD.o])
     go_wp2_with fail;have f9:aA [cW+1,cW+1+1] W _:=(((((((((((((((((aA.refl [cW+1,cW+1+1] W).setCell (p:=(I (cW+1) 1)) ay (.string (tb.extract 0 (ty.length-k)))).setCell (p:=(I (cW+1) 1)) ay (.string (tb.extract 0 (ty.length-k)++⟨#[UInt8.ofNat g]⟩))).setCell (p:=(I (cW+1+1) 0)) ay (.bool th)).setCell (p:=(I (cW+1+1) 1)) ay (.string (tb.extract 0 (ty.length-k)++⟨#[UInt8.ofNat g]⟩))).setCell (p:=(I (cW+1+1) 2)) ay (Y (lc 0))).setCell (p:=(I (cW+1+1) 3)) ay (Y (lc 1))).setCell (p:=(I (cW+1+1) 4)) ay (Y (lc 2))).setCell (p:=(I (cW+1+1) 5)) ay (Y (lc 3))).setCell (p:=(I (cW+1+1) 6)) ay (Y (lc 4))).setCell (p:=(I (cW+1+1) 7)) ay (Y (lc 5))).setCell (p:=(I (cW+1+1) 8)) ay (Y (lc 6))).setCell (p:=(I (cW+1+1) 9)) ay (Y (lc 7))).setCell (p:=(I (cW+1+1) 10)) ay (Y ln)).setCell (p:=(I (cW+1+1) 11)) ay (Y ha)).setCell (p:=(I (cW+1+1) 12)) ay (H ma mn mc)).alloc (CA #[.int .u8 g] 5));have b9:=(((((((((((((((HPR.o.other (c:=cW+1) G 1 (.string (tb.extract 0 (ty.length-k)))).other (c:=cW+1) G 1 (.string (tb.extract 0 (ty.length-k)++⟨#[UInt8.ofNat g]⟩))).set 0 (.bool th)).set 1 (.string (tb.extract 0 (ty.length-k)++⟨#[UInt8.ofNat g]⟩))).set 2 (Y (lc 0))).set 3 (Y (lc 1))).set 4 (Y (lc 2))).set 5 (Y (lc 3))).set 6 (Y (lc 4))).set 7 (Y (lc 5))).set 8 (Y (lc 6))).set 9 (Y (lc 7))).set 10 (Y ln)).set 11 (Y ha)).set 12 (H ma mn mc));simp only[List.setIfInBounds_toArray,List.set_cons_zero,List.set_cons_succ]at b9;replace b9:=b9.alloc (CA #[.int .u8 g] 5);have B9:=HB.o.trans (f9.below (B:=w.heap.size) HB.o.size (by simp only[dK,List.mem_singleton,List.not_mem_nil,or_false];intro k hk;have:=Zk.o;omega));generalize((((((((((((((((W.setCell (I (cW+1) 1) (.string (tb.extract 0 (ty.length-k)))).setCell (I (cW+1) 1) (.string (tb.extract 0 (ty.length-k)++⟨#[UInt8.ofNat g]⟩))).setCell (I (cW+1+1) 0) (.bool th)).setCell (I (cW+1+1) 1) (.string (tb.extract 0 (ty.length-k)++⟨#[UInt8.ofNat g]⟩))).setCell (I (cW+1+1) 2) (Y (lc 0))).setCell (I (cW+1+1) 3) (Y (lc 1))).setCell (I (cW+1+1) 4) (Y (lc 2))).setCell (I (cW+1+1) 5) (Y (lc 3))).setCell (I (cW+1+1) 6) (Y (lc 4))).setCell (I (cW+1+1) 7) (Y (lc 5))).setCell (I (cW+1+1) 8) (Y (lc 6))).setCell (I (cW+1+1) 9) (Y (lc 7))).setCell (I (cW+1+1) 10) (Y ln)).setCell (I (cW+1+1) 11) (Y ha)).setCell (I (cW+1+1) 12) (H ma mn mc)).alloc (CA #[.int .u8 g] 5))=W9 at*;exact aD
   ·(try (have hgp:0<g:=cY;exact hgz jz))
    all_goals
     have ael:((g:Int)!=0)=false:=by simpa using hgz
     have HTV:=Z (show gE (a_ ⟨n,xa,xb,xc,xd⟩ ty)=tb.extract 0 (ty.length-k)by
      rw[HV.o,aB (by simpa using ael),HTD.o])
     clear hgz Gc;go_wp2_with fail;have f9:aA [cW+1,cW+1+1] W _:=(((((((((((((((aA.refl [cW+1,cW+1+1] W).setCell (p:=(I (cW+1) 1)) ay (.string (tb.extract 0 (ty.length-k)))).setCell (p:=(I (cW+1+1) 0)) ay (.bool th)).setCell (p:=(I (cW+1+1) 1)) ay (.string (tb.extract 0 (ty.length-k)))).setCell (p:=(I (cW+1+1) 2)) ay (Y (lc 0))).setCell (p:=(I (cW+1+1) 3)) ay (Y (lc 1))).setCell (p:=(I (cW+1+1) 4)) ay (Y (lc 2))).setCell (p:=(I (cW+1+1) 5)) ay (Y (lc 3))).setCell (p:=(I (cW+1+1) 6)) ay (Y (lc 4))).setCell (p:=(I (cW+1+1) 7)) ay (Y (lc 5))).setCell (p:=(I (cW+1+1) 8)) ay (Y (lc 6))).setCell (p:=(I (cW+1+1) 9)) ay (Y (lc 7))).setCell (p:=(I (cW+1+1) 10)) ay (Y ln)).setCell (p:=(I (cW+1+1) 11)) ay (Y ha)).setCell (p:=(I (cW+1+1) 12)) ay (H ma mn mc));have b9:=((((((((((((((HPR.o.other (c:=cW+1) G 1 (.string (tb.extract 0 (ty.length-k)))).set 0 (.bool th)).set 1 (.string (tb.extract 0 (ty.length-k)))).set 2 (Y (lc 0))).set 3 (Y (lc 1))).set 4 (Y (lc 2))).set 5 (Y (lc 3))).set 6 (Y (lc 4))).set 7 (Y (lc 5))).set 8 (Y (lc 6))).set 9 (Y (lc 7))).set 10 (Y ln)).set 11 (Y ha)).set 12 (H ma mn mc));simp only[List.setIfInBounds_toArray,List.set_cons_zero,List.set_cons_succ]at b9;have B9:=HB.o.trans (f9.below (B:=w.heap.size) HB.o.size (by simp only[dK,List.mem_singleton,List.not_mem_nil,or_false];intro k hk;have:=Zk.o;omega));generalize((((((((((((((W.setCell (I (cW+1) 1) (.string (tb.extract 0 (ty.length-k)))).setCell (I (cW+1+1) 0) (.bool th)).setCell (I (cW+1+1) 1) (.string (tb.extract 0 (ty.length-k)))).setCell (I (cW+1+1) 2) (Y (lc 0))).setCell (I (cW+1+1) 3) (Y (lc 1))).setCell (I (cW+1+1) 4) (Y (lc 2))).setCell (I (cW+1+1) 5) (Y (lc 3))).setCell (I (cW+1+1) 6) (Y (lc 4))).setCell (I (cW+1+1) 7) (Y (lc 5))).setCell (I (cW+1+1) 8) (Y (lc 6))).setCell (I (cW+1+1) 9) (Y (lc 7))).setCell (I (cW+1+1) 10) (Y ln)).setCell (I (cW+1+1) 11) (Y ha)).setCell (I (cW+1+1) 12) (H ma mn mc))=W9 at*;exact aD
end
end Go.Vf
