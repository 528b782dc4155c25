import Derived.Test.YtblkblclmbhjiaaGreatX4
set_option linter.all false
set_option maxHeartbeats 40000000
set_option maxRecDepth 100000
open Go.Proofs.Tryz
open Option renaming some->H,none->K7
open Go renaming Value->UL,World->UK
open Go.Value renaming slice->to
open Go.Obj renaming cells->QP
open Go.Ending renaming returned->C8
open Go.World renaming cell?->UJ
namespace Go.Vf
open Go.RowKit aj.Vm
open aj hiding aR an ak
open Ma (dP ci aX vb)
def fy{P:Program}{fn:Func}{R:Ending->UK->Prop}{A:Array UL}{w:UK}{t:Tmp}(h:fn.results=#[.tmp t])(hR:R (C8 (A.getD t undef)) w):bodyPost P fn R .ret {tmps:=A,defers:=[]} w:=bK (results_tmp h _ _ _) rfl hR
def TD{P:Program}{fn:Func}{R:Ending->UK->Prop}{A:Array UL}{w:UK}{t u:Tmp}(h:fn.results=#[.tmp t,.tmp u])(hR:R (C8 (.tuple #[A.getD t undef,A.getD u undef])) w):bodyPost P fn R .ret {tmps:=A,defers:=[]} w:=bK (results_tmp2 h _ _ _) rfl hR
def FrI(v:UL)(x:Int)(n i:Nat)(a:Act):Prop:=∃J:Nat->UL,a={tmps:=#[v,Y x,J 2,J 3,J 4,J 5,v,Y n,Y i,J 9,J 10,J 11,J 12,J 13,J 14,J 15,J 16,J 17,J 18],defers:=[]}
def CI(n:Nat)(f:Nat->Int)(x:Int):Bool:= !decide (∀i,i<n->f i≠x)
def aeJ(w:UK)(n:Nat)(f:Nat->Int)(x:Int)(e:Ending)(w':UK):Prop:=∃r:Int,e=C8 (Y r)/\w'=w/\decide (0<=r)=CI n f x
def abO(w:UK)(v:UL)(n:Nat)(f:Nat->Int)(x:Int)(m:Nat)(a:Act)(W:UK):Prop:=
 ∃i,i<=n/\m+i=n+1/\FrI v x n i a/\W=w/\Hid (∀j,j<i->f j≠x)
def aeI{w:UK}{v:UL}{n:Nat}{f:Nat->Int}(h:aZ w 1 v n (JY f))(x:Int):Calls prog 320 #[v,Y x] w (aeJ w n f x):=by
 obtain⟨a,c,rfl,q1,q2⟩:=h.val;have a0f:=Z h;have hm:n<=9223372036854775807:=by unfold maxLen at q2;omega
 clear h;go_enter func320,ntmps320;go_wp2;refine Mk.aN (abO w (to a n c) n f x) (n+1) ?start ?zero ?round
 case start=>exact⟨0,cK _,O,qi rfl,rfl,Z (λj hj=>absurd hj O)⟩
 case zero=>exact λa W hh=>by obtain⟨q,h1,h2,_⟩:=hh;omega
 case round=>
  rintro m a0 W ⟨i,hi,rD,⟨J,rfl⟩,rfl,HA⟩;by_cases be:i<n
  ·obtain⟨b,off,cap,hv,-,-,X,hc⟩:=a0f.o.some O O;simp only[cM]at hv;obtain⟨rfl,-,rfl⟩:=hv;have c0:UJ W (G b (off+i))=H (Y (f i)):=hc i O;clear hc;by_cases he:f i=x
   ·have HF:=Z (show CI n f x=true by unfold CI;simp;exact⟨i,be,he⟩);rw[he]at c0;clear he;go_wp2;go_ret;exact⟨i,rfl,rfl,by rw[HF.o];simp⟩
   ·have HE:=Z he;generalize f i=y at c0 he;have Na:¬x=y:=λe=>he e.symm;go_wp2;refine⟨i+1,O,O,qi rfl,rfl,Z λj hj=>?_⟩;by_cases e:j=i
    ·subst e;exact HE.o
    ·exact HA.o j O
  ·obtain rfl:i=n:=O;have HF:=Z (show CI i f x=false by unfold CI;simp;exact HA.o);go_wp2;go_ret;exact⟨-1,rfl,rfl,by rw[HF.o];rfl⟩
def agj{w:UK}{v:UL}{n:Nat}{f:Nat->Int}(h:aZ w 1 v n (JY f))(x:Int):Calls prog 299 #[v,Y x] w (λe w'=>e=C8 (.bool (CI n f x))/\w'=w):=by
 have HI:=Z (aeI h x);clear h;go_enter func299,ntmps299;go_wp2_with fail;refine HI.o.mono ?_;rintro e w' ⟨r,rfl,rfl,hr⟩;have HR:=Z hr;clear hr;by_cases h0:0<=r
 ·go_wp2;go_ret;exact⟨by rw[<-HR.o];simp[h0],rfl⟩
 ·go_wp2;go_ret;exact⟨by rw[<-HR.o];simp[h0],rfl⟩
def Mj{p:Prop}(h:p:=by
 go_enter func321,ntmps321;go_wp2;exact bK (results_tmp rfl _ _ _) rfl ⟨rfl,rfl⟩):p:=h
def ac8(w:UK)(ao:Option Addr){n cap:Nat}(h:n<=cap)(h0:ao=K7->n=0/\cap=0):Calls prog 321 #[to ao n cap] w (λe w'=>e=C8 (to ao n n)/\w'=w):=by
 cases ao with
 |none=>obtain⟨rfl,rfl⟩:=h0 rfl;exact Mj
 |some a=>obtain⟨b,off,sp⟩:=a;exact Mj
def sN{P:Program}{w:UK}{ops:Array Oper}{rest:List Oper}{o:Oper}{a:Act}{Q:Exit->Act->UK->Prop}(Bz:o.guard=K7)(s x:Operand)(t:TypeId)
 (ho:o.op= .call {callee:= .builtin .append,args:=#[s,x],argTypes:=#[t,t]})
 (e:TypeId) {bytes:Nat} {z:UL} (ht:P.underlying t=H (.slice e)) (hi:(P.info? e).map (λi=>(i.zero,i.size,i.bytes))=H (H z,1,bytes)) (Nz:z.cells.size=1)
 (ao:Option Addr) (n:Nat) (g:Nat->UL) (hs:a.eval s=to ao n n) (bo:aZ w 1 (to ao n n) n g)
 (ad:Addr) (c:Nat) (y:UL) (hx:a.eval x=to (H ad) 1 c) (qt:UJ w ad=H y) (h1:y.oneCell'=true)
 (RV:n+1<=maxLen) (mP:(n+1)*bytes<=140737488355328)
 (h:∀v' w',Row w' e 1 v' (n+1) (fY n g λ_=>y)->aA [] w w'->(∀b,v'.ownBlock=H b->w.heap.size<=b)->wpList P ops Q rest (a.put o.dst v') w'):wpList P ops Q (o::rest) a w:=by
 obtain⟨i,FU,vG,MU,NA⟩:=y_ hi;refine wpList_append_grows w Bz s x t ho e i z 1 bytes ht FU vG MU NA Nz bd ao n n (eY n g) hs ?_ (by rw[fO,Nat.mul_one]) ?_ ad 1 c [y] hx rfl ?_ ?_ O RV mP ?_
 ·rintro rfl;rcases bo with⟨h,h'⟩|⟨_,_,h,_⟩
  ·simp at h;exact⟨h,h⟩
  ·simp at h
 ·rintro b rfl j u hu;have hj:j<n:=by
   rcases Nat.lt_or_ge j n with be|Rb
   ·exact be
   ·exact YQ
  rw[nN g hj]at hu;cases hu;rcases bo with⟨h,-⟩|⟨a',cap,hv,q1,q2,q3⟩
  ·simp at h
  ·simp only[cM,im]at hv;obtain⟨rfl,-,rfl⟩:=hv;obtain⟨e1,e2⟩:=q3 j O;obtain⟨dS,off,sp⟩:=b;dsimp only at e1;subst e1;rw[Addr.add_lit];exact e2
 ·intro j u hu;cases j with
  |zero=>
   simp at hu;subst hu;have:ad.add 0=ad:=by unfold Addr.add;split<;>simp_all
   rw[this];exact qt
  |succ j=>simp at hu
 ·intro u hu;simp at hu;subst hu;exact h1
 ·intro v' w' hr hg;refine h v' w' ?_ (eK hg) (λb X=>(fE hr b X).1);unfold Row;have e1:eY ((n+1)*1) (fY n g λ_=>y)=eY n g++[y]:=by rw[Nat.mul_one,xA n 1 g (λ_=>y)];rfl
  rw[e1];exact hr.mono (cK _)
def age(w:UK){mv:UL}(th:Bool){s:Std}(ou:Nat)(h:dx w mv s.lo)(hl:s.lo.length<=1000000000):Calls prog 302 #[dY th s mv,Y ou] w (pI w mv th {s with lo:=ou::s.lo}):=by
 obtain⟨ty,lo,ha⟩:=s;dsimp only at h hl;obtain⟨ma,mc,rfl,m1,m2⟩:=aZ.val h;have a0f:=Z h;have be:(ou::lo).length=lo.length+1:=rfl;have PA:=yV ou lo;by_cases h8:lo.length<8
 ·have hm:dx w (to ma (lo.length-8) mc) (ou::lo):=by have e:lo.length-8=0:=O;have e2:(ou::lo).length-8=0:=O;unfold dx at h ⊢;rw[e]at h;rw[e2,e];exact aZ.zero h
  have HM:=Z hm;unfold dY cQ pI;dsimp only;unfold dY cQ;dsimp only;have e:lo.length=0\/lo.length=1\/lo.length=2\/lo.length=3\/lo.length=4\/lo.length=5\/lo.length=6\/lo.length=7:=O;have hB:=qq w;generalize gE ty=tb;rw[be];clear h hm m1 m2 a0f;simp only[PA];generalize bI lo=lc at*;generalize hLL:ou::lo=LL at*;clear hLL;rcases e with e|e|e|e|e|e|e|e
  all_goals
   simp only[e]at HM ⊢;clear PA be hl h8;go_enter func302,ntmps302;go_wp2_with fail;refine bK ?_ rfl ⟨to ma 0 mc,rfl,HM.o.aG (aA.af ((hB _ _).alloc (by simp only[aM];omega) _)),(hB _ _).alloc (by simp only[aM];omega) _,λ_ X=> .inl (by simpa[Value.ownBlock]using X)⟩;simp[results,results302,go_sem]
 ·have KK:ma=K7->lo.length-8=0/\mc=0:=by
   rintro rfl;rcases a0f.o with⟨h,h'⟩|⟨_,_,h,_⟩
   ·simp at h;omega
   ·simp at h
  have EI:aZ w 1 (to ma (lo.length-8) (lo.length-8)) (lo.length-8) (λi=> Y (bI lo (8+i))):=by
   rcases a0f.o with⟨h,h'⟩|⟨a',cap,h,q1,q2,q3⟩
   ·simp only[cM]at h;obtain⟨rfl,h1,h2⟩:=h;rw[h1];exact .inl ⟨rfl,rfl⟩
   ·simp only[cM]at h;obtain⟨rfl,-,rfl⟩:=h;exact .inr ⟨a',_,rfl,aL _,O,q3⟩
  have Nj:=Z EI;have yM:=Z (λV=>ac8 V ma m1 KK);have HCT:=Z PA;have HL:=Z hl;unfold dY cQ pI;dsimp only;unfold dY cQ;dsimp only;have hB:=qq w;rw[be];simp only[PA];rw[aw O,aw O,aw O,aw O,aw O,aw O,aw O,aw O];generalize gE ty=tb;have w1:IntKind.i64.wrap ((lo.length:Int)+1)=((lo.length+1:Nat):Int):=by rw[bJ _ lI];omega
  clear h EI PA KK a0f;generalize CG:lo.length-8=n8 at*;have RK:=Z CG;clear CG;generalize Fc:bI lo=lc at*;have CN:=Z Fc;clear Fc;generalize RY:lo.length=n0 at*;have HN0:=Z RY;clear RY;have h9:¬n0<8:=h8;clear h8 be;go_enter func302,ntmps302;go_wp2_with fail;refine(yM.o _).mono ?_;rintro e w' ⟨rfl,rfl⟩;go_wp2_with (at_builtin;refine sN rfl _ _ 24 rfl 3 underlying24 ck rfl ma n8 (λi=> Y (lc (8+i))) rfl (Nj.o.aG ((((aA.refl [] w).alloc _).alloc _).alloc _)) (G (w.heap.size+1+1) 0) 1 (Y ou) rfl ?zZ rfl ?Ut ?Da ?_)
  case zZ=>exact(aF.bR ay).cell 0
  case Ut=>have:=RK.o;have:=HL.o;unfold maxLen;omega
  case Da=>have:=RK.o;have:=HL.o;omega
  intro v' w1 r1 f1 i1;obtain⟨va,vc,rfl,-,-⟩:=(aZ.vd r1).val;have k1:aF w1 w.heap.size 233 #[.bool th,.string tb,Y (lc 0),Y (lc 1),Y (lc 2),Y (lc 3),Y (lc 4),Y (lc 5),Y (lc 6),Y (lc 7),Y n0,Y ha,to ma n8 mc]:=(((aF.new w _ _).alloc _).alloc _).aG f1 ay;have k2:aF w1 (w.heap.size+1) 233 #[.bool false,.string ⟨#[]⟩,Y 0,Y 0,Y 0,Y 0,Y 0,Y 0,Y 0,Y 0,Y 0,Y 0,Pl]:=((aF.bR ay).alloc _).aG f1 ay;have fI:Below w.heap.size w w1:=((((aB _ w).alloc (aL _) _).alloc (by simp only[aM];omega) _).alloc (by simp only[aM];omega) _).trans (f1.below (by simp only[aM];omega) ay);have HI1:=Z (λb (X:(Value.slice va (n8+1) vc).ownBlock=H b)=>show w.heap.size<=b by have:=i1 b X;(try simp only[aM]at this);omega);have hmo:∀W',aA [w.heap.size,w.heap.size+1] w1 W'->dx W' (to va (n8+1) vc) (ou::lo):=by
   intro W' f;have r2:=r1.aG f (λb X hc=>by have:=i1 b X;(try simp only[aM]at this);simp at hc;omega);have h1:=aZ.vd r2;unfold dx;have QN:(ou::lo).length-8=n8+1:=by have a1:=RK.o;have a2:=HN0.o;show lo.length+1-8=n8+1;omega
   rw[QN];refine h1.congr λo ho=>?_;unfold fY;rw[HCT.o];have a1:=RK.o;by_cases Cw:o<n8
   ·rw[bk Cw,aw O]
   ·rw[aw Cw,bk O]
  have HMO:=Z hmo;have cR:=Z fI;have nI:=Z k2;obtain⟨p0,p1,p2,p3,p4,p5,p6,p7,agy,agc,p10,p11,p12⟩:=k1.ri;obtain⟨z0,z1,z2,z3,z4,z5,z6,z7,z8,z9,z10,TO,z12⟩:=k2.ri;have fz1:=k1.frozen;have fz2:=k2.frozen;have l1:=k1.lt;have l2:=k2.lt;clear r1 f1 i1 k1 k2 hmo fI Nj yM hB;go_wp2_with fail;have kA:=nI.o.aG (w':=((w1.setCell (G w.heap.size 12) (to va (n8+1) vc)).setCell (G w.heap.size 10) (Y ((n0:Int)+1)))) (((aA.refl [w.heap.size] w1).setCell ay _).setCell ay _) ay;have b9:=(((((((((((((kA.set 0 (.bool th)).set 1 (.string tb)).set 2 (Y (lc 0))).set 3 (Y (lc 1))).set 4 (Y (lc 2))).set 5 (Y (lc 3))).set 6 (Y (lc 4))).set 7 (Y (lc 5))).set 8 (Y (lc 6))).set 9 (Y (lc 7))).set 10 (Y ((n0:Int)+1))).set 11 (Y ha)).set 12 (to va (n8+1) vc));simp only[List.setIfInBounds_toArray,List.set_cons_zero,List.set_cons_succ]at b9;have f9:aA [w.heap.size,w.heap.size+1] w1 _:=((((((((((((((((aA.refl [w.heap.size,w.heap.size+1] w1).setCell (p:=(G w.heap.size 12)) ay (to va (n8+1) vc)).setCell (p:=(G w.heap.size 10)) ay (Y ((n0:Int)+1))).setCell (p:=(G (w.heap.size+1) 0)) ay (.bool th)).setCell (p:=(G (w.heap.size+1) 1)) ay (.string tb)).setCell (p:=(G (w.heap.size+1) 2)) ay (Y (lc 0))).setCell (p:=(G (w.heap.size+1) 3)) ay (Y (lc 1))).setCell (p:=(G (w.heap.size+1) 4)) ay (Y (lc 2))).setCell (p:=(G (w.heap.size+1) 5)) ay (Y (lc 3))).setCell (p:=(G (w.heap.size+1) 6)) ay (Y (lc 4))).setCell (p:=(G (w.heap.size+1) 7)) ay (Y (lc 5))).setCell (p:=(G (w.heap.size+1) 8)) ay (Y (lc 6))).setCell (p:=(G (w.heap.size+1) 9)) ay (Y (lc 7))).setCell (p:=(G (w.heap.size+1) 10)) ay (Y ((n0:Int)+1))).setCell (p:=(G (w.heap.size+1) 11)) ay (Y ha)).setCell (p:=(G (w.heap.size+1) 12)) ay (to va (n8+1) vc));have m9:=HMO.o _ f9;have hB9:=cR.o.trans (f9.below (B:=w.heap.size) cR.o.size ay);generalize(((((((((((((((w1.setCell (G w.heap.size 12) (to va (n8+1) vc)).setCell (G w.heap.size 10) (Y ((n0:Int)+1))).setCell (G (w.heap.size+1) 0) (.bool th)).setCell (G (w.heap.size+1) 1) (.string tb)).setCell (G (w.heap.size+1) 2) (Y (lc 0))).setCell (G (w.heap.size+1) 3) (Y (lc 1))).setCell (G (w.heap.size+1) 4) (Y (lc 2))).setCell (G (w.heap.size+1) 5) (Y (lc 3))).setCell (G (w.heap.size+1) 6) (Y (lc 4))).setCell (G (w.heap.size+1) 7) (Y (lc 5))).setCell (G (w.heap.size+1) 8) (Y (lc 6))).setCell (G (w.heap.size+1) 9) (Y (lc 7))).setCell (G (w.heap.size+1) 10) (Y ((n0:Int)+1))).setCell (G (w.heap.size+1) 11) (Y ha)).setCell (G (w.heap.size+1) 12) (to va (n8+1) vc))=W9 at*;obtain⟨i0,i1,i2,i3,i4,i5,i6,i7,i8,i9,i10,i11,i12⟩:=b9.ri;clear b9 f9 kA p0 p1 p2 p3 p4 p5 p6 p7 agy agc p10 p11 p12 z0 z1 z2 z3 z4 z5 z6 z7 z8 z9 z10 TO z12 fz1 fz2;refine bK ?_ rfl ⟨to va (n8+1) vc,rfl,m9,hB9,λb X=> .inr (HI1.o b X)⟩;simp[results,results302,go_sem,i0,i1,i2,i3,i4,i5,i6,i7,i8,i9,i10,i11,i12]
open Ma (aI aV)
def sM(K:Kp)(p:aQ)(jg:UL):Array UL:=#[K.g,K.v,K.t,K.o,Y p.aT,K.c,jg]
def rT(p:aQ)(n:Int):Prop:=0<=n/\n<p.bw.length
def bN{w:UK}{K:Kp}{p:aQ}(h:fW w K p){n:Int}(hq:rT p n):∃(m b off cap:Nat),n=m/\m<p.bw.length/\K.g=to (H (G b off)) p.bw.length cap/\b<w.heap.size/\UJ w (G b (off+m))=H (.bool (bF p n)):=by
 obtain⟨m,rfl⟩:=dz hq.1;have hm:m<p.bw.length:=by have:=hq.2;omega
 obtain⟨b,off,cap,e,q1,q2,c⟩:=h.gh hm;exact⟨m,b,off,cap,rfl,hm,e,aH c,by unfold bF;simpa using c⟩
section
variable {w:UK}{K:Kp}{p:aQ}{jg:UL}{vb:Nat}{x:Ins}{ha:Nat}
def PC{p:Prop}(h:p:=by
 go_wp2;go_ret;exact⟨rfl,hB _ _⟩):p:=h
def Y7{p:Prop}(h:p:=by
 go_wp2;go_quiet (fail);go_wp2;go_ret;exact⟨rfl,hC _ _ _⟩):p:=h
def Y8{p:Prop}(h:p:=by
 go_enter func246,ntmps246;go_wp2;go_ret;exact⟨by simp[bE],hB _ _⟩):p:=h
def agB(h:fW w K p)(hv:aF w vb 230 (sM K p jg))(hq:x.op=34->rT p x.a):Calls prog 246 #[UI vb,aV x,Y ha] w (λe w'=>e=C8 (Y (bE p x ha))/\Below w.heap.size w w'):=by
 obtain⟨op,xa,xb,xc,xd⟩:=x;unfold aV aI;dsimp only;have hB:=qq w;have hC:∀cs T k,Below w.heap.size w ((w.alloc (QP cs T)).drewN k):=λcs T k=>(hB cs T).trans (az _ _ k);have lv:=hv.lt;dsimp only at hq;by_cases o1:op=36
 ·subst o1;exact Y8
 by_cases o2:op=35
 ·subst o2;exact Y8
 by_cases o3:op=37
 ·subst o3;exact Y8
 by_cases o4:op=34
 ·subst o4;replace hq:=hq rfl;obtain⟨m,gb,off,cap,rfl,hm,hk,vK,gc⟩:=bN h hq;have v0:=hv.c1;rw[hk]at v0;have hf:bE p ⟨34,(m:Int),xb,xc,xd⟩ ha=if bF p m then 1 else 2:=by simp[bE]
  rw[hf];clear hf hk h hv hq;cases hg:bF p m with
  |false=>rw[hg]at gc;clear hg;go_enter func246,ntmps246;exact Y7
  |true=>rw[hg]at gc;clear hg;go_enter func246,ntmps246;exact Y7
 ·have hf:bE p ⟨op,xa,xb,xc,xd⟩ ha=ha:=by simp[bE,o1,o2,o3,o4]
  rw[hf];clear hf;go_enter func246,ntmps246;exact PC
def ZL{p:Prop}(h:p:=by
 rcases hh with rfl|rfl|rfl|rfl
 all_goals
  go_enter func242,ntmps242;go_wp2;go_ret;exact⟨by simp[fo],hB _ _⟩):p:=h
def P8{p:Prop}(h:p:=by
 rcases hh with rfl|rfl|rfl|rfl
 all_goals
  go_enter func242,ntmps242;go_wp2;go_ret;exact⟨by simp<;>omega,hB _ _⟩):p:=h
def Fo{p:Prop}(h:p:=by
 rw[hg]at gc;clear hg;rcases hh with rfl|rfl|rfl|rfl
 all_goals
  go_enter func242,ntmps242;go_wp2;go_quiet (fail);go_wp2;go_ret;exact⟨ay,hC _ _ _⟩):p:=h
def afX(h:fW w K p)(hv:aF w vb 230 (sM K p jg))(hq:x.op=35->rT p x.a)(h3:ha<=3):Calls prog 242 #[UI vb,aV x,Y ha] w (λe w'=>e=C8 (.bool (fo p x ha))/\Below w.heap.size w w'):=by
 obtain⟨op,xa,xb,xc,xd⟩:=x;unfold aV aI;dsimp only;have hB:=qq w;have hC:∀cs T k,Below w.heap.size w ((w.alloc (QP cs T)).drewN k):=λcs T k=>(hB cs T).trans (az _ _ k);have lv:=hv.lt;dsimp only at hq;have hh:ha=0\/ha=1\/ha=2\/ha=3:=O;clear h3;by_cases o1:op=36
 ·subst o1;exact ZL
 by_cases o2:op=37
 ·subst o2;exact ZL
 by_cases o3:op=35
 ·subst o3;replace hq:=hq rfl;obtain⟨m,gb,off,cap,rfl,hm,hk,vK,gc⟩:=bN h hq;have v0:=hv.c1;rw[hk]at v0;have hf:fo p ⟨35,(m:Int),xb,xc,xd⟩ ha=if bF p m then ha==1||ha==3 else ha==2:=by simp[fo]
  rw[hf];clear hf hk h hv hq;cases hg:bF p m with
  |false=>exact Fo
  |true=>exact Fo
 by_cases o4:op=28\/op=29\/op=30
 ·have hf:fo p ⟨op,xa,xb,xc,xd⟩ ha=true:=by unfold fo;rw[aw o1,aw o2,aw o3,bk o4]
  rw[hf];clear hf hh;rcases o4 with rfl|rfl|rfl
  all_goals
   go_enter func242,ntmps242;exact PC
 ·have hf:fo p ⟨op,xa,xb,xc,xd⟩ ha=((decide (1<=op)&&decide (op<=21))||ha==0):=by unfold fo;rw[aw o1,aw o2,aw o3,aw o4]
  rw[hf];have o5:¬op=28:=λe=>o4 (.inl e);have o6:¬op=29:=λe=>o4 (.inr (.inl e));have o7:¬op=30:=λe=>o4 (.inr (.inr e));clear hf o4 hq;by_cases r1:1<=op
  ·by_cases r2:op<=21
   ·clear hh;go_enter func242,ntmps242;go_wp2;go_ret;exact⟨by simp[r1,r2],hB _ _⟩
   ·exact P8
  ·exact P8
def Y_{p:Prop}(h:p:=by
 obtain⟨m,gb,off,cap,rfl,hm,hk,vK,gc⟩:=bN h hq;have v0:=hv.c1;rw[hk]at v0;rw[hf];clear hf hk h hv hq nH;generalize bF p m=g1 at*;cases g1
 all_goals
  go_enter func244,ntmps244;exact PC):p:=h
def agA(h:fW w K p)(hv:aF w vb 230 (sM K p jg))(hq:x.op=32\/x.op=40\/x.op=41\/x.op=38\/x.op=39->rT p x.a)(nH:x.op=38\/x.op=39->rT p x.c):Calls prog 244 #[UI vb,aV x] w (λe w'=>e=C8 (.bool (c_ p x))/\Below w.heap.size w w'):=by
 obtain⟨op,xa,xb,xc,xd⟩:=x;unfold aV aI;dsimp only;have hB:=qq w;have hC:∀cs T k,Below w.heap.size w ((w.alloc (QP cs T)).drewN k):=λcs T k=>(hB cs T).trans (az _ _ k);have lv:=hv.lt;dsimp only at hq nH;by_cases o1:op=32
 ·subst o1;have hf:∀n:Int,c_ p ⟨32,n,xb,xc,xd⟩= !bF p n:=λn=>by simp[c_]
  replace hq:=hq ay;exact Y_
 by_cases o2:op=40
 ·subst o2;have hf:∀n:Int,c_ p ⟨40,n,xb,xc,xd⟩= !bF p n:=λn=>by simp[c_]
  replace hq:=hq ay;exact Y_
 by_cases o3:op=41
 ·subst o3;have hf:∀n:Int,c_ p ⟨41,n,xb,xc,xd⟩=bF p n:=λn=>by simp[c_]
  replace hq:=hq ay;exact Y_
 by_cases o4:op=38
 ·subst o4;have hf:∀n n2:Int,c_ p ⟨38,n,xb,n2,xd⟩=(bF p n==bF p n2):=λn n2=>by simp[c_]
  replace hq:=hq ay;replace nH:=nH ay;obtain⟨m,gb,off,cap,rfl,hm,hk,vK,gc⟩:=bN h hq;obtain⟨m2,gb2,Ip,CH,rfl,rD,jZ,Za,gc2⟩:=bN h nH;have v0:=hv.c1;rw[hk]at v0 jZ;simp only[cM,im,Addr.mk.injEq]at jZ;obtain⟨⟨rfl,rfl,-⟩,-,rfl⟩:=jZ;rw[hf];clear hf hk h hv hq nH;generalize bF p m=g1 at*;generalize bF p m2=g2 at*;cases g1
  all_goals
   cases g2
   all_goals
    go_enter func244,ntmps244;exact Y7
 by_cases o5:op=39
 ·subst o5;have hf:∀n n2:Int,c_ p ⟨39,n,xb,n2,xd⟩=(!bF p n&&bF p n2):=λn n2=>by simp[c_]
  replace hq:=hq ay;replace nH:=nH ay;obtain⟨m,gb,off,cap,rfl,hm,hk,vK,gc⟩:=bN h hq;obtain⟨m2,gb2,Ip,CH,rfl,rD,jZ,Za,gc2⟩:=bN h nH;have v0:=hv.c1;rw[hk]at v0 jZ;simp only[cM,im,Addr.mk.injEq]at jZ;obtain⟨⟨rfl,rfl,-⟩,-,rfl⟩:=jZ;rw[hf];clear hf hk h hv hq nH;generalize bF p m=g1 at*;generalize bF p m2=g2 at*;cases g1
  all_goals
   cases g2
   all_goals
    go_enter func244,ntmps244;exact PC
 ·have hf:c_ p ⟨op,xa,xb,xc,xd⟩=true:=by simp[c_,o1,o2,o3,o4,o5]
  obtain⟨ga,gcp,hk,-,-⟩:=h.g.val;have v0:=hv.c1;rw[hk]at v0;rw[hf];clear hf hk h hv hq nH;go_enter func244,ntmps244;exact PC
def TH(w V:UK)(x0 x1 x2 x3 x4 x5 x6 x7 x8 x9 ah xz RU x13:UL):Prop:=UJ V (G w.heap.size 1)=H x0/\UJ V (G (w.heap.size+1) 0)=H x1/\UJ V (G (w.heap.size+1) 1)=H x2/\UJ V (G (w.heap.size+1) 2)=H x3/\UJ V (G (w.heap.size+1) 3)=H x4/\UJ V (G (w.heap.size+1) 4)=H x5/\UJ V (G (w.heap.size+1) 5)=H x6/\UJ V (G (w.heap.size+1) 6)=H x7/\UJ V (G (w.heap.size+1) 7)=H x8/\UJ V (G (w.heap.size+1) 8)=H x9/\UJ V (G (w.heap.size+1) 9)=H ah/\UJ V (G (w.heap.size+1) 10)=H xz/\UJ V (G (w.heap.size+1) 11)=H RU/\UJ V (G (w.heap.size+1) 12)=H x13
def StK(w V:UK)(x0 x1 x2 x3 x4 x5 x6 x7 x8 x9 ah xz RU x13:UL)(q:Addr)(y:UL):Prop:=UJ V (G w.heap.size 1)=H x0/\UJ V (G (w.heap.size+1) 0)=H x1/\UJ V (G (w.heap.size+1) 1)=H x2/\UJ V (G (w.heap.size+1) 2)=H x3/\UJ V (G (w.heap.size+1) 3)=H x4/\UJ V (G (w.heap.size+1) 4)=H x5/\UJ V (G (w.heap.size+1) 5)=H x6/\UJ V (G (w.heap.size+1) 6)=H x7/\UJ V (G (w.heap.size+1) 7)=H x8/\UJ V (G (w.heap.size+1) 8)=H x9/\UJ V (G (w.heap.size+1) 9)=H ah/\UJ V (G (w.heap.size+1) 10)=H xz/\UJ V (G (w.heap.size+1) 11)=H RU/\UJ V (G (w.heap.size+1) 12)=H x13/\UJ V q=H y
def Zb:Std:=⟨[],[],0⟩
def fA(T:Map)(i:Nat):Std:=(T i).getD Zb
def stC(T:Map)(mv:Nat->UL)(o:Nat):UL:=(cQ (T (o / 13)).isSome (fA T (o / 13)) (mv (o / 13))).getD (o % 13) undef
structure iM(w:UK)(jg:UL)(n:Nat)(T:Map)(mv:Nat->UL):Prop where
 row:Row w 233 13 jg n (stC T mv)
 more:∀i,i<n->dx w (mv i) (fA T i).lo
 off:∀i,i<n->∀b,(mv i).ownBlock=H b->jg.ownBlock≠H b
variable {w':UK}{n:Nat}{T:Map}{mv:Nat->UL}
def iM.aG(h:iM w jg n T mv)(f:aA [] w w'):iM w' jg n T mv:=⟨h.row.aG f ay,λi hi=>(h.more i hi).aG f,h.off⟩
def iM.Wy(h:iM w jg n T mv){i:Nat}(hi:i<n):∃b cap,jg=to (H (G b 0)) n cap/\n<=cap/\cap<=maxLen/\b<w.heap.size/\
 UJ w (G b (i*13))=H (.bool (T i).isSome)/\UJ w (G b (i*13+1))=H (.string (gE (fA T i).ty))/\
 UJ w (G b (i*13+2))=H (Y (bI (fA T i).lo 0))/\UJ w (G b (i*13+3))=H (Y (bI (fA T i).lo 1))/\UJ w (G b (i*13+4))=H (Y (bI (fA T i).lo 2))/\
 UJ w (G b (i*13+5))=H (Y (bI (fA T i).lo 3))/\UJ w (G b (i*13+6))=H (Y (bI (fA T i).lo 4))/\UJ w (G b (i*13+7))=H (Y (bI (fA T i).lo 5))/\
 UJ w (G b (i*13+8))=H (Y (bI (fA T i).lo 6))/\UJ w (G b (i*13+9))=H (Y (bI (fA T i).lo 7))/\UJ w (G b (i*13+10))=H (Y (fA T i).lo.length)/\
 UJ w (G b (i*13+11))=H (Y (fA T i).ha)/\UJ w (G b (i*13+12))=H (mv i):=by
 obtain⟨b,cap,rfl,h1,h2,h3⟩:=h.row.some O;have key:∀k,k<13->UJ w (G b (i*13+k))=H ((cQ (T i).isSome (fA T i) (mv i)).getD k undef):=λk hk=>by have e:=h.row.cell (o:=i*13+k) O;rw[e];unfold stC;rw[show(i*13+k) / 13=i by omega,show(i*13+k) % 13=k by omega]
 exact⟨b,cap,rfl,h1,h2,h3,key 0 O,key 1 O,key 2 O,key 3 O,key 4 O,key 5 O,key 6 O,key 7 O,key 8 O,key 9 O,key 10 O,key 11 O,key 12 O⟩
def J0{p:aQ}{T:Map}(hT:∀q s,T q=H s->dB p T q s.lo):∀(l:List Nat) (q:Nat),dB p T q l->l.length<=q:=by
 intro l
 induction l with
 |nil=>intro q _;exact cK _
 |cons t l ih=>intro q h;obtain⟨h1,-,s,h2,rfl⟩:=h;have:=ih t (hT t s h2);simp only[List.length_cons];omega
def acK(p:aQ)(n:Int):CI p.on.length (λi=>p.on.getD i 0) n=p.on.contains n:=by
 unfold CI;rw[pO];simp only[Bool.not_eq_true',ij,List.contains_iff_mem];constructor
 ·intro h;apply Classical.byContradiction;intro hn;refine h λi hi e=>hn ?_;rw[<-e,aY,fq hi];exact jO hi
 ·intro h hn;obtain⟨i,hi,e⟩:=yZ h;refine hn i hi ?_;rw[aY,fq hi];exact e
def PD(p:aQ)(xa:Int):List Nat->Bool
 |[]=>false
 |t::_=>decide (xa=(al p t).a)
def Ir(T:Map)(xa:Int)(ty:List Nat):List Nat->Bool
 |[]=>false
 |t::l=>decide (xa=t)&&(match T t with|some s=>decide (s.ty=ty/\s.lo=l)|none=>decide (ty=[]/\l=[]))
structure aeh(p:aQ)(T:Map)(pc:Nat)(x:Ins)(s:Std):Prop where
 oT:pc<p.code.length
 dW:0<=x.op
 zJ:x.op=22\/x.op=23\/x.op=25\/x.op=26->0<=x.a/\x.a<p.code.length
 jo:dB p T pc s.lo
 hty:fe s.ty
 hT:∀q st,T q=H st->dB p T q st.lo/\fe st.ty
 len:p.code.length<=262144
variable {pc:Nat}{s:Std}{smv:UL}
def Ik{p:Prop}(h:p:=by
 unfold aV aI dY cQ;dsimp only;rw[HF.o];generalize gE ty=tb;generalize bI lo=lc;rcases hj with rfl|rfl|rfl|rfl
 all_goals
  exact ML):p:=h
def TJ{p:Prop}(h:p:=by
 unfold aV aI dY cQ;dsimp only;generalize gE ty=tb;generalize bI lo=lc;exact ML):p:=h
def ML{p:Prop}(h:p:=by
 go_enter func245,ntmps245;go_wp2_with fail;refine fy rfl ?_;exact⟨rfl,hB _ _ _ _⟩):p:=h
def p_{p:Prop}(h:p:=by
 intro wz fj
 (try dsimp only at fj)
 exact qj):p:=h
def CK(h:fW w K p)(hv:aF w vb 230 (sM K p jg))(hs:iM w jg p.code.length T mv)(hm:dx w smv s.lo)(J:aeh p T pc x s):
 Calls prog 245 #[UI vb,Y pc,aV x,dY true s smv] w (λe w'=>e=C8 (.bool (cP p T pc x s.ty s.lo))/\Below w.heap.size w w'):=by
 obtain⟨op,xa,xb,xc,xd⟩:=x;obtain⟨ty,lo,ha⟩:=s;obtain⟨oT,dW,zJ,jo,hty,hT,hlen⟩:=J;dsimp only at dW zJ jo hty hm;obtain⟨ma,mc,rfl,m1,m2⟩:=aZ.val hm;have La:=J0 (λq s h=>(hT q s h).1) lo pc jo;have abT:pc<262144:=O;have hB:=KJ w;obtain⟨v0,-,-,v3,v4,v5,v6⟩:=hv.c7;have lv:=hv.lt;obtain⟨cb,ze,Cj,kc,q1,q2,lcb,-⟩:=h.cd.some O O;have INS:∀i,i<p.code.length->UJ w (G cb (ze+i*5))=H (Y (al p i).op)/\UJ w (G cb (ze+i*5+1))=H (Y (al p i).a):=by intro i hi;obtain⟨b,off,cap,hv,-,-,c0,c1,-⟩:=h.ins hi;rw[kc]at hv;simp only[cM,im,Addr.mk.injEq]at hv;obtain⟨⟨rfl,rfl,-⟩,-,-⟩:=hv;exact⟨c0,c1⟩
 have Mq:=Z INS;rw[kc]at v5;clear INS;by_cases hj:op=22\/op=23\/op=25\/op=26
 ·obtain⟨a0,a1⟩:=zJ hj;obtain⟨m,rfl⟩:=dz a0;have I9:m<p.code.length:=O;obtain⟨c0,-⟩:=Mq.o m I9;by_cases h1:m<=pc
  ·have HF:=Z (show cP p T pc ⟨op,m,xb,xc,xd⟩ ty lo=false by unfold cP;rw[bk ⟨hj,.inl (by dsimp only;omega)⟩]);clear hv hs hm jo hT h q1 q2 m1 m2;exact Ik
  ·have Dr:cP p T pc ⟨op,m,xb,xc,xd⟩ ty lo=if(al p m).op=25 then false else if op=25 then decide (0<pc)&&decide ((al p (pc-1)).op=24)&&decide (p.aT≠pc)&& !p.on.contains (pc:Int)else if op=26 then PD p m lo else true:=by
    unfold cP;dsimp only[Int.toNat_natCast];by_cases e:(al p m).op=25
    ·rw[bk ⟨hj,.inr e⟩,bk e]
    ·rw[aw (by rintro⟨-,h'|h'⟩;omega;exact e h'),aw (show¬op=24 by omega),aw e];rcases hj with rfl|rfl|rfl|rfl<;>cases lo<;>rfl
   by_cases h2:(al p m).op=25
   ·have HF:=Z (show cP p T pc ⟨op,m,xb,xc,xd⟩ ty lo=false by rw[Dr,bk h2]);rw[h2]at c0;clear hv hs jo hT h q1 q2 m1 m2 Dr h2;exact Ik
   rw[aw h2]at Dr;generalize(al p m).op=om at c0 h2;rw[Dr];have HT:=Z hT;have HM:=Z hm;have HH:=Z h;clear Dr hT h hs;by_cases o5:op=25
   ·subst o5;rw[bk rfl];by_cases hp0:pc=0
    ·subst hp0;unfold aV aI dY cQ;dsimp only;generalize gE ty=tb;generalize bI lo=lc;go_enter func245,ntmps245;go_wp2_with fail;refine fy rfl ?_;exact⟨ay,hB _ _ _ _⟩
    ·have w2:IntKind.i64.wrap ((pc:Int) - 1)=((pc-1:Nat):Int):=by rw[bJ _ lI];omega
     have e1:decide (0<pc)=true:=by simp<;>omega
     have hpp:0<pc:=O;have Zd:pc-1<p.code.length:=O;rw[e1];generalize pc-1=k at*;obtain⟨d0,-⟩:=Mq.o k Zd;by_cases d24:(al p k).op=24
     ·rw[d24]at d0;rw[d24];by_cases hmi:p.aT=(pc:Int)
      ·have hr:∀b:Bool,(true&&decide ((24:Int)=24)&&decide (p.aT≠(pc:Int))&&b)=false:=λb=>by simp[hmi]
       rw[hr];rw[hmi]at v4;exact TJ
      ·have hr:∀b:Bool,(true&&decide ((24:Int)=24)&&decide (p.aT≠(pc:Int))&&b)=b:=λb=>by have e9:decide (p.aT≠(pc:Int))=true:=xx hmi;rw[e9];cases b<;>rfl
       rw[hr,<-acK];have TL:=Z (λV (f:aA [] w V)=>agj (w:=V) (f:=λi=>p.on.getD i 0) (HH.o.aG f).o (pc:Int));obtain⟨oa,oc,ko,-,-⟩:=HH.o.o.val;rw[ko]at v3 TL;generalize p.aT=pm at*;generalize CI p.on.length (λi=>p.on.getD i 0) (pc:Int)=X at*;unfold aV aI dY cQ;dsimp only;generalize gE ty=tb;generalize bI lo=lc;go_enter func245,ntmps245;go_wp2_with fail;refine(TL.o _ ((aA.af (hB _ _ _ _)))).mono ?_;rintro e w' ⟨rfl,rfl⟩;cases X
       ·go_wp2_with fail;refine fy rfl ?_;have e9:(pm !=(pc:Int))=true:=by simp[hmi]
        exact⟨by rw[show(!false)=true from rfl,<-e9];rfl,hB _ _ _ _⟩
       ·go_wp2_with fail;refine fy rfl ?_;exact⟨rfl,hB _ _ _ _⟩
     ·have hr:∀b c:Bool,(true&&decide ((al p k).op=24)&&b&&c)=false:=λb c=>by simp[d24]
      rw[hr];generalize(al p k).op=ok at d0 d24;unfold aV aI dY cQ;dsimp only;generalize gE ty=tb;generalize bI lo=lc;go_enter func245,ntmps245;go_wp2_with fail;refine fy rfl ?_;exact⟨by simp[d24],hB _ _ _ _⟩
   rw[aw o5];by_cases o6:op=26
   ·subst o6;rw[bk rfl];have me:Hid (∀V,Below w.heap.size w V->Calls prog 300 #[dY true ⟨ty,lo,ha⟩ (to ma (lo.length-8) mc)] V (λe w'=>e=C8 (Y (pH lo))/\Below V.heap.size V w')):=Z (λV X=>JX V true (s:=⟨ty,lo,ha⟩) (aZ.aG HM.o (aA.af X)) (by dsimp only;omega));clear v0 v3 v4 v6 HM;unfold aV aI dY cQ;dsimp only;unfold dY cQ at me;dsimp only at me;generalize gE ty=tb at*;cases lo with
    |nil=>
     rw[show PD p m []=false from rfl];rw[show pH []= -1 from rfl]at me;generalize bI []=lc at*;generalize([]:List Nat).length=ln at*;generalize ln-8=n8 at*;have Is:aF (((w.alloc (QP #[Y 26,Y m,Y xb,Y xc,Y xd] 40)).alloc (QP #[.bool true,.string tb,Y (lc 0),Y (lc 1),Y (lc 2),Y (lc 3),Y (lc 4),Y (lc 5),Y (lc 6),Y (lc 7),Y ln,Y ha,to ma n8 mc] 233)).drew) w.heap.size 40 #[Y 26,Y m,Y xb,Y xc,Y xd]:=((aF.new w _ _).alloc _).drewN 1;have gm:aF (((w.alloc (QP #[Y 26,Y m,Y xb,Y xc,Y xd] 40)).alloc (QP #[.bool true,.string tb,Y (lc 0),Y (lc 1),Y (lc 2),Y (lc 3),Y (lc 4),Y (lc 5),Y (lc 6),Y (lc 7),Y ln,Y ha,to ma n8 mc] 233)).drew) (w.heap.size+1) 233 #[.bool true,.string tb,Y (lc 0),Y (lc 1),Y (lc 2),Y (lc 3),Y (lc 4),Y (lc 5),Y (lc 6),Y (lc 7),Y ln,Y ha,to ma n8 mc]:=(aF.bR ay).drewN 1;have ru:TH w (((w.alloc (QP #[Y 26,Y m,Y xb,Y xc,Y xd] 40)).alloc (QP #[.bool true,.string tb,Y (lc 0),Y (lc 1),Y (lc 2),Y (lc 3),Y (lc 4),Y (lc 5),Y (lc 6),Y (lc 7),Y ln,Y ha,to ma n8 mc] 233)).drew) (Y m) (.bool true) (.string tb) (Y (lc 0)) (Y (lc 1)) (Y (lc 2)) (Y (lc 3)) (Y (lc 4)) (Y (lc 5)) (Y (lc 6)) (Y (lc 7)) (Y ln) (Y ha) (to ma n8 mc):=⟨Is.cell 1,gm.cell 0,gm.cell 1,gm.cell 2,gm.cell 3,gm.cell 4,gm.cell 5,gm.cell 6,gm.cell 7,gm.cell 8,gm.cell 9,gm.cell 10,gm.cell 11,gm.cell 12⟩;have eV:Hid (Below w.heap.size w ((w.alloc (QP #[Y 26,Y m,Y xb,Y xc,Y xd] 40)).alloc (QP #[.bool true,.string tb,Y (lc 0),Y (lc 1),Y (lc 2),Y (lc 3),Y (lc 4),Y (lc 5),Y (lc 6),Y (lc 7),Y ln,Y ha,to ma n8 mc] 233)).drew):=Z ((hB #[Y 26,Y m,Y xb,Y xc,Y xd] 40 #[.bool true,.string tb,Y (lc 0),Y (lc 1),Y (lc 2),Y (lc 3),Y (lc 4),Y (lc 5),Y (lc 6),Y (lc 7),Y ln,Y ha,to ma n8 mc] 233).trans (az _ _ 1));have C1:Hid (∀V:UK,Hid (Below w.heap.size w V)->(TH w V (Y m) (.bool true) (.string tb) (Y (lc 0)) (Y (lc 1)) (Y (lc 2)) (Y (lc 3)) (Y (lc 4)) (Y (lc 5)) (Y (lc 6)) (Y (lc 7)) (Y ln) (Y ha) (to ma n8 mc))->Calls prog 300 #[.agg #[.bool true,.string tb,Y (lc 0),Y (lc 1),Y (lc 2),Y (lc 3),Y (lc 4),Y (lc 5),Y (lc 6),Y (lc 7),Y ln,Y ha,to ma n8 mc]] V λe V'=>e=C8 (Y (-1))/\(TH w V' (Y m) (.bool true) (.string tb) (Y (lc 0)) (Y (lc 1)) (Y (lc 2)) (Y (lc 3)) (Y (lc 4)) (Y (lc 5)) (Y (lc 6)) (Y (lc 7)) (Y ln) (Y ha) (to ma n8 mc))/\Hid (Below w.heap.size w V')):=by refine Z λV X hs=>(me.o V X.o).mono ?_;rintro e V' ⟨rfl,qK⟩;have key:∀b i v,UJ V (G b i)=H v->UJ V' (G b i)=H v:=λb i v hc=>(dN (qK.block _ (aH hc))).trans hc;exact⟨rfl,⟨key _ _ _ hs.1,key _ _ _ hs.2.1,key _ _ _ hs.2.2.1,key _ _ _ hs.2.2.2.1,key _ _ _ hs.2.2.2.2.1,key _ _ _ hs.2.2.2.2.2.1,key _ _ _ hs.2.2.2.2.2.2.1,key _ _ _ hs.2.2.2.2.2.2.2.1,key _ _ _ hs.2.2.2.2.2.2.2.2.1,key _ _ _ hs.2.2.2.2.2.2.2.2.2.1,key _ _ _ hs.2.2.2.2.2.2.2.2.2.2.1,key _ _ _ hs.2.2.2.2.2.2.2.2.2.2.2.1,key _ _ _ hs.2.2.2.2.2.2.2.2.2.2.2.2.1,key _ _ _ hs.2.2.2.2.2.2.2.2.2.2.2.2.2⟩,Z (X.o.trans (qK.mono X.o.size))⟩
     clear Is gm me;go_enter func245,ntmps245;go_wp2;refine Mk.bH (S:=(λwx=>UJ wx (G w.heap.size 1)=H (Y m)/\UJ wx (G (w.heap.size+1) 0)=H (.bool true)/\UJ wx (G (w.heap.size+1) 1)=H (.string tb)/\UJ wx (G (w.heap.size+1) 2)=H (Y (lc 0))/\UJ wx (G (w.heap.size+1) 3)=H (Y (lc 1))/\UJ wx (G (w.heap.size+1) 4)=H (Y (lc 2))/\UJ wx (G (w.heap.size+1) 5)=H (Y (lc 3))/\UJ wx (G (w.heap.size+1) 6)=H (Y (lc 4))/\UJ wx (G (w.heap.size+1) 7)=H (Y (lc 5))/\UJ wx (G (w.heap.size+1) 8)=H (Y (lc 6))/\UJ wx (G (w.heap.size+1) 9)=H (Y (lc 7))/\UJ wx (G (w.heap.size+1) 10)=H (Y ln)/\UJ wx (G (w.heap.size+1) 11)=H (Y ha)/\UJ wx (G (w.heap.size+1) 12)=H (to ma n8 mc))) bh ru (λau=>?_);generalize World.drew _=V0 at*;refine Mk.tk 0 (v:=?_) rfl ?_ cY ?_;rotate_left
     ·exact p_
     refine Mk.pt ?_;refine fk (rs:=[1]) bh ay ?_;refine bZ rfl (λK hK=>?_) cz;refine fH ?_;go_simp;go_at_call 300;refine(C1.o _ eV ru).mono ?_;rintro e w1 ⟨rfl,wY,hQ1⟩;clear au;refine hK.out _ _ wY (λau=>?_);clear hK K;refine Mk.pt ?_;refine Mk.tk 2 (v:=?_) rfl ?_ cY ?_;rotate_left
     ·exact p_
     refine Mk.pt ?_;refine Mk.tk 3 (v:=?_) rfl ?_ cY ?_;rotate_left
     ·exact p_
     refine Mk.pt ?_;refine Mk.Sr 4 ?_;refine Mk.Sr 5 ?_;refine Mk.Sr 6 ?_;refine Mk.Sr 7 ?_;refine Mk.Sr 8 ?_;refine Mk.Sr 9 ?_;refine Mk.Sr 10 ?_;refine Mk.Sr 11 ?_;refine Mk.Sr 12 ?_;refine Mk.tk 13 (v:=?_) rfl ?_ cY ?_;rotate_left
     ·exact p_
     refine Mk.pt ?_;refine Mk.tk 14 (v:=?_) rfl ?_ cY ?_;rotate_left
     ·exact p_
     refine Mk.pt ?_;refine nW bh ⟨rfl,?_⟩ _;clear au;go_wp2_with fail;refine fy rfl ?_;exact⟨rfl,hQ1.o⟩
    |cons t l=>
     have htl:=jo.1;obtain⟨-,ca0⟩:=Mq.o t O;rw[show PD p m (t::l)=decide ((m:Int)=(al p t).a)from rfl];rw[show pH (t::l)=(t:Int)from rfl]at me;have htc:t<p.code.length:=O;clear jo;generalize bI (t::l)=lc at*;generalize(t::l).length=ln at*;generalize ln-8=n8 at*;generalize(al p t).a=ca at*;have Is:aF (((w.alloc (QP #[Y 26,Y m,Y xb,Y xc,Y xd] 40)).alloc (QP #[.bool true,.string tb,Y (lc 0),Y (lc 1),Y (lc 2),Y (lc 3),Y (lc 4),Y (lc 5),Y (lc 6),Y (lc 7),Y ln,Y ha,to ma n8 mc] 233)).drew) w.heap.size 40 #[Y 26,Y m,Y xb,Y xc,Y xd]:=((aF.new w _ _).alloc _).drewN 1;have gm:aF (((w.alloc (QP #[Y 26,Y m,Y xb,Y xc,Y xd] 40)).alloc (QP #[.bool true,.string tb,Y (lc 0),Y (lc 1),Y (lc 2),Y (lc 3),Y (lc 4),Y (lc 5),Y (lc 6),Y (lc 7),Y ln,Y ha,to ma n8 mc] 233)).drew) (w.heap.size+1) 233 #[.bool true,.string tb,Y (lc 0),Y (lc 1),Y (lc 2),Y (lc 3),Y (lc 4),Y (lc 5),Y (lc 6),Y (lc 7),Y ln,Y ha,to ma n8 mc]:=(aF.bR ay).drewN 1;have jZ:(((w.alloc (QP #[Y 26,Y m,Y xb,Y xc,Y xd] 40)).alloc (QP #[.bool true,.string tb,Y (lc 0),Y (lc 1),Y (lc 2),Y (lc 3),Y (lc 4),Y (lc 5),Y (lc 6),Y (lc 7),Y ln,Y ha,to ma n8 mc] 233)).drew).cell? (G cb (ze+t*5+1))=H (Y ca):=(dN (((hB _ _ _ _).trans (az _ _ 1)).block _ lcb)).trans ca0;have ru:StK w (((w.alloc (QP #[Y 26,Y m,Y xb,Y xc,Y xd] 40)).alloc (QP #[.bool true,.string tb,Y (lc 0),Y (lc 1),Y (lc 2),Y (lc 3),Y (lc 4),Y (lc 5),Y (lc 6),Y (lc 7),Y ln,Y ha,to ma n8 mc] 233)).drew) (Y m) (.bool true) (.string tb) (Y (lc 0)) (Y (lc 1)) (Y (lc 2)) (Y (lc 3)) (Y (lc 4)) (Y (lc 5)) (Y (lc 6)) (Y (lc 7)) (Y ln) (Y ha) (to ma n8 mc) (G cb (ze+t*5+1)) (Y ca):=⟨Is.cell 1,gm.cell 0,gm.cell 1,gm.cell 2,gm.cell 3,gm.cell 4,gm.cell 5,gm.cell 6,gm.cell 7,gm.cell 8,gm.cell 9,gm.cell 10,gm.cell 11,gm.cell 12,jZ⟩;have eV:Hid (Below w.heap.size w ((w.alloc (QP #[Y 26,Y m,Y xb,Y xc,Y xd] 40)).alloc (QP #[.bool true,.string tb,Y (lc 0),Y (lc 1),Y (lc 2),Y (lc 3),Y (lc 4),Y (lc 5),Y (lc 6),Y (lc 7),Y ln,Y ha,to ma n8 mc] 233)).drew):=Z ((hB #[Y 26,Y m,Y xb,Y xc,Y xd] 40 #[.bool true,.string tb,Y (lc 0),Y (lc 1),Y (lc 2),Y (lc 3),Y (lc 4),Y (lc 5),Y (lc 6),Y (lc 7),Y ln,Y ha,to ma n8 mc] 233).trans (az _ _ 1));have C1:Hid (∀V:UK,Hid (Below w.heap.size w V)->(StK w V (Y m) (.bool true) (.string tb) (Y (lc 0)) (Y (lc 1)) (Y (lc 2)) (Y (lc 3)) (Y (lc 4)) (Y (lc 5)) (Y (lc 6)) (Y (lc 7)) (Y ln) (Y ha) (to ma n8 mc) (G cb (ze+t*5+1)) (Y ca))->Calls prog 300 #[.agg #[.bool true,.string tb,Y (lc 0),Y (lc 1),Y (lc 2),Y (lc 3),Y (lc 4),Y (lc 5),Y (lc 6),Y (lc 7),Y ln,Y ha,to ma n8 mc]] V λe V'=>e=C8 (Y (t))/\(StK w V' (Y m) (.bool true) (.string tb) (Y (lc 0)) (Y (lc 1)) (Y (lc 2)) (Y (lc 3)) (Y (lc 4)) (Y (lc 5)) (Y (lc 6)) (Y (lc 7)) (Y ln) (Y ha) (to ma n8 mc) (G cb (ze+t*5+1)) (Y ca))/\Hid (Below w.heap.size w V')):=by refine Z λV X hs=>(me.o V X.o).mono ?_;rintro e V' ⟨rfl,qK⟩;have key:∀b i v,UJ V (G b i)=H v->UJ V' (G b i)=H v:=λb i v hc=>(dN (qK.block _ (aH hc))).trans hc;exact⟨rfl,⟨key _ _ _ hs.1,key _ _ _ hs.2.1,key _ _ _ hs.2.2.1,key _ _ _ hs.2.2.2.1,key _ _ _ hs.2.2.2.2.1,key _ _ _ hs.2.2.2.2.2.1,key _ _ _ hs.2.2.2.2.2.2.1,key _ _ _ hs.2.2.2.2.2.2.2.1,key _ _ _ hs.2.2.2.2.2.2.2.2.1,key _ _ _ hs.2.2.2.2.2.2.2.2.2.1,key _ _ _ hs.2.2.2.2.2.2.2.2.2.2.1,key _ _ _ hs.2.2.2.2.2.2.2.2.2.2.2.1,key _ _ _ hs.2.2.2.2.2.2.2.2.2.2.2.2.1,key _ _ _ hs.2.2.2.2.2.2.2.2.2.2.2.2.2.1,key _ _ _ hs.2.2.2.2.2.2.2.2.2.2.2.2.2.2⟩,Z (X.o.trans (qK.mono X.o.size))⟩
     clear Is gm jZ me;go_enter func245,ntmps245;go_wp2;refine Mk.bH (S:=(λwx=>UJ wx (G w.heap.size 1)=H (Y m)/\UJ wx (G (w.heap.size+1) 0)=H (.bool true)/\UJ wx (G (w.heap.size+1) 1)=H (.string tb)/\UJ wx (G (w.heap.size+1) 2)=H (Y (lc 0))/\UJ wx (G (w.heap.size+1) 3)=H (Y (lc 1))/\UJ wx (G (w.heap.size+1) 4)=H (Y (lc 2))/\UJ wx (G (w.heap.size+1) 5)=H (Y (lc 3))/\UJ wx (G (w.heap.size+1) 6)=H (Y (lc 4))/\UJ wx (G (w.heap.size+1) 7)=H (Y (lc 5))/\UJ wx (G (w.heap.size+1) 8)=H (Y (lc 6))/\UJ wx (G (w.heap.size+1) 9)=H (Y (lc 7))/\UJ wx (G (w.heap.size+1) 10)=H (Y ln)/\UJ wx (G (w.heap.size+1) 11)=H (Y ha)/\UJ wx (G (w.heap.size+1) 12)=H (to ma n8 mc)/\UJ wx (G cb (ze+t*5+1))=H (Y ca))) bh ru (λau=>?_);generalize World.drew _=V0 at*;refine Mk.tk 0 (v:=?_) rfl ?_ cY ?_;rotate_left
     ·exact p_
     refine Mk.pt ?_;refine fk (rs:=[1]) bh ay ?_;refine bZ rfl (λK hK=>?_) cz;refine fH ?_;go_simp;go_at_call 300;refine(C1.o _ eV ru).mono ?_;rintro e w1 ⟨rfl,wY,hQ1⟩;clear au;refine hK.out _ _ wY (λau=>?_);clear hK K;refine Mk.pt ?_;refine Mk.tk 2 (v:=?_) rfl ?_ cY ?_;rotate_left
     ·exact p_
     refine Mk.pt ?_;refine Mk.tk 3 (v:=?_) rfl ?_ cY ?_;rotate_left
     ·exact p_
     refine Mk.pt ?_;refine Mk.tk 4 (v:=?_) rfl ?_ cY ?_;rotate_left
     ·exact p_
     refine Mk.pt ?_;refine Mk.tk 5 (v:=?_) rfl ?_ cY ?_;rotate_left
     ·exact p_
     refine Mk.pt ?_;refine Mk.tk 6 (v:=?_) rfl ?_ cY ?_;rotate_left
     ·exact p_
     refine Mk.pt ?_;refine Mk.tk 7 (v:=?_) rfl ?_ cY ?_;rotate_left
     ·exact p_
     refine Mk.pt ?_;refine fk (rs:=[8]) bh ay ?_;refine bZ rfl (λK hK=>?_) cz;refine fH ?_;go_simp;go_at_call 300;refine(C1.o _ hQ1 wY).mono ?_;rintro e w2 ⟨rfl,RI,hQ2⟩;clear au;refine hK.out _ _ RI (λau=>?_);clear hK K;refine Mk.pt ?_;refine Mk.tk 9 (v:=?_) rfl ?_ cY ?_;rotate_left
     ·exact p_
     refine Mk.pt ?_;refine Mk.tk 10 (v:=?_) rfl ?_ cY ?_;rotate_left
     ·exact p_
     refine Mk.pt ?_;refine Mk.tk 11 (v:=?_) rfl ?_ cY ?_;rotate_left
     ·exact p_
     refine Mk.pt ?_;refine Mk.tk 12 (v:=?_) rfl ?_ cY ?_;rotate_left
     ·exact p_
     refine Mk.pt ?_;refine Mk.tk 13 (v:=?_) rfl ?_ cY ?_;rotate_left
     ·exact p_
     refine Mk.pt ?_;refine Mk.tk 14 (v:=?_) rfl ?_ cY ?_;rotate_left
     ·exact p_
     refine Mk.pt ?_;refine nW bh ⟨rfl,?_⟩ _;clear au;go_wp2_with fail;refine fy rfl ?_;exact⟨show Ending.returned (.bool ((m:Int)==ca))=_ by congr 2,hQ2.o⟩
   ·rw[aw o6];have ho:op=22\/op=23:=O;unfold aV aI dY cQ;dsimp only;generalize gE ty=tb;generalize bI lo=lc;rcases ho with rfl|rfl
    all_goals
     exact ML
 ·have n22:¬op=22:=λe=>hj (.inl e);have n23:¬op=23:=λe=>hj (.inr (.inl e));have n25:¬op=25:=λe=>hj (.inr (.inr (.inl e)));have n26:¬op=26:=λe=>hj (.inr (.inr (.inr e)));have Dr:cP p T pc ⟨op,xa,xb,xc,xd⟩ ty lo=if op=24 then decide (pc+1<p.code.length)&&decide ((al p (pc+1)).op=25)else if op=27 then Ir T xa ty lo else if op=0 then lo.isEmpty else true:=by unfold cP;dsimp only;rw[aw (by rintro⟨h',-⟩;exact hj h'),aw n25,aw n26];cases lo<;>rfl
  rw[Dr];have HT:=Z hT;have HM:=Z hm;have HH:=Z h;clear Dr hT h hj zJ;by_cases o4:op=24
  ·subst o4;rw[bk rfl];have w2:IntKind.i64.wrap ((pc:Int)+1)=((pc+1:Nat):Int):=by rw[bJ _ lI];omega
   by_cases be:pc+1<p.code.length
   ·obtain⟨d0,-⟩:=Mq.o (pc+1) be;have e1:decide (pc+1<p.code.length)=true:=by simp[be]
    rw[e1];generalize(al p (pc+1)).op=ok at d0 ⊢;by_cases ho:ok=25
    ·subst ho;exact TJ
    ·have hr:(true&&decide (ok=25))=false:=by simp[ho]
     rw[hr];unfold aV aI dY cQ;dsimp only;generalize gE ty=tb;generalize bI lo=lc;go_enter func245,ntmps245;go_wp2_with fail;refine fy rfl ?_;exact⟨by simp[ho],hB _ _ _ _⟩
   ·have hr:∀b:Bool,(decide (pc+1<p.code.length)&&b)=false:=λb=>by simp[be]
    rw[hr];exact TJ
  rw[aw o4];by_cases o7:op=27
  ·subst o7;rw[bk rfl];have me:Hid (∀V,Below w.heap.size w V->Calls prog 300 #[dY true ⟨ty,lo,ha⟩ (to ma (lo.length-8) mc)] V (λe w'=>e=C8 (Y (pH lo))/\Below V.heap.size V w')):=Z (λV X=>JX V true (s:=⟨ty,lo,ha⟩) (aZ.aG HM.o (aA.af X)) (by dsimp only;omega));cases lo with
   |nil=>rw[show Ir T xa ty []=false from rfl];rw[show pH []= -1 from rfl]at me;clear HM HT HH Mq hs v0 v3 v4 v6;unfold aV aI dY cQ;dsimp only;unfold dY cQ at me;dsimp only at me;generalize gE ty=tb at*;generalize bI []=lc at*;generalize([]:List Nat).length=ln at*;generalize ln-8=n8 at*;go_enter func245,ntmps245;go_wp2_with fail;refine(me.o _ (hB _ _ _ _)).mono ?_;rintro e w1 ⟨rfl,X⟩;have cR:=Z ((hB _ _ _ _).trans (X.mono (show w.heap.size<=_ by simp only[aM];omega)));clear X;go_wp2_with fail;refine fy rfl ?_;exact⟨rfl,cR.o⟩
   |cons t l=>
    rw[show pH (t::l)=(t:Int)from rfl]at me;obtain⟨htp,-,st,fL,rF⟩:=id jo;have htn:t<p.code.length:=O;have hag:Ir T xa ty (t::l)=(decide (xa=t)&&decide (st.ty=ty/\st.lo=l)):=by show(decide (xa=t)&&(match T t with|some s=>decide (s.ty=ty/\s.lo=l)|none=>decide (ty=[]/\l=[])))=_;rw[fL]
    rw[hag];have hsa:fA T t=st:=by unfold fA;rw[fL];rfl
    have his:(T t).isSome=true:=by rw[fL];rfl
    have lN:=Z (λV (X:Below w.heap.size w V)=>(iM.aG hs (aA.af X)).Wy htn);have HMR:=Z (λV (X:Below w.heap.size w V)=>(hs.more t htn).aG (aA.af X));rw[his,hsa]at lN;rw[hsa]at HMR;have HWO:Hid (∀V,Below w.heap.size w V->Calls prog 301 #[dY true ⟨ty,t::l,ha⟩ (to ma ((t::l).length-8) mc)] V (pI V (to ma ((t::l).length-8) mc) true ⟨ty,l,ha⟩)):=Z (λV X=>Bf V true (s:=⟨ty,t::l,ha⟩) (dx.aG HM.o (aA.af X)) ay (by dsimp only;omega));have hts:=(HT.o t st fL).2;have oC:=J0 (λq s h=>(HT.o q s h).1) st.lo t (HT.o t st fL).1;have RJ:=Z (λ(V:UK) (Gj Y6:UL) (h1:dx V Gj st.lo) (h2:dx V Y6 l)=>Iq (w:=V) true true (s:=st) (s2:=⟨ty,l,st.ha⟩) h1 h2 hts hty O (by simp only[List.length_cons]at La;dsimp only;omega));have zg:decide (st=(⟨ty,l,st.ha⟩:Std))=decide (st.ty=ty/\st.lo=l):=by
     rw[decide_eq_decide];constructor
     ·intro h;rw[h];exact⟨rfl,rfl⟩
     ·rintro⟨h1,h2⟩;cases st;dsimp only at h1 h2 ⊢;rw[h1,h2]
    rw[zg]at RJ;generalize decide (st.ty=ty/\st.lo=l)=res at*;have HV:Hid (∀V,Below w.heap.size w V->UJ V (G vb 6)=H jg/\vb<V.heap.size):=Z (λV X=>by have:=hv.of (X.block _ hv.lt);exact⟨this.cell 6,this.lt⟩);have jN:=Z (λV (X:Below w.heap.size w V)=>HM.o.aG (aA.af X));clear hag hsa his fL rF HM HT HH Mq hs v0 v3 v4 v6 hts oC zg jo hty hv hlen oT abT La;unfold aV aI dY cQ;dsimp only;unfold dY cQ at me HWO RJ;dsimp only at me HWO RJ;generalize v_:gE ty=tb at*;have ub:=Z v_;clear v_;generalize bI (t::l)=lc at*;generalize(t::l).length=ln at*;generalize ln-8=n8 at*;go_enter func245,ntmps245;go_wp2_with fail;refine(me.o _ (hB _ _ _ _)).mono ?_;rintro e w1 ⟨rfl,X⟩;have Jm:Below w.heap.size w w1:=(hB _ _ _ _).trans (X.mono (show w.heap.size<=_ by simp only[aM];omega));have kx:aF w1 w.heap.size 40 #[Y 27,Y xa,Y xb,Y xc,Y xd]:=((aF.new w _ _).alloc _).of (X.block _ (by simp only[aM];omega));have ks:aF w1 (w.heap.size+1) 233 #[.bool true,.string tb,Y (lc 0),Y (lc 1),Y (lc 2),Y (lc 3),Y (lc 4),Y (lc 5),Y (lc 6),Y (lc 7),Y ln,Y ha,to ma n8 mc]:=(aF.bR ay).of (X.block _ (by simp only[aM];omega));have d1:UJ w1 (G w.heap.size 1)=H (Y xa):=kx.cell 1;have lx:=kx.lt;have ly:=ks.lt;obtain⟨e0,e1,e2,e3,e4,e5,e6,e7,e8,e9,Gk,Gl,Gm⟩:=ks.ri;have cR:=Z Jm;clear X Jm kx ks me;by_cases hx:xa=(t:Int)
    ·obtain⟨v6,Ze⟩:=HV.o w1 cR.o;obtain⟨A,cap,rfl,a1,a2,a3,g0,g1,g2,g3,g4,g5,g6,g7,g8,g9,g10,g11,g12⟩:=lN.o w1 cR.o;have Dn:=HMR.o w1 cR.o;obtain⟨ac9,Fb,hmv,-,-⟩:=aZ.val Dn;rw[hmv]at g12 Dn HMR;have HXT:=Z (show(decide (xa=(t:Int))&&res)=res by simp[hx]);rw[hx]at d1;clear hx hmv Dn;generalize gE st.ty=tb2 at*;generalize bI st.lo=oy at*;generalize st.lo.length=Wz at*;generalize st.ha=JZ at*;go_wp2_with fail;refine(HWO.o _ ((cR.o.alloc cR.o.size _))).mono ?_;rintro e w2 ⟨Y6,rfl,rD,dC,-⟩;obtain⟨na,nc,CM,-,-⟩:=aZ.val rD;rw[CM]at rD;dsimp only at rD CM;subst CM;have kin:aF w2 w1.heap.size 233 #[.bool true,.string tb2,Y (oy 0),Y (oy 1),Y (oy 2),Y (oy 3),Y (oy 4),Y (oy 5),Y (oy 6),Y (oy 7),Y Wz,Y JZ,to ac9 (Wz-8) Fb]:=(aF.new w1 _ _).of (dC.block _ ay);obtain⟨f0,f1,f2,f3,f4,f5,f6,f7,f8,f9,f10,f11,f12⟩:=kin.ri;have lin:=kin.lt;have eF:=Z ((cR.o.alloc cR.o.size _).trans (dC.mono (cU cR.o.size ay)));have J_:=Z rD;have SB:=Z (HMR.o w2 eF.o);generalize w1.heap.size=ib at*;unfold dY cQ;dsimp only;generalize bI l=lcm at*;generalize l.length=lm at*;generalize lm-8=n9 at*;rw[ub.o];go_wp2_with fail;refine(RJ.o _ _ _ (dx.aG SB.o ((aA.refl [] w2).alloc _)) (dx.aG J_.o ((aA.refl [] w2).alloc _))).mono ?_;rintro e w3 ⟨rfl,pz⟩;have iy:=Z ((eF.o.alloc eF.o.size _).trans (pz.mono (cU eF.o.size ay)));clear pz;go_wp2_with fail;refine fy rfl ?_;exact⟨by rw[HXT.o];rfl,iy.o⟩
    ·have HXT:=Z (show(decide (xa=(t:Int))&&res)=false by simp[hx]);have ae5:(xa !=(t:Int))=true:=by simp[hx]
     go_wp2_with fail;refine fy rfl ?_;exact⟨by rw[HXT.o];rfl,cR.o⟩
  rw[aw o7];by_cases o0:op=0
  ·subst o0;rw[bk rfl];cases lo with
   |nil=>unfold aV aI dY cQ;dsimp only;generalize gE ty=tb;generalize bI []=lc;exact ML
   |cons t l=>
    have bm:(((t::l).length:Nat):Int)≠0:=by simp<;>omega
    unfold aV aI dY cQ;dsimp only;generalize gE ty=tb;generalize bI (t::l)=lc;have hie:(t::l).isEmpty=false:=rfl;rw[hie];generalize(t::l).length=ln at*;have TM:¬ln=0:=O;go_enter func245,ntmps245;go_wp2_with fail;refine fy rfl ?_;exact⟨by simp[TM],hB _ _ _ _⟩
  ·rw[aw o0];exact TJ
def QK(a:Nat)(s:Std)(mv:UL):Array UL:=
 #[Y a,.bool true,.string (gE s.ty),Y (bI s.lo 0),Y (bI s.lo 1),Y (bI s.lo 2),Y (bI s.lo 3),Y (bI s.lo 4),Y (bI s.lo 5),Y (bI s.lo 6),Y (bI s.lo 7),Y s.lo.length,Y s.ha,mv]
def eP:Nat×Std:=(0,Zb)
def wyC(l:List (Nat×Std))(mv:Nat->UL)(o:Nat):UL:=(QK (l.getD (o / 14) eP).1 (l.getD (o / 14) eP).2 (mv (o / 14))).getD (o % 14) undef
structure iN(w:UK)(lo:Nat)(sv lv:UL)(l:List (Nat×Std))(mv:Nat->UL):Prop where
 row:aZ w 14 lv l.length (wyC l mv)
 more:∀i,i<l.length->dx w (mv i) (l.getD i eP).2.lo
 off:∀i,i<l.length->∀b,(mv i).ownBlock=H b->sv.ownBlock=H b\/lo<=b
def afL(w:UK)(sv:UL)(l:List (Nat×Std))(e:Ending)(w':UK):Prop:=∃lv mv,e=C8 lv/\iN w' w.heap.size sv lv l mv/\Below w.heap.size w w'/\∀b,lv.ownBlock=H b->w.heap.size<=b
def iN.nil(w:UK)(lo:Nat)(sv:UL):iN w lo sv Pl [] (λ_=>undef):=⟨.inl ⟨rfl,rfl⟩,λi hi=>absurd hi ay,λi hi=>absurd hi ay⟩
def iN.one{W:UK}{lo b:Nat}{sv:UL}{a:Nat}{s:Std}{mv:UL}{cs:Array UL}(X:aF W b 279 cs)(e:cs=QK a s mv)(hm:dx W mv s.lo)(ho:∀b,mv.ownBlock=H b->sv.ownBlock=H b\/lo<=b):
 iN W lo sv (to (H (G b 0)) 1 1) [(a,s)] (λ_=>mv):=by
 subst e;refine⟨.inr ⟨_,_,rfl,aL _,bd,λo h=>⟨rfl,?_⟩⟩,λi hi=>?_,λi hi=>?_⟩
 ·have ho:o<14:=by simpa using h
  rw[Nat.zero_add];have hc:=X.cell o;rw[hc];unfold wyC;rw[show o / 14=0 by omega,show o % 14=o by omega];show _=H ((QK a s mv).getD o undef);rw[oL,tR (show o<(QK a s mv).size from ho)];rfl
 ·obtain rfl:i=0:=by simpa using hi
  exact hm
 ·exact ho
def iN.two{W:UK}{lo b:Nat}{sv:UL}{a a':Nat}{s s':Std}{mv PH:UL}{cs:Array UL}(X:aF W b 279 cs)(e:cs=QK a s mv++QK a' s' PH)(hm:dx W mv s.lo)(ho:∀b,mv.ownBlock=H b->sv.ownBlock=H b\/lo<=b)(iY:dx W PH s'.lo)(ho':∀b,PH.ownBlock=H b->sv.ownBlock=H b\/lo<=b):
 iN W lo sv (to (H (G b 0)) 2 2) [(a,s),(a',s')] (λi=>if i=0 then mv else PH):=by
 subst e;have z1:(QK a s mv).size=14:=rfl;have z2:(QK a' s' PH).size=14:=rfl;refine⟨.inr ⟨_,_,rfl,aL _,bd,λo h=>⟨rfl,?_⟩⟩,λi hi=>?_,λi hi=>?_⟩
 ·have ho:o<28:=by simpa using h
  rw[Nat.zero_add];have hc:=X.cell o;rw[hc];unfold wyC;by_cases h14:o<14
  ·rw[show o / 14=0 by omega,show o % 14=o by omega];show _=H ((QK a s mv).getD o undef);rw[oL,Array.getElem?_append_left (by rw[z1];exact h14),tR (show o<(QK a s mv).size by rw[z1];exact h14)];rfl
  ·rw[show o / 14=1 by omega,show o % 14=o-14 by omega];show _=H ((QK a' s' PH).getD (o-14) undef);rw[oL,Array.getElem?_append_right (by rw[z1];omega),z1,tR (show o-14<(QK a' s' PH).size by rw[z2];omega)];rfl
 ·have:i=0\/i=1:=by have:i<2:=hi;omega
  rcases this with rfl|rfl
  ·exact hm
  ·exact iY
 ·have:i=0\/i=1:=by have:i<2:=hi;omega
  rcases this with rfl|rfl
  ·exact ho
  ·exact ho'
def t_{p:Prop}(h:p:=by
 go_enter func247,ntmps247;go_wp2;go_ret;exact⟨_,λ_=> to ma (s.lo.length-8) mc,rfl,iN.one (aF.bR ay) LS.o.symm (HM.o.aG (aA.af ((hB _ _ _ _).alloc (by simp only[aM];omega) _))) (λ_ X=> .inl X),(hB _ _ _ _).alloc (by simp only[aM];omega) _,λb X=>by have h1:_=b:=sd X;simp only[aM]at h1 ⊢;omega⟩):p:=h
def sI{p:Prop}(h:p:=by
 refine Z λV V' qK hs=>?_;have key:∀b i v,UJ V (G b i)=H v->UJ V' (G b i)=H v:=λb i v hc=>(dN (qK.block _ (aH hc))).trans hc;exact⟨key _ _ _ (hs.1),key _ _ _ (hs.2.1),key _ _ _ (hs.2.2.1),key _ _ _ (hs.2.2.2.1),key _ _ _ (hs.2.2.2.2.1),key _ _ _ (hs.2.2.2.2.2.1),key _ _ _ (hs.2.2.2.2.2.2.1),key _ _ _ (hs.2.2.2.2.2.2.2.1),key _ _ _ (hs.2.2.2.2.2.2.2.2.1),key _ _ _ (hs.2.2.2.2.2.2.2.2.2.1),key _ _ _ (hs.2.2.2.2.2.2.2.2.2.2.1),key _ _ _ (hs.2.2.2.2.2.2.2.2.2.2.2.1),key _ _ _ (hs.2.2.2.2.2.2.2.2.2.2.2.2.1),key _ _ _ (hs.2.2.2.2.2.2.2.2.2.2.2.2.2)⟩):p:=h
def pJ{p:Prop}(h:p:=by
 intro wz fj
 (try dsimp only at fj)
 exact qj):p:=h
def acJ(w:UK){pc:Nat}{x:Ins}{s:Std}{smv:UL}(hm:dx w smv s.lo)(oT:pc<262144)(h0:0<=x.op)(ha:x.op=22\/x.op=23\/x.op=25\/x.op=26->0<=x.a)(hl:s.lo.length<=262144)(hq:x.op=26->0<s.lo.length):
 Calls prog 247 #[Y pc,aV x,dY true s smv] w (afL w smv (cH pc x s)):=by
 obtain⟨op,xa,xb,xc,xd⟩:=x;dsimp only at h0 ha hq;obtain⟨ma,mc,rfl,m1,m2⟩:=aZ.val hm;have HM:=Z hm;have hB:=KJ w;have w1:IntKind.i64.wrap ((pc:Int)+1)=((pc+1:Nat):Int):=by rw[bJ _ lI];omega
 by_cases o1:op=0\/op=27
 ·have hf:cH pc ⟨op,xa,xb,xc,xd⟩ s=[]:=by unfold cH;rw[bk o1]
  rw[hf];clear hf hm ha hq;unfold aV aI dY cQ;dsimp only;generalize gE s.ty=tb;generalize bI s.lo=lc;rcases o1 with rfl|rfl
  all_goals
   go_enter func247,ntmps247;go_wp2;go_ret;exact⟨Pl,λ_=>undef,rfl,iN.nil _ _ _,hB _ _ _ _,λb X=>by cases X⟩
 by_cases o2:op=22
 ·subst o2;obtain⟨m,rfl⟩:=dz (ha ay);have hf:cH pc ⟨22,m,xb,xc,xd⟩ s=[(m,s)]:=rfl;rw[hf];clear hf hm ha hq o1 h0;unfold aV aI dY cQ;dsimp only;have LS:Hid (QK (m) s (to ma (s.lo.length-8) mc)=#[Y (m:Nat),.bool true,.string (gE s.ty),Y (bI s.lo 0),Y (bI s.lo 1),Y (bI s.lo 2),Y (bI s.lo 3),Y (bI s.lo 4),Y (bI s.lo 5),Y (bI s.lo 6),Y (bI s.lo 7),Y s.lo.length,Y s.ha,to ma (s.lo.length-8) mc]):=Z rfl;generalize gE s.ty=tb at*;generalize bI s.lo=lc at*;exact t_
 by_cases o3:op=23
 ·subst o3;obtain⟨m,rfl⟩:=dz (ha ay);have hf:cH pc ⟨23,m,xb,xc,xd⟩ s=[(pc+1,s),(m,s)]:=rfl;rw[hf];clear hf hm ha hq o1 h0 o2;unfold aV aI dY cQ;dsimp only;have LS:Hid (QK (pc+1) s (to ma (s.lo.length-8) mc)=#[Y (pc+1:Nat),.bool true,.string (gE s.ty),Y (bI s.lo 0),Y (bI s.lo 1),Y (bI s.lo 2),Y (bI s.lo 3),Y (bI s.lo 4),Y (bI s.lo 5),Y (bI s.lo 6),Y (bI s.lo 7),Y s.lo.length,Y s.ha,to ma (s.lo.length-8) mc]):=Z rfl;have pX:Hid (QK (m) s (to ma (s.lo.length-8) mc)=#[Y (m:Nat),.bool true,.string (gE s.ty),Y (bI s.lo 0),Y (bI s.lo 1),Y (bI s.lo 2),Y (bI s.lo 3),Y (bI s.lo 4),Y (bI s.lo 5),Y (bI s.lo 6),Y (bI s.lo 7),Y s.lo.length,Y s.ha,to ma (s.lo.length-8) mc]):=Z rfl;generalize gE s.ty=tb at*;generalize bI s.lo=lc at*;go_enter func247,ntmps247;go_wp2;go_ret;exact⟨_,λi=>if i=0 then to ma (s.lo.length-8) mc else to ma (s.lo.length-8) mc,rfl,iN.two (aF.bR ay) (by rw[LS.o,pX.o];rfl) (HM.o.aG (aA.af ((hB _ _ _ _).alloc (by simp only[aM];omega) _))) (λ_ X=> .inl X) (HM.o.aG (aA.af ((hB _ _ _ _).alloc (by simp only[aM];omega) _))) (λ_ X=> .inl X),(hB _ _ _ _).alloc (by simp only[aM];omega) _,λb X=>by have h1:_=b:=sd X;simp only[aM]at h1 ⊢;omega⟩
 by_cases o4:op=25
 ·subst o4;obtain⟨m,rfl⟩:=dz (ha ay);have hf:cH pc ⟨25,m,xb,xc,xd⟩ s=[(pc+1,{s with lo:=pc::s.lo}),(m,s)]:=rfl;rw[hf];have HW:=Z (λV (X:Below w.heap.size w V)=>age V true (s:=s) pc (dx.aG HM.o (aA.af X)) O);clear hf hm ha hq o1 h0;unfold aV aI dY cQ;dsimp only;unfold dY cQ at HW;have LS:Hid (∀(a:Nat),QK a s (to ma (s.lo.length-8) mc)=#[Y a,.bool true,.string (gE s.ty),Y (bI s.lo 0),Y (bI s.lo 1),Y (bI s.lo 2),Y (bI s.lo 3),Y (bI s.lo 4),Y (bI s.lo 5),Y (bI s.lo 6),Y (bI s.lo 7),Y s.lo.length,Y s.ha,to ma (s.lo.length-8) mc]):=Z λ_=>rfl;have pX:Hid (∀(a:Nat) (mv:UL),QK a {s with lo:=pc::s.lo} mv=#[Y a,.bool true,.string (gE s.ty),Y (bI (pc::s.lo) 0),Y (bI (pc::s.lo) 1),Y (bI (pc::s.lo) 2),Y (bI (pc::s.lo) 3),Y (bI (pc::s.lo) 4),Y (bI (pc::s.lo) 5),Y (bI (pc::s.lo) 6),Y (bI (pc::s.lo) 7),Y (pc::s.lo).length,Y s.ha,mv]):=Z λ_ _=>rfl;generalize v_:gE s.ty=tb at*;have ub:=Z v_;clear v_;generalize bI s.lo=lc at*;generalize CO:s.lo.length=ln at*;generalize ln-8=n8 at*;have Is:aF (((w.alloc (QP #[Y 25,Y m,Y xb,Y xc,Y xd] 40)).alloc (QP #[.bool true,.string tb,Y (lc 0),Y (lc 1),Y (lc 2),Y (lc 3),Y (lc 4),Y (lc 5),Y (lc 6),Y (lc 7),Y ln,Y s.ha,to ma n8 mc] 233)).drew) w.heap.size 40 #[Y 25,Y m,Y xb,Y xc,Y xd]:=((aF.new w _ _).alloc _).drewN 1;have gm:aF (((w.alloc (QP #[Y 25,Y m,Y xb,Y xc,Y xd] 40)).alloc (QP #[.bool true,.string tb,Y (lc 0),Y (lc 1),Y (lc 2),Y (lc 3),Y (lc 4),Y (lc 5),Y (lc 6),Y (lc 7),Y ln,Y s.ha,to ma n8 mc] 233)).drew) (w.heap.size+1) 233 #[.bool true,.string tb,Y (lc 0),Y (lc 1),Y (lc 2),Y (lc 3),Y (lc 4),Y (lc 5),Y (lc 6),Y (lc 7),Y ln,Y s.ha,to ma n8 mc]:=(aF.bR ay).drewN 1;have ru:TH w (((w.alloc (QP #[Y 25,Y m,Y xb,Y xc,Y xd] 40)).alloc (QP #[.bool true,.string tb,Y (lc 0),Y (lc 1),Y (lc 2),Y (lc 3),Y (lc 4),Y (lc 5),Y (lc 6),Y (lc 7),Y ln,Y s.ha,to ma n8 mc] 233)).drew) (Y m) (.bool true) (.string tb) (Y (lc 0)) (Y (lc 1)) (Y (lc 2)) (Y (lc 3)) (Y (lc 4)) (Y (lc 5)) (Y (lc 6)) (Y (lc 7)) (Y ln) (Y s.ha) (to ma n8 mc):=⟨Is.cell 1,gm.cell 0,gm.cell 1,gm.cell 2,gm.cell 3,gm.cell 4,gm.cell 5,gm.cell 6,gm.cell 7,gm.cell 8,gm.cell 9,gm.cell 10,gm.cell 11,gm.cell 12⟩;have ep:Below w.heap.size w (((w.alloc (QP #[Y 25,Y m,Y xb,Y xc,Y xd] 40)).alloc (QP #[.bool true,.string tb,Y (lc 0),Y (lc 1),Y (lc 2),Y (lc 3),Y (lc 4),Y (lc 5),Y (lc 6),Y (lc 7),Y ln,Y s.ha,to ma n8 mc] 233)).drew):=(hB _ _ _ _).trans (az _ _ 1);have eV:=Z ep;have KA:Hid (∀V V':UK,Below V.heap.size V V'->(TH w V (Y m) (.bool true) (.string tb) (Y (lc 0)) (Y (lc 1)) (Y (lc 2)) (Y (lc 3)) (Y (lc 4)) (Y (lc 5)) (Y (lc 6)) (Y (lc 7)) (Y ln) (Y s.ha) (to ma n8 mc))->(TH w V' (Y m) (.bool true) (.string tb) (Y (lc 0)) (Y (lc 1)) (Y (lc 2)) (Y (lc 3)) (Y (lc 4)) (Y (lc 5)) (Y (lc 6)) (Y (lc 7)) (Y ln) (Y s.ha) (to ma n8 mc))):=by exact sI
  clear Is gm ep;go_enter func247,ntmps247;go_wp2;refine Mk.bH (S:=λwx=>UJ wx (G w.heap.size 1)=H (Y m)/\UJ wx (G (w.heap.size+1) 0)=H (.bool true)/\UJ wx (G (w.heap.size+1) 1)=H (.string tb)/\UJ wx (G (w.heap.size+1) 2)=H (Y (lc 0))/\UJ wx (G (w.heap.size+1) 3)=H (Y (lc 1))/\UJ wx (G (w.heap.size+1) 4)=H (Y (lc 2))/\UJ wx (G (w.heap.size+1) 5)=H (Y (lc 3))/\UJ wx (G (w.heap.size+1) 6)=H (Y (lc 4))/\UJ wx (G (w.heap.size+1) 7)=H (Y (lc 5))/\UJ wx (G (w.heap.size+1) 8)=H (Y (lc 6))/\UJ wx (G (w.heap.size+1) 9)=H (Y (lc 7))/\UJ wx (G (w.heap.size+1) 10)=H (Y ln)/\UJ wx (G (w.heap.size+1) 11)=H (Y s.ha)/\UJ wx (G (w.heap.size+1) 12)=H (to ma n8 mc)) bh ru (λau=>?_);generalize World.drew _=V0 at*;refine Mk.tk 0 (v:=?_) rfl ?_ cY ?_;rotate_left
  ·exact pJ
  refine Mk.pt ?_;refine Mk.tk 1 (v:=?_) rfl ?_ cY ?_;rotate_left
  ·exact pJ
  refine Mk.pt ?_;refine Mk.tk 2 (v:=?_) rfl ?_ cY ?_;rotate_left
  ·exact pJ
  refine Mk.pt ?_;refine Mk.tk 3 (v:=?_) rfl ?_ cY ?_;rotate_left
  ·exact pJ
  refine Mk.pt ?_;refine Mk.tk 6 (v:=?_) rfl ?_ cY ?_;rotate_left
  ·exact pJ
  refine Mk.pt ?_;refine Mk.tk 7 (v:=?_) rfl ?_ cY ?_;rotate_left
  ·exact pJ
  refine Mk.pt ?_;refine Mk.tk 8 (v:=?_) rfl ?_ cY ?_;rotate_left
  ·exact pJ
  refine Mk.pt ?_;refine Mk.tk 9 (v:=?_) rfl ?_ cY ?_;rotate_left
  ·exact pJ
  refine Mk.pt ?_;refine fk (rs:=[4]) bh ay ?_;refine bZ rfl (λK hK=>?_) cz;refine fH ?_;go_simp;go_at_call 302;refine(HW.o _ eV.o).mono ?_;rintro e w2 ⟨Y6,rfl,rD,dC,Cw⟩;obtain⟨na,nc,CM,-,-⟩:=aZ.val rD;dsimp only at rD CM;subst CM;have wY:=KA.o _ _ dC ru;have J_:=Z rD;have eF:=Z (eV.o.trans (dC.mono eV.o.size));have yL:=Z Cw;have LR:=Z dC;clear rD dC Cw HW;unfold dY cQ;dsimp only;rw[ub.o];generalize(pc::s.lo).length-8=n9 at*;generalize bI (pc::s.lo)=oy at*;generalize(pc::s.lo).length=Wz at*;clear au;refine hK.out _ _ wY (λau=>?_);clear hK K;refine Mk.pt ?_;refine Mk.tk 5 (v:=?_) rfl ?_ cY ?_;rotate_left
  ·exact pJ
  refine Mk.pt ?_;refine fk (rs:=[10]) bh ay ?_;refine bZ rfl (λK hK=>?_) cz;refine fH ?_;go_simp;refine hK.out _ _ (KA.o _ _ ((aB _ _).alloc (aL _) _) wY) (λau=>?_);clear hK K;refine Mk.pt ?_;refine Mk.tk 11 (v:=?_) rfl ?_ cY ?_;rotate_left
  ·exact pJ
  refine Mk.pt ?_;refine nW bh ⟨rfl,?_⟩ _;clear au;go_wp2_with fail;refine fy rfl ?_;have BF:=eF.o.alloc eF.o.size (QP #[Y ((pc:Int)+1),.bool true,.string tb,Y (oy 0),Y (oy 1),Y (oy 2),Y (oy 3),Y (oy 4),Y (oy 5),Y (oy 6),Y (oy 7),Y Wz,Y s.ha,to na n9 nc,Y m,.bool true,.string tb,Y (lc 0),Y (lc 1),Y (lc 2),Y (lc 3),Y (lc 4),Y (lc 5),Y (lc 6),Y (lc 7),Y ln,Y s.ha,to ma n8 mc] 279);have KB:=aF.new w2 279 #[Y ((pc:Int)+1),.bool true,.string tb,Y (oy 0),Y (oy 1),Y (oy 2),Y (oy 3),Y (oy 4),Y (oy 5),Y (oy 6),Y (oy 7),Y Wz,Y s.ha,to na n9 nc,Y m,.bool true,.string tb,Y (lc 0),Y (lc 1),Y (lc 2),Y (lc 3),Y (lc 4),Y (lc 5),Y (lc 6),Y (lc 7),Y ln,Y s.ha,to ma n8 mc];exact⟨_,λi=>if i=0 then to na n9 nc else to ma n8 mc,rfl,iN.two KB (by rw[pX.o,LS.o];rfl) (J_.o.aG ((aA.refl [] w2).alloc _)) (λb X=>(yL.o b X).imp id (λh=>cU eV.o.size h)) (HM.o.aG (aA.af BF)) (λ_ X=> .inl X),BF,λb X=>by have h1:w2.heap.size=b:=sd X;have h2:=eF.o.size;omega⟩
 by_cases o5:op=26
 ·subst o5;obtain⟨m,rfl⟩:=dz (ha ay);have hf:cH pc ⟨26,m,xb,xc,xd⟩ s=[(pc+1,s),(m,{s with lo:=s.lo.tail})]:=rfl;rw[hf];have HW:=Z (λV (X:Below w.heap.size w V)=>Bf V true (s:=s) (dx.aG HM.o (aA.af X)) (hq rfl) O);clear hf hm ha hq o1 h0;unfold aV aI dY cQ;dsimp only;unfold dY cQ at HW;have LS:Hid (∀(a:Nat),QK a s (to ma (s.lo.length-8) mc)=#[Y a,.bool true,.string (gE s.ty),Y (bI s.lo 0),Y (bI s.lo 1),Y (bI s.lo 2),Y (bI s.lo 3),Y (bI s.lo 4),Y (bI s.lo 5),Y (bI s.lo 6),Y (bI s.lo 7),Y s.lo.length,Y s.ha,to ma (s.lo.length-8) mc]):=Z λ_=>rfl;have pX:Hid (∀(a:Nat) (mv:UL),QK a {s with lo:=s.lo.tail} mv=#[Y a,.bool true,.string (gE s.ty),Y (bI s.lo.tail 0),Y (bI s.lo.tail 1),Y (bI s.lo.tail 2),Y (bI s.lo.tail 3),Y (bI s.lo.tail 4),Y (bI s.lo.tail 5),Y (bI s.lo.tail 6),Y (bI s.lo.tail 7),Y s.lo.tail.length,Y s.ha,mv]):=Z λ_ _=>rfl;generalize v_:gE s.ty=tb at*;have ub:=Z v_;clear v_;generalize bI s.lo=lc at*;generalize CO:s.lo.length=ln at*;generalize ln-8=n8 at*;have Is:aF (((w.alloc (QP #[Y 26,Y m,Y xb,Y xc,Y xd] 40)).alloc (QP #[.bool true,.string tb,Y (lc 0),Y (lc 1),Y (lc 2),Y (lc 3),Y (lc 4),Y (lc 5),Y (lc 6),Y (lc 7),Y ln,Y s.ha,to ma n8 mc] 233)).drew) w.heap.size 40 #[Y 26,Y m,Y xb,Y xc,Y xd]:=((aF.new w _ _).alloc _).drewN 1;have gm:aF (((w.alloc (QP #[Y 26,Y m,Y xb,Y xc,Y xd] 40)).alloc (QP #[.bool true,.string tb,Y (lc 0),Y (lc 1),Y (lc 2),Y (lc 3),Y (lc 4),Y (lc 5),Y (lc 6),Y (lc 7),Y ln,Y s.ha,to ma n8 mc] 233)).drew) (w.heap.size+1) 233 #[.bool true,.string tb,Y (lc 0),Y (lc 1),Y (lc 2),Y (lc 3),Y (lc 4),Y (lc 5),Y (lc 6),Y (lc 7),Y ln,Y s.ha,to ma n8 mc]:=(aF.bR ay).drewN 1;have ru:TH w (((w.alloc (QP #[Y 26,Y m,Y xb,Y xc,Y xd] 40)).alloc (QP #[.bool true,.string tb,Y (lc 0),Y (lc 1),Y (lc 2),Y (lc 3),Y (lc 4),Y (lc 5),Y (lc 6),Y (lc 7),Y ln,Y s.ha,to ma n8 mc] 233)).drew) (Y m) (.bool true) (.string tb) (Y (lc 0)) (Y (lc 1)) (Y (lc 2)) (Y (lc 3)) (Y (lc 4)) (Y (lc 5)) (Y (lc 6)) (Y (lc 7)) (Y ln) (Y s.ha) (to ma n8 mc):=⟨Is.cell 1,gm.cell 0,gm.cell 1,gm.cell 2,gm.cell 3,gm.cell 4,gm.cell 5,gm.cell 6,gm.cell 7,gm.cell 8,gm.cell 9,gm.cell 10,gm.cell 11,gm.cell 12⟩;have ep:Below w.heap.size w (((w.alloc (QP #[Y 26,Y m,Y xb,Y xc,Y xd] 40)).alloc (QP #[.bool true,.string tb,Y (lc 0),Y (lc 1),Y (lc 2),Y (lc 3),Y (lc 4),Y (lc 5),Y (lc 6),Y (lc 7),Y ln,Y s.ha,to ma n8 mc] 233)).drew):=(hB _ _ _ _).trans (az _ _ 1);have eV:=Z ep;have KA:Hid (∀V V':UK,Below V.heap.size V V'->(TH w V (Y m) (.bool true) (.string tb) (Y (lc 0)) (Y (lc 1)) (Y (lc 2)) (Y (lc 3)) (Y (lc 4)) (Y (lc 5)) (Y (lc 6)) (Y (lc 7)) (Y ln) (Y s.ha) (to ma n8 mc))->(TH w V' (Y m) (.bool true) (.string tb) (Y (lc 0)) (Y (lc 1)) (Y (lc 2)) (Y (lc 3)) (Y (lc 4)) (Y (lc 5)) (Y (lc 6)) (Y (lc 7)) (Y ln) (Y s.ha) (to ma n8 mc))):=by exact sI
  clear Is gm ep;go_enter func247,ntmps247;go_wp2;refine Mk.bH (S:=λwx=>UJ wx (G w.heap.size 1)=H (Y m)/\UJ wx (G (w.heap.size+1) 0)=H (.bool true)/\UJ wx (G (w.heap.size+1) 1)=H (.string tb)/\UJ wx (G (w.heap.size+1) 2)=H (Y (lc 0))/\UJ wx (G (w.heap.size+1) 3)=H (Y (lc 1))/\UJ wx (G (w.heap.size+1) 4)=H (Y (lc 2))/\UJ wx (G (w.heap.size+1) 5)=H (Y (lc 3))/\UJ wx (G (w.heap.size+1) 6)=H (Y (lc 4))/\UJ wx (G (w.heap.size+1) 7)=H (Y (lc 5))/\UJ wx (G (w.heap.size+1) 8)=H (Y (lc 6))/\UJ wx (G (w.heap.size+1) 9)=H (Y (lc 7))/\UJ wx (G (w.heap.size+1) 10)=H (Y ln)/\UJ wx (G (w.heap.size+1) 11)=H (Y s.ha)/\UJ wx (G (w.heap.size+1) 12)=H (to ma n8 mc)) bh ru (λau=>?_);generalize World.drew _=V0 at*;refine Mk.tk 0 (v:=?_) rfl ?_ cY ?_;rotate_left
  ·exact pJ
  refine Mk.pt ?_;refine Mk.tk 1 (v:=?_) rfl ?_ cY ?_;rotate_left
  ·exact pJ
  refine Mk.pt ?_;refine Mk.tk 2 (v:=?_) rfl ?_ cY ?_;rotate_left
  ·exact pJ
  refine Mk.pt ?_;refine Mk.tk 3 (v:=?_) rfl ?_ cY ?_;rotate_left
  ·exact pJ
  refine Mk.pt ?_;refine Mk.tk 4 (v:=?_) rfl ?_ cY ?_;rotate_left
  ·exact pJ
  refine Mk.pt ?_;refine Mk.tk 5 (v:=?_) rfl ?_ cY ?_;rotate_left
  ·exact pJ
  refine Mk.pt ?_;refine Mk.tk 6 (v:=?_) rfl ?_ cY ?_;rotate_left
  ·exact pJ
  refine Mk.pt ?_;refine fk (rs:=[7]) bh ay ?_;refine bZ rfl (λK hK=>?_) cz;refine fH ?_;go_simp;go_at_call 301;refine(HW.o _ eV.o).mono ?_;rintro e w2 ⟨Y6,rfl,rD,dC,Cw⟩;obtain⟨na,nc,CM,-,-⟩:=aZ.val rD;dsimp only at rD CM;subst CM;have wY:=KA.o _ _ dC ru;have J_:=Z rD;have eF:=Z (eV.o.trans (dC.mono eV.o.size));have yL:=Z Cw;have LR:=Z dC;clear rD dC Cw HW;unfold dY cQ;dsimp only;rw[ub.o];generalize s.lo.tail.length-8=n9 at*;generalize bI s.lo.tail=oy at*;generalize s.lo.tail.length=Wz at*;clear au;refine hK.out _ _ wY (λau=>?_);clear hK K;refine Mk.pt ?_;refine Mk.tk 8 (v:=?_) rfl ?_ cY ?_;rotate_left
  ·exact pJ
  refine Mk.pt ?_;refine fk (rs:=[9]) bh ay ?_;refine bZ rfl (λK hK=>?_) cz;refine fH ?_;go_simp;refine hK.out _ _ (KA.o _ _ ((aB _ _).alloc (aL _) _) wY) (λau=>?_);clear hK K;refine Mk.pt ?_;refine Mk.tk 10 (v:=?_) rfl ?_ cY ?_;rotate_left
  ·exact pJ
  refine Mk.pt ?_;refine nW bh ⟨rfl,?_⟩ _;clear au;go_wp2_with fail;refine fy rfl ?_;have BF:=eF.o.alloc eF.o.size (QP #[Y ((pc:Int)+1),.bool true,.string tb,Y (lc 0),Y (lc 1),Y (lc 2),Y (lc 3),Y (lc 4),Y (lc 5),Y (lc 6),Y (lc 7),Y ln,Y s.ha,to ma n8 mc,Y m,.bool true,.string tb,Y (oy 0),Y (oy 1),Y (oy 2),Y (oy 3),Y (oy 4),Y (oy 5),Y (oy 6),Y (oy 7),Y Wz,Y s.ha,to na n9 nc] 279);have KB:=aF.new w2 279 #[Y ((pc:Int)+1),.bool true,.string tb,Y (lc 0),Y (lc 1),Y (lc 2),Y (lc 3),Y (lc 4),Y (lc 5),Y (lc 6),Y (lc 7),Y ln,Y s.ha,to ma n8 mc,Y m,.bool true,.string tb,Y (oy 0),Y (oy 1),Y (oy 2),Y (oy 3),Y (oy 4),Y (oy 5),Y (oy 6),Y (oy 7),Y Wz,Y s.ha,to na n9 nc];exact⟨_,λi=>if i=0 then to ma n8 mc else to na n9 nc,rfl,iN.two KB (by rw[pX.o,LS.o];rfl) (HM.o.aG (aA.af BF)) (λ_ X=> .inl X) (J_.o.aG ((aA.refl [] w2).alloc _)) (λb X=>(yL.o b X).imp id (λh=>cU eV.o.size h)),BF,λb X=>by have h1:w2.heap.size=b:=sd X;have h2:=eF.o.size;omega⟩
 ·have hf:cH pc ⟨op,xa,xb,xc,xd⟩ s=[(pc+1,s)]:=by unfold cH;dsimp only;rw[aw o1,aw o2,aw o3,aw o4,aw o5]
  rw[hf];have o6:¬op=0:=λe=>o1 (.inl e);have o7:¬op=27:=λe=>o1 (.inr e);clear hf hm ha hq o1;unfold aV aI dY cQ;dsimp only;have LS:Hid (QK (pc+1) s (to ma (s.lo.length-8) mc)=#[Y (pc+1:Nat),.bool true,.string (gE s.ty),Y (bI s.lo 0),Y (bI s.lo 1),Y (bI s.lo 2),Y (bI s.lo 3),Y (bI s.lo 4),Y (bI s.lo 5),Y (bI s.lo 6),Y (bI s.lo 7),Y s.lo.length,Y s.ha,to ma (s.lo.length-8) mc]):=Z rfl;generalize gE s.ty=tb at*;generalize bI s.lo=lc at*;exact t_
def PI(op:Nat)(i:Nat):UL:=Y ((b_ op).getD i 0:Nat)
def aga(w:UK)(op:Nat)(e:Ending)(w':UK):Prop:=∃tv,e=C8 (.agg #[tv,Y (cG op:Nat)])/\aZ w' 1 tv (b_ op).length (PI op)/\Below w.heap.size w w'
def aei{W:UK}{b:Nat}{x:UL}{g:Nat->UL}(h:aF W b 3 #[x])(e:g 0=x):aZ W 1 (to (H (G b 0)) 1 1) 1 g:=
 .inr ⟨_,_,rfl,aL _,by unfold maxLen;omega,λo ho=>⟨rfl,by
   obtain rfl:o=0:=O;rw[e];exact h.cell 0⟩⟩
def aej{W:UK}{b:Nat}{x y:UL}{g:Nat->UL}(h:aF W b 3 #[x,y])(e:g 0=x)(e2:g 1=y):aZ W 1 (to (H (G b 0)) 2 2) 2 g:=
 .inr ⟨_,_,rfl,aL _,by unfold maxLen;omega,λo ho=>⟨rfl,by
   have:o=0\/o=1:=O;rcases this with rfl|rfl
   ·rw[e];exact h.cell 0
   ·rw[e2];exact h.cell 1⟩⟩
def afK(w:UK)(op:Nat)(dW:op<42):Calls prog 298 #[Y op] w (aga w op):=by
 have hB:=qq w;have e:op=0\/op=1\/op=2\/op=3\/op=4\/op=5\/op=6\/op=7\/op=8\/op=9\/op=10\/op=11\/op=12\/op=13\/op=14\/op=15\/op=16\/op=17\/op=18\/op=19\/op=20\/op=21\/op=22\/op=23\/op=24\/op=25\/op=26\/op=27\/op=28\/op=29\/op=30\/op=31\/op=32\/op=33\/op=34\/op=35\/op=36\/op=37\/op=38\/op=39\/op=40\/op=41:=O;rcases e with rfl|rfl|rfl|rfl|rfl|rfl|rfl|rfl|rfl|rfl|rfl|rfl|rfl|rfl|rfl|rfl|rfl|rfl|rfl|rfl|rfl|rfl|rfl|rfl|rfl|rfl|rfl|rfl|rfl|rfl|rfl|rfl|rfl|rfl|rfl|rfl|rfl|rfl|rfl|rfl|rfl|rfl
 all_goals
  go_enter func298,ntmps298;go_wp2_with fail
  first
  |(refine bK ?_ rfl ⟨to K7 0 0,rfl,.inl ⟨rfl,rfl⟩,hB _ _⟩;simp[results,results298,go_sem,cG];done)
  |(refine bK ?_ rfl ⟨to (H ⟨w.heap.size+1,0,K7⟩) 2 2,rfl,aej (aF.bR ay) rfl rfl,(hB _ _).alloc (by simp only[aM];omega) _⟩;simp[results,results298,go_sem,cG];done)
  |(refine bK ?_ rfl ⟨to (H ⟨w.heap.size+1,0,K7⟩) 1 1,rfl,aei (aF.bR ay) rfl,(hB _ _).alloc (by simp only[aM];omega) _⟩;simp[results,results298,go_sem,cG];done)
def ags(n:Nat):∃k c,b_ n=List.replicate k c/\k<=2/\(c=1\/c=2\/(c=3/\k=2))/\(n=19↔c=3):=by
 have uQ:b_ 19=[3,3]:=rfl;rcases u_ n with h|h|h|h|⟨e,h⟩
 ·exact⟨0,1,h,O,.inl rfl,⟨λe=>(by subst e;rw[uQ]at h;cases h),λe=>by cases e⟩⟩
 ·exact⟨1,1,h,O,.inl rfl,⟨λe=>(by subst e;rw[uQ]at h;cases h),λe=>by cases e⟩⟩
 ·exact⟨1,2,h,O,.inr (.inl rfl),⟨λe=>(by subst e;rw[uQ]at h;cases h),λe=>by cases e⟩⟩
 ·exact⟨2,1,h,O,.inl rfl,⟨λe=>(by subst e;rw[uQ]at h;cases h),λe=>by cases e⟩⟩
 ·exact⟨2,3,h,O,.inr (.inr ⟨rfl,rfl⟩),⟨λ_=>rfl,λ_=>e⟩⟩
def af9:∀n,n<42->cG n<=2:=by decide
def adO(ty:List Nat)(w:UK){j:Nat}(hj:j<ty.length)(ht:fe ty):(Instr.index 9 (.string (gE ty)) (Y ((ty.length-1-j:Nat):Int))).run prog w= .ok (.int .u8 (ty.getD j 0)) w:=by have hs:=o_ ty;have hi:0<=((ty.length-1-j:Nat):Int)/\((ty.length-1-j:Nat):Int)<((gE ty).size:Int):=O;rw[run_index_string w _ _ _ _ underlying9,dif_pos hi];have h3:=YT ty (ty.length-1-j);rw[Ih hj]at h3;simp only[Int.toNat_natCast];have h2:ty.length-1-j<(gE ty).size:=O;rw[getElem?_pos (gE ty) _ h2]at h3;simp only[Option.map_some,im]at h3;rw[h3];rcases ht.at hj with e|e<;>rw[e]<;>rfl
def af8{k c:Nat}{ty:List Nat}(hk:k<=ty.length)(hc:c≠3):iK (List.replicate k c) ty=true↔∀j,j<k->ty.getD j 0=c:=by
 induction k generalizing ty with
 |zero=>simp[iK]
 |succ k ih=>
  cases ty with
  |nil=>simp at hk
  |cons t ts=>
   rw[List.replicate_succ,iK];simp only[fp,Bool.or_eq_true,beq_iff_eq,hc,false_or];rw[ih (by simpa using hk)];constructor
   ·rintro⟨e,h⟩ j hj;cases j with
    |zero=>exact e
    |succ j=>exact h j O
   ·intro h;exact⟨h 0 O,λj hj=>h (j+1) O⟩
def ry(w:UK)(th:Bool)(s:Std)(mv:UL)(x:Ins)(e:Ending)(w':UK):Prop:=
 ∃s',e=C8 (.tuple #[dY th s' mv,Y (bQ x s.ty)])/\(bQ x s.ty=0->s'={s with ty:=a_ x s.ty})/\Below w.heap.size w w'
def gi(xb sb rb X n:Nat)(tv:UL)(k i:Nat)(a:Act):Prop:=∃J:Nat->UL,a={tmps:=#[J 0,J 1,J 2,J 3,UI xb,UI sb,UI rb,J 7,UI X,Y n,J 10,J 11,J 12,J 13,J 14,J 15,J 16,J 17,J 18,J 19,J 20,J 21,J 22,J 23,J 24,J 25,J 26,J 27,J 28,J 29,J 30,J 31,J 32,J 33,J 34,J 35,J 36,J 37,J 38,J 39,J 40,J 41,J 42,J 43,J 44,J 45,tv,Y k,Y i,J 49,J 50,J 51,J 52,J 53,J 54,J 55,J 56,J 57,J 58,J 59,J 60,J 61,J 62,J 63,J 64,J 65,J 66,J 67,J 68,J 69,J 70,J 71,J 72,J 73,J 74,J 75,J 76,J 77,J 78,J 79,J 80,J 81,J 82,J 83,J 84,J 85,J 86,J 87,J 88,J 89,J 90,J 91,J 92,J 93,J 94,J 95,J 96,J 97,J 98,J 99,J 100,J 101,J 102,J 103],defers:=[]}
def OTk(ty:List Nat)(k c i:Nat):Prop:=(c=3->0<i->ty.getD 0 0=ty.getD 1 0)/\(c≠3->∀j,j<i->ty.getD (k-1-j) 0=c)
def It(w:UK)(xb sb rb X n:Nat)(tv:UL)(k:Nat)(P:UK->Prop)(a0e:Nat->Prop)(m:Nat)(a:Act)(W:UK):Prop:=
 ∃i,i<=k/\m+i=k+1/\gi xb sb rb X n tv k i a/\Hid (Below w.heap.size w W)/\Hid (P W)/\Hid (a0e i)
structure RL(W:UK)(cW:Nat)(op xa xb xc xd:Int)(th:Bool)(tb:ByteArray)(lc:Nat->Nat)(ln ha:Nat)(mv tv:UL)(k n:Nat):Prop where
 x:aF W cW 40 #[Y op,Y xa,Y xb,Y xc,Y xd]
 s:aF W (cW+1) 233 #[.bool th,.string tb,Y (lc 0),Y (lc 1),Y (lc 2),Y (lc 3),Y (lc 4),Y (lc 5),Y (lc 6),Y (lc 7),Y ln,Y ha,mv]
 r:aF W (cW+1+1) 233 #[.bool false,.string ⟨#[]⟩,Y 0,Y 0,Y 0,Y 0,Y 0,Y 0,Y 0,Y 0,Y 0,Y 0,Pl]
 t:aZ W 1 tv k (PI n)
def RL.aG{W W':UK}{cW:Nat}{op xa xb xc xd:Int}{th:Bool}{tb:ByteArray}{lc:Nat->Nat}{ln ha:Nat}{mv tv:UL}{k n:Nat}(h:RL W cW op xa xb xc xd th tb lc ln ha mv tv k n)(f:aA [] W W'):RL W' cW op xa xb xc xd th tb lc ln ha mv tv k n:=
 ⟨h.x.aG f ay,h.s.aG f ay,h.r.aG f ay,h.t.aG f⟩
def abY(w:UK)(cW X n:Nat)(xa xb xc xd:Int)(th:Bool)(tb:ByteArray)(lc:Nat->Nat)(ln ha:Nat)(mv:UL)(ty:List Nat)(k c g:Nat)(ta:Option Addr)(tc:Nat)(a:Act)(W:UK):Prop:=
 gi cW (cW+1) (cW+1+1) X (ty.length-k) (to ta k tc) k k a/\Hid (Below w.heap.size w W)/\Hid (RL W cW n xa xb xc xd th tb lc ln ha mv (to ta k tc) k n/\aF W X 316 #[to ta k tc,Y g])/\Hid (OTk ty k c k)
def kK:Code->Option Code
 | .loop c=>H c
 | .seq a b=>match kK a with
   |some c=>H c
   |none=>kK b
 | .block _ c=>kK c
 | .scope c=>kK c
 | .cond _ a b=>match kK a with
   |some c=>H c
   |none=>kK b
 |_=>K7
noncomputable def agr:Code:=(Proofs.Tryz.f243.body.bind kK).getD .skip
def J7{p:Prop}(h:p:=by
 go_wp2;go_quiet (fail);go_wp2;exact⟨i+1,O,O,qi rfl,Z (HB.o.trans (az _ _ _)),Z (HPD.o _),yL⟩):p:=h
def PV{p:Prop}(h:p:=by
 rw[HE.o];simp[results,results243,go_sem,i0,i1,i2,i3,i4,i5,i6,i7,i8,i9,i10,i11,i12,dY,cQ,ub.o,CN.o,sD.o]):p:=h
def T1{p:Prop}(h:p:=by
 go_wp2;go_quiet (fail);generalize hW2:W.drewN _=W2 at*;have P2:RL W2 cW n xa xb xc xd th tb lc ln ha (to ma mn mc) (to (H (G rb_ Zj)) k tc) k n/\aF W2 X 316 #[to (H (G rb_ Zj)) k tc,Y g]:=by rw[<-hW2];exact HPD.o _
 have B2:Below w.heap.size w W2:=by rw[<-hW2];exact HB.o.trans (az _ _ _)
 clear hW2;obtain⟨K2,kh2⟩:=P2;have eF:=Z B2;have nI:=Z K2;obtain⟨s0,s1,s2,s3,s4,s5,s6,s7,s8,s9,RM,MV,Eu⟩:=K2.s.ri;obtain⟨z0,z1,z2,z3,z4,z5,z6,z7,z8,z9,z10,TO,z12⟩:=K2.r.ri;have fz:=K2.r.frozen;have l0:=K2.x.lt;have l1:=K2.s.lt;have l2:=K2.r.lt;clear K2 kh2 B2;go_wp2_with fail;have f9:aA [cW+1+1] W2 _:=((((((((((((((aA.refl [cW+1+1] W2).setCell (p:=(G (cW+1+1) 0)) ay (.bool th)).setCell (p:=(G (cW+1+1) 1)) ay (.string tb)).setCell (p:=(G (cW+1+1) 2)) ay (Y (lc 0))).setCell (p:=(G (cW+1+1) 3)) ay (Y (lc 1))).setCell (p:=(G (cW+1+1) 4)) ay (Y (lc 2))).setCell (p:=(G (cW+1+1) 5)) ay (Y (lc 3))).setCell (p:=(G (cW+1+1) 6)) ay (Y (lc 4))).setCell (p:=(G (cW+1+1) 7)) ay (Y (lc 5))).setCell (p:=(G (cW+1+1) 8)) ay (Y (lc 6))).setCell (p:=(G (cW+1+1) 9)) ay (Y (lc 7))).setCell (p:=(G (cW+1+1) 10)) ay (Y ln)).setCell (p:=(G (cW+1+1) 11)) ay (Y ha)).setCell (p:=(G (cW+1+1) 12)) ay (to ma mn mc));have b9:=(((((((((((((nI.o.r.set 0 (.bool th)).set 1 (.string tb)).set 2 (Y (lc 0))).set 3 (Y (lc 1))).set 4 (Y (lc 2))).set 5 (Y (lc 3))).set 6 (Y (lc 4))).set 7 (Y (lc 5))).set 8 (Y (lc 6))).set 9 (Y (lc 7))).set 10 (Y ln)).set 11 (Y ha)).set 12 (to ma mn mc));simp only[List.setIfInBounds_toArray,List.set_cons_zero,List.set_cons_succ]at b9;have B9:=eF.o.trans (f9.below (B:=w.heap.size) eF.o.size (by simp only[List.mem_singleton];intro k hk;have:=Zk.o;omega));generalize(((((((((((((W2.setCell (G (cW+1+1) 0) (.bool th)).setCell (G (cW+1+1) 1) (.string tb)).setCell (G (cW+1+1) 2) (Y (lc 0))).setCell (G (cW+1+1) 3) (Y (lc 1))).setCell (G (cW+1+1) 4) (Y (lc 2))).setCell (G (cW+1+1) 5) (Y (lc 3))).setCell (G (cW+1+1) 6) (Y (lc 4))).setCell (G (cW+1+1) 7) (Y (lc 5))).setCell (G (cW+1+1) 8) (Y (lc 6))).setCell (G (cW+1+1) 9) (Y (lc 7))).setCell (G (cW+1+1) 10) (Y ln)).setCell (G (cW+1+1) 11) (Y ha)).setCell (G (cW+1+1) 12) (to ma mn mc))=W9 at*;obtain⟨i0,i1,i2,i3,i4,i5,i6,i7,i8,i9,i10,i11,i12⟩:=b9.ri;clear b9 f9;refine iU _ _ (bK ?_ rfl ⟨⟨ty,lo,ha⟩,rfl,λh=>(by rw[HE.o]at h;cases h),B9⟩);exact PV):p:=h
def ag6{w:UK}{cW X n k c g ln ha tc mn mc:Nat}{xa xb xc xd:Int}{th:Bool}{tb:ByteArray}{lc:Nat->Nat}{ta ma:Option Addr}{ty lo:List Nat}(Zk:Hid (w.heap.size=cW))(Ka:Hid (∀(V:UK) (j:Nat),j<ty.length->(Instr.index 9 (.string tb) (Y ((ty.length-1-j:Nat):Int))).run prog V= .ok (.int .u8 (ty.getD j 0:Nat)) V))(Js:Hid (fe ty))(ub:Hid (gE ty=tb))(CN:Hid (bI lo=lc))(sD:Hid (lo.length=ln))
 (GV:Hid (bQ ⟨n,xa,xb,xc,xd⟩ ty=if(!iK (List.replicate k c) ty||(decide ((n:Int)=19)&&ty.getD 0 0 !=ty.getD 1 0))=true then 94 else 0)) (sg:Hid (k<=ty.length->c≠3->(iK (List.replicate k c) ty=true↔∀j,j<k->ty.getD j 0=c))) (HL:Hid (b_ n=List.replicate k c)) (uQ:n=19↔c=3) (hc:c=1\/c=2\/c=3/\k=2) (hk:k<=2) (Zd:k<=ty.length) (hl:ty.length<=256) (l9:cW+1+1<X)
 {Q:Exit->Act->UK->Prop} (iU:∀a W,bodyPost prog Proofs.Tryz.f243 (ry w th ⟨ty,lo,ha⟩ (to ma mn mc) ⟨n,xa,xb,xc,xd⟩) .ret a W->Q .ret a W) (d_:∀a W,abY w cW X n xa xb xc xd th tb lc ln ha (to ma mn mc) ty k c g ta tc a W->Q (.exit 0) a W)
 {m:Nat} {a0:Act} {W:UK} (hI:(It w cW (cW+1) (cW+1+1) X (ty.length-k) (to ta k tc) k (λW=>RL W cW n xa xb xc xd th tb lc ln ha (to ma mn mc) (to ta k tc) k n/\aF W X 316 #[to ta k tc,Y g]) (OTk ty k c)) (m+1) a0 W):agr.wp prog (Exit.then ((It w cW (cW+1) (cW+1+1) X (ty.length-k) (to ta k tc) k (λW=>RL W cW n xa xb xc xd th tb lc ln ha (to ma mn mc) (to ta k tc) k n/\aF W X 316 #[to ta k tc,Y g]) (OTk ty k c)) m) Q) a0 W:=by
 have w2:IntKind.i64.wrap (((ty.length-k:Nat):Int)+1)=((ty.length-k:Nat):Int)+1:=bJ _ lI;unfold ry at iU;obtain⟨i,hi,hm,⟨J,rfl⟩,HB,HP,HO⟩:=hI
 conv=>arg 2;whnf
 obtain⟨K1,kh⟩:=HP.o;obtain⟨h0,h1⟩:=kh.c2;have lh:=kh.lt;clear kh;obtain⟨s0,s1,s2,s3,s4,s5,s6,s7,s8,s9,RM,MV,Eu⟩:=K1.s.ri;obtain⟨z0,z1,z2,z3,z4,z5,z6,z7,z8,z9,z10,TO,z12⟩:=K1.r.ri;have fz:=K1.r.frozen;have l0:=K1.x.lt;have l1:=K1.s.lt;have l2:=K1.r.lt;have c0:=K1.x.c1;have HPD:=Z (λq=>(show RL (W.drewN q) cW n xa xb xc xd th tb lc ln ha (to ma mn mc) (to ta k tc) k n/\aF (W.drewN q) X 316 #[to ta k tc,Y g]from⟨K1.aG ((aA.refl [] W).drewN q),HP.o.2.drewN q⟩));by_cases be:i<k
 ·obtain⟨rb_,Zj,ae6,hv,-,-,oE,Kb⟩:=K1.t.some O O;simp only[cM]at hv;obtain⟨rfl,-,rfl⟩:=hv;have d0:UJ W (G rb_ (Zj+i))=H (Y c):=by rw[Kb i O];unfold PI;rw[HL.o,aY,List.getElem?_replicate,bk be];rfl
  have hjl:k-1-i<ty.length:=O;have hix:∀V,(Instr.index 9 (.string tb) (Y (((ty.length-k:Nat):Int)+(i:Int)))).run prog V= .ok (.int .u8 (ty.getD (k-1-i) 0:Nat)) V:=λV=>by have:=Ka.o V (k-1-i) hjl;rw[show((ty.length-k:Nat):Int)+(i:Int)=((ty.length-1 - (k-1-i):Nat):Int)by omega];exact this
  have w3:IntKind.i64.wrap (((ty.length-k:Nat):Int)+(i:Int))=((ty.length-k:Nat):Int)+(i:Int):=bJ _ lI;have w4:IntKind.i64.wrap ((i:Int)+1)=(i:Int)+1:=bJ _ lI;have hti:=Js.o.at hjl;have HTI:=Z (rfl:ty.getD (k-1-i) 0=ty.getD (k-1-i) 0);clear K1 Kb oE HP;by_cases Mt:c=3
  ·have jZ:k=2:=O;have aek:((n:Int)==19)=true:=by have:=uQ.2 Mt;simp;omega
   have ha0:ty.getD 0 0=1\/ty.getD 0 0=2:=Js.o.at O;have ha1:ty.getD 1 0=1\/ty.getD 1 0=2:=Js.o.at O;have Nf:∀V,(Instr.index 9 (.string tb) (Y ((ty.length-k:Nat):Int))).run prog V= .ok (.int .u8 (ty.getD 1 0:Nat)) V:=λV=>by have:=Ka.o V 1 O;rw[show((ty.length-k:Nat):Int)=((ty.length-1-1:Nat):Int)by omega];exact this
   have FU:∀V,(Instr.index 9 (.string tb) (Y (((ty.length-k:Nat):Int)+1))).run prog V= .ok (.int .u8 (ty.getD 0 0:Nat)) V:=λV=>by have:=Ka.o V 0 O;rw[show((ty.length-k:Nat):Int)+1=((ty.length-1-0:Nat):Int)by omega];exact this
   have ae7:=Z jZ;have My:=Z (uQ.2 Mt);clear jZ uQ hc HTI;subst Mt;generalize ty.getD (k-1-i) 0=t at*;generalize Zl:ty.getD 0 0=t0 at*;generalize Jo:ty.getD 1 0=t1 at*;have Zm:=Z Zl;have O7:=Z Jo;clear Zl Jo;by_cases he:t0=t1
   ·subst he;have yL:=Z (show OTk ty k 3 (i+1)from⟨λ_ _=>Zm.o.trans O7.o.symm,λe=>absurd rfl e⟩);clear HO Zm O7 ha0;have e1:((t0:Int)!=(t0:Int))=false:=by simp
    clear hti ha1
    all_goals
     exact J7
   ·have HE:=Z (show bQ ⟨n,xa,xb,xc,xd⟩ ty=94 by
     rw[GV.o,bk];rw[My.o];simp[he])
    clear HO GV Zm O7 sg HL My;have e1:((t1:Int)!=(t0:Int))=true:=by simp;omega
    clear hti ha1 ha0
    all_goals
     clear he;exact T1
  ·have aek:((n:Int)==19)=false:=by have:=λe=>Mt (uQ.1 e);simp;omega
   have mZ:c=1\/c=2:=O;have HC3:=Z Mt;clear Mt uQ hc;generalize ht9:ty.getD (k-1-i) 0=t at*;have HT9:=Z ht9;clear ht9 HTI;by_cases Dr:t=c
   ·subst Dr;clear hti;have yL:=Z (show OTk ty k t (i+1)from⟨λe=>absurd e HC3.o,λe j hj=>by
     by_cases e2:j=i
     ·subst e2;exact HT9.o
     ·exact HO.o.2 e j O⟩)
    clear HO;have e1:((t:Int)!=3)=true:=by simp;omega
    have e3:((t:Int)!=(t:Int))=false:=by simp
    have wZ:t<=2:=O;clear mZ
    all_goals
     exact J7
   ·have HE:=Z (show bQ ⟨n,xa,xb,xc,xd⟩ ty=94 by
     rw[GV.o,bk];have:iK (List.replicate k c) ty=false:=by
      cases hf:iK (List.replicate k c) ty with
      |false=>rfl
      |true=>exact absurd (HT9.o.symm.trans ((sg.o Zd HC3.o).1 hf (k-1-i) O)) Dr
     rw[this];rfl)
    clear HO GV HT9 sg HL;have e1:((c:Int)!=3)=true:=by simp;omega
    have e2:((t:Int)!=(c:Int))=true:=by simp;omega
    have wZ:t<=2:=O;clear mZ hti
    all_goals
     clear Dr;exact T1
 ·obtain rfl:i=k:=O;go_wp2_with fail
  first
  |exact d_ _ _ ⟨qi rfl,HB,HP,HO⟩
  |exact⟨qi rfl,HB,HP,HO⟩
def Mw{p:Prop}(h:p:=by
 obtain⟨i0,i1,i2,i3,i4,i5,i6,i7,i8,i9,i10,i11,i12⟩:=b9.ri;clear b9 f9;refine bK ?_ rfl ⟨⟨a_ ⟨n,xa,xb,xc,xd⟩ ty,lo,ha⟩,rfl,λ_=>rfl,B9⟩;rw[HE.o];simp[results,results243,go_sem,i0,i1,i2,i3,i4,i5,i6,i7,i8,i9,i10,i11,i12,dY,cQ,HTV.o,CN.o,sD.o]):p:=h
def Zn{p:Prop}(h:p:=by
 go_wp2_with fail;have f9:aA [cW+1+1] w' _:=(((((((((((((((aA.refl [cW+1+1] w').setCell (p:=(G (cW+1+1) 0)) ay (.bool th)).setCell (p:=(G (cW+1+1) 1)) ay (.string tb)).setCell (p:=(G (cW+1+1) 2)) ay (Y (lc 0))).setCell (p:=(G (cW+1+1) 3)) ay (Y (lc 1))).setCell (p:=(G (cW+1+1) 4)) ay (Y (lc 2))).setCell (p:=(G (cW+1+1) 5)) ay (Y (lc 3))).setCell (p:=(G (cW+1+1) 6)) ay (Y (lc 4))).setCell (p:=(G (cW+1+1) 7)) ay (Y (lc 5))).setCell (p:=(G (cW+1+1) 8)) ay (Y (lc 6))).setCell (p:=(G (cW+1+1) 9)) ay (Y (lc 7))).setCell (p:=(G (cW+1+1) 10)) ay (Y ln)).setCell (p:=(G (cW+1+1) 11)) ay (Y ha)).setCell (p:=(G (cW+1+1) 12)) ay (to ma mn mc)).alloc (QP #[to ta k tc,Y g] 316));have b9:=(((((((((((((nG.o.r.set 0 (.bool th)).set 1 (.string tb)).set 2 (Y (lc 0))).set 3 (Y (lc 1))).set 4 (Y (lc 2))).set 5 (Y (lc 3))).set 6 (Y (lc 4))).set 7 (Y (lc 5))).set 8 (Y (lc 6))).set 9 (Y (lc 7))).set 10 (Y ln)).set 11 (Y ha)).set 12 (to ma mn mc));simp only[List.setIfInBounds_toArray,List.set_cons_zero,List.set_cons_succ]at b9;replace b9:=b9.alloc (QP #[to ta k tc,Y g] 316);have B9:=CP.o.trans (f9.below (B:=w.heap.size) CP.o.size (by simp only[List.mem_singleton];intro k hk;have:=Zk.o;omega));generalize((((((((((((((w'.setCell (G (cW+1+1) 0) (.bool th)).setCell (G (cW+1+1) 1) (.string tb)).setCell (G (cW+1+1) 2) (Y (lc 0))).setCell (G (cW+1+1) 3) (Y (lc 1))).setCell (G (cW+1+1) 4) (Y (lc 2))).setCell (G (cW+1+1) 5) (Y (lc 3))).setCell (G (cW+1+1) 6) (Y (lc 4))).setCell (G (cW+1+1) 7) (Y (lc 5))).setCell (G (cW+1+1) 8) (Y (lc 6))).setCell (G (cW+1+1) 9) (Y (lc 7))).setCell (G (cW+1+1) 10) (Y ln)).setCell (G (cW+1+1) 11) (Y ha)).setCell (G (cW+1+1) 12) (to ma mn mc)).alloc (QP #[to ta k tc,Y g] 316))=W9 at*;obtain⟨i0,i1,i2,i3,i4,i5,i6,i7,i8,i9,i10,i11,i12⟩:=b9.ri;clear b9 f9;refine bK ?_ rfl ⟨⟨ty,lo,ha⟩,rfl,λh=>(by rw[HE.o]at h;cases h),B9⟩;exact PV):p:=h
def abH(w:UK){mv vv:UL}(th:Bool){s:Std}{x:Ins}(h0:0<=x.op)(h41:x.op<=41)(hl:s.ty.length<=256)(ht:fe s.ty)(hm:∃a n c,mv=to a n c):
 Calls prog 243 #[vv,aV x,dY th s mv] w (ry w th s mv x):=by
 obtain⟨op,xa,xb,xc,xd⟩:=x;obtain⟨ty,lo,ha⟩:=s;obtain⟨ma,mn,mc,rfl⟩:=hm;dsimp only at h0 h41 hl ht;obtain⟨n,rfl⟩:=dz h0;have E_:n<42:=O;have HS:=Z (λV=>afK V n E_);obtain⟨k,c,hL,hk,hc,uQ⟩:=ags n;have hg:=af9 n E_;have HT:=Z (show bQ ⟨n,xa,xb,xc,xd⟩ ty=if ty.length<k\/((n:Int)=0/\0<ty.length)\/(cG n≠0/\256<ty.length-k+1)then 93 else if !iK (List.replicate k c) ty||(decide ((n:Int)=19)&&ty.getD 0 0 !=ty.getD 1 0)then 94 else 0 by
  unfold bQ;dsimp only[Int.toNat_natCast];rw[hL,List.length_replicate])
 have HV:=Z (show a_ ⟨n,xa,xb,xc,xd⟩ ty=if cG n=0 then ty.drop k else cG n::ty.drop k by unfold a_;dsimp only[Int.toNat_natCast];rw[hL,List.length_replicate]);have kw:=o_ ty;have hB:=qq w;unfold aV aI dY cQ ry;dsimp only;have rF:(b_ n).length=k:=by rw[hL,List.length_replicate]
 have gen:∀(W:UK) (cx cs cr:Array UL) (tx ts:TypeId),Below W.heap.size W (((W.alloc (QP cx tx)).alloc (QP cs ts)).alloc (QP cr ts)):=λW cx cs cr tx ts=>(((aB _ _).alloc (aL _) _).alloc ay _).alloc (by simp only[aM];omega) _;go_enter func243,ntmps243;go_wp2_with fail;refine(HS.o _).mono ?_;rintro e w' ⟨tv,rfl,bo,X⟩;have CQ:=(gen w _ _ _ _ _).trans (X.mono (by simp only[aM];omega));have kx:aF w' w.heap.size 40 #[Y n,Y xa,Y xb,Y xc,Y xd]:=(((aF.new w _ _).alloc _).alloc _).of (X.block _ (by simp only[aM];omega));have ks:aF w' (w.heap.size+1) 233 #[.bool th,.string (gE ty),Y (bI lo 0),Y (bI lo 1),Y (bI lo 2),Y (bI lo 3),Y (bI lo 4),Y (bI lo 5),Y (bI lo 6),Y (bI lo 7),Y lo.length,Y ha,to ma mn mc]:=((aF.bR ay).alloc _).of (X.block _ (by simp only[aM];omega));have kr:aF w' (w.heap.size+1+1) 233 #[.bool false,.string ⟨#[]⟩,Y 0,Y 0,Y 0,Y 0,Y 0,Y 0,Y 0,Y 0,Y 0,Y 0,Pl]:=(aF.bR ay).of (X.block _ (by simp only[aM];omega));obtain⟨ta,tc,rfl,t1,t2⟩:=bo.val;rw[rF]at bo t1;generalize kW:w.heap.size=cW at*;rw[rF];rw[<-kW]at CQ;have vK:=CQ.alloc CQ.size (QP #[to ta k tc,Y (cG n:Nat)] 316);have Ka:=Z (λV j (hj:j<ty.length)=>adO ty V hj ht);have Js:=Z ht;have sg:=Z (λ(hk:k<=ty.length) (hc:c≠3)=>af8 hk hc);have HL:=Z hL;have RY:0<=n:=cK _;have CP:=Z CQ;have Zk:=Z kW;clear CQ X gen hB HS ht hL rF kW;generalize lG:cG n=g at*;have HG:=Z lG;clear lG;generalize v_:gE ty=tb at*;have ub:=Z v_;clear v_;generalize Fc:bI lo=lc at*;have CN:=Z Fc;clear Fc;generalize CO:lo.length=ln at*;have sD:=Z CO;clear CO;have HB:=Z vK;clear vK;have K0:RL w' cW n xa xb xc xd th tb lc ln ha (to ma mn mc) (to ta k tc) k n:=⟨kx,ks,kr,bo⟩;have nG:=Z K0;clear kx ks kr bo;obtain⟨s0,s1,s2,s3,s4,s5,s6,s7,s8,s9,RM,MV,Eu⟩:=K0.s.ri;obtain⟨z0,z1,z2,z3,z4,z5,z6,z7,z8,z9,z10,TO,z12⟩:=K0.r.ri;have fz:=K0.r.frozen;have l0:=K0.x.lt;have l1:=K0.s.lt;have l2:=K0.r.lt;have c0:=K0.x.c1;by_cases hA1:ty.length<k
 ·all_goals
   have qw:((ty.length:Int) - (k:Int)<0)=True:=by simp;omega
   have HE:=Z (show bQ ⟨n,xa,xb,xc,xd⟩ ty=93 by rw[HT.o,bk (.inl hA1)]);clear Ka;exact Zn
 have w1:IntKind.i64.wrap ((ty.length:Int) - (k:Int))=((ty.length-k:Nat):Int):=by rw[bJ _ lI];omega
 have Tx:((ty.length:Int) - (k:Int))=((ty.length-k:Nat):Int):=O;by_cases hA2:n=0/\0<ty.length
 ·all_goals
   obtain⟨rfl,Cm⟩:=hA2;have Is:k=0:=by have:=HL.o;rw[show b_ 0=[]from rfl]at this;exact(by simpa using bu List.length this.symm)
   have hp9:0<ty.length-k:=O;have HE:=Z (show bQ ⟨(0:Nat),xa,xb,xc,xd⟩ ty=93 by rw[HT.o,bk (.inr (.inl ⟨rfl,Cm⟩))]);clear Ka Is Cm;exact Zn
 by_cases Aa:g≠0/\256<ty.length-k+1
 ·all_goals
   obtain⟨Zl,Jo⟩:=Aa;have RY:0<n:=by
    rcases Nat.eq_zero_or_pos n with e|e
    ·subst e;exact absurd HG.o.symm Zl
    ·exact e
   have w2:IntKind.i64.wrap (((ty.length-k:Nat):Int)+1)=((ty.length-k:Nat):Int)+1:=bJ _ lI;have hg2:((g:Int)!=0)=true:=by simp;omega
   have HE:=Z (show bQ ⟨n,xa,xb,xc,xd⟩ ty=93 by rw[HT.o,bk (.inr (.inr ⟨Zl,Jo⟩))]);clear Ka;exact Zn
 have Zd:k<=ty.length:=O;have GV:=Z (show bQ ⟨n,xa,xb,xc,xd⟩ ty=if(!iK (List.replicate k c) ty||(decide ((n:Int)=19)&&ty.getD 0 0 !=ty.getD 1 0))=true then 94 else 0 by
  rw[HT.o,aw];rintro(h|h|h)
  ·exact hA1 h
  ·exact hA2 ⟨O,h.2⟩
  ·exact Aa h)
 have zh:(((n:Int)==0)=true/\decide (0<((ty.length-k:Nat):Int))=false/\decide (0<ty.length-k)=false/\((g:Int)!=0)=false)\/(0<n/\((g:Int)!=0)=false)\/(0<n/\0<g/\ty.length-k+1<=256):=by
  rcases Nat.eq_zero_or_pos n with e|e
  ·left;have Zl:g=0:=by rw[<-HG.o,e];rfl
   have hl0:ty.length-k=0:=O;exact⟨by rw[e];rfl,by rw[hl0];rfl,by rw[hl0];rfl,by rw[Zl];rfl⟩
  ·rcases Nat.eq_zero_or_pos g with e2|e2
   ·exact .inr (.inl ⟨e,by rw[e2];rfl⟩)
   ·exact .inr (.inr ⟨e,e2,by have:¬(g≠0/\256<ty.length-k+1):=Aa;omega⟩)
 have w2:IntKind.i64.wrap (((ty.length-k:Nat):Int)+1)=((ty.length-k:Nat):Int)+1:=bJ _ lI;have l9:cW+1+1<w'.heap.size:=l2;clear hA1 hA2 Aa HT;rcases zh with⟨b1,b2,b3,b4⟩|⟨b1,b2⟩|⟨b1,b2,b3⟩
 all_goals
  go_wp2;refine Mk.aN (It w cW (cW+1) (cW+1+1) w'.heap.size (ty.length-k) (to ta k tc) k (λW=>RL W cW n xa xb xc xd th tb lc ln ha (to ma mn mc) (to ta k tc) k n/\aF W w'.heap.size 316 #[to ta k tc,Y g]) (OTk ty k c)) (k+1) ?start ?zero ?round
  case start=>exact⟨0,cK _,O,qi rfl,HB,Z ⟨nG.o.aG ((aA.refl [] w').alloc _),aF.new _ _ _⟩,Z ⟨λ_ h=>absurd h O,λ_ j h=>absurd h O⟩⟩
  case zero=>exact λa W hh=>by obtain⟨q,h1,h2,_⟩:=hh;omega
  generalize w'.heap.size=X at*;clear s0 s1 s2 s3 s4 s5 s6 s7 s8 s9 RM MV Eu z0 z1 z2 z3 z4 z5 z6 z7 z8 z9 z10 TO z12 fz c0 l0 l1 l2 HB nG CP K0 w'
  case round=>
   intro m a W h;refine ag6 (lo:=lo) (mn:=mn) Zk Ka Js ub CN sD GV sg HL uQ hc hk Zd hl l9 ?_ ?_ h
   ·exact λa W h=>h
   clear h;clear a W m;intro a W h;obtain⟨⟨J,rfl⟩,HB,HP,HO⟩:=h;obtain⟨K1,kh⟩:=HP.o;obtain⟨h0,h1⟩:=kh.c2;have lh:=kh.lt;clear kh;obtain⟨s0,s1,s2,s3,s4,s5,s6,s7,s8,s9,RM,MV,Eu⟩:=K1.s.ri;obtain⟨z0,z1,z2,z3,z4,z5,z6,z7,z8,z9,z10,TO,z12⟩:=K1.r.ri;have fz:=K1.r.frozen;have l0:=K1.x.lt;have l1:=K1.s.lt;have l2:=K1.r.lt;have c0:=K1.x.c1;have HE:=Z (show bQ ⟨n,xa,xb,xc,xd⟩ ty=0 by
    rw[GV.o,aw];by_cases Mt:c=3
    ·have vG:k=2:=O;have hn:n=19:=uQ.2 Mt;have ho:=HO.o.1 Mt O;rw[ho,Mt,vG];have QN:2<=ty.length:=O
     match ty,QN with
     |a::b::r,_=>simp[iK,List.replicate]
    ·have hf:=(sg.o Zd Mt).2 (λj hj=>by have:=HO.o.2 Mt (k-1-j) O;rw[show k-1 - (k-1-j)=j by omega]at this;exact this);have hn:¬n=19:=λe=>Mt (uQ.1 e);rw[hf];simp;omega)
   clear HO GV sg HL hc uQ;have Gc:(convert 318 9 (to (H (G W.heap.size 0)) 1 1)).run prog ((W.setCell (G (cW+1) 1) (.string (tb.extract 0 (ty.length-k)))).alloc (QP #[.int .u8 g] 5))= .ok (.string ⟨#[UInt8.ofNat g]⟩) ((W.setCell (G (cW+1) 1) (.string (tb.extract 0 (ty.length-k)))).alloc (QP #[.int .u8 g] 5)):=by
    refine run_convert_bytes_back _ _ _ _ (G W.heap.size 0) 1 [UInt8.ofNat g] underlying318 underlying5 underlying9 (λj hj=>?_);obtain rfl:j=0:=by simpa using hj
    have hg3:g=0\/g=1\/g=2:=O;have hk9:aF ((W.setCell (G (cW+1) 1) (.string (tb.extract 0 (ty.length-k)))).alloc (QP #[.int .u8 g] 5)) W.heap.size 5 #[.int .u8 g]:=aF.bR ay;have hc9:=hk9.cell 0;refine hc9.trans ?_;rcases hg3 with e|e|e<;>subst e<;>rfl
   have HPR:=Z K1.r;have fs:=K1.s.frozen;have HTD:=Z (Pk ty k);rw[ub.o]at HTD;clear K1 HP Ka;by_cases hgz:((g:Int)!=0)=true
   ·(try (have hq:((g:Int)!=0)=false:=cY;exact absurd (hgz.symm.trans hq) bd))
    all_goals
     have HTV:=Z (show gE (a_ ⟨n,xa,xb,xc,xd⟩ ty)=tb.extract 0 (ty.length-k)++⟨#[UInt8.ofNat g]⟩by
      rw[HV.o,aw (λe=>by subst e;simp at hgz),<-Pj,HTD.o])
     go_wp2_with fail;have f9:aA [cW+1,cW+1+1] W _:=(((((((((((((((((aA.refl [cW+1,cW+1+1] W).setCell (p:=(G (cW+1) 1)) ay (.string (tb.extract 0 (ty.length-k)))).setCell (p:=(G (cW+1) 1)) ay (.string (tb.extract 0 (ty.length-k)++⟨#[UInt8.ofNat g]⟩))).setCell (p:=(G (cW+1+1) 0)) ay (.bool th)).setCell (p:=(G (cW+1+1) 1)) ay (.string (tb.extract 0 (ty.length-k)++⟨#[UInt8.ofNat g]⟩))).setCell (p:=(G (cW+1+1) 2)) ay (Y (lc 0))).setCell (p:=(G (cW+1+1) 3)) ay (Y (lc 1))).setCell (p:=(G (cW+1+1) 4)) ay (Y (lc 2))).setCell (p:=(G (cW+1+1) 5)) ay (Y (lc 3))).setCell (p:=(G (cW+1+1) 6)) ay (Y (lc 4))).setCell (p:=(G (cW+1+1) 7)) ay (Y (lc 5))).setCell (p:=(G (cW+1+1) 8)) ay (Y (lc 6))).setCell (p:=(G (cW+1+1) 9)) ay (Y (lc 7))).setCell (p:=(G (cW+1+1) 10)) ay (Y ln)).setCell (p:=(G (cW+1+1) 11)) ay (Y ha)).setCell (p:=(G (cW+1+1) 12)) ay (to ma mn mc)).alloc (QP #[.int .u8 g] 5));have b9:=(((((((((((((((HPR.o.other (c:=cW+1) O 1 (.string (tb.extract 0 (ty.length-k)))).other (c:=cW+1) O 1 (.string (tb.extract 0 (ty.length-k)++⟨#[UInt8.ofNat g]⟩))).set 0 (.bool th)).set 1 (.string (tb.extract 0 (ty.length-k)++⟨#[UInt8.ofNat g]⟩))).set 2 (Y (lc 0))).set 3 (Y (lc 1))).set 4 (Y (lc 2))).set 5 (Y (lc 3))).set 6 (Y (lc 4))).set 7 (Y (lc 5))).set 8 (Y (lc 6))).set 9 (Y (lc 7))).set 10 (Y ln)).set 11 (Y ha)).set 12 (to ma mn mc));simp only[List.setIfInBounds_toArray,List.set_cons_zero,List.set_cons_succ]at b9;replace b9:=b9.alloc (QP #[.int .u8 g] 5);have B9:=HB.o.trans (f9.below (B:=w.heap.size) HB.o.size (by simp only[fh,List.mem_singleton,List.not_mem_nil,or_false];intro k hk;have:=Zk.o;omega));generalize((((((((((((((((W.setCell (G (cW+1) 1) (.string (tb.extract 0 (ty.length-k)))).setCell (G (cW+1) 1) (.string (tb.extract 0 (ty.length-k)++⟨#[UInt8.ofNat g]⟩))).setCell (G (cW+1+1) 0) (.bool th)).setCell (G (cW+1+1) 1) (.string (tb.extract 0 (ty.length-k)++⟨#[UInt8.ofNat g]⟩))).setCell (G (cW+1+1) 2) (Y (lc 0))).setCell (G (cW+1+1) 3) (Y (lc 1))).setCell (G (cW+1+1) 4) (Y (lc 2))).setCell (G (cW+1+1) 5) (Y (lc 3))).setCell (G (cW+1+1) 6) (Y (lc 4))).setCell (G (cW+1+1) 7) (Y (lc 5))).setCell (G (cW+1+1) 8) (Y (lc 6))).setCell (G (cW+1+1) 9) (Y (lc 7))).setCell (G (cW+1+1) 10) (Y ln)).setCell (G (cW+1+1) 11) (Y ha)).setCell (G (cW+1+1) 12) (to ma mn mc)).alloc (QP #[.int .u8 g] 5))=W9 at*;exact Mw
   ·(try (have hgp:0<g:=cY;exact hgz jz))
    all_goals
     have ael:((g:Int)!=0)=false:=by simpa using hgz
     have HTV:=Z (show gE (a_ ⟨n,xa,xb,xc,xd⟩ ty)=tb.extract 0 (ty.length-k)by
      rw[HV.o,bk (by simpa using ael),HTD.o])
     clear hgz Gc;go_wp2_with fail;have f9:aA [cW+1,cW+1+1] W _:=(((((((((((((((aA.refl [cW+1,cW+1+1] W).setCell (p:=(G (cW+1) 1)) ay (.string (tb.extract 0 (ty.length-k)))).setCell (p:=(G (cW+1+1) 0)) ay (.bool th)).setCell (p:=(G (cW+1+1) 1)) ay (.string (tb.extract 0 (ty.length-k)))).setCell (p:=(G (cW+1+1) 2)) ay (Y (lc 0))).setCell (p:=(G (cW+1+1) 3)) ay (Y (lc 1))).setCell (p:=(G (cW+1+1) 4)) ay (Y (lc 2))).setCell (p:=(G (cW+1+1) 5)) ay (Y (lc 3))).setCell (p:=(G (cW+1+1) 6)) ay (Y (lc 4))).setCell (p:=(G (cW+1+1) 7)) ay (Y (lc 5))).setCell (p:=(G (cW+1+1) 8)) ay (Y (lc 6))).setCell (p:=(G (cW+1+1) 9)) ay (Y (lc 7))).setCell (p:=(G (cW+1+1) 10)) ay (Y ln)).setCell (p:=(G (cW+1+1) 11)) ay (Y ha)).setCell (p:=(G (cW+1+1) 12)) ay (to ma mn mc));have b9:=((((((((((((((HPR.o.other (c:=cW+1) O 1 (.string (tb.extract 0 (ty.length-k)))).set 0 (.bool th)).set 1 (.string (tb.extract 0 (ty.length-k)))).set 2 (Y (lc 0))).set 3 (Y (lc 1))).set 4 (Y (lc 2))).set 5 (Y (lc 3))).set 6 (Y (lc 4))).set 7 (Y (lc 5))).set 8 (Y (lc 6))).set 9 (Y (lc 7))).set 10 (Y ln)).set 11 (Y ha)).set 12 (to ma mn mc));simp only[List.setIfInBounds_toArray,List.set_cons_zero,List.set_cons_succ]at b9;have B9:=HB.o.trans (f9.below (B:=w.heap.size) HB.o.size (by simp only[fh,List.mem_singleton,List.not_mem_nil,or_false];intro k hk;have:=Zk.o;omega));generalize((((((((((((((W.setCell (G (cW+1) 1) (.string (tb.extract 0 (ty.length-k)))).setCell (G (cW+1+1) 0) (.bool th)).setCell (G (cW+1+1) 1) (.string (tb.extract 0 (ty.length-k)))).setCell (G (cW+1+1) 2) (Y (lc 0))).setCell (G (cW+1+1) 3) (Y (lc 1))).setCell (G (cW+1+1) 4) (Y (lc 2))).setCell (G (cW+1+1) 5) (Y (lc 3))).setCell (G (cW+1+1) 6) (Y (lc 4))).setCell (G (cW+1+1) 7) (Y (lc 5))).setCell (G (cW+1+1) 8) (Y (lc 6))).setCell (G (cW+1+1) 9) (Y (lc 7))).setCell (G (cW+1+1) 10) (Y ln)).setCell (G (cW+1+1) 11) (Y ha)).setCell (G (cW+1+1) 12) (to ma mn mc))=W9 at*;exact Mw
def mF:Code->List Code
 | .loop c=>[c]
 | .seq a b=>mF a++mF b
 | .block _ c=>mF c
 | .scope c=>mF c
 | .cond _ a b=>mF a++mF b
 |_=>[]
noncomputable def lkL(k:Nat):Code:=((mF (Proofs.Tryz.f173.body.getD .skip))[k]?).getD .skip
def FK(J:Nat->UL):Act:={tmps:=#[J 0,J 1,J 2,J 3,J 4,J 5,J 6,J 7,J 8,J 9,J 10,J 11,J 12,J 13,J 14,J 15,J 16,J 17,J 18,J 19,J 20,J 21,J 22,J 23,J 24,J 25,J 26,J 27,J 28,J 29,J 30,J 31,J 32,J 33,J 34,J 35,J 36,J 37,J 38,J 39,J 40,J 41,J 42,J 43,J 44,J 45,J 46,J 47,J 48,J 49,J 50,J 51,J 52,J 53,J 54,J 55,J 56,J 57,J 58,J 59,J 60,J 61,J 62,J 63,J 64,J 65,J 66,J 67,J 68,J 69,J 70,J 71,J 72,J 73,J 74,J 75,J 76,J 77,J 78,J 79,J 80,J 81,J 82,J 83,J 84,J 85,J 86,J 87,J 88,J 89,J 90,J 91,J 92,J 93,J 94,J 95,J 96,J 97,J 98,J 99,J 100,J 101,J 102,J 103,J 104,J 105,J 106,J 107,J 108,J 109,J 110,J 111,J 112,J 113,J 114,J 115,J 116,J 117,J 118,J 119,J 120,J 121,J 122,J 123,J 124,J 125,J 126,J 127,J 128,J 129,J 130,J 131,J 132,J 133,J 134,J 135,J 136,J 137,J 138,J 139,J 140,J 141,J 142,J 143,J 144,J 145,J 146,J 147,J 148,J 149,J 150,J 151,J 152,J 153,J 154,J 155,J 156],defers:=[]}
def FK.of(A:Array UL)(h:A=(FK λk=>A.getD k undef).tmps):({tmps:=A,defers:=[]}:Act)=FK λk=>A.getD k undef:=by rw[h];rfl
variable {w1:UK}{lo:Nat}{sv lv:UL}{l:List (Nat×Std)}{wb:Nat->UL}{Q:Exit->Act->UK->Prop}
def iN.Nt{W:UK}(h:iN W lo sv lv l wb){i:Nat}(hi:i<l.length):∃b off cap ma mc,lv=to (H (G b off)) l.length cap/\l.length<=cap/\cap<=maxLen/\b<W.heap.size/\wb i=to ma ((l.getD i eP).2.lo.length-8) mc/\
 UJ W (G b (off+i*14))=H (Y (l.getD i eP).1)/\UJ W (G b (off+i*14+1))=H (.bool true)/\UJ W (G b (off+i*14+2))=H (.string (gE (l.getD i eP).2.ty))/\UJ W (G b (off+i*14+3))=H (Y (bI (l.getD i eP).2.lo 0))/\UJ W (G b (off+i*14+4))=H (Y (bI (l.getD i eP).2.lo 1))/\UJ W (G b (off+i*14+5))=H (Y (bI (l.getD i eP).2.lo 2))/\UJ W (G b (off+i*14+6))=H (Y (bI (l.getD i eP).2.lo 3))/\UJ W (G b (off+i*14+7))=H (Y (bI (l.getD i eP).2.lo 4))/\UJ W (G b (off+i*14+8))=H (Y (bI (l.getD i eP).2.lo 5))/\UJ W (G b (off+i*14+9))=H (Y (bI (l.getD i eP).2.lo 6))/\UJ W (G b (off+i*14+10))=H (Y (bI (l.getD i eP).2.lo 7))/\UJ W (G b (off+i*14+11))=H (Y (l.getD i eP).2.lo.length)/\UJ W (G b (off+i*14+12))=H (Y (l.getD i eP).2.ha)/\UJ W (G b (off+i*14+13))=H (wb i):=by
 obtain⟨b,off,cap,rfl,h1,h2,h3,hc⟩:=h.row.some O O;obtain⟨ma,mc,hm,-,-⟩:=aZ.val (h.more i hi);have key:∀k,k<14->UJ W (G b (off+i*14+k))=H ((QK (l.getD i eP).1 (l.getD i eP).2 (wb i)).getD k undef):=λk hk=>by have e:=hc (i*14+k) O;rw[<-Nat.add_assoc]at e;rw[e];unfold wyC;rw[show(i*14+k) / 14=i by omega,show(i*14+k) % 14=k by omega]
 exact⟨b,off,cap,ma,mc,rfl,h1,h2,h3,hm,key 0 O,key 1 O,key 2 O,key 3 O,key 4 O,key 5 O,key 6 O,key 7 O,key 8 O,key 9 O,key 10 O,key 11 O,key 12 O,key 13 O⟩
def iN.aG{W W':UK}(h:iN W lo sv lv l wb)(f:aA [] W W'):iN W' lo sv lv l wb:=⟨h.row.aG f,λi hi=>(h.more i hi).aG f,h.off⟩
def L1(w1:UK)(vb:Nat)(pc:Nat)(lv:UL)(n:Nat)(m:Nat)(a:Act)(W:UK):Prop:=
 ∃(J:Nat->UL) (i:Nat),a=FK J/\J 0=UI vb/\J 1=Y pc/\J 8=lv/\J 71=lv/\J 72=Y n/\J 73=Y i/\i<=n/\m+i=n+1/\Hid (Below w1.heap.size w1 W)
def lk1{pc:Nat}(HP:Hid (fW w1 K p))(HV:Hid (aF w1 vb 230 (sM K p jg)))(HY:Hid (iN w1 lo sv lv l wb))(hl:l.length<=2)
 (iU:∀(A:Array UL) W,A.getD 4 undef=Y 98->Below w1.heap.size w1 W->(∃i,i<l.length/\p.code.length<=(l.getD i eP).1)->Q .ret {tmps:=A,defers:=[]} W)
 (d_:∀(J:Nat->UL) W,J 0=UI vb->J 1=Y pc->J 8=lv->Below w1.heap.size w1 W->(∀i,i<l.length->(l.getD i eP).1<p.code.length)->Q (.exit 0) (FK J) W)
 {a:Act} {W:UK} (h:L1 w1 vb pc lv l.length (l.length+1) a W):(Code.loop (lkL 0)).wp prog Q a W:=by
 refine Mk.aN (λm a W=>L1 w1 vb pc lv l.length m a W/\∀i,i+m<=l.length->(l.getD i eP).1<p.code.length) (l.length+1) ⟨h,λi hi=>O⟩ ?_ ?_
 ·rintro a W ⟨⟨J,i,-,-,-,-,-,-,-,h1,h2,-⟩,-⟩;omega
 rintro m a0 W ⟨⟨J,i,rfl,j0,j1,j8,j71,j72,j73,hi,hm,HB⟩,hA⟩;have K_:∀k,k<i->(l.getD k eP).1<p.code.length:=λk hk=>hA k O;have HA:=Z K_;clear hA K_;unfold FK
 conv=>arg 2;whnf
 have w2:=mO i O;rw[j0,j1,j8,j71,j72,j73];have HJ:=Z (And.intro j0 (And.intro j1 j8));clear j0 j1 j8 j71 j72 j73;by_cases be:i<l.length
 ·obtain⟨b,off,cap,ma,mc,Kd,q1,q2,lb,em,c0,c1,c2,c3,c4,c5,c6,c7,c8,c9,JQ,JR,Vs,ri⟩:=(HY.o.aG (aA.af HB.o)).Nt be;rw[em]at ri;have WA:=Z em;have HE:=Z Kd;have hv:=HV.o.of (HB.o.block _ HV.o.lt);have v5:UJ W (G vb 5)=H K.c:=hv.cell 5;obtain⟨ca,cc,kc,-,-⟩:=aZ.val HP.o.cd;rw[kc]at v5;have lv0:=hv.lt;have dU:(l.getD i eP).1<p.code.length\/p.code.length<=(l.getD i eP).1:=O;have WB:=Z (show∀z,(l.getD i eP).1=z->(p.code.length<=z->∃i,i<l.length/\p.code.length<=(l.getD i eP).1)/\(z<p.code.length->∀k,k<i+1->(l.getD k eP).1<p.code.length)from λz hz=>⟨λhh=>⟨i,be,O⟩,λhh k hk=>by
   by_cases e:k=i
   ·subst e;omega
   ·exact HA.o k O⟩)
  obtain⟨z,hz⟩:∃z,(l.getD i eP).1=z:=⟨_,rfl⟩;have HWB:=Z (WB.o z hz);rw[hz]at dU c0;clear em Kd hv WB hz kc;generalize gE (l.getD i eP).2.ty=tb at*;generalize bI (l.getD i eP).2.lo=lc at*;generalize(l.getD i eP).2.ha=ha at*;generalize(l.getD i eP).2.lo.length=ln at*;generalize CG:ln-8=n8 at*;have RK:=Z CG;clear CG;rw[HE.o];rcases dU with dU|dU
  ·go_wp2;go_quiet (fail);go_wp2;refine⟨⟨_,i+1,FK.of _ rfl,rfl,rfl,rfl,rfl,rfl,rfl,be,O,Z ((HB.o.alloc HB.o.size _).trans (az _ _ _))⟩,λk hk=>(HWB.o.2 dU k O)⟩
  ·go_wp2;go_quiet (fail);go_wp2;exact iU _ _ rfl ((HB.o.alloc HB.o.size _).trans (az _ _ _)) (HWB.o.1 dU)
 ·obtain rfl:i=l.length:=O;clear be;go_wp2;exact Eq.mpr (bu (λa=>Q (.exit 0) a W) (FK.of _ rfl)) (d_ _ _ rfl rfl rfl HB.o HA.o)
noncomputable def lkI:Code:=((mF (lkL 1))[0]?).getD .skip
def WOk(l:List (Nat×Std)):Prop:=∀i,i<l.length->fe (l.getD i eP).2.ty/\(l.getD i eP).2.lo.length<=1000000000
def L3(w1:UK)(vb:Nat)(pc:Nat)(lv:UL)(l:List (Nat×Std))(wb:Nat->UL)(i bx:Nat)(sv:UL)(m:Nat)(a:Act)(W:UK):Prop:=
 ∃(J:Nat->UL) (j:Nat),a=FK J/\J 0=UI vb/\J 1=Y pc/\J 8=lv/\J 12=UI bx/\J 87=lv/\J 88=Y l.length/\J 89=Y i/\J 96=sv/\J 97=Y i/\J 98=Y j/\j<=i/\m+j=i+1/\Hid (Below w1.heap.size w1 W)/\Hid (w1.heap.size<=bx/\aF W bx 279 (QK (l.getD i eP).1 (l.getD i eP).2 (wb i)))
def lk3{pc i bx b off cap:Nat}(HY:Hid (iN w1 lo sv lv l wb))(HW:Hid (WOk l))(hl:l.length<=2)(Nf:i<l.length)(Gg:Hid (lv=to (H (G b off)) l.length cap))
 (iU:∀(A:Array UL) W,A.getD 4 undef=Y 94->Below w1.heap.size w1 W->(∃j,j<i/\(l.getD j eP).1=(l.getD i eP).1/\(l.getD j eP).2≠(l.getD i eP).2)->Q .ret {tmps:=A,defers:=[]} W)
 (d_:∀(J:Nat->UL) W,J 0=UI vb->J 1=Y pc->J 8=lv->J 12=UI bx->J 87=lv->J 88=Y l.length->J 89=Y i->Below w1.heap.size w1 W->aF W bx 279 (QK (l.getD i eP).1 (l.getD i eP).2 (wb i))->(∀j,j<i->(l.getD j eP).1=(l.getD i eP).1->(l.getD j eP).2=(l.getD i eP).2)->Q (.exit 4) (FK J) W)
 {a:Act} {W:UK} (h:L3 w1 vb pc lv l wb i bx (to (H (G b off)) i cap) (i+1) a W):(Code.loop lkI).wp prog Q a W:=by
 refine Mk.aN (λm a W=>L3 w1 vb pc lv l wb i bx (to (H (G b off)) i cap) m a W/\∀j,j+m<=i->(l.getD j eP).1=(l.getD i eP).1->(l.getD j eP).2=(l.getD i eP).2) (i+1) ⟨h,λi hi=>O⟩ ?_ ?_
 ·rintro a W ⟨⟨J,j,-,-,-,-,-,-,-,-,-,-,-,h1,h2,-⟩,-⟩;omega
 rintro m a0 W ⟨⟨J,j,rfl,j0,j1,j8,pn,WC,WD,WE,j96,j97,j98,hj,hm,HB,HX⟩,hA⟩;have K_:∀k,k<j->(l.getD k eP).1=(l.getD i eP).1->(l.getD k eP).2=(l.getD i eP).2:=λk hk=>hA k O;have HA:=Z K_;clear hA K_;unfold FK
 conv=>arg 2;whnf
 have w2:=mO j O;rw[j0,j1,j8,pn,WC,WD,WE,j96,j97,j98];clear j0 j1 j8 pn WC WD WE j96 j97 j98;by_cases be:j<i
 ·obtain⟨b',Zp,oh,ma,mc,Kd,q1,q2,lb,em,c0,c1,c2,c3,c4,c5,c6,c7,c8,c9,JQ,JR,Vs,ri⟩:=(HY.o.aG (aA.af HB.o)).Nt (i:=j) O;obtain⟨-,-,-,ma',mc',-,-,-,-,WG,-⟩:=(HY.o.aG (aA.af HB.o)).Nt Nf;rw[Gg.o]at Kd;simp only[cM,im,Addr.mk.injEq]at Kd;obtain⟨⟨rfl,rfl,-⟩,-,rfl⟩:=Kd;have zB:∀k,UJ W (G bx k)=(QK (l.getD i eP).1 (l.getD i eP).2 (wb i))[k]? :=λk=>HX.o.2.cell k;have lx:=HX.o.2.lt;have RN:=HX.o.1;rw[WG]at zB;have d0:=zB 0;have d1:=zB 1;have d2:=zB 2;have d3:=zB 3;have d4:=zB 4;have d5:=zB 5;have d6:=zB 6;have d7:=zB 7;have d8:=zB 8;have d9:=zB 9;have d10:=zB 10;have d11:=zB 11;have d12:=zB 12;have d13:=zB 13;clear zB;unfold QK at d0 d1 d2 d3 d4 d5 d6 d7 d8 d9 d10 d11 d12 d13;simp only[List.getElem?_toArray,List.getElem?_cons_zero,List.getElem?_cons_succ]at d0 d1 d2 d3 d4 d5 d6 d7 d8 d9 d10 d11 d12 d13;have Dx:=Z (λV (X:Below w1.heap.size w1 V)=>Iq (w:=V) true true ((HY.o.more j O).aG (aA.af X)) ((HY.o.more i Nf).aG (aA.af X)) (HW.o j O).1 (HW.o i Nf).1 (HW.o j O).2 (HW.o i Nf).2);have zg:∃z,decide ((l.getD j eP).2=(l.getD i eP).2)=z:=⟨_,rfl⟩;obtain⟨dd,zg⟩:=zg;rw[zg]at Dx;have Zq:=Z zg;clear zg;rw[em]at ri;rw[em,WG]at Dx;unfold dY cQ at Dx;have WA:=Z em;have Zr:=Z WG;clear em WG;have HZ:=Z (rfl:(l.getD j eP).1=(l.getD j eP).1);obtain⟨zj,hzj⟩:∃z,(l.getD j eP).1=z:=⟨_,rfl⟩;obtain⟨zi,DI⟩:∃z,(l.getD i eP).1=z:=⟨_,rfl⟩;rw[hzj]at c0;rw[DI]at d0;have HZJ:=Z hzj;have RP:=Z DI;clear HZ hzj DI;generalize v_:gE (l.getD j eP).2.ty=tb at*;have ub:=Z v_;generalize Fc:bI (l.getD j eP).2.lo=lc at*;have CN:=Z Fc;generalize CU:(l.getD j eP).2.ha=ha at*;have Nk:=Z CU;generalize CO:(l.getD j eP).2.lo.length=ln at*;have sD:=Z CO;generalize CG:ln-8=n8 at*;have RK:=Z CG;clear v_ Fc CU CO CG;generalize rI:gE (l.getD i eP).2.ty=tb' at*;have ae8:=Z rI;generalize J9:bI (l.getD i eP).2.lo=lc' at*;have ae9:=Z J9;generalize Zs:(l.getD i eP).2.ha=ha' at*;have afa:=Z Zs;generalize PT:(l.getD i eP).2.lo.length=ln' at*;have afb:=Z PT;generalize PP:ln'-8=n8' at*;have afc:=Z PP;clear rI J9 Zs PT PP;have dE:=Z be;by_cases hz:zj=zi
  ·subst hz;go_wp2_with fail
   with_reducible refine(Dx.o _ (HB.o.alloc HB.o.size _)).mono ?_
   rintro e W1 ⟨rfl,X⟩;have Jm:Hid (Below w1.heap.size w1 W1):=Z ((HB.o.alloc HB.o.size _).trans (X.mono (by simp only[aM];have:=HB.o.size;omega)));have hX1:Hid (w1.heap.size<=bx/\aF W1 bx 279 (QK (l.getD i eP).1 (l.getD i eP).2 (wb i))):=Z ⟨RN,(HX.o.2.alloc _).of (X.block _ (by simp only[aM];omega))⟩;clear X c0 d0 c1 d1 c2 d2 c3 d3 c4 d4 c5 d5 c6 d6 c7 d7 c8 d8 c9 d9 JQ d10 JR d11 Vs d12 ri d13;cases dd with
   |false=>go_wp2_with fail;exact iU _ _ rfl Jm.o ⟨j,dE.o,by rw[HZJ.o,RP.o],λh=>by have h2:=Zq.o;rw[ij]at h2;exact h2 h⟩
   |true=>
    go_wp2;refine⟨⟨_,j+1,FK.of _ rfl,rfl,rfl,rfl,rfl,rfl,rfl,rfl,rfl,rfl,rfl,dE.o,O,Jm,hX1⟩,λk hk hz=>?_⟩;by_cases e:k=j
    ·subst e;exact rS Zq.o
    ·exact HA.o k O hz
  ·have hz':((zj:Int)==(zi:Int))=false:=by simp;omega
   have sU:=Z hz;go_wp2;refine⟨⟨_,j+1,FK.of _ rfl,rfl,rfl,rfl,rfl,rfl,rfl,rfl,rfl,rfl,rfl,dE.o,O,Z (HB.o.alloc HB.o.size _),Z ⟨RN,HX.o.2.alloc _⟩⟩,λk hk hz=>?_⟩;by_cases e:k=j
   ·subst e;exact absurd (HZJ.o.symm.trans (hz.trans RP.o)) sU.o
   ·exact HA.o k O hz
 ·obtain rfl:j=i:=O;clear be;go_wp2;exact Eq.mpr (bu (λa=>Q (.exit 4) a W) (FK.of _ rfl)) (d_ _ _ rfl rfl rfl rfl rfl rfl rfl HB.o HX.o.2 HA.o)
def rz{W W':UK}{S:List Nat}{size n:Nat}{v:UL}{g:Nat->UL}(h:aZ W size v n g)(f:aA S W W')(X:∀b,v.ownBlock=H b->b∉S):aZ W' size v n g:=by
 rcases h with h|⟨a,cap,rfl,h1,h2,h3⟩
 ·exact .inl h
 ·refine .inr ⟨a,cap,rfl,h1,h2,λo ho=>⟨(h3 o ho).1,?_⟩⟩;have hc:=(h3 o ho).2;refine Eq.trans ?_ hc;exact dN (f.block a.block (aH hc) (X _ rfl))
def afC{W:UK}{E:TypeId}{A cap n z:Nat}{g:Nat->UL}(h:Row W E 13 (to (H (G A 0)) n cap) n g)(hz:z<n)(v0 v1 v2 v3 v4 v5 v6 v7 v8 v9 v10 v11 v12:UL):
 Row (((((((((((((W.setCell (G A (z*13)) (v0)).setCell (G A (z*13+1)) (v1)).setCell (G A (z*13+2)) (v2)).setCell (G A (z*13+3)) (v3)).setCell (G A (z*13+4)) (v4)).setCell (G A (z*13+5)) (v5)).setCell (G A (z*13+6)) (v6)).setCell (G A (z*13+7)) (v7)).setCell (G A (z*13+8)) (v8)).setCell (G A (z*13+9)) (v9)).setCell (G A (z*13+10)) (v10)).setCell (G A (z*13+11)) (v11)).setCell (G A (z*13+12)) (v12)) E 13 (to (H (G A 0)) n cap) n (λo=>if o / 13=z then #[v0,v1,v2,v3,v4,v5,v6,v7,v8,v9,v10,v11,v12].getD (o % 13) undef else g o):=by
 refine Row.congr (((((((((((((h.set (o:=z*13) O v0).set (o:=z*13+1) O v1).set (o:=z*13+2) O v2).set (o:=z*13+3) O v3).set (o:=z*13+4) O v4).set (o:=z*13+5) O v5).set (o:=z*13+6) O v6).set (o:=z*13+7) O v7).set (o:=z*13+8) O v8).set (o:=z*13+9) O v9).set (o:=z*13+10) O v10).set (o:=z*13+11) O v11).set (o:=z*13+12) O v12) ?_;intro o ho;by_cases e:o / 13=z
 ·rw[bk e];obtain⟨k,hk,rfl⟩:∃k,k<13/\o=z*13+k:=⟨o % 13,O,O⟩;rw[show(z*13+k) % 13=k by omega];have:k=0\/k=1\/k=2\/k=3\/k=4\/k=5\/k=6\/k=7\/k=8\/k=9\/k=10\/k=11\/k=12:=O;rcases this with rfl|rfl|rfl|rfl|rfl|rfl|rfl|rfl|rfl|rfl|rfl|rfl|rfl<;>simp
 ·rw[aw e]
  repeat rw[aw O]
def acS{W:UK}{A z:Nat}(v0 v1 v2 v3 v4 v5 v6 v7 v8 v9 v10 v11 v12:UL):aA [A] W (((((((((((((W.setCell (G A (z*13)) (v0)).setCell (G A (z*13+1)) (v1)).setCell (G A (z*13+2)) (v2)).setCell (G A (z*13+3)) (v3)).setCell (G A (z*13+4)) (v4)).setCell (G A (z*13+5)) (v5)).setCell (G A (z*13+6)) (v6)).setCell (G A (z*13+7)) (v7)).setCell (G A (z*13+8)) (v8)).setCell (G A (z*13+9)) (v9)).setCell (G A (z*13+10)) (v10)).setCell (G A (z*13+11)) (v11)).setCell (G A (z*13+12)) (v12)):=
 ((((((((((((((aA.refl [A] W).setCell (p:=(G A (z*13))) ay v0).setCell (p:=(G A (z*13+1))) ay v1).setCell (p:=(G A (z*13+2))) ay v2).setCell (p:=(G A (z*13+3))) ay v3).setCell (p:=(G A (z*13+4))) ay v4).setCell (p:=(G A (z*13+5))) ay v5).setCell (p:=(G A (z*13+6))) ay v6).setCell (p:=(G A (z*13+7))) ay v7).setCell (p:=(G A (z*13+8))) ay v8).setCell (p:=(G A (z*13+9))) ay v9).setCell (p:=(G A (z*13+10))) ay v10).setCell (p:=(G A (z*13+11))) ay v11).setCell (p:=(G A (z*13+12))) ay v12)
def iM.put{W:UK}{A cap n z:Nat}{mv:Nat->UL}{s:Std}{mz:UL}(h:iM W (to (H (G A 0)) n cap) n T mv)(hz:z<n)(hm:dx W mz s.lo)(ho:∀b,mz.ownBlock=H b->b≠A){W':UK}
 (e:W'=(((((((((((((W.setCell (G A (z*13)) ((cQ true s mz).getD 0 undef)).setCell (G A (z*13+1)) ((cQ true s mz).getD 1 undef)).setCell (G A (z*13+2)) ((cQ true s mz).getD 2 undef)).setCell (G A (z*13+3)) ((cQ true s mz).getD 3 undef)).setCell (G A (z*13+4)) ((cQ true s mz).getD 4 undef)).setCell (G A (z*13+5)) ((cQ true s mz).getD 5 undef)).setCell (G A (z*13+6)) ((cQ true s mz).getD 6 undef)).setCell (G A (z*13+7)) ((cQ true s mz).getD 7 undef)).setCell (G A (z*13+8)) ((cQ true s mz).getD 8 undef)).setCell (G A (z*13+9)) ((cQ true s mz).getD 9 undef)).setCell (G A (z*13+10)) ((cQ true s mz).getD 10 undef)).setCell (G A (z*13+11)) ((cQ true s mz).getD 11 undef)).setCell (G A (z*13+12)) ((cQ true s mz).getD 12 undef))):
 iM W' (to (H (G A 0)) n cap) n (aR T z (H s)) (aR mv z mz)/\aA [A] W W':=by
 subst e;have f:=acS (W:=W) (A:=A) (z:=z) ((cQ true s mz).getD 0 undef) ((cQ true s mz).getD 1 undef) ((cQ true s mz).getD 2 undef) ((cQ true s mz).getD 3 undef) ((cQ true s mz).getD 4 undef) ((cQ true s mz).getD 5 undef) ((cQ true s mz).getD 6 undef) ((cQ true s mz).getD 7 undef) ((cQ true s mz).getD 8 undef) ((cQ true s mz).getD 9 undef) ((cQ true s mz).getD 10 undef) ((cQ true s mz).getD 11 undef) ((cQ true s mz).getD 12 undef);refine⟨⟨(afC h.row hz _ _ _ _ _ _ _ _ _ _ _ _ _).congr λo ho=>?_,λi hi=>?_,λi hi b X=>?_⟩,f⟩
 ·unfold stC;by_cases e:o / 13=z
  ·rw[bk e,e,an,show fA (aR T z (H s)) z=s by unfold fA;rw[an];rfl,an];have hk:o % 13<13:=Nat.mod_lt _ O;generalize o % 13=k at*;have:k=0\/k=1\/k=2\/k=3\/k=4\/k=5\/k=6\/k=7\/k=8\/k=9\/k=10\/k=11\/k=12:=O;rcases this with rfl|rfl|rfl|rfl|rfl|rfl|rfl|rfl|rfl|rfl|rfl|rfl|rfl<;>rfl
  ·rw[aw e,ak _ _ e,show fA (aR T z (H s)) (o / 13)=fA T (o / 13)by unfold fA;rw[ak _ _ e],ak _ _ e]
 ·by_cases e:i=z
  ·subst e;rw[an,show fA (aR T i (H s)) i=s by unfold fA;rw[an];rfl];exact rz hm f (λb X=>by simpa using ho b X)
  ·rw[ak _ _ e,show fA (aR T z (H s)) i=fA T i by unfold fA;rw[ak _ _ e]];exact rz (h.more i hi) f (λb X=>by have:=h.off i hi b X;simp;intro e;subst e;exact this rfl)
 ·by_cases e:i=z
  ·subst e;rw[an]at X;intro h2;exact ho b X (sd h2).symm
  ·rw[ak _ _ e]at X;exact h.off i hi b X
def Bg:∀(l:List (Nat×Std)) (T:Map) (w:Nat×Std),qL T (l++[w])=aR (qL T l) w.1 (H w.2)
 |[],_,_=>rfl
 |_::l,T,w=>Bg l _ w
def acR{l:List (Nat×Std)}(T:Map){i:Nat}(h:i<l.length):qL T (l.take (i+1))=aR (qL T (l.take i)) (l.getD i eP).1 (H (l.getD i eP).2):=by rw[AJ h,Bg,aY,fq h];rfl
def L4(w1:UK)(vb:Nat)(A cap n:Nat)(lv:UL)(T:Map)(l:List (Nat×Std))(m:Nat)(a:Act)(W:UK):Prop:=
 ∃(J:Nat->UL) (i:Nat),a=FK J/\J 0=UI vb/\J 139=lv/\J 140=Y l.length/\J 141=Y i/\i<=l.length/\m+i=l.length+1/\Hid (aA [A] w1 W)/\∃mv,Hid (iM W (to (H (G A 0)) n cap) n (qL T (l.take i)) mv)
def lk4{A Iw:Nat}(HV:Hid (aF w1 vb 230 (sM K p (to (H (G A 0)) p.code.length Iw))))(sU:Hid (vb≠A))(HY:Hid (iN w1 lo sv lv l wb))(TV:Hid (∀b,lv.ownBlock=H b->b≠A))(Ke:Hid (∀i,i<l.length->∀b,(wb i).ownBlock=H b->b≠A))(hA:A<w1.heap.size)(hl:l.length<=2)(me:Hid (∀i,i<l.length->(l.getD i eP).1<p.code.length))
 (d_:∀(J:Nat->UL) W mv,aA [A] w1 W->iM W (to (H (G A 0)) p.code.length Iw) p.code.length (qL T l) mv->Q (.exit 6) (FK J) W)
 {a:Act} {W:UK} (h:L4 w1 vb A Iw p.code.length lv T l (l.length+1) a W):(Code.loop (lkL 2)).wp prog Q a W:=by
 refine Mk.aN (λm a W=>L4 w1 vb A Iw p.code.length lv T l m a W) (l.length+1) h ?_ ?_
 ·rintro a W ⟨J,i,-,-,-,-,-,h1,h2,-⟩;omega
 rintro m a0 W ⟨J,i,rfl,j0,u7,u6,u5,hi,hm,HB,mv,HS⟩;unfold FK
 conv=>arg 2;whnf
 have w2:=mO i O;rw[j0,u7,u6,u5];clear j0 u7 u6 u5;by_cases be:i<l.length
 ·have HY':iN W lo sv lv l wb:=⟨rz HY.o.row HB.o (λb X=>by have:=TV.o b X;simpa using this),λi hi=>rz (HY.o.more i hi) HB.o (λb X=>by have:=Ke.o i hi b X;simpa using this),HY.o.off⟩;have HYW:=Z HY';obtain⟨b,off,cap,ma,mc,Kd,q1,q2,lb,em,c0,c1,c2,c3,c4,c5,c6,c7,c8,c9,JQ,JR,Vs,ri⟩:=HY'.Nt be;have Gg:=Z Kd;have dE:=Z be;have WA:=Z em;rw[em]at ri;have hv:aF W vb 230 (sM K p (to (H (G A 0)) p.code.length Iw)):=HV.o.aG HB.o (by have:=sU.o;simpa using this);have v6:UJ W (G vb 6)=H (to (H (G A 0)) p.code.length Iw):=hv.cell 6;have lv0:=hv.lt;have hAW:A<W.heap.size:=by have:=HB.o.size;omega
  have vT:∀o,W.frozen? (G A o)=false:=λo=>HS.o.row.frozen o;have fD:=me.o i be;clear em Kd hv HY';obtain⟨zi,DI⟩:∃z,(l.getD i eP).1=z:=⟨_,rfl⟩;rw[DI]at c0 fD;have RP:=Z DI;clear DI;generalize v_:gE (l.getD i eP).2.ty=tb at*;have ub:=Z v_;generalize Fc:bI (l.getD i eP).2.lo=lc at*;have CN:=Z Fc;generalize CU:(l.getD i eP).2.ha=ha at*;have Nk:=Z CU;generalize CO:(l.getD i eP).2.lo.length=ln at*;have sD:=Z CO;generalize CG:ln-8=n8 at*;have RK:=Z CG;clear v_ Fc CU CO CG;have Ww:=Z (show(cQ true (l.getD i eP).2 (wb i))=#[.bool true,.string tb,Y (lc 0),Y (lc 1),Y (lc 2),Y (lc 3),Y (lc 4),Y (lc 5),Y (lc 6),Y (lc 7),Y ln,Y ha,to ma n8 mc]by unfold cQ;rw[ub.o,CN.o,sD.o,Nk.o,WA.o]);have Mv:=Z (λ(W3:UK) (X:Below W.heap.size W W3)=>iM.put (W:=W3) (mv:=mv) (HS.o.aG (aA.af X)) fD (HYW.o.more i dE.o |>.aG (aA.af X)) (λb X=>Ke.o i dE.o b X) rfl);have cR:=Z ((aB W.heap.size W).alloc (aL _) (QP #[Y zi,.bool true,.string tb,Y (lc 0),Y (lc 1),Y (lc 2),Y (lc 3),Y (lc 4),Y (lc 5),Y (lc 6),Y (lc 7),Y ln,Y ha,to ma n8 mc] 279));have hold:∀k,k<13->∃v,UJ W (G A (zi*13+k))=H v:=λk hk=>⟨_,HS.o.row.cell (o:=zi*13+k) O⟩;obtain⟨u0,o0⟩:=hold 0 O;obtain⟨u1,o1⟩:=hold 1 O;obtain⟨u2,o2⟩:=hold 2 O;obtain⟨u3,o3⟩:=hold 3 O;obtain⟨u4,o4⟩:=hold 4 O;obtain⟨acQ,o5⟩:=hold 5 O;obtain⟨acN,o6⟩:=hold 6 O;obtain⟨acM,o7⟩:=hold 7 O;obtain⟨u8,o8⟩:=hold 8 O;obtain⟨u9,o9⟩:=hold 9 O;obtain⟨u10,o10⟩:=hold 10 O;obtain⟨u11,o11⟩:=hold 11 O;obtain⟨u12,o12⟩:=hold 12 O;have aem:=Z (And.intro o0 (And.intro o1 (And.intro o2 (And.intro o3 (And.intro o4 (And.intro o5 (And.intro o6 (And.intro o7 (And.intro o8 (And.intro o9 (And.intro o10 (And.intro o11 (o12)))))))))))));clear hold vT o0 o1 o2 o3 o4 o5 o6 o7 o8 o9 o10 o11 o12;have kx:aF (W.alloc (QP #[Y zi,.bool true,.string tb,Y (lc 0),Y (lc 1),Y (lc 2),Y (lc 3),Y (lc 4),Y (lc 5),Y (lc 6),Y (lc 7),Y ln,Y ha,to ma n8 mc] 279)) W.heap.size 279 #[Y zi,.bool true,.string tb,Y (lc 0),Y (lc 1),Y (lc 2),Y (lc 3),Y (lc 4),Y (lc 5),Y (lc 6),Y (lc 7),Y ln,Y ha,to ma n8 mc]:=aF.new _ _ _;rw[Gg.o];go_wp2_with fail;obtain⟨W1,CW⟩:∃W1,W1=W.alloc (QP #[Y zi,.bool true,.string tb,Y (lc 0),Y (lc 1),Y (lc 2),Y (lc 3),Y (lc 4),Y (lc 5),Y (lc 6),Y (lc 7),Y ln,Y ha,to ma n8 mc] 279):=⟨_,rfl⟩;rw[<-CW]at kx cR ⊢;obtain⟨d0,d1,d2,d3,d4,d5,d6,d7,d8,d9,d10,d11,d12,d13⟩:=kx.c14;have v6':UJ W1 (G vb 6)=H (to (H (G A 0)) p.code.length Iw):=(dN (cR.o.block _ lv0)).trans v6;clear CW kx v6 c0 c1 c2 c3 c4 c5 c6 c7 c8 c9 JQ JR Vs ri;generalize gu:W.heap.size=bx at*;have kE:=Z gu;clear gu
  go_still_tail 9,bh
  change wpList _ _ _ _ _ (World.drewN _ 1);have ep:=cR.o.trans (az _ W1 1);generalize World.drewN _ 1=V0 at*;have key:∀o v,UJ W (G A o)=H v->UJ V0 (G A o)=H v:=λo v h=>(dN (ep.block _ hAW)).trans h;obtain⟨o0,o1,o2,o3,o4,o5,o6,o7,o8,o9,o10,o11,o12⟩:=aem.o;replace o0:=key _ _ o0;replace o1:=key _ _ o1;replace o2:=key _ _ o2;replace o3:=key _ _ o3;replace o4:=key _ _ o4;replace o5:=key _ _ o5;replace o6:=key _ _ o6;replace o7:=key _ _ o7;replace o8:=key _ _ o8;replace o9:=key _ _ o9;replace o10:=key _ _ o10;replace o11:=key _ _ o11;replace o12:=key _ _ o12;have HP9:=Z (Mv.o V0 ep);rw[<-kE.o]at ep;have vT:∀o,V0.frozen? (G A o)=false:=λo=>(HS.o.row.aG (aA.af (S:=[]) ep) ay).frozen o;simp only[Nat.add_zero]at o0;rw[Ww.o]at HP9;have eV:=Z ep;clear key Mv ep;go_wp2_with fail
  try rw[<-Gg.o]
  refine⟨_,i+1,FK.of _ rfl,rfl,(by first|rfl|exact Gg.o),rfl,rfl,dE.o,O,Z (HB.o.trans ((aA.af eV.o).trans (HP9.o.2))),aR mv zi (wb i),Z ?_⟩;rw[acR T dE.o,RP.o];exact HP9.o.1
 ·obtain rfl:i=l.length:=O;clear be;go_wp2;exact Eq.mpr (bu (λa=>Q (.exit 6) a W) (FK.of _ rfl)) (d_ _ _ mv HB.o (by have:=HS.o;rw[List.take_length]at this;exact this))
def P6(p:aQ)(j:Nat):(dP p j).oneCell'=true:=by
 unfold dP;dsimp only
 repeat' split
 all_goals rfl
def MB(p:aQ)(j:Nat):(ci p j).oneCell'=true:=by
 unfold ci;dsimp only
 repeat' split
 all_goals rfl
def Own(w W:UK)(E:TypeId)(size n:Nat)(v:UL)(g:Nat->UL):Prop:=Row W E size v n g/\vu w.heap.size W.heap.size v
def Own.later{w W W':UK}{E:TypeId}{size n:Nat}{v:UL}{g:Nat->UL}(h:Own w W E size n v g)(b:Below W.heap.size W W'):Own w W' E size n v g:=
 ⟨h.1.aG (aA.af (S:=[]) b) ay,h.2.mono (aL _) b.size⟩
structure P7(w W:UK)(K:Kp)(p:aQ):Prop where
 g:Own w W 4 1 p.bw.length K.g (λi=> .bool (p.bw.getD i false))
 v:Own w W 122 3 p.vars.length K.v (dP p)
 t:Own w W 3 1 p.aS.length K.t (aX p.aS)
 o:Own w W 3 1 p.on.length K.o (aX p.on)
 c:Own w W 40 5 p.code.length K.c (ci p)
def Own.fin{w W W':UK}{E T:TypeId}{size n:Nat}{v:UL}{g:Nat->UL}{cs:Array UL}(h:Own w W E size n v g)(hz:aF W (w.heap.size+1) T cs)(ht:E≠T)(f:aA [w.heap.size+1] W W'):Own w W' E size n v g:=
 ⟨h.1.aG f (λb X hm=>Row.eZ h.1 hz ht (by simp at hm;subst hm;exact X)),h.2.mono (aL _) f.size⟩
def Fm(w:UK)(p:aQ)(e:Ending)(w':UK):Prop:=∃K,e=C8 (pV K p)/\P7 w w' K p/\Below w.heap.size w w'
def Mod(p:aQ):Prop:=p.bw.length<=1000000000/\p.vars.length<=1000000000/\p.aS.length<=1000000000/\p.on.length<=1000000000/\p.code.length<=1000000000
def T6(w V:UK)(x0 x1 x2 x3 x4 x5:UL):Prop:=UJ V (G w.heap.size 0)=H x0/\UJ V (G w.heap.size 1)=H x1/\UJ V (G w.heap.size 2)=H x2/\UJ V (G w.heap.size 3)=H x3/\UJ V (G w.heap.size 4)=H x4/\UJ V (G w.heap.size 5)=H x5
def ZB(w V:UK):Prop:=Below w.heap.size w V/\aF V (w.heap.size+1) 27 #[Pl,Pl,Pl,Pl,Y 0,Pl]
def ClT(w V:UK)(x0 x1 x2 x3 x4 x5:UL)(E:TypeId)(size n:Nat)(g:Nat->UL)(e:Ending)(V':UK):Prop:=(∃x y z,e=C8 (to x y z)/\Hid (Own w V' E size n (to x y z) g))/\T6 w V' x0 x1 x2 x3 x4 x5/\Hid (Below V.heap.size V V')/\Hid (ZB w V')/\UJ V' (G (w.heap.size+1) 0)=H Pl/\UJ V' (G (w.heap.size+1) 1)=H Pl/\UJ V' (G (w.heap.size+1) 2)=H Pl/\UJ V' (G (w.heap.size+1) 3)=H Pl/\UJ V' (G (w.heap.size+1) 4)=H (Y 0)/\UJ V' (G (w.heap.size+1) 5)=H Pl/\(∀o,V'.frozen? (G (w.heap.size+1) o)=false)/\w.heap.size+1<V'.heap.size
def cl1{w V:UK}{x0 x1 x2 x3 x4 x5 av:UL}{f:FuncId}{E:TypeId}{size n:Nat}{g:Nat->UL}(X:Hid (ZB w V))(hs:T6 w V x0 x1 x2 x3 x4 x5)(hc:Calls prog f #[av] V (sJ V E size n g)):
 Calls prog f #[av] V (ClT w V x0 x1 x2 x3 x4 x5 E size n g):=by
 refine hc.mono ?_;rintro e V' ⟨v',rfl,hr,qK,hi⟩;obtain⟨x,y,z,rfl⟩:∃x y z,v'=to x y z:=by obtain⟨x,z,e,-⟩:=(aZ.vd hr).val;exact⟨x,_,z,e⟩
 have hz:=X.o.2.of (qK.block _ X.o.2.lt);have key:∀i v,UJ V (G w.heap.size i)=H v->UJ V' (G w.heap.size i)=H v:=λi v hc=>(dN (qK.block _ (aH hc))).trans hc;exact⟨⟨x,y,z,rfl,Z ⟨hr,hi.mono X.o.1.size (aL _)⟩⟩,⟨key _ _ hs.1,key _ _ hs.2.1,key _ _ hs.2.2.1,key _ _ hs.2.2.2.1,key _ _ hs.2.2.2.2.1,key _ _ hs.2.2.2.2.2⟩,Z qK,Z ⟨X.o.1.trans (qK.mono X.o.1.size),hz⟩,hz.cell 0,hz.cell 1,hz.cell 2,hz.cell 3,hz.cell 4,hz.cell 5,hz.frozen,hz.lt⟩
def acu(w:UK){K:Kp}{p:aQ}(h:fW w K p)(hm:Mod p):Calls prog 54 #[pV K p] w (Fm w p):=by
 obtain⟨⟨ga,gc,g1,g2,g3⟩,⟨va,vc,v1,v2,v3⟩,⟨ta,tc,t1,t2,t3⟩,⟨oa,oc,o1,o2,o3⟩,⟨ca,cc,c1,c2,c3⟩⟩:=h.sl;obtain⟨Jl,rD,hm3,hm4,WS⟩:=hm;have a0f:=Z h;obtain⟨kg,kv,kt,ko,kc⟩:=K;dsimp only at g1 v1 t1 o1 c1;subst g1 v1 t1 o1 c1;have CL:∀{f:FuncId} {E:TypeId} {size n:Nat} {g:Nat->UL} {av:UL},(∀V,Below w.heap.size w V->Calls prog f #[av] V (sJ V E size n g))->Hid (∀V,Hid (ZB w V)->T6 w V (to ga p.bw.length gc) (to va p.vars.length vc) (to ta p.aS.length tc) (to oa p.on.length oc) (Y p.aT) (to ca p.code.length cc)->Calls prog f #[av] V (ClT w V (to ga p.bw.length gc) (to va p.vars.length vc) (to ta p.aS.length tc) (to oa p.on.length oc) (Y p.aT) (to ca p.code.length cc) E size n g)):=λhc=>Z λV X hs=>cl1 X hs (hc V X.o.1);have C1:=CL (av:=to ga p.bw.length gc) λV b=>af4 ((a0f.o.aG (aA.af b)).g) O (λj _=>rfl);have C2:=CL (av:=to va p.vars.length vc) λV b=>agD ((a0f.o.aG (aA.af b)).v) O (λj _=>P6 p j);have C3:=CL (av:=to ta p.aS.length tc) λV b=>mM ((a0f.o.aG (aA.af b)).t) O (λj _=>rfl);have C4:=CL (av:=to oa p.on.length oc) λV b=>mM ((a0f.o.aG (aA.af b)).o) O (λj _=>rfl);have C5:=CL (av:=to ca p.code.length cc) λV b=>agn ((a0f.o.aG (aA.af b)).cd) O (λj _=>MB p j);have ep:Below w.heap.size w (((w.alloc (QP #[to ga p.bw.length gc,to va p.vars.length vc,to ta p.aS.length tc,to oa p.on.length oc,Y p.aT,to ca p.code.length cc] 27)).alloc (QP #[Pl,Pl,Pl,Pl,Y 0,Pl] 27)).drew):=(((aB _ _).alloc (aL _) _).alloc ay _).trans (az _ _ 1);have k0:aF (((w.alloc (QP #[to ga p.bw.length gc,to va p.vars.length vc,to ta p.aS.length tc,to oa p.on.length oc,Y p.aT,to ca p.code.length cc] 27)).alloc (QP #[Pl,Pl,Pl,Pl,Y 0,Pl] 27)).drew) w.heap.size 27 #[to ga p.bw.length gc,to va p.vars.length vc,to ta p.aS.length tc,to oa p.on.length oc,Y p.aT,to ca p.code.length cc]:=((aF.new w _ _).alloc _).drewN 1;have k1:aF (((w.alloc (QP #[to ga p.bw.length gc,to va p.vars.length vc,to ta p.aS.length tc,to oa p.on.length oc,Y p.aT,to ca p.code.length cc] 27)).alloc (QP #[Pl,Pl,Pl,Pl,Y 0,Pl] 27)).drew) (w.heap.size+1) 27 #[Pl,Pl,Pl,Pl,Y 0,Pl]:=(aF.bR ay).drewN 1;have eV:=Z (And.intro ep k1);have ru:(((w.alloc (QP #[to ga p.bw.length gc,to va p.vars.length vc,to ta p.aS.length tc,to oa p.on.length oc,Y p.aT,to ca p.code.length cc] 27)).alloc (QP #[Pl,Pl,Pl,Pl,Y 0,Pl] 27)).drew).cell? (G w.heap.size 0)=H (to ga p.bw.length gc)/\(((w.alloc (QP #[to ga p.bw.length gc,to va p.vars.length vc,to ta p.aS.length tc,to oa p.on.length oc,Y p.aT,to ca p.code.length cc] 27)).alloc (QP #[Pl,Pl,Pl,Pl,Y 0,Pl] 27)).drew).cell? (G w.heap.size 1)=H (to va p.vars.length vc)/\(((w.alloc (QP #[to ga p.bw.length gc,to va p.vars.length vc,to ta p.aS.length tc,to oa p.on.length oc,Y p.aT,to ca p.code.length cc] 27)).alloc (QP #[Pl,Pl,Pl,Pl,Y 0,Pl] 27)).drew).cell? (G w.heap.size 2)=H (to ta p.aS.length tc)/\(((w.alloc (QP #[to ga p.bw.length gc,to va p.vars.length vc,to ta p.aS.length tc,to oa p.on.length oc,Y p.aT,to ca p.code.length cc] 27)).alloc (QP #[Pl,Pl,Pl,Pl,Y 0,Pl] 27)).drew).cell? (G w.heap.size 3)=H (to oa p.on.length oc)/\(((w.alloc (QP #[to ga p.bw.length gc,to va p.vars.length vc,to ta p.aS.length tc,to oa p.on.length oc,Y p.aT,to ca p.code.length cc] 27)).alloc (QP #[Pl,Pl,Pl,Pl,Y 0,Pl] 27)).drew).cell? (G w.heap.size 4)=H (Y p.aT)/\(((w.alloc (QP #[to ga p.bw.length gc,to va p.vars.length vc,to ta p.aS.length tc,to oa p.on.length oc,Y p.aT,to ca p.code.length cc] 27)).alloc (QP #[Pl,Pl,Pl,Pl,Y 0,Pl] 27)).drew).cell? (G w.heap.size 5)=H (to ca p.code.length cc):=⟨k0.cell 0,k0.cell 1,k0.cell 2,k0.cell 3,k0.cell 4,k0.cell 5⟩;clear k0 k1 ep h g2 g3 v2 v3 t2 t3 o2 o3 c2 c3;unfold pV;dsimp only;go_enter func54,ntmps54;go_wp2_with fail;generalize(w.alloc (QP #[to ga p.bw.length gc,to va p.vars.length vc,to ta p.aS.length tc,to oa p.on.length oc,Y p.aT,to ca p.code.length cc] 27)).alloc (QP #[Pl,Pl,Pl,Pl,Y 0,Pl] 27)=W0 at*;refine Gd.region [18] (λ_=>True) (λwx=>UJ wx (G w.heap.size 0)=H (to ga p.bw.length gc)/\UJ wx (G w.heap.size 1)=H (to va p.vars.length vc)/\UJ wx (G w.heap.size 2)=H (to ta p.aS.length tc)/\UJ wx (G w.heap.size 3)=H (to oa p.on.length oc)/\UJ wx (G w.heap.size 4)=H (Y p.aT)/\UJ wx (G w.heap.size 5)=H (to ca p.code.length cc)) bh ⟨trivial,ru⟩ (λau=>?_);generalize W0.drew=V0 at*;refine Mk.Dm 0 ?_;refine Mk.Dm 1 ?_;refine Mk.Dm 3 ?_;refine Mk.Dm 4 ?_;refine Mk.Dm 6 ?_;refine Mk.Dm 7 ?_;refine Mk.Dm 9 ?_;refine Mk.Dm 10 ?_;refine Mk.Dm 12 ?_;refine Mk.Dm 13 ?_;refine Mk.Dm 14 ?_;refine Mk.Dm 15 ?_;refine Gd.ready (rs:=[2]) bh ay ?_;refine Gd.eC.cons rfl (λK hK=>?_) Gd.eC.nil;refine fH ?_;go_simp;go_at_call 98;refine(C1.o _ eV ru).mono ?_;rintro e w1 ⟨⟨x1,y1,z1,rfl,hO1⟩,wY,Om,hQ1,-⟩;clear C1;clear au;refine hK.out _ _ ⟨trivial,wY⟩ (λau=>?_);clear hK K;refine Mk.pt ?_;refine Gd.ready (rs:=[5]) bh ay ?_;refine Gd.eC.cons rfl (λK hK=>?_) Gd.eC.nil;refine fH ?_;go_simp;go_at_call 99;refine(C2.o _ hQ1 wY).mono ?_;rintro e w2 ⟨⟨x2,y2,z2,rfl,hO2⟩,RI,hL2,hQ2,-⟩;clear C2 hQ1;clear au;refine hK.out _ _ ⟨trivial,RI⟩ (λau=>?_);clear hK K;refine Mk.pt ?_;refine Gd.ready (rs:=[8]) bh ay ?_;refine Gd.eC.cons rfl (λK hK=>?_) Gd.eC.nil;refine fH ?_;go_simp;go_at_call 55;refine(C3.o _ hQ2 RI).mono ?_;rintro e w3 ⟨⟨x3,y3,z3,rfl,hO3⟩,ET,hL3,Rz,-⟩;clear C3 hQ2;clear au;refine hK.out _ _ ⟨trivial,ET⟩ (λau=>?_);clear hK K;refine Mk.pt ?_;refine Gd.ready (rs:=[11]) bh ay ?_;refine Gd.eC.cons rfl (λK hK=>?_) Gd.eC.nil;refine fH ?_;go_simp;go_at_call 55;refine(C4.o _ Rz ET).mono ?_;rintro e w4 ⟨⟨x4,y4,z4,rfl,hO4⟩,Wi,ZJ,hQ4,-⟩;clear C4 Rz;clear au;refine hK.out _ _ ⟨trivial,Wi⟩ (λau=>?_);clear hK K;refine Mk.pt ?_;refine Gd.ready (rs:=[16]) bh ay ?_;refine Gd.eC.cons rfl (λK hK=>?_) Gd.eC.nil;refine fH ?_;go_simp;go_at_call 100;refine(C5.o _ hQ4 Wi).mono ?_;rintro e w5 ⟨⟨x5,y5,z5,rfl,hO5⟩,Gb,hL5,T9,jn,nQ,qm,ZK,hz4,hz5,hzf,hzl⟩;clear C5 hQ4;clear au;refine hK.out _ _ ⟨trivial,Gb⟩ (λau=>?_);clear hK K;refine Mk.pt ?_;refine Gd.ready (rs:=[17]) bh ay ?_;refine Gd.eC.cons rfl (λK hK=>?_) Gd.eC.nil;refine fH ?_;go_simp;refine hK.out _ _ au (λau=>?_);clear hK K;refine Mk.pt ?_;refine Gd.ready (rs:=[18]) bh ay ?_;refine Gd.eC.last rfl bh (λK hK=>?_) Gd.eC.nil;refine fH ?_;go_simp;refine hK.out _ _ trivial ?_;clear hK K;refine Mk.pt ?_;refine Gd.done bh ⟨rfl,?_⟩ _;clear au;go_wp2_with fail;have f9:aA [w.heap.size+1] w5 _:=(((((((aA.refl [w.heap.size+1] w5).setCell (p:=(G (w.heap.size+1) 0)) ay (to x1 y1 z1)).setCell (p:=(G (w.heap.size+1) 1)) ay (to x2 y2 z2)).setCell (p:=(G (w.heap.size+1) 2)) ay (to x3 y3 z3)).setCell (p:=(G (w.heap.size+1) 3)) ay (to x4 y4 z4)).setCell (p:=(G (w.heap.size+1) 4)) ay (Y p.aT)).setCell (p:=(G (w.heap.size+1) 5)) ay (to x5 y5 z5));have b9:=((((((T9.o.2.set 0 (to x1 y1 z1)).set 1 (to x2 y2 z2)).set 2 (to x3 y3 z3)).set 3 (to x4 y4 z4)).set 4 (Y p.aT)).set 5 (to x5 y5 z5));simp only[List.setIfInBounds_toArray,List.set_cons_zero,List.set_cons_succ]at b9;have L1:=(hL2.o.trans (hL3.o.mono hL2.o.size)).trans ((ZJ.o.trans (hL5.o.mono ZJ.o.size)).mono (cU hL2.o.size hL3.o.size));have L2:=(hL3.o.trans (ZJ.o.mono hL3.o.size)).trans (hL5.o.mono (cU hL3.o.size ZJ.o.size));have L3:=ZJ.o.trans (hL5.o.mono ZJ.o.size);have P9:P7 w ((((((w5.setCell (G (w.heap.size+1) 0) (to x1 y1 z1)).setCell (G (w.heap.size+1) 1) (to x2 y2 z2)).setCell (G (w.heap.size+1) 2) (to x3 y3 z3)).setCell (G (w.heap.size+1) 3) (to x4 y4 z4)).setCell (G (w.heap.size+1) 4) (Y p.aT)).setCell (G (w.heap.size+1) 5) (to x5 y5 z5)) ⟨to x1 y1 z1,to x2 y2 z2,to x3 y3 z3,to x4 y4 z4,to x5 y5 z5⟩ p:=
  ⟨(hO1.o.later L1).fin T9.o.2 bd f9,(hO2.o.later L2).fin T9.o.2 bd f9,(hO3.o.later L3).fin T9.o.2 bd f9,(hO4.o.later hL5.o).fin T9.o.2 bd f9,hO5.o.fin T9.o.2 bd f9⟩
 have B9:=T9.o.1.trans (f9.below (B:=w.heap.size) T9.o.1.size ay);generalize((((((w5.setCell (G (w.heap.size+1) 0) (to x1 y1 z1)).setCell (G (w.heap.size+1) 1) (to x2 y2 z2)).setCell (G (w.heap.size+1) 2) (to x3 y3 z3)).setCell (G (w.heap.size+1) 3) (to x4 y4 z4)).setCell (G (w.heap.size+1) 4) (Y p.aT)).setCell (G (w.heap.size+1) 5) (to x5 y5 z5))=W9 at*;obtain⟨i0,i1,i2,i3,i4,i5⟩:=b9.c6;clear b9 f9 L1 L2 L3 hO1 hO2 hO3 hO4 hO5 Om hL2 hL3 ZJ hL5 T9 wY RI ET Wi Gb jn nQ qm ZK hz4 hz5 hzf hzl;refine bK ?_ rfl ⟨_,rfl,P9,B9⟩;simp[results,results54,go_sem,i0,i1,i2,i3,i4,i5,pV]
end
end Go.Vf
section
def qX2{p:Prop}(h:p:=by
 have y0:=key _ _ _ a3 s0;have y1:=key _ _ _ a3 s1;have y2:=key _ _ _ a3 s2;have y3:=key _ _ _ a3 s3;have y4:=key _ _ _ a3 s4;have y5:=key _ _ _ a3 s5;have acW:=key _ _ _ a3 s6;have acV:=key _ _ _ a3 s7;have y8:=key _ _ _ a3 s8;have y9:=key _ _ _ a3 s9;have y10:=key _ _ _ a3 RM;have y11:=key _ _ _ a3 MV;have y12:=key _ _ _ a3 Eu;exact qj):p:=h
namespace Go.Vf
open Go.RowKit aj.Vm
open aj hiding aR an ak
open Ma (dP ci aX vb aI aV)
section
variable {w1:UK}{K:Kp}{p:aQ}{jg:UL}{vb:Nat}{T:Map}{lo:Nat}{sv lv:UL}{l:List (Nat×Std)}{wb:Nat->UL}{Q:Exit->Act->UK->Prop}
def L2(w1:UK)(vb:Nat)(pc:Nat)(lv:UL)(n:Nat)(m:Nat)(a:Act)(W:UK):Prop:=
 ∃(J:Nat->UL) (i:Nat),a=FK J/\J 0=UI vb/\J 1=Y pc/\J 8=lv/\J 87=lv/\J 88=Y n/\J 89=Y i/\i<=n/\m+i=n+1/\Hid (Below w1.heap.size w1 W)
def Ff(T:Map)(l:List (Nat×Std))(i:Nat):Prop:=∀k,k<i->(∀j,j<k->(l.getD j eP).1=(l.getD k eP).1->(l.getD j eP).2=(l.getD k eP).2)/\(∀s,T (l.getD k eP).1=H s->s=(l.getD k eP).2)
def Iv{p:Prop}(h:p:=by
 intro wz fj;exact qj):p:=h
def lk2{pc:Nat}{mv:Nat->UL}(HV:Hid (aF w1 vb 230 (sM K p jg)))(HS:Hid (iM w1 jg p.code.length T mv))(HTO:Hid (∀q s,T q=H s->fe s.ty/\s.lo.length<=1000000000))(HY:Hid (iN w1 lo sv lv l wb))(HW:Hid (WOk l))(hl:l.length<=2)(me:Hid (∀i,i<l.length->(l.getD i eP).1<p.code.length))
 (iU:∀(A:Array UL) W,A.getD 4 undef=Y 94->Below w1.heap.size w1 W->¬Ff T l l.length->Q .ret {tmps:=A,defers:=[]} W)
 (d_:∀(J:Nat->UL) W,J 0=UI vb->J 1=Y pc->J 8=lv->Below w1.heap.size w1 W->Ff T l l.length->Q (.exit 2) (FK J) W)
 {a:Act} {W:UK} (h:L2 w1 vb pc lv l.length (l.length+1) a W):(Code.loop (lkL 1)).wp prog Q a W:=by
 refine Mk.aN (λm a W=>L2 w1 vb pc lv l.length m a W/\Ff T l (l.length+1-m)) (l.length+1) ⟨h,λi hi=>O⟩ ?_ ?_
 ·rintro a W ⟨⟨J,i,-,-,-,-,-,-,-,h1,h2,-⟩,-⟩;omega
 rintro m a0 W ⟨⟨J,i,rfl,j0,j1,j8,WC,WD,WE,hi,hm,HB⟩,hA⟩;rw[show l.length+1 - (m+1)=i by omega]at hA;have HA:=Z hA;clear hA;unfold FK
 conv=>arg 2;whnf
 have w2:=mO i O;rw[j0,j1,j8,WC,WD,WE];clear j0 j1 j8 WC WD WE;by_cases be:i<l.length
 ·obtain⟨b,off,cap,ma,mc,Kd,q1,q2,lb,em,c0,c1,c2,c3,c4,c5,c6,c7,c8,c9,JQ,JR,Vs,ri⟩:=(HY.o.aG (aA.af HB.o)).Nt be;have Gg:=Z Kd;have dE:=Z be;have WA:=Z em;rw[em]at ri;have xN:i<=cap:=O;clear em Kd;obtain⟨zi,DI⟩:∃z,(l.getD i eP).1=z:=⟨_,rfl⟩;rw[DI]at c0;have RP:=Z DI;clear DI;generalize v_:gE (l.getD i eP).2.ty=tb at*;have ub:=Z v_;generalize Fc:bI (l.getD i eP).2.lo=lc at*;have CN:=Z Fc;generalize CU:(l.getD i eP).2.ha=ha at*;have Nk:=Z CU;generalize CO:(l.getD i eP).2.lo.length=ln at*;have sD:=Z CO;generalize CG:ln-8=n8 at*;have RK:=Z CG;clear v_ Fc CU CO CG;have Ww:=Z (show(QK (l.getD i eP).1 (l.getD i eP).2 (wb i))=#[Y zi,.bool true,.string tb,Y (lc 0),Y (lc 1),Y (lc 2),Y (lc 3),Y (lc 4),Y (lc 5),Y (lc 6),Y (lc 7),Y ln,Y ha,to ma n8 mc]by unfold QK;rw[RP.o,ub.o,CN.o,sD.o,Nk.o,WA.o]);rw[Gg.o];go_wp2_with fail;rw[<-Gg.o];refine lk3 (w1:=w1) (pc:=pc) (bx:=W.heap.size) (off:=off) (cap:=cap) HY HW hl dE.o Gg (λA W3 Aa zh hex=>?_) (λJ3 W3 j0 j1 j8 pn WC WD WE zh hX3 Aa=>?_) ⟨_,0,FK.of _ rfl,rfl,rfl,rfl,rfl,rfl,rfl,rfl,rfl,rfl,rfl,cK _,rfl,Z (HB.o.alloc HB.o.size _),Z ⟨HB.o.size,?_⟩⟩
  ·refine iU A W3 Aa zh (λhm=>?_);obtain⟨j,hj,e1,e2⟩:=hex;exact e2 ((hm i dE.o).1 j hj e1)
  ·unfold FK;rw[j0,j1,j8,pn,WC,WD,WE];clear j0 j1 j8 pn WC WD WE;have fD:zi<p.code.length:=by rw[<-RP.o];exact me.o i dE.o
   have Eo:=Z Aa;have hv:=HV.o.of (zh.block _ HV.o.lt);have v6:UJ W3 (G vb 6)=H jg:=hv.cell 6;have lv0:=hv.lt;have Gn:=(HS.o.aG (aA.af zh));obtain⟨A,qW,eat,a1,a2,a3,s0,s1,s2,s3,s4,s5,s6,s7,s8,s9,RM,MV,Eu⟩:=Gn.Wy fD;obtain⟨ma',mc',WG,-,-⟩:=aZ.val (Gn.more zi fD);rw[eat]at v6;rw[WG]at Eu;have Zr:=Z WG;have hx:=hX3;rw[Ww.o]at hx;obtain⟨d0,d1,d2,d3,d4,d5,d6,d7,d8,d9,d10,d11,d12,d13⟩:=hx.c14;have lx:=hx.lt;have iy:=Z zh;clear hx hX3 Gn hv eat WG zh Aa c0 c1 c2 c3 c4 c5 c6 c7 c8 c9 JQ JR Vs ri;generalize W.heap.size=bx at*;cases hT:T zi with
   |none=>
    rw[hT]at s0;have HT:=Z hT;clear hT s1 s2 s3 s4 s5 s6 s7 s8 s9 RM MV Eu;simp only[Option.isSome_none]at s0;go_wp2;go_quiet (fail);go_wp2;refine⟨⟨_,i+1,FK.of _ rfl,rfl,rfl,(by first|rfl|exact Gg.o),(by first|rfl|exact Gg.o),rfl,rfl,dE.o,O,Z (iy.o.trans (az _ _ _))⟩,?_⟩;rw[show l.length+1-m=i+1 by omega];intro k hk;by_cases e:k=i
    ·subst e;refine⟨Eo.o,λs hs=>?_⟩;rw[RP.o,HT.o]at hs;cases hs
    ·exact HA.o k O
   |some s=>
    have HT:=Z hT;have fL:fA T zi=s:=by unfold fA;rw[hT];rfl
    have lN:=Z fL;rw[hT]at s0;rw[fL]at s1 s2 s3 s4 s5 s6 s7 s8 s9 RM MV Eu Zr;simp only[Option.isSome_some]at s0;have Dx:=Z (λV (X:Below w1.heap.size w1 V)=>Iq (w:=V) true true (s:=s) (s2:=(l.getD i eP).2) (by rw[<-lN.o];exact((HS.o.more zi fD).aG (aA.af X))) ((HY.o.more i dE.o).aG (aA.af X)) (HTO.o zi s HT.o).1 (HW.o i dE.o).1 (HTO.o zi s HT.o).2 (HW.o i dE.o).2);obtain⟨dd,zg⟩:∃z,decide (s=(l.getD i eP).2)=z:=⟨_,rfl⟩;rw[zg]at Dx;have Zq:=Z zg;rw[WA.o,Zr.o]at Dx;unfold dY cQ at Dx;rw[ub.o,CN.o,sD.o,Nk.o]at Dx;have jK:Hid (∀n,Below w1.heap.size w1 (W3.drewN n)):=Z λn=>iy.o.trans (az _ _ n);clear hT fL zg;generalize gE s.ty=tb' at*;generalize bI s.lo=lc' at*;generalize s.ha=ha' at*;generalize s.lo.length=ln' at*;generalize ln'-8=n8' at*;go_wp2;go_quiet (fail);go_wp2;refine Mk.bH (S:=λwx=>Below W3.heap.size W3 wx) bh ((az _ W3 _).trans (az _ _ 1)) (λau=>?_);generalize World.drew _=V0 at*;refine Mk.tk 0 (v:=?_) rfl ?_ cY ?_;rotate_left
    ·exact Iv
    refine Mk.pt ?_;refine Mk.tk 1 (v:=?_) rfl ?_ cY ?_;rotate_left
    ·exact Iv
    refine Mk.pt ?_;refine Mk.tk 2 (v:=?_) rfl ?_ cY ?_;rotate_left
    ·exact Iv
    refine Mk.pt ?_;refine Mk.tk 3 (v:=?_) rfl ?_ cY ?_;rotate_left
    ·intro wz fj;have key:∀b i v,b<W3.heap.size->UJ W3 (G b i)=H v->UJ wz (G b i)=H v:=λb i v X hc=>(dN (fj.block _ X)).trans hc;have y0:=key _ _ _ lv0 v6;exact qj
    refine Mk.pt ?_;refine Mk.tk 4 (v:=?_) rfl ?_ cY ?_;rotate_left
    ·exact Iv
    refine Mk.pt ?_;refine Mk.tk 5 (v:=?_) rfl ?_ cY ?_;rotate_left
    ·intro wz fj;have key:∀b i v,b<W3.heap.size->UJ W3 (G b i)=H v->UJ wz (G b i)=H v:=λb i v X hc=>(dN (fj.block _ X)).trans hc;have y0:=key _ _ _ lx d0;exact qj
    refine Mk.pt ?_;refine Mk.tk 6 (v:=?_) rfl ?_ cY ?_;rotate_left
    ·exact Iv
    refine Mk.pt ?_;refine Mk.tk 7 (v:=?_) rfl ?_ cY ?_;rotate_left
    ·intro wz fj;have key:∀b i v,b<W3.heap.size->UJ W3 (G b i)=H v->UJ wz (G b i)=H v:=λb i v X hc=>(dN (fj.block _ X)).trans hc;exact qX2
    refine Mk.pt ?_;refine Mk.tk 8 (v:=?_) rfl ?_ cY ?_;rotate_left
    ·exact Iv
    refine Mk.pt ?_;refine Mk.tk 9 (v:=?_) rfl ?_ cY ?_;rotate_left
    ·intro wz fj;have key:∀b i v,b<W3.heap.size->UJ W3 (G b i)=H v->UJ wz (G b i)=H v:=λb i v X hc=>(dN (fj.block _ X)).trans hc;have y0:=key _ _ _ lx d1;have y1:=key _ _ _ lx d2;have y2:=key _ _ _ lx d3;have y3:=key _ _ _ lx d4;have y4:=key _ _ _ lx d5;have y5:=key _ _ _ lx d6;have acW:=key _ _ _ lx d7;have acV:=key _ _ _ lx d8;have y8:=key _ _ _ lx d9;have y9:=key _ _ _ lx d10;have y10:=key _ _ _ lx d11;have y11:=key _ _ _ lx d12;have y12:=key _ _ _ lx d13;exact qj
    refine Mk.pt ?_;refine fk (rs:=[10]) bh ay ?_;refine bZ rfl (λK hK=>?_) cz;refine fH ?_;go_simp;go_at_call 248
    with_reducible refine(Dx.o _ (iy.o.trans (au.mono iy.o.size))).mono ?_
    rintro e w5 ⟨rfl,uM⟩;have Gb:=au.trans (uM.mono au.size);clear au;refine hK.out _ _ Gb (λau=>?_);clear hK K;refine Mk.pt ?_;refine Mk.tk 11 (v:=?_) rfl ?_ cY ?_;rotate_left
    ·exact Iv
    refine Mk.pt ?_;refine nW bh ⟨rfl,?_⟩ _;clear au;cases dd with
    |false=>go_wp2_with fail;refine iU _ _ rfl (iy.o.trans (Gb.mono iy.o.size)) (λhm=>?_);have h2:=Zq.o;rw[ij]at h2;exact h2 ((hm i dE.o).2 s (by rw[RP.o];exact HT.o))
    |true=>
     go_wp2;refine⟨⟨_,i+1,FK.of _ rfl,rfl,rfl,(by first|rfl|exact Gg.o),(by first|rfl|exact Gg.o),rfl,rfl,dE.o,O,Z (iy.o.trans (Gb.mono iy.o.size))⟩,?_⟩;rw[show l.length+1-m=i+1 by omega];intro k hk;by_cases e:k=i
     ·subst e;refine⟨Eo.o,λs' hs=>?_⟩;rw[RP.o,HT.o]at hs;cases hs;exact rS Zq.o
     ·exact HA.o k O
  ·rw[Ww.o];exact aF.new _ _ _
 ·obtain rfl:i=l.length:=O;clear be;go_wp2;exact Eq.mpr (bu (λa=>Q (.exit 2) a W) (FK.of _ rfl)) (d_ _ _ rfl rfl rfl HB.o HA.o)
end
end Go.Vf
end
