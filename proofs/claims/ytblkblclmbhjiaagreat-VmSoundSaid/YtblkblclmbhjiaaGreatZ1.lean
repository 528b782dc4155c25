import Derived.Test.YtblkblclmbhjiaaGreatZ0
import Derived.WalkKit
import Derived.WalkSpells
import Derived.WalkLawsBesides
import Derived.Laws.BitsLemmas
import Derived.Lib.BitFns
import Derived.OpenShut
import Derived.Deep.Draws
import Derived.OwnWalk
import Derived.Deep.DeepAppendWide
import Derived.Test.YtblkblclmbhjiaaGreatRows
import Derived.BigQuiet
import Derived.BigRegion
import Derived.Deep.QuietTactic
import Derived.Outline
set_option linter.all false
set_option maxHeartbeats 40000000
set_option maxRecDepth 100000
open Go.Proofs.Tryz
open Option renaming some->O,none->Xb
open Go renaming Value->to,World->ek
open Go.Value renaming slice->H
open Go.Obj renaming cells->Xe
open Go.Ending renaming returned->Xc
open Go.World renaming cell?->Xf
abbrev jH:=@Bool.eq_iff_iff
abbrev rQ:=@decide_eq_false_iff_not
abbrev ti:=@decide_eq_true
abbrev xi:=@Bool.eq_false_iff
abbrev xj:=@of_decide_eq_true
abbrev iI:=@Option.some.injEq
abbrev uY:=@List.drop_eq_getElem_cons
abbrev aR:=@Go.World.cell?_of_block
abbrev dC:=@Nat.lt_of_lt_of_le
abbrev wZ:=@Go.World.drewN_drewN
abbrev EZ:=@Go.RowKit.Below.heap_setCell
abbrev aZ:=@Go.RowKit.Below.refl
abbrev ck:=@Nat.zero_le
abbrev bJ:=@Go.IntWalk.i64_in
abbrev gW:=@Go.World.ownsRow.lt
abbrev pR:=@Go.rounds_succ
abbrev bR:=@Go.bodyPost_ret
namespace al.Vm
def dE(S:Sys):Nat:=min (cR S.nq λq=>if S.gh q then 0 else S.cq q) S.sz+cR S.nq λq=>if S.gh q then S.cq q else 0
def ET{k:Nat}{f g:Nat->Nat}(h:∀j,j<k->f j<=g j){q:Nat}(hq:q<k)(be:f q<g q):cR k f<cR k g:=by
 induction k with
 |zero=>omega
 |succ k ih=>
  show cR k f+f k<cR k g+g k;have h2:=h k G;by_cases e:q=k
  ·subst e;have:=tH (k:=q) (f:=f) (g:=g) λj hj=>h j G;omega
  ·have:=ih (λj hj=>h j G) G;omega
def Mf{k:Nat}{f g h:Nat->Nat}(e:∀j,j<k->f j+g j=h j):cR k f+cR k g=cR k h:=by
 induction k with
 |zero=>rfl
 |succ k ih=>have h1:=ih λj hj=>e j G;have h2:=e k G;show(cR k f+f k)+(cR k g+g k)=cR k h+h k;omega
def Mg(S:Sys)(a:Nd):gD S a+cR S.nq (λq=>if S.gh q then(a.ls q).length else 0)=cR S.nq λq=>(a.ls q).length:=by unfold gD;refine Mf λj hj=>?_;by_cases h:S.gh j=true<;>simp[h]
def TH{p:Prop}(h:p:=by
 have:=h.len j hj;by_cases hg:S.gh j=true<;>simp[hg];omega):p:=h
def TI{S:Sys}{s:St}(h:Inv S s){q:Nat}(hq:q<S.nq)(hl:(s.a.ls q).length<S.cq q)(ht:S.gh q=true\/s.total<S.sz):(cR S.nq λq=>(s.a.ls q).length)<dE S:=by
 rw[<-Mg S s.a];unfold dE;have h1:gD S s.a<=cR S.nq λq=>if S.gh q then 0 else S.cq q:=tH λj hj=>by exact TH
 have h2:cR S.nq (λq=>if S.gh q then(s.a.ls q).length else 0)<=cR S.nq λq=>if S.gh q then S.cq q else 0:=tH λj hj=>by exact TH
 have h3:=h.O5;have h4:=h.Ki;by_cases hg:S.gh q=true
 ·have:cR S.nq (λq=>if S.gh q then(s.a.ls q).length else 0)<cR S.nq λq=>if S.gh q then S.cq q else 0:=by
   refine ET (λj hj=>?_) hq ?_
   ·exact TH
   ·simp[hg];exact hl
  omega
 ·have:gD S s.a<cR S.nq λq=>if S.gh q then 0 else S.cq q:=by
   refine ET (λj hj=>?_) hq ?_
   ·exact TH
   ·simp[hg];exact hl
  have h5:s.total<S.sz:=by rcases ht with ht|ht;exact absurd ht hg;exact ht
  omega
def Ph{p:aU}{c:Cp}(h:pn p c)(hg:p.ap.length<=16):(aB p c).sz<=1048576/\∀q,q<p.ap.length->(aB p c).cq q<=1048576:=by
 refine⟨?_,λq hq=>?_⟩
 ·show c.size.toNat<=_;have:=h.s2;omega
 ·show(c.aF.getD q 0).toNat<=_;have:=h.q1 q hq;omega
def Pj{p:aU}{c:Cp}{s:St}(h:Inv (aB p c) s)(hc:pn p c): -1073741824<=s.total/\s.total<=1048576:=by have h1:=h.Ki;have h2:=h.O5;have h3:(aB p c).sz=c.size.toNat:=rfl;have:=hc.s2;omega
structure mW where
 ty:List Nat
 loop:Int
 hand:Int
 lZ:Bool
 deriving DecidableEq
def s0:mW:=⟨[],0,0,false⟩
structure mw where
 at_:Nat->mW
 up:Nat->Int
def gA(p:aU)(n:Nat):Bool:=(p.on++[p.aV]).contains (n:Int)
def iQ(p:aU)(n:Int):Bool:=decide (0<=n)&&decide (n<p.code.length)&&decide ((ak p n.toNat).op=25)
def fe(p:aU)(x:Ins)(h:Int):Bool×Int:=
 if x.op=36 then(decide (h=2),3)
 else if x.op=37 then(decide (h=1)||decide (h=3),0)
 else if x.op=35 then(if bw p x.a then(decide (h=1)||decide (h=3),0)else(decide (h=2),0))
 else if x.op=34 then(if bw p x.a then(decide (h=0),1)else(decide (h=0),2))
 else if(1<=x.op/\x.op<=21)\/x.op=28\/x.op=29\/x.op=30 then(true,h)
 else(decide (h=0),0)
def cX(x:Ins)(ty:List Nat):Int×List Nat:=
 let t:=cm x.op.toNat
 let g:=if cP x.op.toNat=0 then[]else[cP x.op.toNat]
 let left:=g++ty.drop t.length
 if ty.length<t.length\/(x.op=0/\t.length<ty.length)then(93,[])
 else if 256<left.length then(93,[])
 else if x.op=19 then(if ty.getD 0 0≠ty.getD 1 0 then(94,[])else(0,left))
 else if ty.take t.length≠t then(94,[])else(0,left)
def eH(p:aU)(L:mw)(pc:Nat)(x:Ins)(ty:List Nat)(loop:Int):Bool:=
 if(x.op=22\/x.op=23\/x.op=25\/x.op=26)/\(x.a<=pc\/iQ p x.a=true)then false
 else if x.op=25 then decide (0<pc)&&decide ((ak p (pc-1)).op=24)&& !gA p pc
 else if x.op=24 then iQ p ((pc:Int)+1)
 else if x.op=26 then decide (0<=loop)&&decide (x.a=(ak p loop.toNat).a)
 else if x.op=27 then decide (0<=loop)&&decide (x.a=loop)&&decide (ty=(L.at_ loop.toNat).ty)
 else if x.op=0 then decide (loop<0)
 else true
def eP(L:mw)(pc:Nat)(x:Ins)(s:mW):List (Nat×mW):=
 if x.op=0\/x.op=27 then[]
 else if x.op=22 then[(x.a.toNat,s)]
 else if x.op=23 then[(pc+1,s),(x.a.toNat,s)]
 else if x.op=25 then[(pc+1,{s with loop:=pc}),(x.a.toNat,s)]
 else if x.op=26 then[(pc+1,s),(x.a.toNat,{s with loop:=L.up s.loop.toNat})]
 else[(pc+1,s)]
def ij(L:mw)(pc:Nat)(x:Ins)(loop:Int):mw:=if x.op=25 then{L with up:=aS L.up pc loop}else L
def vZ(L:mw)(l:List (Nat×mW)):Bool:=l.all λw=> !(L.at_ w.1).lZ||decide (L.at_ w.1=w.2)
def fq(L:mw):List (Nat×mW)->Option mw
 |[]=>some L
 |w::l=>if(L.at_ w.1).lZ then(if L.at_ w.1=w.2 then fq L l else none)else fq {L with at_:=aS L.at_ w.1 w.2} l
def cF(p:aU)(L:mw)(pc:Nat):Int×mw:=
 let x:=ak p pc
 let s:=L.at_ pc
 if s.lZ=false then(99,L)
 else if(fe p x s.hand).1=false then(96,L)
 else if(cX x s.ty).1≠0 then((cX x s.ty).1,L)
 else if cK p x=false then(92,L)
 else if eH p L pc x (cX x s.ty).2 s.loop=false then(95,L)
 else
  let L1:=ij L pc x s.loop
  let l:=eP L1 pc x ⟨(cX x s.ty).2,s.loop,(fe p x s.hand).2,true⟩
  if l.any (λw=>decide (w.1=p.code.length))then(98,L1)
  else if vZ L1 l=false then(94,L1)
  else match fq L1 l with
   |none=>(94,L1)
   |some L2=>(0,L2)
def fQ(p:aU):Nat->Nat->mw->(Int×Nat) ⊕ mw
 |0,_,L=> .inr L
 |k+1,pc,L=>if(cF p L pc).1=0 then fQ p k (pc+1) (cF p L pc).2 else .inl ((cF p L pc).1,pc)
def iC(p:aU):mw:=⟨λn=>if gA p n then⟨[],-1,0,true⟩else s0,λ_=>0⟩
def fV:List Nat->Int
 |[]=> -1
 |t::_=>t
structure MC(p:aU)(T:Map)(L:mw)(pc:Nat):Prop where
 Uc:∀n s,T n=some s->L.at_ n=⟨s.ty,fV s.lo,s.ha,true⟩
 no:∀n,T n=none->(L.at_ n).lZ=false
 up:∀n s,T n=some s->n<pc->(ak p n).op=25->L.up n=fV s.lo
 loops:∀q s,T q=some s->dI p T q s.lo
 len:∀q s,T q=some s->s.ty.length<=256
 lt:∀q s,T q=some s->q<p.code.length
def head_eq{p:aU}{T:Map}{q q':Nat}{a b:List Nat}(ha:dI p T q a)(X:dI p T q' b)(h:fV a=fV b):a=b:=by
 cases a with
 |nil=>cases b with
  |nil=>rfl
  |cons t l=>simp only[fV]at h;omega
 |cons t l=>cases b with
  |nil=>simp only[fV]at h;omega
  |cons t' a0p=>
   have e:t=t':=by simp only[fV]at h;omega
   subst e;obtain⟨_,_,s,h1,h2⟩:=ha;obtain⟨_,_,s',h3,h4⟩:=X;rw[h1]at h3;have:s=s':=fT h3;subst this;rw[<-h2,<-h4]
def MG(p:aU)(x:Ins)(ha:Nat)(h0:0<=x.op)(h41:x.op<=41):(fe p x ha).1=eL p x ha/\(eL p x ha=true->(fe p x ha).2=(br p x ha:Nat)):=by
 unfold fe eL br;by_cases h36:x.op=36
 ·simp only[h36,aE rfl];exact⟨by rw[jH];simp;omega,λ_=>rfl⟩
 simp only[h36,if_false];by_cases h37:x.op=37
 ·simp only[h37];refine⟨?_,λ_=>by simp⟩;rw[jH];simp;omega
 simp only[h37,if_false];by_cases h35:x.op=35
 ·simp only[h35];cases bw p x.a
  ·exact⟨by rw[jH];simp;omega,λ_=>by simp⟩
  ·exact⟨by rw[jH];simp;omega,λ_=>by simp⟩
 simp only[h35,if_false];by_cases h34:x.op=34
 ·simp only[h34];cases bw p x.a
  ·exact⟨by rw[jH];simp,λ_=>by simp⟩
  ·exact⟨by rw[jH];simp,λ_=>by simp⟩
 simp only[h34,if_false];by_cases hs:x.op=28\/x.op=29\/x.op=30
 ·rw[aE (.inr hs),aE hs];simp[h35,h37]
 rw[ax hs];by_cases hr:1<=x.op/\x.op<=21
 ·rw[aE (.inl hr)];simp[h35,h37,hr.1,hr.2]
 ·rw[ax (by simp only[not_or];exact⟨hr,λh=>hs (.inl h),λh=>hs (.inr (.inl h)),λh=>hs (.inr (.inr h))⟩)];have e1:(decide (1<=x.op)&&decide (x.op<=21))=false:=by rw[xi];simp;omega
  rw[e1];refine⟨by rw[jH];simp,λh=>?_⟩;simp at h;simp[h35,h37,h]
def v_(n:Nat):cm n=[]\/cm n=[1]\/cm n=[2]\/cm n=[1,1]\/(n=19/\cm n=[3,3]):=by unfold cm;split<;>simp
def MH(x:Ins)(ty:List Nat)(h0:0<=x.op)(hl:ty.length<=256):(cX x ty).1=bZ x ty/\(bZ x ty=0->(cX x ty).2=bg x ty):=by
 have hz:x.op=0->cm x.op.toNat=[]:=λh=>by rw[h];rfl
 have vS:x.op.toNat=19↔x.op=19:=G;unfold cX bZ bg;dsimp only;have hg:(if cP x.op.toNat=0 then ty.drop (cm x.op.toNat).length else cP x.op.toNat::ty.drop (cm x.op.toNat).length)=(if cP x.op.toNat=0 then[]else[cP x.op.toNat])++ty.drop (cm x.op.toNat).length:=by split<;>rfl
 rw[hg];have hlen:((if cP x.op.toNat=0 then[]else[cP x.op.toNat])++ty.drop (cm x.op.toNat).length).length=(if cP x.op.toNat=0 then 0 else 1)+(ty.length - (cm x.op.toNat).length):=by rw[List.length_append,List.length_drop];split<;>rfl
 rw[hlen];generalize(if cP x.op.toNat=0 then[]else[cP x.op.toNat])++ty.drop (cm x.op.toNat).length=R;by_cases c1:ty.length<(cm x.op.toNat).length\/(x.op=0/\0<ty.length)
 ·have c2:ty.length<(cm x.op.toNat).length\/(x.op=0/\(cm x.op.toNat).length<ty.length):=by
   rcases c1 with c1|⟨c1,c2⟩
   ·exact .inl c1
   ·exact .inr ⟨c1,by rw[hz c1];exact c2⟩
  rw[aE c2,aE (by rcases c1 with c|c;exact .inl c;exact .inr (.inl c))];exact⟨rfl,λh=>by simp at h⟩
 ·have c2:¬(ty.length<(cm x.op.toNat).length\/(x.op=0/\(cm x.op.toNat).length<ty.length)):=by
   intro c;apply c1;rcases c with c|⟨c,c'⟩
   ·exact .inl c
   ·rw[hz c]at c';exact .inr ⟨c,by simpa using c'⟩
  rw[ax c2];simp only[not_or]at c1;by_cases c3:cP x.op.toNat≠0/\256<ty.length - (cm x.op.toNat).length+1
  ·rw[aE (show 256<_ by rw[ax c3.1];omega),aE (.inr (.inr c3))];exact⟨rfl,λh=>by simp at h⟩
  ·rw[ax (show¬256<_ by
    by_cases g:cP x.op.toNat=0
    ·rw[aE g];omega
    ·rw[ax g];intro h;exact c3 ⟨g,G⟩)]
   rw[ax (show¬(_\/_\/_)by simp only[not_or];exact⟨c1.1,c1.2,c3⟩)];have c4:=c1.1;rcases v_ x.op.toNat with e|e|e|e|⟨e0,e⟩
   ·rw[e];have h:x.op≠19:=by intro h;rw[h]at e;exact absurd e bz
    simp[jp,h]
   ·rw[e]at c4 ⊢;have h:x.op≠19:=by intro h;rw[h]at e;exact absurd e bz
    cases ty with
    |nil=>simp at c4
    |cons a l=>by_cases ha:a=1<;>simp[jp,h,ha]
   ·rw[e]at c4 ⊢;have h:x.op≠19:=by intro h;rw[h]at e;exact absurd e bz
    cases ty with
    |nil=>simp at c4
    |cons a l=>by_cases ha:a=2<;>simp[jp,h,ha]
   ·rw[e]at c4 ⊢;have h:x.op≠19:=by intro h;rw[h]at e;exact absurd e bz
    cases ty with
    |nil=>simp at c4
    |cons a l=>
     cases l with
     |nil=>simp at c4
     |cons b l=>by_cases ha:a=1<;>by_cases X:b=1<;>simp[jp,h,ha,X]
   ·have h:x.op=19:=vS.1 e0;rw[e]at c4 ⊢;cases ty with
    |nil=>simp at c4
    |cons a l=>
     cases l with
     |nil=>simp at c4
     |cons b l=>by_cases X:a=b<;>simp[jp,h,X]
def jI(s:Std):mW:=⟨s.ty,fV s.lo,s.ha,true⟩
def m16(w:Nat×Std):Nat×mW:=(w.1,jI w.2)
def B7{p:aU}{T:Map}{q q':Nat}{a b:Std}(ha:dI p T q a.lo)(X:dI p T q' b.lo)(h:jI a=jI b):a=b:=by obtain⟨t1,l1,h1⟩:=a;obtain⟨t2,l2,h2⟩:=b;simp only[jI,mW.mk.injEq]at h;have e:=head_eq ha X h.2.1;simp only at e;rw[h.1,e,show h1=h2 by omega]
structure LA(T:Map)(at_:Nat->mW):Prop where
 Uc:∀n s,T n=some s->at_ n=jI s
 no:∀n,T n=none->(at_ n).lZ=false
def LA.aS{T:Map}{at_:Nat->mW}(h:LA T at_)(n:Nat)(s:Std):LA (Vm.aS T n (some s)) (Vm.aS at_ n (jI s)):=by
 refine⟨λm t hm=>?_,λm hm=>?_⟩
 ·rw[dw]at hm ⊢;split
  ·next e=>rw[aE e]at hm;rw[fT hm]
  ·next e=>rw[ax e]at hm;exact h.Uc m t hm
 ·rw[dw]at hm ⊢;split
  ·next e=>rw[aE e]at hm;simp at hm
  ·next e=>rw[ax e]at hm;exact h.no m hm
def MI{T:Map}{L:mw}(A:LA T L.at_){l:List (Nat×Std)}(hq:∀w,w∈l->∀s,T w.1=some s->jI s=jI w.2->s=w.2):vZ L (l.map m16)=nW T l:=by
 unfold vZ nW
 induction l with
 |nil=>rfl
 |cons w l ih=>
  simp only[List.map_cons,List.all_cons];rw[ih (λv hv=>hq v (by simp[hv]))];congr 1;show(!(L.at_ w.1).lZ||decide (L.at_ w.1=jI w.2))=_;cases hT:T w.1 with
  |none=>rw[A.no _ hT];rfl
  |some s=>
   rw[A.Uc _ _ hT];show(!true||decide (jI s=jI w.2))=decide (s=w.2);by_cases e:s=w.2
   ·rw[e];simp
   ·rw[decide_eq_false e,decide_eq_false (λh=>e (hq w az s hT h))];rfl
def yn{T:Map}{L:mw}(A:LA T L.at_){w:Nat×Std}{l:List (Nat×mW)}(hm:∀s,T w.1=some s->s=w.2):
 ∃IJ,fq L (m16 w::l)=fq {L with at_:=IJ} l/\LA (aS T w.1 (some w.2)) IJ:=by
 show∃IJ,(if(L.at_ w.1).lZ then(if L.at_ w.1=jI w.2 then fq L l else none)else fq {L with at_:=aS L.at_ w.1 (jI w.2)} l)=_/\_;cases hT:T w.1 with
 |none=>rw[A.no _ hT];exact⟨_,rfl,A.aS _ _⟩
 |some s=>
  have:=hm s hT;subst this;have e:=A.Uc _ _ hT;rw[e];refine⟨L.at_,by show(if true=true then(if jI w.2=jI w.2 then fq L l else none)else _)=_;rw[aE rfl,aE rfl],?_⟩;have e2:aS T w.1 (some w.2)=T:=by
   funext n;rw[dw];split
   ·next e'=>rw[e',hT]
   ·rfl
  rw[e2];exact A
def zt{T:Map}{l:List (Nat×Std)}(h:nW T l=true){w:Nat×Std}(hw:w∈l){s:Std}(hs:T w.1=some s):s=w.2:=by have:=(List.all_eq_true.1 h) w hw;rw[hs]at this;simpa using this
def PU{T:Map}{L:mw}(A:LA T L.at_){l:List (Nat×Std)}(h2:l=[]\/(∃a,l=[a])\/∃a b,l=[a,b])(hm:nW T l=true)(hq:∀v w,v∈l->w∈l->jI v.2=jI w.2->v.2=w.2):
 (lu l=true->∃IJ,fq L (l.map m16)=some {L with at_:=IJ}/\LA (rA T l) IJ)/\(lu l=false->fq L (l.map m16)=none):=by
 rcases h2 with rfl|⟨a,rfl⟩|⟨a,b,rfl⟩
 ·exact⟨λ_=>⟨L.at_,rfl,A⟩,λh=>by simp[lu]at h⟩
 ·obtain⟨IJ,e,A'⟩:=yn A (w:=a) (l:=[]) (λs hs=>zt hm az hs);exact⟨λ_=>⟨IJ,e,A'⟩,λh=>by simp[lu]at h⟩
 ·obtain⟨IJ,e,A'⟩:=yn A (w:=a) (l:=[m16 b]) (λs hs=>zt hm az hs);show(_->∃IJ,fq L [m16 a,m16 b]=_/\_)/\(_->fq L [m16 a,m16 b]=none);rw[e];have Ni:lu [a,b]=(decide (b.1=a.1)==false||decide (b.2=a.2)):=by simp[lu]
  rw[Ni];by_cases e1:b.1=a.1
  ·by_cases e2:b.2=a.2
   ·refine⟨λ_=>?_,λh=>by simp[e2]at h⟩;obtain⟨at2,e3,A2⟩:=yn (L:={L with at_:=IJ}) A' (w:=b) (l:=[]) (λs hs=>by rw[e1,aw]at hs;rw[e2];exact(fT hs).symm);exact⟨at2,e3,A2⟩
   ·refine⟨λh=>by simp[e1,e2]at h,λ_=>?_⟩;show(if(IJ b.1).lZ then(if IJ b.1=jI b.2 then _ else none)else _)=none;have:=A'.Uc a.1 a.2 (aw _ _ _);rw[e1,this];show(if true=true then(if jI a.2=jI b.2 then _ else none)else _)=none;rw[aE rfl,ax (λh=>e2 ((hq a b az az h).symm))]
  ·refine⟨λ_=>?_,λh=>by simp[e1]at h⟩;obtain⟨at2,e3,A2⟩:=yn (L:={L with at_:=IJ}) A' (w:=b) (l:=[]) (λs hs=>by rw[an _ _ e1]at hs;exact zt hm az hs);exact⟨at2,e3,A2⟩
def zu(pc:Nat)(x:Ins)(s:Std):cT pc x s=[]\/(∃a,cT pc x s=[a])\/∃a b,cT pc x s=[a,b]:=by
 unfold cT;split
 ·exact .inl rfl
 split
 ·exact .inr (.inl ⟨_,rfl⟩)
 split
 ·exact .inr (.inr ⟨_,_,rfl⟩)
 split
 ·exact .inr (.inr ⟨_,_,rfl⟩)
 split
 ·exact .inr (.inr ⟨_,_,rfl⟩)
 ·exact .inr (.inl ⟨_,rfl⟩)
def KE{p:aU}{n:Int}(h0:0<=n)(h1:n<p.code.length):iQ p n=true↔(ak p n.toNat).op=25:=by unfold iQ;simp[h0,h1]
def IK{p:aU}{T:Map}{L:mw}{pc:Nat}{x:Ins}{ty lo:List Nat}(K:MC p T L pc)(jE:dI p T pc lo)(hx:(x.op=22\/x.op=23\/x.op=25\/x.op=26)->0<=x.a/\x.a<p.code.length):
 eH p L pc x ty (fV lo)=cZ p T pc x ty lo:=by
 unfold eH cZ;by_cases c1:(x.op=22\/x.op=23\/x.op=25\/x.op=26)/\(x.a<=pc\/(ak p x.a.toNat).op=25)
 ·rw[aE c1,aE ⟨c1.1,by rcases c1.2 with h|h;exact .inl h;exact .inr ((KE (hx c1.1).1 (hx c1.1).2).2 h)⟩]
 ·rw[ax c1,ax (λc=>c1 ⟨c.1,by rcases c.2 with h|h;exact .inl h;exact .inr ((KE (hx c.1).1 (hx c.1).2).1 h)⟩)];by_cases tL:x.op=25
  ·rw[aE tL,ax G,aE tL];rw[jH];unfold gA;simp;constructor
   ·rintro⟨⟨a,b⟩,c,d⟩;exact⟨⟨⟨a,b⟩,λh=>d h.symm⟩,c⟩
   ·rintro⟨⟨⟨a,b⟩,c⟩,d⟩;exact⟨⟨a,b⟩,d,λh=>c h.symm⟩
  rw[ax tL];by_cases SQ:x.op=24
  ·rw[aE SQ,aE SQ];unfold iQ;rw[jH];simp;intro _;omega
  rw[ax SQ,ax SQ,ax tL];by_cases TF:x.op=26
  ·rw[aE TF,aE TF];cases lo with
   |nil=>simp[fV]
   |cons t l=>rw[jH,fh,fj,fj];exact⟨λh=>ti h.2,λh=>⟨by simp[fV],xj h⟩⟩
  rw[ax TF,ax TF];by_cases h27:x.op=27
  ·rw[aE h27,aE h27];cases lo with
   |nil=>simp[fV]
   |cons t l=>
    obtain⟨_,_,s',hs,hl⟩:=jE;dsimp only;rw[hs];have hy:(L.at_ (fV (t::l)).toNat).ty=s'.ty:=by rw[show(fV (t::l)).toNat=t from rfl,K.Uc t s' hs]
    rw[jH];simp only[fh,fj,hy];constructor
    ·rintro⟨⟨h1,h2⟩,h3⟩;exact⟨h2,h3.symm,hl⟩
    ·rintro⟨h2,h3,_⟩;exact⟨⟨by simp[fV],h2⟩,h3.symm⟩
  rw[ax h27,ax h27];split
  ·cases lo with
   |nil=>simp[fV]
   |cons t l=>show decide (((t:Nat):Int)<0)=false;rw[rQ];omega
  ·rfl
def MJ{p:aU}{T:Map}{L:mw}{pc:Nat}{x:Ins}{ty lo:List Nat}{ha:Nat}{h':Int}(K:MC p T L pc)(jE:dI p T pc lo)(hj:cZ p T pc x ty lo=true)(hh:h'=ha):
 eP (ij L pc x (fV lo)) pc x ⟨ty,fV lo,h',true⟩=(cT pc x ⟨ty,lo,ha⟩).map m16:=by
 subst hh;unfold eP cT;split
 ·rfl
 split
 ·rfl
 split
 ·rfl
 split
 ·rfl
 split
 ·next TF=>
  have tL:¬x.op=25:=G;unfold ij;rw[ax tL];unfold cZ at hj;rw[aE TF]at hj;cases lo with
  |nil=>exfalso;rw[ax (show¬x.op=24 by omega),ax (show¬x.op=25 by omega)]at hj;simp at hj
  |cons t l=>obtain⟨h1,h2,s',hs,hl⟩:=jE;have:=K.up t s' hs h1 h2;simp only[List.map_cons,List.map_nil,m16,jI,fV,List.tail];rw[show((t:Nat):Int).toNat=t from rfl,this,hl];rfl
 ·rfl
def Ud{p:aU}{pc:Nat}{x:Ins}{s:Std}(pN:pc<p.code.length)(hx:(x.op=22\/x.op=23\/x.op=25\/x.op=26)->0<=x.a/\x.a<p.code.length){w:Nat×Std}(hw:w∈cT pc x s):w.1<=p.code.length:=by
 unfold cT at hw;split at hw
 ·simp at hw
 split at hw
 ·next h=>simp at hw;subst hw;have:=hx G;dsimp only;omega
 split at hw
 ·next h=>simp at hw;have:=hx G;rcases hw with rfl|rfl<;>dsimp only<;>omega
 split at hw
 ·next h=>simp at hw;have:=hx G;rcases hw with rfl|rfl<;>dsimp only<;>omega
 split at hw
 ·next h=>simp at hw;have:=hx G;rcases hw with rfl|rfl<;>dsimp only<;>omega
 ·simp at hw;subst hw;dsimp only;omega
def IM{p:aU}{T:Map}{pc:Nat}{x:Ins}{s:Std}{ty lo:List Nat}(hj:cZ p T pc x ty lo=true){w:Nat×Std}(hw:w∈cT pc x s):pc<w.1:=by
 have key:(x.op=22\/x.op=23\/x.op=25\/x.op=26)->(pc:Int)<x.a:=by
  intro h;unfold cZ at hj;by_cases c:x.a<=pc
  ·rw[aE ⟨h,.inl c⟩]at hj;simp at hj
  ·omega
 unfold cT at hw;split at hw
 ·simp at hw
 split at hw
 ·next h=>simp at hw;subst hw;have:=key G;dsimp only;omega
 split at hw
 ·next h=>simp at hw;have:=key G;rcases hw with rfl|rfl<;>dsimp only<;>omega
 split at hw
 ·next h=>simp at hw;have:=key G;rcases hw with rfl|rfl<;>dsimp only<;>omega
 split at hw
 ·next h=>simp at hw;have:=key G;rcases hw with rfl|rfl<;>dsimp only<;>omega
 ·simp at hw;subst hw;dsimp only;omega
def B_{x:Ins}{ty:List Nat}(h:bZ x ty=0)(hl:ty.length<=256):(bg x ty).length<=256:=by
 unfold bZ at h;dsimp only at h;split at h
 ·simp at h
 ·next h1=>
  unfold bg;dsimp only;split
  ·rw[List.length_drop];omega
  ·next hg=>
   rw[List.length_cons,List.length_drop];rcases Nat.lt_or_ge 256 (ty.length - (cm x.op.toNat).length+1)with h2|h2
   ·exact absurd (.inr (.inr ⟨hg,h2⟩)) h1
   ·omega
def Ue(L:mw)(pc:Nat)(x:Ins)(n:Int):(ij L pc x n).at_=L.at_:=by unfold ij;split<;>rfl
def IN{p:aU}{T:Map}{L:mw}{pc:Nat}(K:MC p T L pc)(pN:pc<p.code.length)(h0:0<=(ak p pc).op)(h41:(ak p pc).op<=41)
 (hx:((ak p pc).op=22\/(ak p pc).op=23\/(ak p pc).op=25\/(ak p pc).op=26)->0<=(ak p pc).a/\(ak p pc).a<p.code.length):
 (cF p L pc).1=dt p T pc/\(dt p T pc=0->MC p (jQ p T pc) (cF p L pc).2 (pc+1)):=by
 have hA:LA T L.at_:=⟨K.Uc,K.no⟩;cases hT:T pc with
 |none=>unfold cF dt;rw[hT];dsimp only;rw[aE (K.no pc hT)];exact⟨rfl,λh=>by simp at h⟩
 |some s=>
  have hs:=K.Uc pc s hT;have jE:=K.loops pc s hT;have hlen:=K.len pc s hT;have hL:jQ p T pc=rA T (gF p pc s):=by unfold jQ;rw[hT];rfl
  unfold cF dt;rw[hT,hs];dsimp only;obtain⟨a1,a2⟩:=MG p (ak p pc) s.ha h0 h41;obtain⟨b1,b2⟩:=MH (ak p pc) s.ty h0 hlen;unfold gF at hL;rw[ax (show¬(true=false)by simp),a1,b1];cases c1:eL p (ak p pc) s.ha with
  |false=>exact⟨rfl,λh=>by simp at h⟩
  |true=>
  rw[ax (show¬(true=false)by simp),ax (show¬((!true)=true)by simp)];by_cases c2:bZ (ak p pc) s.ty≠0
  ·rw[aE c2,aE c2];exact⟨rfl,λh=>absurd h c2⟩
  have c2:bZ (ak p pc) s.ty=0:=G;have c2':¬(bZ (ak p pc) s.ty≠0):=G;rw[ax c2',ax c2',b2 c2];cases c3:cK p (ak p pc)with
  |false=>exact⟨rfl,λh=>by simp at h⟩
  |true=>
  rw[ax (show¬(true=false)by simp),ax (show¬((!true)=true)by simp),IK K jE hx];cases c4:cZ p T pc (ak p pc) (bg (ak p pc) s.ty) s.lo with
  |false=>exact⟨rfl,λh=>by simp at h⟩
  |true=>
  rw[ax (show¬(true=false)by simp),ax (show¬((!true)=true)by simp),a2 c1,MJ K jE c4 rfl];have Nh:((cT pc (ak p pc) ⟨bg (ak p pc) s.ty,s.lo,br p (ak p pc) s.ha⟩).map m16).any (λw=>decide (w.1=p.code.length))=(cT pc (ak p pc) ⟨bg (ak p pc) s.ty,s.lo,br p (ak p pc) s.ha⟩).any (λw=>decide (p.code.length<=w.1)):=by
   rw[List.any_map,jH,List.any_eq_true,List.any_eq_true];constructor
   ·rintro⟨w,h1,h2⟩;have h2:decide (w.1=p.code.length)=true:=h2;rw[fj]at h2;exact⟨w,h1,ti G⟩
   ·rintro⟨w,h1,h2⟩;have:=Ud pN hx h1;rw[fj]at h2;exact⟨w,h1,ti (show w.1=p.code.length by omega)⟩
  rw[Nh];have ZX:∀w,w∈cT pc (ak p pc) ⟨bg (ak p pc) s.ty,s.lo,br p (ak p pc) s.ha⟩->dI p T w.1 w.2.lo:=λw hw=>vP hT K.loops c4 hw;have hA1:LA T (ij L pc (ak p pc) (fV s.lo)).at_:=by rw[Ue];exact hA
  rw[MI hA1 (λw hw s' EN e=>B7 (K.loops _ _ EN) (ZX w hw) e)];have Jd:=PU (L:=ij L pc (ak p pc) (fV s.lo)) hA1 (zu pc (ak p pc) ⟨bg (ak p pc) s.ty,s.lo,br p (ak p pc) s.ha⟩);have ZZ:=λw (hw:w∈cT pc (ak p pc) ⟨bg (ak p pc) s.ty,s.lo,br p (ak p pc) s.ha⟩)=>IM c4 hw;have XI:=λhm=>Jd hm (λv w hv hw e=>B7 (ZX v hv) (ZX w hw) e);generalize hW:cT pc (ak p pc) ⟨bg (ak p pc) s.ty,s.lo,br p (ak p pc) s.ha⟩=l at*;split
  ·exact⟨rfl,λh=>by simp at h⟩
  ·next c5=>
   cases c6:nW T l with
   |false=>rw[aE rfl,aE az];exact⟨rfl,λh=>by simp at h⟩
   |true=>
    rw[ax az];cases c7:lu l with
    |false=>rw[(XI c6).2 c7,aE az];exact⟨rfl,λh=>by simp at h⟩
    |true=>
     obtain⟨IJ,e,A'⟩:=(XI c6).1 c7;rw[e,ax az];refine⟨rfl,λ_=>?_⟩;obtain⟨d1,d2,d3⟩:=CJ l T c7 c6;rw[hL];refine⟨A'.Uc,A'.no,λn s' hn be tL=>?_,λq s' hq=>?_,λq s' hq=>?_,λq s' hq=>?_⟩
     ·show(ij L pc (ak p pc) (fV s.lo)).up n=_;have hTn:T n=some s':=by
       rcases d3 n s' hn with h|h
       ·exact h
       ·have:=ZZ _ h;dsimp only at this;omega
      unfold ij;by_cases e':n=pc
      ·subst e';rw[aE tL];show aS L.up n _ n=_;rw[aw];rw[hT]at hTn;rw[fT hTn]
      ·split
       ·show aS L.up pc _ n=_;rw[an _ _ e'];exact K.up n s' hTn G tL
       ·exact K.up n s' hTn G tL
     ·rcases d3 q s' hq with h|h
      ·exact(K.loops q s' h).sub d1
      ·exact(ZX _ h).sub d1
     ·rcases d3 q s' hq with h|h
      ·exact K.len q s' h
      ·have:s'.ty=bg (ak p pc) s.ty:=by
        rw[<-hW]at h;unfold cT at h;split at h
        ·simp at h
        split at h
        ·simp at h;rw[h.2]
        split at h
        ·simp at h;rcases h with h|h<;>rw[h.2]
        split at h
        ·simp at h;rcases h with h|h<;>rw[h.2]
        split at h
        ·simp at h;rcases h with h|h<;>rw[h.2]
        ·simp at h;rw[h.2]
       rw[this];exact B_ c2 hlen
     ·rcases d3 q s' hq with h|h
      ·exact K.lt q s' h
      ·simp only[Bool.not_eq_true,List.any_eq_false]at c5;have:=c5 _ h;simpa using this
def tU{p:aU}(pw:∀i,i∈p.code->jX i=true/\iU p i=true):∀(k pc:Nat) (T:Map) (L:mw),MC p T L pc->pc+k<=p.code.length->
 (∀e,looks p k pc T= .inl e->fQ p k pc L= .inl e)/\(∀T',looks p k pc T= .inr T'->∃L',fQ p k pc L= .inr L'):=by
 intro k
 induction k with
 |zero=>intro pc T L K hk;exact⟨λe h=>by simp[looks]at h,λT' h=>⟨L,rfl⟩⟩
 |succ k ih=>
  intro pc T L K hk;have pN:pc<p.code.length:=G;obtain⟨ho,hi⟩:=pw _ (eM pN);have ho:0<=(ak p pc).op/\(ak p pc).op<=41:=by unfold jX aP at ho;simpa using ho
  have hx:((ak p pc).op=22\/(ak p pc).op=23\/(ak p pc).op=25\/(ak p pc).op=26)->0<=(ak p pc).a/\(ak p pc).a<p.code.length:=by
   rintro(h|h|h|h)
   ·have:=lG (gU hi (k:=22) G).1;omega
   ·have:=lG (gU hi (k:=23) G).1;omega
   ·have:=lG (gU hi (k:=25) G).1;omega
   ·have:=lG (gU hi (k:=26) G).1;omega
  obtain⟨e,K'⟩:=IN K pN ho.1 ho.2 hx;unfold looks fQ;rw[e];by_cases h:dt p T pc=0
  ·rw[aE h,aE h];exact ih (pc+1) _ _ (K' h) G
  ·rw[ax h,ax h];exact⟨λe' he=>by rw[Sum.inl.inj he],λT' h'=>by simp at h'⟩
def qF{p:aU}(tb:uG p):MC p (dH p) (iC p) 0:=by
 refine⟨λn s h=>?_,λn h=>?_,λn s _ h=>G,vQ p,λq s h=>?_,λq s h=>?_⟩
 ·unfold dH at h;show(if gA p n then _ else s0)=_;unfold gA;split at h
  ·next h'=>rw[aE h',<-fT h];rfl
  ·simp at h
 ·unfold dH at h;show(if gA p n then _ else s0).lZ=_;unfold gA;split at h
  ·simp at h
  ·next h'=>rw[ax h'];rfl
 ·unfold dH at h;split at h
  ·rw[<-fT h];decide
  ·simp at h
 ·unfold dH at h;split at h
  ·next h'=>
   simp at h';have h1:=tb.aV;rcases h' with h'|h'
   ·have:=tb.ons _ h';omega
   ·omega
  ·simp at h
def zw(p:aU):Int×Int:=
 if bE p≠0 then(bE p,0)
 else match fQ p p.code.length 0 (iC p)with
  | .inl (e,at_)=>(e,at_)
  | .inr _=>match bH p (p.on++[p.aV])with
    |some n=>(97,n)
    |none=>(0,0)
def xp(p:aU):zw p=a8 p:=by
 unfold zw a8;by_cases h:bE p=0
 ·rw[ax (by simp[h]),ax (by simp[h])];obtain⟨tb,pw⟩:=cO h;obtain⟨h1,h2⟩:=tU pw p.code.length 0 _ _ (qF tb) G;cases hl:looks p p.code.length 0 (dH p)with
  |inl e=>rw[h1 e hl]
  |inr T=>obtain⟨L',e⟩:=h2 T hl;rw[e];dsimp only;cases bH p (p.on++[p.aV])<;>rfl
 ·rw[aE h,aE h]
def ir(ty:List Nat):ByteArray:=⟨(ty.reverse.map UInt8.ofNat).toArray⟩
def pU(ty:List Nat):(ir ty).size=ty.length:=by simp[ir,ByteArray.size]
def PV(g:Nat)(ty:List Nat):ir ty++⟨#[UInt8.ofNat g]⟩=ir (g::ty):=by apply ByteArray.ext;simp[ir,ByteArray.data_append]
def Fm(ty:List Nat)(i:Nat):(ir ty)[i]? =(ty.reverse[i]?).map UInt8.ofNat:=by
 show(ir ty)[i]? =_;by_cases h:i<ty.length
 ·have h1:i<(ir ty).size:=by rw[pU];exact h
  rw[getElem?_pos (ir ty) i h1];rw[ft (by simpa using h)];simp only[Option.map_some];congr 1;show(ir ty).data[i]=_;simp[ir]
 ·rw[getElem?_neg (ir ty) i (by rw[pU];omega),List.getElem?_eq_none kZ];rfl
def IP{ty:List Nat}{j:Nat}(h:j<ty.length):ty.reverse[ty.length-1-j]? =some (ty.getD j 0):=by rw[List.getElem?_reverse G];rw[show ty.length-1 - (ty.length-1-j)=j by omega,dQ,ft h];rfl
def PW(ty:List Nat)(k:Nat):(ir ty).extract 0 (ty.length-k)=ir (ty.drop k):=by apply ByteArray.ext;simp only[ir,ByteArray.data_extract,List.extract_toArray,List.extract_eq_take_drop,List.drop_zero,Nat.sub_zero];congr 1;rw[List.reverse_drop,List.map_take]
def fy(ty:List Nat):Prop:=∀t,t∈ty->t=1\/t=2
def fy.take{ty:List Nat}(h:fy ty)(k:Nat):fy (ty.take k):=λt ht=>h t (List.mem_of_mem_take ht)
def fy.drop{ty:List Nat}(h:fy ty)(k:Nat):fy (ty.drop k):=λt ht=>h t (List.mem_of_mem_drop ht)
def fy.at{ty:List Nat}(h:fy ty){j:Nat}(hj:j<ty.length):ty.getD j 0=1\/ty.getD j 0=2:=by rw[dQ,ft hj];exact h _ (il hj)
def Uf{a b:List Nat}(ha:fy a)(X:fy b)(h:ir a=ir b):a=b:=by
 have hl:a.length=b.length:=by rw[<-pU a,h,pU]
 refine List.ext_getElem hl λj h1 h2=>?_;have e:=congrArg (λs:ByteArray=>s[a.length-1-j]?) h;simp only[Fm]at e;rw[IP h1]at e;rw[hl,IP h2]at e;simp only[Option.map_some,iI]at e;have x:=ha.at h1;have y:=X.at h2;have ea:a.getD j 0=a[j]:=by rw[dQ,ft h1];rfl
 have eb:b.getD j 0=b[j]:=by rw[dQ,ft h2];rfl
 rw[<-ea,<-eb];rcases x with x|x<;>rcases y with y|y<;>rw[x,y]at e ⊢
 ·exact absurd e bz
 ·exact absurd e bz
def bO(lo:List Nat)(i:Nat):Nat:=lo.reverse.getD i 0
def Ug{lo:List Nat}{i:Nat}(h:lo.length<=i):bO lo i=0:=by unfold bO;rw[dQ,List.getElem?_eq_none (by simpa using h)];rfl
def zx(t:Nat)(lo:List Nat)(i:Nat):bO (t::lo) i=if i=lo.length then t else bO lo i:=by
 unfold bO;rw[List.reverse_cons,dQ,dQ];by_cases h:i<lo.length
 ·rw[List.getElem?_append_left (by simpa using h),ax G]
 ·rw[List.getElem?_append_right (by simpa using h)];by_cases h2:i=lo.length
  ·rw[aE h2];simp[h2]
  ·rw[ax h2,List.getElem?_eq_none kZ,List.getElem?_eq_none kZ]
def PX(t:Nat)(lo:List Nat):bO (t::lo) lo.length=t:=by rw[zx,aE rfl]
def PZ(lo:List Nat)(i:Nat):bO lo.tail i=if i+1=lo.length then 0 else bO lo i:=by
 cases lo with
 |nil=>simp[bO]
 |cons t lo=>
  rw[List.tail_cons,zx];by_cases h:i=lo.length
  ·rw[aE (by simpa using h),Ug G]
  ·rw[ax (by simpa using h),ax h]
def Uh{a b:List Nat}(hl:a.length=b.length)(h:∀i,i<a.length->bO a i=bO b i):a=b:=by refine List.reverse_inj.1 ?_;refine List.ext_getElem (by simpa using hl) λi h1 h2=>?_;have e:=h i (by simpa using h1);unfold bO at e;rw[dQ,dQ,ft h1,ft h2]at e;exact e
def Cf{l:List Nat}{n:Nat}(h:n∈l):∃y,dir 0 l=y++n::cE l n:=by
 obtain⟨y,e,_⟩:=oN h;refine⟨y.reverse,?_⟩;unfold dir;rw[ax bz]
 conv=>lhs;rw[e]
 simp
def KQ(l:List Nat):hd l=if 0<l.length then((l.getD 0 0:Nat):Int)else -1:=by
 cases l<;>simp[hd]
def FI{l:List Nat}{n:Nat}(sQ:l.Nodup)(h:n∈l):nw (dir 0 l) n=if 0<(cE l n).length then(((cE l n).getD 0 0:Nat):Int)else -1:=by obtain⟨y,e⟩:=Cf h;have hn:=(nK (e:=0)).2 sQ;rw[e]at hn ⊢;rw[lR (λhy=>(List.nodup_append.1 hn).2.2 n hy n az rfl),KQ]
def I0{l:List Nat}{n k:Nat}(sQ:l.Nodup)(h:n∈l)(hk:k<(cE l n).length):
 nw (dir 0 l) ((cE l n).getD k 0)=if k+1<(cE l n).length then(((cE l n).getD (k+1) 0:Nat):Int)else -1:=by
 obtain⟨y,e⟩:=Cf h;have hn:=(nK (e:=0)).2 sQ;rw[e]at hn ⊢;generalize cE l n=A at*;have e2:y++n::A=(y++n::A.take k)++A.getD k 0::A.drop (k+1):=by
  have h1:A=A.take k++A.getD k 0::A.drop (k+1):=by have h3:=(List.take_append_drop k A).symm;rw[uY hk]at h3;rw[dQ,ft hk];exact h3
  conv=>lhs;rw[h1]
  simp
 rw[e2]at hn ⊢;rw[lR (λhy=>(List.nodup_append.1 hn).2.2 _ hy _ az rfl),KQ,List.length_drop];by_cases h2:k+1<A.length
 ·rw[aE h2,aE G];congr 1;simp[List.getD]
 ·rw[ax h2,ax G]
def MY{l:List Nat}{n k:Nat}(h:n∈l)(hk:k<(cE l n).length):(cE l n).getD k 0∈l:=by
 obtain⟨y,e,_⟩:=oN h;have:(cE l n).getD k 0∈cE l n:=by rw[dQ,ft hk];exact il hk
 generalize(cE l n).getD k 0=m at*;rw[e];simp[this]
def MZ(l:List Nat)(n:Nat):(cE l n).length<=l.length:=by unfold cE;rw[List.length_reverse];exact(List.takeWhile_sublist _).length_le
structure TOk(p:aU)(T:Map):Prop where
 loops:∀q s,T q=some s->dI p T q s.lo
 ty:∀q s,T q=some s->fy s.ty
 len:∀q s,T q=some s->s.ty.length<=256
 ha:∀q s,T q=some s->s.ha<=3
 lt:∀q s,T q=some s->q<p.code.length
def ad6:∀n,n<42->cP n<=2:=by decide
def GA{x:Ins}{ty:List Nat}(h:x.op.toNat<42)(ht:fy ty):fy (bg x ty):=by
 have hg:=ad6 _ h;unfold bg;dsimp only;split
 ·exact ht.drop _
 ·next h0=>
  intro t hm;rcases List.mem_cons.1 hm with rfl|hm
  ·omega
  ·exact ht.drop _ t hm
def ad5{p:aU}{x:Ins}{ha:Nat}(h:ha<=3):br p x ha<=3:=by
 unfold br;split
 ·omega
 split
 ·omega
 split
 ·split<;>omega
 ·exact h
def Wn{p:Prop}(h:p:=by
 simp at h;rcases h with rfl|rfl<;>exact⟨rfl,rfl⟩):p:=h
def DU{pc:Nat}{x:Ins}{s:Std}{w:Nat×Std}(h:w∈cT pc x s):w.2.ty=s.ty/\w.2.ha=s.ha:=by
 unfold cT at h;split at h
 ·simp at h
 split at h
 ·simp at h;subst h;exact⟨rfl,rfl⟩
 split at h
 ·exact Wn
 split at h
 ·exact Wn
 split at h
 ·exact Wn
 ·simp at h;subst h;exact⟨rfl,rfl⟩
def ad4{p:aU}{T:Map}{pc:Nat}(K:TOk p T)(h41:(ak p pc).op<=41)(h:dt p T pc=0):TOk p (jQ p T pc):=by
 obtain⟨s,hT,g1,g2,g3,g4,g5,g6,g7,g8⟩:=look_ok h;obtain⟨a1,a2,a3⟩:=CJ _ T g6 g7;rw[g8];have ht:=GA (x:=ak p pc) G (K.ty pc s hT);have hl:=B_ g2 (K.len pc s hT);have hh:=ad5 (p:=p) (x:=ak p pc) (K.ha pc s hT);refine⟨λq s' hq=>?_,λq s' hq=>?_,λq s' hq=>?_,λq s' hq=>?_,λq s' hq=>?_⟩
 ·rcases a3 q s' hq with h1|h1
  ·exact(K.loops q s' h1).sub a1
  ·exact(vP hT K.loops g4 h1).sub a1
 ·rcases a3 q s' hq with h1|h1
  ·exact K.ty q s' h1
  ·rw[(DU h1).1];exact ht
 ·rcases a3 q s' hq with h1|h1
  ·exact K.len q s' h1
  ·rw[(DU h1).1];exact hl
 ·rcases a3 q s' hq with h1|h1
  ·exact K.ha q s' h1
  ·rw[(DU h1).2];exact hh
 ·rcases a3 q s' hq with h1|h1
  ·exact K.lt q s' h1
  ·exact g5 _ h1
def ad3{p:aU}(tb:uG p):TOk p (dH p):=by
 have L:=qF tb;refine⟨L.loops,λq s h=>?_,L.len,λq s h=>?_,L.lt⟩
 ·unfold dH at h;split at h
  ·rw[<-fT h];intro t ht;simp at ht
  ·simp at h
 ·unfold dH at h;split at h
  ·rw[<-fT h];exact Nat.zero_le _
  ·simp at h
def DZ(p:aU):Prop:=∀j,j<p.code.length->0<=(ak p j).op/\((ak p j).op=22\/(ak p j).op=23->0<=(ak p j).a/\(ak p j).a<p.code.length)/\
 ((ak p j).op=24->0<=(ak p j).a/\(ak p j).a<=4194304/\j+2<p.code.length/\0<=(ak p (j+1)).a/\(ak p (j+1)).a<p.code.length)/\((ak p j).op≠0->(ak p j).op≠27->(ak p j).op≠22->j+1<p.code.length)
def Cu{p:aU}{T:Map}(hc:bE p=0)(hl:looks p p.code.length 0 (dH p)= .inr T):DZ p:=by
 obtain⟨tb,pw⟩:=cO hc;obtain⟨-,-,gJ⟩:=EM _ _ _ _ hl (vQ p);have dO:∀j,j<p.code.length->0<=(ak p j).op/\(ak p j).op<=41:=λj hj=>by have:=(pw _ (eM hj)).1;unfold jX aP at this;simpa using this
 have nx:∀j,j<p.code.length->(ak p j).op≠0->(ak p j).op≠27->(ak p j).op≠22->j+1<p.code.length:=λj hj h0 h27 h22=>by
  obtain⟨s,R⟩:=gJ j (Nat.zero_le _) G;have hw:=R.ways;unfold gF cT at hw;rw[ax (by simp only[not_or];exact⟨h0,h27⟩),ax h22]at hw;split at hw
  ·exact(hw _ (List.mem_cons_self ..)).1
  split at hw
  ·exact(hw _ (List.mem_cons_self ..)).1
  split at hw
  ·exact(hw _ (List.mem_cons_self ..)).1
  ·exact(hw _ (List.mem_cons_self ..)).1
 intro j hj;have hi:=(pw _ (eM hj)).2;refine⟨(dO j hj).1,?_,?_,nx j hj⟩
 ·rintro(h|h)
  ·exact lG (gU hi (k:=22) (by rw[h];rfl)).1
  ·exact lG (gU hi (k:=23) (by rw[h];rfl)).1
 ·intro h;have h7:bF p 7 (ak p j).a=true:=(gU hi (k:=24) (by rw[h];rfl)).1;unfold bF aP kw kz at h7;simp at h7;obtain⟨s,R⟩:=gJ j (Nat.zero_le _) G;have YC:=R.jumps;unfold cZ at YC;simp[h]at YC;have xS:=(pw _ (eM YC.1)).2;have ha:=lG (gU xS (k:=25) (by rw[YC.2];rfl)).1;exact⟨h7.1,h7.2,nx (j+1) YC.1 (by rw[YC.2];decide) (by rw[YC.2];decide) (by rw[YC.2];decide),ha.1,ha.2⟩
def iM:aU:=⟨[false],[],[],[0],2,[⟨32,0,0,0,0⟩,⟨0,0,0,0,0⟩,⟨4,0,0,0,0⟩,⟨5,0,0,0,0⟩,⟨19,0,0,0,0⟩,⟨23,7,0,0,0⟩,⟨40,0,1,0,0⟩,⟨31,0,0,0,0⟩,⟨0,0,0,0,0⟩]⟩
def kN:Cp:=⟨2,[2]⟩
def Bp(p:aU):St:=⟨⟨λ_=>[],λ_=>eB,λi=>i⟩,λ_=>none,λi=>(p.vars.getD i ⟨0,0,0⟩).init,0⟩
def Cx:a8 iM=(0,0):=by decide
def sg:oV iM:=by unfold oV;decide
def k1:St:=fD iM kN (Bp iM) 7
def k2:St:=fD iM kN k1 8
def k3:St:=fD iM kN k2 7
def k4:St:=fD iM kN k3 9
def wH:qY iM kN k2 7=true/\(nM iM kN k2 7).1=2/\eQ iM kN k2 7=0:=by decide
def oy:qY iM kN k3 9=false/\(nM iM kN k3 9).1=7/\eQ iM kN k3 9=0/\gu iM kN k3 9=[8]:=by decide
def adG:k4.a.ls 0=[1,0]/\k4.f 7=some 0/\k4.f 9=some 1:=by decide
def Lx{p:aU}(c:Cp)(tb:uG p):Inv (aB p c) (Bp p):=by
 have h0:∀nq,cR nq (λq=>if(aB p c).gh q then 0 else((Bp p).a.ls q).length)=0:=λnq=>by
  induction nq with
  |zero=>rfl
  |succ k ih=>unfold cR;rw[ih];dsimp only;split<;>rfl
 refine⟨⟨λ_ _=>List.nodup_nil,λ_ _ _ _ _ h=>(by cases h),λ_ _ _ h=>(by cases h),λ_ _ h=>h,λ_=>rfl⟩,λk n=>⟨λh=>(by cases h),?_⟩,λ_ _=>Nat.zero_le _,?_,?_,λ_ _ _ h=>(by cases h),λ_ _ _ h=>(by cases h),λi=>?_⟩
 ·rintro⟨q,-,h,-⟩;cases h
 ·show(0:Int)=((gD _ _:Nat):Int);unfold gD;rw[h0];rfl
 ·unfold gD;rw[h0];exact Nat.zero_le _
 ·show -1073741824<=(p.vars.getD i ⟨0,0,0⟩).init/\(p.vars.getD i ⟨0,0,0⟩).init<=1073741824;by_cases hi:i<p.vars.length
  ·rw[dQ,ft hi];have:=tb.vars _ (il hi);simp only[Option.getD_some];omega
  ·rw[dQ,List.getElem?_eq_none G];decide
def yz:∃T,Env iM kN T:=by
 obtain⟨hc,T,hT,-⟩:=uF Cx rfl;exact⟨T,hT,hc,bz,bz,bz,λq hq=>by
  have:q=0:=by have:iM.ap.length=1:=rfl;omega
  subst this;decide⟩
def adF:uG iM:=(cO (p:=iM) bz).1
def aaD:Inv (aB iM kN) k1:=by obtain⟨T,E⟩:=yz;exact rG E sg (Lx _ adF) bz
def aaE:Inv (aB iM kN) k2:=by obtain⟨T,E⟩:=yz;exact rG E sg aaD bz
def aaF:Inv (aB iM kN) k3:=by obtain⟨T,E⟩:=yz;exact rG E sg aaE bz
def aaG:Inv (aB iM kN) k4:=by obtain⟨T,E⟩:=yz;exact rG E sg aaF bz
def adE(k n:Nat):k4.f k=some n↔(k=7/\n=0)\/(k=9/\n=1):=by
 obtain⟨h1,h2,h3⟩:=adG;constructor
 ·intro h;obtain⟨q,hq,hn,hk⟩:=(aaG.idx k n).1 h;have:q=0:=by have:(aB iM kN).nq=1:=rfl;omega
  subst this;rw[h1]at hn;simp at hn;rcases hn with rfl|rfl
  ·right;exact⟨hk.symm.trans bz,rfl⟩
  ·left;exact⟨hk.symm.trans bz,rfl⟩
 ·rintro(⟨rfl,rfl⟩|⟨rfl,rfl⟩)
  ·exact h2
  ·exact h3
def noP:aU:=⟨[],[],[],[],0,[⟨1,0,0,0,0⟩]⟩
def adD:a8 noP=(98,0):=by decide
section
variable {s0:St}{k0:Nat}{x y:SR}{S:Sys}
variable {p:aU}{c:Cp}{T:Map}{s z:St}{r:Rn}{st:Std}
def fP(S:Sys)(s:St)(k:Nat):Prop:=∃q n,q<S.nq/\S.gh q=false/\n∈s.a.ls q/\(s.a.val n).key=k
variable {k:Nat}
def ac3(h:Inv S s){q e:Nat}(hq:q<S.nq){v:eW}:fP S (jW S s q e v) k↔fP S s k\/(k=v.key/\S.gh q=false):=by
 have ia:∀n,(jW S s q e v).a.val n=if n=s.a.fs 0 then v else s.a.val n:=λn=>rfl;have bt:∀p n,p<S.nq->n∈s.a.ls p->n≠s.a.fs 0:=λp n hp hn e'=>h.wf.AL p 0 hp (e'▸hn);constructor
 ·rintro⟨p,n,hp,hg,hm,hk⟩;rcases ja.1 hm with⟨rfl,rfl⟩|hm
  ·rw[ia,aE rfl]at hk;exact .inr ⟨hk.symm,hg⟩
  ·rw[ia,ax (bt p n hp hm)]at hk;exact .inl ⟨p,n,hp,hg,hm,hk⟩
 ·rintro(⟨p,n,hp,hg,hm,hk⟩|⟨rfl,hg⟩)
  ·exact⟨p,n,hp,hg,ja.2 (.inr hm),by rw[ia,ax (bt p n hp hm)];exact hk⟩
  ·exact⟨q,_,hq,hg,ja.2 (.inl ⟨rfl,rfl⟩),by rw[ia,aE rfl]⟩
def si(h:Inv S s){q n:Nat}(hq:q<S.nq)(hn:n∈s.a.ls q):fP S (fH S s q n) k↔fP S s k/\k≠(s.a.val n).key:=by
 have ia:∀m,m≠n->(fH S s q n).a.val m=s.a.val m:=λm hm=>an _ _ hm;constructor
 ·rintro⟨p,m,hp,hg,hm,hk⟩;obtain⟨h1,h2⟩:=(uB h.wf hq hp hn).1 hm;rw[ia m h2]at hk;exact⟨⟨p,m,hp,hg,h1,hk⟩,λe=>h2 (h.one hp hq h1 hn (hk.trans e))⟩
 ·rintro⟨⟨p,m,hp,hg,hm,hk⟩,bt⟩;have h2:m≠n:=λe=>bt (by rw[<-hk,e]);exact⟨p,m,hp,hg,(uB h.wf hq hp hn).2 ⟨hm,h2⟩,by rw[ia m h2];exact hk⟩
def acZ{n:Nat}{v:eW}(hv:v.key=(s.a.val n).key):fP S (k_ s n v) k↔fP S s k:=by
 have pK:∀m,((k_ s n v).a.val m).key=(s.a.val m).key:=λm=>by
  show(if m=n then v else s.a.val m).key=_;split
  ·next e=>rw[e,hv]
  ·rfl
 constructor
 ·rintro⟨p,m,hp,hg,hm,hk⟩;exact⟨p,m,hp,hg,hm,(pK m).symm.trans hk⟩
 ·rintro⟨p,m,hp,hg,hm,hk⟩;exact⟨p,m,hp,hg,hm,(pK m).trans hk⟩
def R6(h:Inv S s){q n:Nat}(hq:q<S.nq)(hn:n∈s.a.ls q):fP S s (s.a.val n).key↔S.gh q=false:=by
 constructor
 ·rintro⟨p,m,hp,hg,hm,hk⟩;have e:=h.one hp hq hm hn hk;subst e;rwa[h.wf.Xk p q m hp hq hm hn]at hg
 ·exact λhg=>⟨q,n,hq,hg,hn,rfl⟩
def GQ(h:Inv S s)(hf:s.f k=none):¬fP S s k:=by rintro⟨q,n,hq,-,hn,hk⟩;have:=(h.idx k n).2 ⟨q,hq,hn,hk⟩;rw[hf]at this;cases this
end
def pH(S:Sys)(ha:Nat)(x:SR)(k:Nat):Prop:=fP S x.1 k\/(ha=2/\∃v,x.2.hand=some v/\v.key=k)
structure Mv(S:Sys)(s0:St)(k0 ha:Nat)(x:SR):Prop where
 key:x.2.key=k0
 a:∀k,k≠k0->fP S s0 k->(pH S ha x k↔k∉x.2.told)
 b:∀k,k≠k0->¬fP S s0 k->¬pH S ha x k
 c:fP S s0 k0->pH S ha x k0\/k0∈x.2.told
 d:x.2.done=true->ha=0
section
variable {S:Sys}{s0:St}{k0 ha X:Nat}{x y:SR}
def pH.none(h:x.2.hand=none)(k:Nat):pH S ha x k↔fP S x.1 k:=by
 constructor
 ·rintro(h1|⟨-,v,h1,-⟩)
  ·exact h1
  ·rw[h]at h1;cases h1
 ·exact .inl
def pH.some{v:eW}(h:x.2.hand=some v)(k:Nat):pH S ha x k↔fP S x.1 k\/(ha=2/\k=v.key):=by
 constructor
 ·rintro(h1|⟨h2,u,h1,h3⟩)
  ·exact .inl h1
  ·rw[h]at h1;cases h1;exact .inr ⟨h2,h3.symm⟩
 ·rintro(h1|⟨h2,h3⟩)
  ·exact .inl h1
  ·exact .inr ⟨h2,v,h,h3.symm⟩
def Mv.of(h:Mv S s0 k0 ha x)(e1:∀k,k≠k0->(pH S X y k↔pH S ha x k))(e2:pH S ha x k0->pH S X y k0)(e3:y.2.told=x.2.told)(e4:y.2.key=x.2.key)(e5:y.2.done=true->X=0):Mv S s0 k0 X y:=
 ⟨e4.trans h.key,λk hk hr=>by rw[e1 k hk,e3];exact h.a k hk hr,λk hk hr=>by rw[e1 k hk];exact h.b k hk hr,λhr=>by
   rw[e3];rcases h.c hr with h1|h1
   ·exact .inl (e2 h1)
   ·exact .inr h1,e5⟩
def Mv.same(h:Mv S s0 k0 ha x)(e0:y.1.a=x.1.a)(e1:y.2.hand=x.2.hand)(e2:y.2.told=x.2.told)(e3:y.2.key=x.2.key)(e4:y.2.done=true->ha=0):Mv S s0 k0 ha y:=by
 have e:∀k,pH S ha y k↔pH S ha x k:=λk=>by unfold pH fP;rw[e0,e1]
 exact h.of (λk _=>e k) (e _).2 e2 e3 e4
def Ea(hI:Inv S x.1){v:eW}{q e:Nat}(hq:q<S.nq)(hh:x.2.hand=none)(ht:(iP S x q e v).1.2.bG=0):
 (∀X k,pH S X (iP S x q e v).1 k↔fP S x.1 k\/(k=v.key/\S.gh q=false))/\(iP S x q e v).1.2.done=x.2.done:=by
 unfold iP at*;split at ht
 ·exact absurd ht (by show¬(1:Int)=0;decide)
 ·next hn=>rw[ax hn];exact⟨λX k=>(pH.none (x:=(jW S x.1 q e v,x.2.note (.cut q e))) hh k).trans (ac3 hI hq),rfl⟩
def acW(hI:Inv S x.1){q e:Nat}(hq:q<S.nq)(hh:x.2.hand=none)(h2:(bh S x q e).2=true):
 ∃v,(bh S x q e).1.2.hand=some v/\Inv S (bh S x q e).1.1/\(bh S x q e).1.1.f v.key=none/\(bh S x q e).1.2.done=x.2.done/\∀X k,pH S (if S.gh q then 1 else 2) (bh S x q e).1 k↔pH S X x k:=by
 unfold bh at*;split at h2
 ·cases h2
 ·next bt=>
  rw[ax bt];have hm:=fX (e:=e) bt;refine⟨_,rfl,jF hI hq hm,aw _ _ _,rfl,λX k=>?_⟩;rw[pH.some rfl,pH.none hh];show fP S (fH S x.1 q (cS x.1.a q e)) k\/_↔_;rw[si hI hq hm];have ho:=R6 hI hq hm;cases hg:S.gh q with
  |true=>
   rw[hg]at ho;simp only[if_true];constructor
   ·rintro(h|⟨h,-⟩)
    ·exact h.1
    ·omega
   ·exact λh=> .inl ⟨h,λe=>by rw[e]at h;exact absurd (ho.1 h) az⟩
  |false=>
   rw[hg]at ho;constructor
   ·rintro(h|⟨-,h⟩)
    ·exact h.1
    ·rw[h];exact ho.2 rfl
   ·intro h;by_cases e:k=(x.1.a.val (cS x.1.a q e)).key
    ·exact .inr ⟨az,e⟩
    ·exact .inl ⟨h,e⟩
def wJ(h:Mv S s0 k0 ha x)(hI:Inv S x.1){v:eW}(hv:x.2.hand=some v){q e:Nat}(hq:q<S.nq)(hg:S.gh q=false↔ha=2)(hd:x.2.done=false)(ht:(dK S x q e).1.2.bG=0):Mv S s0 k0 X (dK S x q e).1:=by
 have hx:nV x.2=v:=by unfold nV;rw[hv];rfl
 have hj:=oU (S:=S) (x:=x) (q:=q) (e:=e);unfold dK at*;rw[hx]at ht hj ⊢;obtain⟨h1,h2⟩:=Ea (x:=(x.1,{x.2 with hand:=none})) hI hq rfl ht;have e:∀k,pH S X (iP S (x.1,{x.2 with hand:=none}) q e v).1 k↔pH S ha x k:=λk=>by rw[h1,pH.some hv];show fP S x.1 k\/_↔_;rw[hg,and_comm]
 exact h.of (λk _=>e k) (e _).2 hj.told hj.key (λhh=>by rw[h2]at hh;rw[show x.2.done=true from hh]at hd;cases hd)
def wK(h:Mv S s0 k0 2 x)(hI:Inv S x.1){v:eW}(hv:x.2.hand=some v)(hf:x.1.f v.key=none)(hd:x.2.done=false):Mv S s0 k0 3 (fU x):=by
 have hx:nV x.2=v:=by unfold nV;rw[hv];rfl
 have e1:∀k,pH S 3 (fU x) k↔fP S x.1 k:=λk=>(pH.some (x:=fU x) hv k).trans ⟨λh=>by
  rcases h with h|h
  ·exact h
  ·omega,.inl⟩
 have e2:∀k,k∈(fU x).2.told↔k∈x.2.told\/k=v.key:=λk=>by show k∈x.2.told++[(nV x.2).key]↔_;rw[hx];simp
 have e3:∀k,pH S 2 x k↔fP S x.1 k\/k=v.key:=λk=>(pH.some hv k).trans az;have hn:=GQ hI hf;refine⟨h.key,λk hk hr=>?_,λk hk hr=>?_,λhr=>?_,λhh=>by rw[show x.2.done=true from hh]at hd;cases hd⟩
 ·have h1:=h.a k hk hr;rw[e3]at h1;rw[e1,e2];by_cases e:k=v.key
  ·subst e;simp[hn]
  ·simp only[e,or_false]at h1 ⊢;exact h1
 ·rw[e1];exact λh'=>h.b k hk hr ((e3 k).2 (.inl h'))
 ·rw[e1,e2];rcases h.c hr with h1|h1
  ·rcases(e3 _).1 h1 with h1|h1
   ·exact .inl h1
   ·exact .inr (.inr h1)
  ·exact .inr (.inl h1)
def ui(h:Mv S s0 k0 ha x)(h2:ha≠2)(hd:x.2.done=false):Mv S s0 k0 X (gm x):=by
 have e:∀k,pH S X (gm x) k↔pH S ha x k:=λk=>(pH.none (x:=gm x) rfl k).trans ⟨.inl,λh'=>by
  rcases h' with h'|h'
  ·exact h'
  ·exact absurd h'.1 h2⟩
 exact h.of (λk _=>e k) (e _).2 rfl rfl (λhh=>by rw[show x.2.done=true from hh]at hd;cases hd)
def Mv.GR(h:Mv S s0 k0 ha x)(hI:Inv S x.1){q e:Nat}(hq:q<S.nq)(hh:x.2.hand=none)(hd:x.2.done=false)(h2:(bh S x q e).2=true):
 Mv S s0 k0 (if S.gh q then 1 else 2) (bh S x q e).1/\∃v,(bh S x q e).1.2.hand=some v/\Inv S (bh S x q e).1.1/\(bh S x q e).1.1.f v.key=none/\(bh S x q e).1.2.done=false:=by
 obtain⟨v,h3,h4,h5,h6,h7⟩:=acW hI hq hh h2;have hj:=fC (S:=S) (x:=x) (q:=q) (e:=e);exact⟨h.of (λk _=>h7 ha k) (h7 ha _).2 hj.told hj.key (λhh'=>by rw[h6,hd]at hh';cases hh'),v,h3,h4,h5,h6.trans hd⟩
def oA{q e:Nat}(h:(bh S x q e).1.2.bG=0):(bh S x q e).2=true:=by
 unfold bh at*;split
 ·next hn=>rw[aE hn]at h;exact absurd h (by show¬(2:Int)=0;decide)
 ·rfl
variable {p:aU}{c:Cp}{T:Map}{s z:St}{r:Rn}{st st':Std}
def Ny{p:Prop}(h:p:=by
 unfold eL at hh;rw[ax G,ax G,ax G,ax G]at hh;simp at hh;omega):p:=h
def acT(E:Env p c T)(C:fJ p T r st)(C':fJ p T (aJ p c (ak p r.at_) (s,bQ r)).2 st'):st'.ha=br p (ak p r.at_) st.ha:=by
 by_cases hs:cW (ak p r.at_).op
 ·obtain⟨e1,-⟩:=uJ (p:=p) (c:=c) (x:=(s,bQ r)) hs;rw[kE C' (C.jG.ways _ (qy (st:=st) hs)).2 e1]
 ·have hh:=C.jG.lA;have hc:(ak p r.at_).op=0\/(ak p r.at_).op=22\/(ak p r.at_).op=23\/(ak p r.at_).op=24\/(ak p r.at_).op=25\/(ak p r.at_).op=26\/(ak p r.at_).op=27:=by have dO:=((cO E.check).2 _ (eM C.lt)).1;unfold jX aP at dO;simp only[fh,fj]at dO;unfold cW at hs;omega
  have h0:st.ha=0:=by exact Ny
  have hn:(aJ p c (ak p r.at_) (s,bQ r)).2.hand=none:=by
   have h1:(s,bQ r).2.hand=none:=C.hand.1 h0;generalize ak p r.at_=x at hc;rcases hc with h|h|h|h|h|h|h
   ·unfold aJ;rw[h];exact h1
   ·unfold aJ;rw[h];exact h1
   ·have e:aJ p c x (s,bQ r)=(s,if(bQ r).jx=0 then{(bQ r).pop with at_:=N x.a}else(bQ r).pop):=by unfold aJ;rw[h];rfl
    rw[e];dsimp only;split<;>exact h1
   ·unfold aJ;rw[h];exact h1
   ·have e:aJ p c x (s,bQ r)=qR x (s,bQ r):=by unfold aJ;rw[h];rfl
    rw[e];unfold qR;split<;>exact h1
   ·have e:aJ p c x (s,bQ r)=qS x (s,bQ r):=by unfold aJ;rw[h];rfl
    rw[e];unfold qS;split<;>exact h1
   ·unfold aJ;rw[h];exact h1
  rw[C'.hand.2 hn,h0];unfold br;rw[ax G,ax G,ax G]
def Nx{p:Prop}(h:p:=by
 exact hx.of (λk _=>e k) (e _).2 rfl rfl (λh=>by rw[show x.2.done=true from h]at hd;cases hd)):p:=h
def NT{p:Prop}(h:p:=by
 exact S0 _ rfl rfl rfl rfl rfl G G G G):p:=h
def acS(E:Env p c T)(C:fJ p T r st)(a0g:fI (aB p c) p.vars.length z (s,r))(K:Mv (aB p c) s0 k0 st.ha (s,r)):(aJ p c (ak p r.at_) (s,bQ r)).2.bG=0->Mv (aB p c) s0 k0 (br p (ak p r.at_) st.ha) (aJ p c (ak p r.at_) (s,bQ r)):=by
 obtain⟨-,pw⟩:=cO E.check;have hi:=(pw _ (eM C.lt)).2;have hd:(s,bQ r).2.done=false:=C.done;have hx:Mv (aB p c) s0 k0 st.ha (s,bQ r):=K.same rfl rfl rfl rfl (λh=>by rw[hd]at h;cases h);have hI:Inv (aB p c) (s,bQ r).1:=a0g.inv;have pK:(s,bQ r).2.key=k0:=K.key;have hH:∀v,(s,bQ r).2.hand=some v->(s,bQ r).1.f v.key=none:=λv hv=>(a0g.hand v hv).1;have hh:=C.jG.lA;have hk:=C.jG.kinds;have iG:st.ha=0↔(s,bQ r).2.hand=none:=C.hand;have dO:=(pw _ (eM C.lt)).1;unfold jX aP at dO;simp only[fh,fj]at dO;have fits:∀k:Nat,(ak p r.at_).op=(k:Int)->_:=λk h=>gU hi (k:=k) (by rw[h];rfl);clear pw K E C a0g hi
 revert hd hx hI pK hH hh hk iG dO fits
 generalize ak p r.at_=i;generalize st.ha=ha;generalize(s,bQ r)=x;intro hd hx hI pK hH hh hk iG dO fits;have xx:∀n,(aB p c).gh n=p.ap.getD n false:=λn=>rfl;have h0:i.op=0\/22<=i.op/\i.op<=27\/31<=i.op/\i.op<=34\/38<=i.op->ha=0:=λh=>by exact Ny
 have gz:i.op≠34->i.op≠35->i.op≠36->i.op≠37->br p i ha=ha:=λa b c' d=>by unfold br;rw[ax c',ax G,ax a]
 obtain⟨P,hP⟩:∃P:SR->Prop,P=λy=>y.2.bG=0->Mv (aB p c) s0 k0 (br p i ha) y:=⟨_,rfl⟩;have L:∀y,(y.2.bG=0->Mv (aB p c) s0 k0 (br p i ha) y)->P y:=λy h=>by rw[hP];exact h
 have S0:∀y:SR,y.1.a=x.1.a->y.2.hand=x.2.hand->y.2.told=x.2.told->y.2.key=x.2.key->y.2.done=x.2.done->i.op≠34->i.op≠35->i.op≠36->i.op≠37->P y:=λy h1 h2 h3 h4 h5 a b c' d=>
  L y λ_=>by rw[gz a b c' d];exact hx.same h1 h2 h3 h4 (λh=>by rw[h5,hd]at h;cases h)
 suffices hh:P (aJ p c i x)by rw[hP]at hh;exact hh
 unfold aJ;dsimp only;refine aN (λo=>L _ λ_=>by rw[gz G G G G];exact hx.same rfl rfl rfl rfl (λ_=>h0 (.inl o))) (λ_=>?_);refine aN (λo=>S0 _ rfl rfl rfl rfl rfl G G G G) (λ_=>?_);refine aN (λo=>S0 _ rfl rfl rfl rfl rfl G G G G) (λ_=>?_);refine aN (λo=>S0 _ rfl rfl rfl rfl rfl G G G G) (λ_=>?_);refine aN (λo=>S0 _ rfl rfl rfl rfl rfl G G G G) (λ_=>?_);refine aN (λo=>S0 _ rfl rfl rfl rfl rfl G G G G) (λ_=>?_);refine aN (λo=>S0 _ rfl rfl rfl rfl rfl G G G G) (λ_=>?_);refine aN (λo=>S0 _ rfl rfl rfl rfl rfl G G G G) (λ_=>?_);refine aN (λo=>by unfold wV;split<;>exact S0 _ rfl rfl rfl rfl rfl G G G G) (λ_=>?_);refine aN (λo=>by unfold oR;split<;>exact S0 _ rfl rfl rfl rfl rfl G G G G) (λ_=>?_);refine aN (λo=>S0 _ rfl rfl rfl rfl rfl G G G G) (λ_=>?_);refine aN (λo=>S0 _ rfl rfl rfl rfl rfl G G G G) (λ_=>?_);refine aN (λo=>S0 _ rfl rfl rfl rfl rfl G G G G) (λ_=>?_);refine aN (λo=>S0 _ rfl rfl rfl rfl rfl G G G G) (λ_=>?_);refine aN (λo=>by split<;>exact S0 _ rfl rfl rfl rfl rfl G G G G) (λ_=>?_);refine aN (λo=>S0 _ rfl rfl rfl rfl rfl G G G G) (λ_=>?_);refine aN (λo=>by unfold qR;split<;>exact S0 _ rfl rfl rfl rfl rfl G G G G) (λ_=>?_);refine aN (λo=>by unfold qS;split<;>exact S0 _ rfl rfl rfl rfl rfl G G G G) (λ_=>?_);refine aN (λo=>S0 _ rfl rfl rfl rfl rfl G G G G) (λ_=>?_);have MK:∀(n tag:Nat) (v:Int),i.op=29\/i.op=30->P (ry p (x.1,x.2.pop) n tag v):=λn tag v o=>L _ λ_=>by rw[gz G G G G];have e:∀k,pH (aB p c) ha (ry p (x.1,x.2.pop) n tag v) k↔pH (aB p c) ha x k:=λk=>or_congr (acZ rfl) Iff.rfl;exact Nx
 refine aN (λo=>?_) (λ_=>?_)
 ·unfold rz;split
  ·exact NT
  ·exact MK _ _ _ (.inl o)
 refine aN (λo=>?_) (λ_=>?_)
 ·unfold mh;split
  ·exact NT
  ·exact MK _ _ _ (.inr o)
 have Ts:ha=0->x.2.hand=none:=iG.1;refine aN (λo=>?_) (λ_=>?_)
 ·unfold oP;split
  ·exact NT
  ·next hf=>
   refine L _ λht=>?_;rw[gz G G G G];have z0:=Ts (h0 G);obtain⟨g1,g2⟩:=Ea hI (dx (fits 31 G).1).2.2 z0 ht;have hj:=pQ (S:=aB p c) (x:=x) (q:=N i.a) (e:=N i.b) (v:=⟨x.2.key,λ_=>0⟩);refine hx.of (λk hk=>?_) (λh=>?_) hj.told hj.key (λh=>by rw[g2,hd]at h;cases h)
   ·rw[g1,pH.none z0];exact⟨λh=>h.elim id λh=>absurd (h.1.trans pK) hk,.inl⟩
   ·rw[pH.none z0,<-pK]at h;exact absurd h (GQ hI hf)
 refine aN (λo=>?_) (λ_=>?_)
 ·unfold wU;split
  ·exact NT
  ·next n hf=>
   refine L _ λht=>?_;rw[gz G G G G];have z0:=Ts (h0 G);obtain⟨q,hq,hm,uC⟩:=(hI.idx _ _).1 hf;rw[jy hI.wf hq hm]at ht ⊢;obtain⟨g1,g2⟩:=Ea (x:=ru (aB p c) x n q) (jF hI hq hm) (dx (fits 32 G).1).2.2 z0 ht;have hj:=pQ (S:=aB p c) (x:=ru (aB p c) x n q) (q:=N i.a) (e:=N i.b) (v:=x.1.a.val n);have hg:(aB p c).gh (N i.a)=false:=by unfold cK at hk;rw[aE (.inl o)]at hk;unfold bw at hk;simpa[xx,N]using hk
   refine hx.of (λk hk=>?_) (λh=>?_) hj.told hj.key (λh=>by rw[g2]at h;rw[show x.2.done=true from h]at hd;cases hd)
   ·rw[g1,pH.none z0];show fP (aB p c) (fH (aB p c) x.1 q n) k\/_↔_;rw[si hI hq hm,uC,pK];exact⟨λh=>h.elim (·.1) λh=>absurd h.1 hk,λh=> .inl ⟨h,hk⟩⟩
   ·exact(g1 _ _).2 (.inr ⟨by rw[uC,pK],hg⟩)
 refine aN (λo=>?_) (λ_=>?_)
 ·unfold oQ;split
  ·exact NT
  ·next n hf=>
   obtain⟨q,hq,hm,uC⟩:=(hI.idx _ _).1 hf;rw[jy hI.wf hq hm];split
   ·next hg=>
    refine L _ λht=>?_;rw[gz G G G G];have z0:=Ts (h0 G);have e:∀k,pH (aB p c) ha (ru (aB p c) x n q) k↔pH (aB p c) ha x k:=λk=>by rw[pH.none z0,pH.none (x:=ru (aB p c) x n q) z0];show fP (aB p c) (fH (aB p c) x.1 q n) k↔_;rw[si hI hq hm];exact⟨(·.1),λh=>⟨h,λe=>by rw[e]at h;rw[R6 hI hq hm,hg]at h;cases h⟩⟩
    exact Nx
   ·exact NT
 have QA:∀k:Nat,i.op=(k:Int)->k=34\/k=38\/k=39\/k=40\/k=41->N i.a<(aB p c).nq:=λk o h=>by have:=(fits k o).1;rcases h with rfl|rfl|rfl|rfl|rfl<;>exact(dx this).2.2
 refine aN (λo=>L _ λht=>?_) (λ_=>?_)
 ·have:=(hx.GR hI (QA 34 o G) (Ts (h0 G)) hd (oA ht)).1;have e:br p i ha=if(aB p c).gh (N i.a)then 1 else 2:=by unfold br;rw[ax G,ax G,aE o];rfl
  rw[e];exact this
 refine aN (λo=>L _ λht=>?_) (λ_=>?_)
 ·unfold eL at hh;rw[ax G,ax G,aE o]at hh;cases hv:x.2.hand with
  |none=>rw[iG.2 hv]at hh;split at hh<;>simp at hh
  |some v=>
   refine wJ hx hI hv (dx (fits 35 o).1).2.2 ?_ hd ht;rw[xx];unfold bw at hh;change(if p.ap.getD (N i.a) false=true then _ else _)=true at hh;cases hg:p.ap.getD (N i.a) false with
   |true=>rw[hg,aE rfl]at hh;simp at hh ⊢;omega
   |false=>rw[hg,ax bz]at hh;simp at hh ⊢;exact hh
 refine aN (λo=>L _ λht=>?_) (λ_=>?_)
 ·unfold eL at hh;rw[aE o]at hh;have h2:ha=2:=by simpa using hh
  subst h2;have e:br p i 2=3:=by unfold br;rw[aE o]
  rw[e];cases hv:x.2.hand with
  |none=>exact absurd (iG.2 hv) bz
  |some v=>exact wK hx hI hv (hH v hv) hd
 refine aN (λo=>L _ λht=>?_) (λ_=>?_)
 ·unfold eL at hh;rw[ax G,aE o]at hh;exact ui hx (λe=>by rw[e]at hh;simp at hh) hd
 refine aN (λo=>?_) (λ_=>?_)
 ·unfold qu;dsimp only;refine aN (λe=>L _ λht=>?_) (λe=>L _ λht=>absurd (oA ht) e);obtain⟨h1,v,h2,h3,h4,h5⟩:=hx.GR hI (QA 38 o G) (Ts (h0 G)) hd e;refine wJ h1 h3 h2 (dx (fits 38 o).2.2.1).2.2 ?_ h5 ht;unfold cK at hk;rw[ax G,ax G,aE o]at hk;have qW:p.ap.getD (N i.a) false=p.ap.getD (N i.c) false:=by simpa[bw,N]using hk
  rw[xx,xx,qW];cases p.ap.getD (N i.c) false<;>simp
 refine aN (λo=>?_) (λ_=>?_)
 ·unfold qw;dsimp only;refine aN (λe=>L _ λht=>?_) (λe=>L _ λht=>absurd (oA ht) e);obtain⟨h1,v,h2,h3,h4,h5⟩:=hx.GR hI (QA 39 o G) (Ts (h0 G)) hd e;unfold cK at hk;rw[ax G,ax G,ax G,aE o]at hk;have qW:p.ap.getD (N i.a) false=false/\p.ap.getD (N i.c) false=true:=by simpa[bw,N]using hk
  rw[xx,qW.1]at h1;exact wJ (wK h1 h3 h2 h4 h5) h3 h2 (dx (fits 39 o).2.2.1).2.2 (by rw[xx,qW.2];simp) h5 ht
 refine aN (λo=>?_) (λ_=>?_)
 ·unfold qx;dsimp only;refine aN (λe=>L _ λht=>?_) (λe=>L _ λht=>absurd (oA ht) e);obtain⟨h1,v,h2,h3,h4,h5⟩:=hx.GR hI (QA 40 o G) (Ts (h0 G)) hd e;unfold cK at hk;rw[aE (.inr o)]at hk;have qW:p.ap.getD (N i.a) false=false:=by simpa[bw,N]using hk
  rw[xx,qW]at h1;exact ui (wK h1 h3 h2 h4 h5) bz h5
 ·have o:i.op=41:=G;unfold uE;dsimp only;refine aN (λe=>L _ λht=>?_) (λe=>L _ λht=>absurd (oA ht) e);obtain⟨h1,v,h2,h3,h4,h5⟩:=hx.GR hI (QA 41 o G) (Ts (h0 G)) hd e;unfold cK at hk;rw[ax G,aE o]at hk;have qW:p.ap.getD (N i.a) false=true:=by simpa[bw,N]using hk
  rw[xx,qW]at h1;exact ui h1 bz h5
def aa3(E:Env p c T):∀(f n:Nat) (s:St) (r:Rn) (st:Std),fJ p T r st->fI (aB p c) p.vars.length z (s,r)->left p r st<=f->Mv (aB p c) s0 k0 st.ha (s,r)->
 (kB p c f (s,r)).2.2.bG=0->Mv (aB p c) s0 k0 0 (kB p c f (s,r)).2:=by
 intro f
 induction f with
 |zero=>intro n s r st C a0g hf;have:=yW E C;omega
 |succ f ih=>
  intro n s r st C a0g hf K;have hs:=CP E C a0g;have hk:=acS E C a0g K;change(eC p c (s,r)).2.bG=0->Mv _ _ _ _ (eC p c (s,r))at hk;unfold kB;by_cases h:kF (eC p c (s,r))=true
  ·rw[aE h];intro ht;have h1:=hk ht;have hd:(eC p c (s,r)).2.done=true:=by unfold kF at h;rw[show(eC p c (s,r)).2.bG=0 from ht]at h;simpa using h
   rw[h1.d hd]at h1;exact h1
  ·rw[ax h];obtain⟨h1,h2⟩:=rF h;obtain⟨st',C'⟩:=hs.next h1 h2;have hl:=tO E C C';have qW:=hk h1;rw[<-acT E C C']at qW;exact ih (n+1) (eC p c (s,r)).1 (eC p c (s,r)).2 st' C' hs.hold (bS (by show left p (eC p c (s,r)).2 st'<=left p r st-1;exact Nat.le_sub_of_add_le hl) G) qW
structure sm(S:Sys)(s s':St)(k0:Nat)(told:List Nat)(rem:Bool):Prop where
 a:∀k,k≠k0->fP S s k->(fP S s' k↔k∉told)
 b:∀k,fP S s' k->¬fP S s k->k=k0/\rem=false
 c:rem=false->fP S s k0->fP S s' k0\/k0∈told
 d:rem=true->s'.f k0=none/\told=[]
def Mv.tz{x:SR}(h:Mv (aB p c) s k0 0 x):sm (aB p c) s x.1 k0 x.2.told false:=by
 have e:∀k,pH (aB p c) 0 x k↔fP (aB p c) x.1 k:=λk=>⟨λh=>h.elim id λh=>absurd h.1 bz,.inl⟩;refine⟨λk hk hr=>(e k).symm.trans (h.a k hk hr),λk h1 hr=>⟨?_,rfl⟩,λ_ hr=>(h.c hr).imp (e _).1 id,λh=>by cases h⟩;by_cases hk:k=k0
 ·exact hk
 ·exact absurd ((e k).2 h1) (h.b k hk hr)
def acQ(E:Env p c T)(hS:oV p)(hI:Inv (aB p c) s){key:Nat}(hk:key<18446744073709551616)(ht:eQ p c s key=0):sm (aB p c) s (fD p c s key) key (gu p c s key) false:=by
 unfold fD;rw[aE ht];unfold eQ at ht;unfold gu;have h0:∀a,Mv (aB p c) s key 0 (s,eN key a):=λa=>by have e:∀k,pH (aB p c) 0 (s,eN key a) k↔fP (aB p c) s k:=λk=>pH.none (x:=(s,eN key a)) rfl k;exact⟨rfl,λk _ hr=>by rw[e];simp[hr,eN],λk _ hr=>by rw[e];exact hr,λhr=> .inl ((e _).2 hr),λh=>by cases h⟩
 have JR:Mv (aB p c) s key 0 (nM p c s key).2:=by
  unfold nM at ht ⊢;have ha:=at_mem E hI key;split
  ·exact h0 _
  ·next h=>rw[ax h]at ht;exact aa3 (s0:=s) (k0:=key) E iZ 0 s _ _ (yf E ha G key) (uL hI hk _) (yX E hS ha G key) (h0 _) ht
 exact JR.tz
def acP{p:aU}{c:Cp}(hI:Inv (aB p c) s)(key:Nat):sm (aB p c) s (gR p c s key) key [] true:=by
 unfold gR;cases hf:s.f key with
 |none=>exact⟨λk _ hr=>by simp[hr],λk h1 h2=>absurd h1 h2,λh=>(by cases h),λ_=>⟨hf,rfl⟩⟩
 |some n=>
  obtain⟨q,hq,hn,hk⟩:=(hI.idx key n).1 hf;dsimp only;rw[jy hI.wf hq hn];refine⟨λk qW hr=>?_,λk h1 hr=>?_,λh=>(by cases h),λ_=>⟨?_,rfl⟩⟩
  ·rw[si hI hq hn];simp[hr,hk,qW]
  ·rw[si hI hq hn]at h1;exact absurd h1.1 hr
  ·show aS s.f _ none key=none;rw[hk,aw]
end
structure ph(p:aU)(s:mW):Prop where
 ty:fy s.ty
 len:s.ty.length<=256
 lp: -1<=s.loop/\s.loop<p.code.length
 ha:0<=s.hand/\s.hand<=3
structure nr(p:aU)(L:mw):Prop where
 at_:∀n,ph p (L.at_ n)
 up:∀n,-1<=L.up n/\L.up n<p.code.length
def ab4{p:aU}(h:0<p.code.length):ph p s0:=⟨by intro t ht;simp[s0]at ht,bz,by unfold s0;dsimp only;omega,bz⟩
def afd{p:aU}(h:0<p.code.length):nr p (iC p):=by
 refine⟨λn=>?_,λn=>by show -1<=(0:Int)/\(0:Int)<_;omega⟩;show ph p (if gA p n then _ else s0);split
 ·exact⟨by intro t ht;simp at ht,bz,by dsimp only;omega,bz⟩
 ·exact ab4 h
def Sy(p:aU)(x:Ins){h:Int}(hh:0<=h/\h<=3):0<=(fe p x h).2/\(fe p x h).2<=3:=by
 unfold fe
 repeat' split
 all_goals first|exact hh|(dsimp only;omega)
def Sz{x:Ins}{ty:List Nat}(h:fy ty)(h0:(cX x ty).1=0):fy (cX x ty).2/\(cX x ty).2.length<=256:=by
 have key:∀left:List Nat,left=(if cP x.op.toNat=0 then[]else[cP x.op.toNat])++ty.drop (cm x.op.toNat).length->¬256<left.length->fy left/\left.length<=256:=by
  intro left e hl;refine⟨?_,G⟩;rw[e];intro t ht;rcases List.mem_append.1 ht with ht|ht
  ·have hg:∀n:Nat,cP n≠0->cP n=1\/cP n=2:=by
    intro n;unfold cP
    repeat' split
    all_goals simp
   split at ht
   ·simp at ht
   ·next h1=>simp at ht;subst ht;exact hg _ h1
  ·exact h t (List.mem_of_mem_drop ht)
 unfold cX at h0 ⊢;dsimp only at h0 ⊢;by_cases c1:ty.length<(cm x.op.toNat).length\/(x.op=0/\(cm x.op.toNat).length<ty.length)
 ·rw[aE c1]at h0;simp at h0
 rw[ax c1]at h0 ⊢;by_cases c2:256<((if cP x.op.toNat=0 then[]else[cP x.op.toNat])++ty.drop (cm x.op.toNat).length).length
 ·rw[aE c2]at h0;simp at h0
 rw[ax c2]at h0 ⊢;by_cases c3:x.op=19
 ·rw[aE c3]at h0 ⊢;split at h0
  ·simp at h0
  ·next h4=>rw[ax h4];exact key _ rfl c2
 ·rw[ax c3]at h0 ⊢;split at h0
  ·simp at h0
  ·next h4=>rw[ax h4];exact key _ rfl c2
def JZ{p:aU}{L:mw}(K:nr p L)(pc:Nat)(x:Ins){loop:Int}(h: -1<=loop/\loop<p.code.length):nr p (ij L pc x loop):=by
 unfold ij;split
 ·refine⟨K.at_,λn=>?_⟩;show -1<=aS L.up pc loop n/\aS L.up pc loop n<p.code.length;rw[dw];split
  ·exact h
  ·exact K.up n
 ·exact K
def SA{p:aU}{L:mw}(K:nr p L){pc:Nat}(pN:pc<p.code.length)(x:Ins){s:mW}(h:ph p s){w:Nat×mW}(hw:w∈eP L pc x s):ph p w.2:=by
 unfold eP at hw;split at hw
 ·simp at hw
 split at hw
 ·simp at hw;rw[hw];exact h
 split at hw
 ·simp at hw;rcases hw with rfl|rfl<;>exact h
 split at hw
 ·simp at hw;rcases hw with rfl|rfl
  ·exact⟨h.ty,h.len,by dsimp only;omega,h.ha⟩
  ·exact h
 split at hw
 ·simp at hw;rcases hw with rfl|rfl
  ·exact h
  ·exact⟨h.ty,h.len,K.up _,h.ha⟩
 ·simp at hw;rw[hw];exact h
def LQ{p:aU}{L:mw}(K:nr p L)(z:Nat){s:mW}(h:ph p s):nr p {L with at_:=aS L.at_ z s}:=
 ⟨λn=>by show ph p (aS L.at_ z s n);rw[dw];split;exact h;exact K.at_ n,K.up⟩
def ab3{p:aU}:∀(l:List (Nat×mW)) (L L':mw),nr p L->(∀w,w∈l->ph p w.2)->fq L l=some L'->nr p L':=by
 intro l
 induction l with
 |nil=>intro L L' K _ h;simp[fq]at h;subst h;exact K
 |cons w l ih=>
  intro L L' K hs h;unfold fq at h;split at h
  ·split at h
   ·exact ih _ _ K (λv hv=>hs v (by simp[hv])) h
   ·simp at h
  ·exact ih _ _ (LQ K _ (hs w az)) (λv hv=>hs v (by simp[hv])) h
def ab2{p:aU}{L:mw}(K:nr p L){pc:Nat}(pN:pc<p.code.length)(h:(cF p L pc).1=0):nr p (cF p L pc).2:=by
 unfold cF at h ⊢;dsimp only at h ⊢;by_cases c0:(L.at_ pc).lZ=false
 ·rw[aE c0]at h;simp at h
 rw[ax c0]at h ⊢;by_cases c1:(fe p (ak p pc) (L.at_ pc).hand).1=false
 ·rw[aE c1]at h;simp at h
 rw[ax c1]at h ⊢;by_cases c2:(cX (ak p pc) (L.at_ pc).ty).1≠0
 ·rw[aE c2]at h;exact absurd h c2
 rw[ax c2]at h ⊢;by_cases c3:cK p (ak p pc)=false
 ·rw[aE c3]at h;simp at h
 rw[ax c3]at h ⊢;by_cases c4:eH p L pc (ak p pc) (cX (ak p pc) (L.at_ pc).ty).2 (L.at_ pc).loop=false
 ·rw[aE c4]at h;simp at h
 rw[ax c4]at h ⊢;have hu:=JZ K pc (ak p pc) (K.at_ pc).lp;have ho:=Sz (x:=ak p pc) (K.at_ pc).ty (Decidable.not_not.1 c2);have hs:ph p ⟨(cX (ak p pc) (L.at_ pc).ty).2,(L.at_ pc).loop,(fe p (ak p pc) (L.at_ pc).hand).2,true⟩:=⟨ho.1,ho.2,(K.at_ pc).lp,Sy p _ (K.at_ pc).ha⟩;split at h
 ·simp at h
 next c5=>
 rw[ax c5];split at h
 ·simp at h
 next c6=>
 rw[ax c6];cases e:fq (ij L pc (ak p pc) (L.at_ pc).loop) (eP (ij L pc (ak p pc) (L.at_ pc).loop) pc (ak p pc) ⟨(cX (ak p pc) (L.at_ pc).ty).2,(L.at_ pc).loop,(fe p (ak p pc) (L.at_ pc).hand).2,true⟩)with
 |none=>rw[e]at h;simp at h
 |some L2=>exact ab3 _ _ _ hu (λw hw=>SA hu pN _ hs hw) e
end al.Vm
namespace al
def nx(n i:Nat):Nat:=if i+1=n then 0 else i+1
def c_(n a b:Nat):Nat:=if a<=b then b-a else b+n-a
def aS{β:Type}(f:Nat->β)(i:Nat)(x:β):Nat->β:=λj=>if j=i then x else f j
def aw{β:Type}(f:Nat->β)(i:Nat)(x:β):aS f i x i=x:=by simp[aS]
def an{β:Type}(f:Nat->β){i j:Nat}(x:β)(h:j≠i):aS f i x j=f j:=by simp[aS,h]
def CR:Nat:=11400714819323198485
def wX:Nat:=18446744073709551616
def home(n key:Nat):Nat:=key*CR % wX*n / wX
def lV{n:Nat}(hn:0<n)(key:Nat):home n key<n:=by unfold home;rw[Nat.div_lt_iff_lt_mul bz];have h:key*CR % wX<wX:=Nat.mod_lt _ bz;rw[Nat.mul_comm n wX];exact Nat.mul_lt_mul_of_pos_right h hn
def dc(n a b:Nat):(a<=b/\c_ n a b=b-a)\/(b<a/\c_ n a b=b+n-a):=by
 unfold c_;split
 ·left;exact⟨by assumption,rfl⟩
 ·right;exact⟨G,rfl⟩
def nc(n i:Nat):(i+1=n/\nx n i=0)\/(i+1≠n/\nx n i=i+1):=by
 unfold nx;split
 ·left;exact⟨by assumption,rfl⟩
 ·right;exact⟨by assumption,rfl⟩
def lB{n i:Nat}(h:i<n):nx n i<n:=by unfold nx;split<;>omega
def Zz{n i:Nat}(h:i<n):(i+1) % n=nx n i:=by
 unfold nx;split
 ·next e=>rw[e];exact Nat.mod_self n
 ·exact Nat.mod_eq_of_lt G
section
variable {α:Type}
abbrev Tb(α:Type):=Nat->Option (Nat×α)
def gG(S:Tb α)(key at_:Nat):Bool:=match S at_ with|none=>true|some (k,_)=>k==key
def iA(n:Nat)(S:Tb α)(key:Nat):Nat->Nat->Nat
 |0,a=>a
 |f+1,a=>if gG S key a then a else iA n S key f (nx n a)
def find(n:Nat)(S:Tb α)(key:Nat):Nat:=iA n S key n (home n key)
def BH{n:Nat}(S:Tb α)(key:Nat):∀f a,a<n->iA n S key f a<n:=by
 intro f
 induction f with
 |zero=>intro a h;exact h
 |succ f ih=>intro a h;unfold iA;split;exact h;exact ih _ (lB h)
def kG{n:Nat}(hn:0<n)(S:Tb α)(key:Nat):find n S key<n:=BH S key n _ (lV hn key)
def wY{n:Nat}{S:Tb α}{key a:Nat}(h:gG S key a=true)(f:Nat):iA n S key f a=a:=by
 cases f<;>simp[iA,h]
def BI{n:Nat}{S:Tb α}{key a:Nat}(h:gG S key a=false)(f:Nat):iA n S key (f+1) a=iA n S key f (nx n a):=by simp[iA,h]
def EU{n:Nat}{S:Tb α}{key e:Nat}(he:e<n)(hs:gG S key e=true):
 ∀f a,a<n->c_ n a e<=f->gG S key (iA n S key f a)=true/\c_ n a (iA n S key f a)<=c_ n a e/\
  ∀x,x<n->c_ n a x<c_ n a (iA n S key f a)->gG S key x=false:=by
 intro f
 induction f with
 |zero=>
  intro a ha hd;have:a=e:=by unfold c_ at hd;split at hd<;>omega
  subst this;refine⟨hs,Nat.le_refl _,λx hx h=>?_⟩;simp only[iA]at h;have:c_ n a a=0:=by unfold c_;simp
  omega
 |succ f ih=>
  intro a ha hd;by_cases h:gG S key a=true
  ·rw[wY h];have:c_ n a a=0:=by unfold c_;simp
   exact⟨h,G,λx hx be=>G⟩
  ·have h':gG S key a=false:=by simpa using h
   rw[BI h'];have bt:a≠e:=λe'=>by rw[e']at h;exact h hs
   have sQ:c_ n (nx n a) e<=f:=by unfold c_ nx at*;split at hd<;>split<;>(try split)<;>omega
   obtain⟨h1,h2,h3⟩:=ih (nx n a) (lB ha) sQ;have hl:iA n S key f (nx n a)<n:=BH S key f _ (lB ha);generalize iA n S key f (nx n a)=p at h1 h2 h3 hl;have hpa:p≠a:=λe'=>by rw[e']at h1;exact h h1
   have step:∀y,y<n->y≠a->c_ n a y=c_ n (nx n a) y+1:=by intro y hy hya;unfold c_ nx;split<;>split<;>(try split)<;>omega
   refine⟨h1,?_,λx hx be=>?_⟩
   ·rw[step p hl hpa,step e he (λe'=>bt e'.symm)];omega
   ·by_cases AW:x=a
    ·rw[AW];exact h'
    ·rw[step p hl hpa,step x hx AW]at be;exact h3 x hx G
def uM{n a b:Nat}(ha:a<n)(X:b<n):c_ n a b<n:=by unfold c_;split<;>omega
def sx(n a:Nat):c_ n a a=0:=by unfold c_;simp
def uN{n a b:Nat}(ha:a<n)(X:b<n)(h:a≠b):0<c_ n a b:=by unfold c_;split<;>omega
def yY{n a b c:Nat}(X:b<n)(hc:c<n)(ha:a<n)(h:c_ n a b=c_ n a c):b=c:=by unfold c_ at h;split at h<;>split at h<;>omega
def jR{n a e:Nat}(ha:a<n)(he:e<n)(h:a≠e):c_ n a e=c_ n (nx n a) e+1:=by unfold c_ nx;split<;>split<;>(try split)<;>omega
def sA{n:Nat}{S:Tb α}{e:Nat}(he:e<n)(hs:S e=none)(key:Nat):
 gG S key (find n S key)=true/\∀x,x<n->c_ n (home n key) x<c_ n (home n key) (find n S key)->gG S key x=false:=by
 have hn:0<n:=G;obtain⟨h1,_,h3⟩:=EU (S:=S) (key:=key) he (by simp[gG,hs]) n (home n key) (lV hn key) (Nat.le_of_lt (uM (lV hn key) he));exact⟨h1,h3⟩
structure Inv(n:Nat)(S:Tb α):Prop where
 path:∀p k v,p<n->S p=some (k,v)->∀x,x<n->c_ n (home n k) x<c_ n (home n k) p->S x≠none
 tI:∀p q k v u,p<n->q<n->S p=some (k,v)->S q=some (k,u)->p=q
def Inv.empty(n:Nat):Inv (α:=α) n (λ_=>none):=⟨λ_ _ _ _ h=>by simp at h,λ_ _ _ _ _ _ _ h=>by simp at h⟩
def Inv.CS{n:Nat}{S:Tb α}(a0d:Inv n S){e:Nat}(he:e<n)(hs:S e=none){p k:Nat}{v:α}(hp:p<n)(h:S p=some (k,v)):find n S k=p:=by
 have hn:0<n:=G;obtain⟨h1,h2⟩:=sA he hs k;have hl:=kG hn S k;have hh:=lV hn k;generalize find n S k=q at h1 h2 hl;rcases Nat.lt_trichotomy (c_ n (home n k) q) (c_ n (home n k) p)with be|yT|hgt
 ·have:=a0d.path p k v hp h q hl be;unfold gG at h1;cases hq:S q with
  |none=>exact absurd hq this
  |some x=>rw[hq]at h1;obtain⟨k',u⟩:=x;simp at h1;subst h1;exact a0d.tI q p k' u v hl hp hq h
 ·exact yY hl hp hh yT
 ·have:=h2 p hp hgt;simp[gG,h]at this
def EW{S:Tb α}{key p k:Nat}{v:α}(h:gG S key p=true)(hp:S p=some (k,v)):k=key:=by unfold gG at h;rw[hp]at h;simpa using h
def putAt(n:Nat)(S:Tb α)(key:Nat)(v:α):Tb α:=aS S (find n S key) (some (key,v))
def Inv.put{n:Nat}{S:Tb α}(a0d:Inv n S){e:Nat}(he:e<n)(hs:S e=none)(key:Nat)(v:α):Inv n (putAt n S key v):=by
 have hn:0<n:=G;obtain⟨h1,h2⟩:=sA he hs key;have hl:=kG hn S key;unfold putAt;have hq:∀q k u,q<n->S q=some (k,u)->k=key->q=find n S key:=by intro q k u hq h e';subst e';exact(a0d.CS he hs hq h).symm
 generalize find n S key=f at*;refine⟨λp k u hp h x hx hd=>?_,λp q k u u' hp Ol h h'=>?_⟩
 ·by_cases hxf:x=f
  ·rw[hxf,aw];simp
  ·rw[an _ _ hxf];by_cases TJ:p=f
   ·rw[TJ,aw]at h;simp at h;obtain⟨rfl,rfl⟩:=h;rw[TJ]at hd;have:=h2 x hx hd;intro hn';simp[gG,hn']at this
   ·rw[an _ _ TJ]at h;exact a0d.path p k u hp h x hx hd
 ·by_cases TJ:p=f<;>by_cases hqf:q=f
  ·rw[TJ,hqf]
  ·rw[TJ,aw]at h;rw[an _ _ hqf]at h';simp at h;exact absurd (hq q k u' Ol h' h.1.symm) hqf
  ·rw[hqf,aw]at h';rw[an _ _ TJ]at h;simp at h';exact absurd (hq p k u hp h h'.1.symm) TJ
  ·rw[an _ _ TJ]at h;rw[an _ _ hqf]at h';exact a0d.tI p q k u u' hp Ol h h'
def iB(n:Nat):Nat->Tb α->Nat->Nat->Tb α
 |0,S,_,_=>S
 |f+1,S,i,k=>match S k with
  |none=>S
  |some (y,_)=>if c_ n i k<=c_ n (home n y) k then iB n f (aS (aS S i (S k)) k none) k (nx n k)else iB n f S i (nx n k)
def mK(n:Nat)(S:Tb α)(p:Nat):Tb α:=iB n n (aS S p none) p (nx n p)
structure BJ(n:Nat)(S:Tb α)(i k e:Nat):Prop where
 li:i<n
 lk:k<n
 le:e<n
 xL:S i=none
 AX:S e=none
 ie:i≠e
 ik:i≠k
 Pk:c_ n i k+c_ n k e=c_ n i e
 tI:∀p q x v u,p<n->q<n->S p=some (x,v)->S q=some (x,u)->p=q
 path:∀p x v,p<n->S p=some (x,v)->∀y,y<n->c_ n (home n x) y<c_ n (home n x) p->S y≠none\/(y=i/\c_ n i k<=c_ n i p)
def BJ.start{n:Nat}{S:Tb α}(a0d:Inv n S){p e:Nat}(hp:p<n)(he:e<n)(hs:S e=none)(SX:p≠e):BJ n (aS S p none) p (nx n p) e:=by
 have AM:nx n p≠p:=by unfold nx;split<;>omega
 refine⟨hp,lB hp,he,aw _ _ _,?_,SX,λh=>AM h.symm,?_,?_,?_⟩
 ·rw[an _ _ (λh=>SX h.symm)];exact hs
 ·rw[jR hp he SX];rw[jR hp (lB hp) (λh=>AM h.symm),sx];omega
 ·intro a b x v u ha X h1 h2;have h1':S a=some (x,v):=by unfold aS at h1;split at h1<;>simp_all
  have h2':S b=some (x,u):=by unfold aS at h2;split at h2<;>simp_all
  exact a0d.tI a b x v u ha X h1' h2'
 ·intro a x v ha h y hy hd;have hap:a≠p:=λe'=>by rw[e',aw]at h;simp at h
  rw[an _ _ hap]at h;by_cases hyp:y=p
  ·right;refine⟨hyp,?_⟩;rw[jR hp (lB hp) (λh=>AM h.symm),sx];have:=uN hp ha (λh=>hap h.symm);omega
  ·left;rw[an _ _ hyp];exact a0d.path a x v ha h y hy hd
def BJ.move{n:Nat}{S:Tb α}{i k e:Nat}(D:BJ n S i k e){x:Nat}{v:α}(hk:S k=some (x,v))(hh:c_ n i k<=c_ n (home n x) k):
 BJ n (aS (aS S i (S k)) k none) k (nx n k) e:=by
 have hn:0<n:=by have:=D.li;omega
 have Ek:k≠e:=λh=>by rw[h,D.AX]at hk;simp at hk
 have hki:k≠i:=λh=>D.ik h.symm;have hnk:nx n k≠k:=by have:=D.li;have:=D.ik;have:=D.lk;unfold nx;split<;>omega
 have hxh:=lV hn x;have hik:=uN D.li D.lk D.ik;refine⟨D.lk,lB D.lk,D.le,aw _ _ _,?_,Ek,λh=>hnk h.symm,?_,?_,?_⟩
 ·rw[an _ _ (λh=>Ek h.symm),an _ _ (λh=>D.ie h.symm)];exact D.AX
 ·rw[jR D.lk D.le Ek];rw[jR D.lk (lB D.lk) (λh=>hnk h.symm),sx];omega
 ·have key:∀a y u,a<n->aS (aS S i (S k)) k none a=some (y,u)->∃b,b<n/\S b=some (y,u)/\(a=i/\b=k\/a≠i/\b=a/\a≠k):=by
   intro a y u ha h;by_cases Pm:a=k
   ·rw[Pm,aw]at h;simp at h
   ·rw[an _ _ Pm]at h;by_cases Xn:a=i
    ·rw[Xn,aw]at h;exact⟨k,D.lk,h,.inl ⟨Xn,rfl⟩⟩
    ·rw[an _ _ Xn]at h;exact⟨a,ha,h,.inr ⟨Xn,rfl,Pm⟩⟩
  intro a b y u u' ha X h1 h2;obtain⟨a',ha',h1',c1⟩:=key a y u ha h1;obtain⟨b',lJ,h2',c2⟩:=key b y u' X h2;have:=D.tI a' b' y u u' ha' lJ h1' h2';rcases c1 with⟨r1,r2⟩|⟨r1,r2,r3⟩<;>rcases c2 with⟨t1,t2⟩|⟨t1,t2,t3⟩
  ·rw[r1,t1]
  ·exact absurd (by rw[<-t2,<-this,r2]) t3
  ·exact absurd (by rw[<-r2,this,t2]) r3
  ·rw[<-r2,<-t2];exact this
 ·intro a y u ha h z hz hd;have Pm:a≠k:=λe'=>by rw[e',aw]at h;simp at h
  rw[an _ _ Pm]at h;have d1:c_ n k (nx n k)=1:=by rw[jR D.lk (lB D.lk) (λh=>hnk h.symm),sx]
  by_cases hzk:z=k
  ·right;refine⟨hzk,?_⟩;rw[d1];exact uN D.lk ha (λh=>Pm h.symm)
  ·left;rw[an _ _ hzk];by_cases EY:z=i
   ·rw[EY,aw,hk];simp
   ·rw[an _ _ EY];by_cases Xn:a=i
    ·rw[Xn,aw,hk]at h;simp at h;obtain⟨rfl,rfl⟩:=h;rw[Xn]at hd;have be:c_ n (home n x) z<c_ n (home n x) k:=by have:=D.li;have:=D.lk;have:=dc n (home n x) z;have:=dc n (home n x) i;have:=dc n (home n x) k;have:=dc n i k;omega
     rcases D.path k x v D.lk hk z hz be with h'|⟨h',_⟩
     ·exact h'
     ·exact absurd h' EY
    ·rw[an _ _ Xn]at h;rcases D.path a y u ha h z hz hd with h'|⟨h',_⟩
     ·exact h'
     ·exact absurd h' EY
def BJ.stay{n:Nat}{S:Tb α}{i k e:Nat}(D:BJ n S i k e){x:Nat}{v:α}(hk:S k=some (x,v))(hh:¬c_ n i k<=c_ n (home n x) k):BJ n S i (nx n k) e:=by
 have hn:0<n:=by have:=D.li;omega
 have Ek:k≠e:=λh=>by rw[h,D.AX]at hk;simp at hk
 have hxh:=lV hn x;have hik:=uN D.li D.lk D.ik;have h1:=D.li;have h2:=D.lk;have h3:=D.le;have h4:=D.Pk;have h5:=D.ie;have h6:=D.ik;have hnk:i≠nx n k:=by have:=dc n i k;have:=dc n k e;have:=dc n i e;have:=nc n k;omega
 have hw:c_ n i (nx n k)=c_ n i k+1:=by have:=dc n i k;have:=dc n k e;have:=dc n i e;have:=nc n k;have:=dc n i (nx n k);omega
 refine⟨D.li,lB D.lk,D.le,D.xL,D.AX,D.ie,hnk,?_,D.tI,?_⟩
 ·rw[hw];rw[jR D.lk D.le Ek]at h4;omega
 ·intro a y u ha h z hz hd;rcases D.path a y u ha h z hz hd with h'|⟨h',hle⟩
  ·exact .inl h'
  ·by_cases Pm:a=k
   ·exfalso;rw[Pm]at h hd;rw[hk]at h;simp at h;obtain⟨rfl,rfl⟩:=h;rw[h']at hd;apply hh;have:=dc n (home n x) i;have:=dc n (home n x) k;have:=dc n i k;omega
   ·right;refine⟨h',?_⟩;rw[hw];have:c_ n i a≠c_ n i k:=λe'=>Pm (yY ha D.lk D.li e');omega
def BJ.done{n:Nat}{S:Tb α}{i k e:Nat}(D:BJ n S i k e)(hk:S k=none):Inv n S:=by
 have hn:0<n:=by have:=D.li;omega
 refine⟨λa y u ha h z hz hd=>?_,D.tI⟩;rcases D.path a y u ha h z hz hd with h'|⟨h',hle⟩
 ·exact h'
 ·exfalso;rw[h']at hd;have Pm:a≠k:=λe'=>by rw[e',hk]at h;simp at h
  have h1:=D.li;have h2:=D.lk;have h6:=D.ik;have hyh:=lV hn y;have:c_ n i a≠c_ n i k:=λe'=>Pm (yY ha D.lk D.li e');have be:c_ n (home n y) k<c_ n (home n y) a:=by have:=dc n (home n y) i;have:=dc n (home n y) k;have:=dc n (home n y) a;have:=dc n i k;have:=dc n i a;omega
  rcases D.path a y u ha h k D.lk be with h''|⟨h'',_⟩
  ·exact h'' hk
  ·exact h6 h''.symm
def Il{n:Nat}:∀f (S:Tb α) i k e,BJ n S i k e->c_ n k e<=f->Inv n (iB n f S i k)/\iB n f S i k e=none:=by
 intro f
 induction f with
 |zero=>
  intro S i k e D hd;have:k=e:=by have:=D.lk;have:=D.le;unfold c_ at hd;split at hd<;>omega
  subst this;exact⟨D.done D.AX,D.AX⟩
 |succ f ih=>
  intro S i k e D hd;unfold iB;cases hk:S k with
  |none=>exact⟨D.done hk,D.AX⟩
  |some x=>
   obtain⟨y,v⟩:=x;have Ek:k≠e:=λh=>by rw[h,D.AX]at hk;simp at hk
   have sQ:c_ n (nx n k) e<=f:=by rw[jR D.lk D.le Ek]at hd;omega
   simp only[];split
   ·next h=>have:=ih _ _ _ e (D.move hk h) sQ;rw[hk]at this;exact this
   ·next h=>exact ih _ _ _ e (D.stay hk h) sQ
def Im{n:Nat}{S:Tb α}(a0d:Inv n S){p e:Nat}(hp:p<n)(he:e<n)(hs:S e=none)(SX:p≠e):Inv n (mK n S p)/\mK n S p e=none:=
 Il n _ _ _ e (BJ.start a0d hp he hs SX) (Nat.le_of_lt (uM (lB hp) he))
def Io{n:Nat}:∀f (S:Tb α) i k e,BJ n S i k e->c_ n k e<=f->∀x:Nat×α,(∃p,p<n/\iB n f S i k p=some x)↔(∃p,p<n/\S p=some x):=by
 intro f
 induction f with
 |zero=>intro S i k e D hd x;exact Iff.rfl
 |succ f ih=>
  intro S i k e D hd x;unfold iB;cases hk:S k with
  |none=>exact Iff.rfl
  |some y=>
   obtain⟨y,v⟩:=y;have Ek:k≠e:=λh=>by rw[h,D.AX]at hk;simp at hk
   have sQ:c_ n (nx n k) e<=f:=by rw[jR D.lk D.le Ek]at hd;omega
   simp only[];split
   ·next h=>
    have:=ih _ _ _ e (D.move hk h) sQ x;rw[hk]at this;rw[this];constructor
    ·rintro⟨p,hp,h1⟩;unfold aS at h1;split at h1
     ·simp at h1
     ·split at h1
      ·exact⟨k,D.lk,by rw[hk];exact h1⟩
      ·exact⟨p,hp,h1⟩
    ·rintro⟨p,hp,h1⟩;by_cases ZA:p=k
     ·refine⟨i,D.li,?_⟩;rw[an _ _ D.ik,aw,<-hk,<-ZA];exact h1
     ·have hpi:p≠i:=λe'=>by rw[e',D.xL]at h1;simp at h1
      exact⟨p,hp,by rw[an _ _ ZA,an _ _ hpi];exact h1⟩
   ·next h=>exact ih _ _ _ e (D.stay hk h) sQ x
def dz:Nat->Tb α->Nat
 |0,_=>0
 |n+1,S=>dz n S+(if(S n).isSome then 1 else 0)
def Mh{n:Nat}{S S':Tb α}(h:∀i,i<n->(S i).isSome=(S' i).isSome):dz n S=dz n S':=by
 induction n with
 |zero=>rfl
 |succ n ih=>unfold dz;rw[ih (λi hi=>h i G),h n G]
def Pn(n:Nat):dz n (λ_=>none:Tb α)=0:=by
 induction n with
 |zero=>rfl
 |succ n ih=>unfold dz;simp[ih]
def yh{n p:Nat}(S:Tb α)(x:Option (Nat×α))(h:p<n):dz n (aS S p x)+(if(S p).isSome then 1 else 0)=dz n S+(if x.isSome then 1 else 0):=by
 induction n with
 |zero=>omega
 |succ n ih=>
  unfold dz;by_cases hp:p=n
  ·rw[hp,aw];have:dz n (aS S n x)=dz n S:=Mh λi hi=>by rw[an _ _ G]
   rw[this];omega
  ·rw[an _ _ (λe=>hp e.symm)];have:=ih G;omega
def CU{n:Nat}{S:Tb α}(h:dz n S<n):∃e,e<n/\S e=none:=by
 induction n with
 |zero=>omega
 |succ n ih=>
  unfold dz at h;cases hs:S n with
  |none=>exact⟨n,G,hs⟩
  |some x=>rw[hs]at h;simp at h;obtain⟨e,h1,h2⟩:=ih G;exact⟨e,G,h2⟩
def Po{n i k:Nat}{S:Tb α}(hi:i<n)(hk:k<n)(hik:i≠k)(h0:S i=none)(h1:S k≠none):dz n (aS (aS S i (S k)) k none)=dz n S:=by
 have a:=yh (aS S i (S k)) none hk;have b:=yh S (S k) hi;rw[an _ _ (λe=>hik e.symm)]at a;rw[h0]at b;have:(S k).isSome=true:=by cases h:S k with|none=>exact absurd h h1|some _=>rfl
 simp[this]at a b;omega
def Ip{n:Nat}:∀f (S:Tb α) i k e,BJ n S i k e->c_ n k e<=f->dz n (iB n f S i k)=dz n S:=by
 intro f
 induction f with
 |zero=>intro S i k e D hd;rfl
 |succ f ih=>
  intro S i k e D hd;unfold iB;cases hk:S k with
  |none=>rfl
  |some x=>
   obtain⟨y,v⟩:=x;have Ek:k≠e:=λh=>by rw[h,D.AX]at hk;simp at hk
   have sQ:c_ n (nx n k) e<=f:=by rw[jR D.lk D.le Ek]at hd;omega
   simp only[];split
   ·next h=>have a:=ih _ _ _ e (D.move hk h) sQ;rw[hk]at a;rw[a,<-hk];exact Po D.li D.lk D.ik D.xL (by rw[hk];simp)
   ·next h=>exact ih _ _ _ e (D.stay hk h) sQ
def Iq{n:Nat}{S:Tb α}(a0d:Inv n S){p e:Nat}(hp:p<n)(he:e<n)(hs:S e=none)(ht:S p≠none):dz n (mK n S p)+1=dz n S:=by
 have SX:p≠e:=λh=>ht (by rw[h];exact hs);have a:=Ip n _ _ _ e (BJ.start a0d hp he hs SX) (Nat.le_of_lt (uM (lB hp) he));have b:=yh S none hp;have:(S p).isSome=true:=by cases h:S p with|none=>exact absurd h ht|some _=>rfl
 simp[this]at b;unfold mK;omega
def AY{n:Nat}{S:Tb α}{key:Nat}{v:α}(hn:0<n)(h:S (find n S key)=none):dz n (putAt n S key v)=dz n S+1:=by have b:=yh S (some (key,v)) (kG hn S key);rw[h]at b;simpa[putAt]using b
end
end al
section
def G7{p:Prop}(h:p:=by
 go_ret;exact⟨rfl,rfl⟩):p:=h
abbrev Y(x:Int):Go.Value:= .int .i64 x
abbrev I(b o:Nat):Go.Addr:=⟨b,o,Xb⟩
abbrev Oi(b:Nat):Go.Value:= .pointer (O ⟨b,0,Xb⟩)
abbrev Xd:Go.Value:=H Xb 0 0
def Go.RowKit.Hid.o{p:Prop}(h:Hid p):p:=h
def bj{p:Prop}(h:p:=by kernel_rfl):p:=h
namespace al
open Go Go.RowKit
def Z{p:Prop}(h:p):Hid p:=h
structure aC(S:List Nat)(w w':ek):Prop where
 os:w'.os=w.os
 tape:w'.tape=w.tape
 output:w'.output=w.output
 size:w.heap.size<=w'.heap.size
 block:∀k,k<w.heap.size->k∉S->w'.heap[k]? =w.heap[k]?
def aC.refl(S:List Nat)(w:ek):aC S w w:=⟨rfl,rfl,rfl,Nat.le_refl _,λ_ _ _=>rfl⟩
def aC.trans{S:List Nat}{a b c:ek}(h:aC S a b)(k:aC S b c):aC S a c:=
 ⟨k.os.trans h.os,k.tape.trans h.tape,k.output.trans h.output,Nat.le_trans h.size k.size,λi hi hs=>(k.block i (dC hi h.size) hs).trans (h.block i hi hs)⟩
def aC.mono{S T:List Nat}{a b:ek}(h:aC S a b)(hs:∀k,k∈S->k∈T):aC T a b:=
 ⟨h.os,h.tape,h.output,h.size,λi hi ht=>h.block i hi λh'=>ht (hs i h')⟩
def aC.drewN{S:List Nat}{a b:ek}(h:aC S a b)(n:Nat):aC S a (b.drewN n):=⟨h.os,h.tape,h.output,h.size,h.block⟩
def aC.drew{S:List Nat}{a b:ek}(h:aC S a b):aC S a b.drew:=⟨h.os,h.tape,h.output,h.size,h.block⟩
def aC.alloc{S:List Nat}{a b:ek}(h:aC S a b)(o:Obj):aC S a (b.alloc o):=
 h.trans ⟨rfl,rfl,rfl,az,λk hk _=>Below.heap_alloc _ _ _ hk⟩
def aC.setCell{S:List Nat}{a b:ek}(h:aC S a b){p:Addr}(hp:p.block∈S)(v:to):aC S a (b.setCell p v):=
 h.trans ⟨rfl,rfl,rfl,by simp[World.setCell],λk _ hs=>EZ _ _ _ _ (λe=>hs (e▸hp))⟩
def aC.tP{S:List Nat}{a b:ek}(h:aC S a b){p:Addr}(hp:a.heap.size<=p.block)(v:to):aC S a (b.setCell p v):=
 ⟨h.os,h.tape,h.output,by simpa[World.setCell]using h.size,λk hk hs=>(EZ _ _ _ _ G).trans (h.block k hk hs)⟩
def aC.below{S:List Nat}{a b:ek}(h:aC S a b){B:Nat}(hB:B<=a.heap.size)(hs:∀k,k∈S->B<=k):Below B a b:=
 ⟨h.os,h.tape,h.output,h.size,λk hk=>h.block k G λh'=>by have:=hs k h';omega⟩
def aC.ai{S:List Nat}{a b:ek}(h:Below a.heap.size a b):aC S a b:=⟨h.os,h.tape,h.output,h.size,λk hk _=>h.block k hk⟩
def aC.Pp{S T:List Nat}{a b:ek}(h:aC S a b)(hs:∀k,k∈S->k∈T\/a.heap.size<=k):aC T a b:=
 ⟨h.os,h.tape,h.output,h.size,λi hi ht=>h.block i hi λh'=>by rcases hs i h' with h''|h'';exact ht h'';omega⟩
def ay{w:ek}{b o:Nat}{v:to}(h:Xf w (I b o)=O v):b<w.heap.size:=by
 unfold World.cell? at h;split at h
 ·next h'=>exact(Array.getElem?_eq_some_iff.1 h').1
 ·simp at h
def iX{w:ek}{b o:Nat}{v u:to}(h:Xf w (I b o)=O u):(w.setCell (I b o) v).cell? (I b o)=O v:=World.cell?_setCell_same' _ _ _ (by rw[h];rfl)
def bi{w:ek}{b o c p:Nat}{v:to}(h:c≠b):(w.setCell (I b o) v).cell? (I c p)=Xf w (I c p):=by simp only[World.cell?];rw[EZ _ _ _ _ h]
def bu{w:ek}{b o c p:Nat}{v:to}(h:p≠o):(w.setCell (I b o) v).cell? (I c p)=Xf w (I c p):=by
 by_cases hc:c=b
 ·subst hc;simp only[World.cell?,World.setCell,Array.getElem?_modify];cases w.heap[c]? with
  |none=>simp
  |some x=>cases x<;>simp[Array.getElem?_setIfInBounds];intro e;exact absurd e.symm h
 ·exact bi hc
structure eD(w:ek)(b s aI count n:Nat)(D:Nat->Bool×Nat×to):Prop where
 ne:b≠s
 c0:Xf w (I b 0)=O (Y aI)
 c1:Xf w (I b 1)=O (Y count)
 c2:∃cp,Xf w (I b 2)=O (H (O (I s 0)) n cp)
 fb:∀o,w.frozen? (I b o)=false
 fs:∀o,w.frozen? (I s o)=false
 pos:0<n
 k0:∀i,i<n->Xf w (I s (i*3))=O (.bool (D i).1)
 k1:∀i,i<n->Xf w (I s (i*3+1))=O (.int .u64 (D i).2.1)
 k2:∀i,i<n->Xf w (I s (i*3+2))=O (D i).2.2
def eD.lb{w:ek}{b s aI count n:Nat}{D:Nat->Bool×Nat×to}(h:eD w b s aI count n D):b<w.heap.size:=ay h.c0
def eD.ls{w:ek}{b s aI count n:Nat}{D:Nat->Bool×Nat×to}(h:eD w b s aI count n D):s<w.heap.size:=ay (h.k0 0 h.pos)
def eD.kj{w w':ek}{b s aI count n:Nat}{D:Nat->Bool×Nat×to}(h:eD w b s aI count n D)(X:w'.heap[b]? =w.heap[b]?)(hs:w'.heap[s]? =w.heap[s]?):eD w' b s aI count n D:=by
 have cb:∀o,Xf w' (I b o)=Xf w (I b o):=λo=>aR X;have cs:∀o,Xf w' (I s o)=Xf w (I s o):=λo=>aR hs;have gb:∀o,w'.frozen? (I b o)=w.frozen? (I b o):=λo=>World.frozen?_of_block X;have gs:∀o,w'.frozen? (I s o)=w.frozen? (I s o):=λo=>World.frozen?_of_block hs;exact⟨h.ne,by rw[cb];exact h.c0,by rw[cb];exact h.c1,by rw[cb];exact h.c2,λo=>by rw[gb];exact h.fb o,λo=>by rw[gs];exact h.fs o,h.pos,
  λi hi=>by rw[cs];exact h.k0 i hi,λi hi=>by rw[cs];exact h.k1 i hi,λi hi=>by rw[cs];exact h.k2 i hi⟩
def eD.aG{S:List Nat}{w w':ek}{b s aI count n:Nat}{D:Nat->Bool×Nat×to}(h:eD w b s aI count n D)(f:aC S w w')(X:b∉S)(hs:s∉S):eD w' b s aI count n D:=
 h.kj (f.block b h.lb X) (f.block s h.ls hs)
def eD.drewN{w:ek}{b s aI count n:Nat}{D:Nat->Bool×Nat×to}(h:eD w b s aI count n D)(m:Nat):eD (w.drewN m) b s aI count n D:=h.kj rfl rfl
def eD.E0{w:ek}{b s aI count n:Nat}{D:Nat->Bool×Nat×to}(h:eD w b s aI count n D)(c:Nat):eD (w.setCell (I b 1) (Y c)) b s aI c n D:=by
 have e:∀o,(w.setCell (I b 1) (Y c)).cell? (I s o)=Xf w (I s o):=λo=>bi (λe=>h.ne e.symm);exact⟨h.ne,by rw[bu bz];exact h.c0,iX h.c1,by rw[bu bz];exact h.c2,
  λo=>by rw[World.frozen?_setCell];exact h.fb o,λo=>by rw[World.frozen?_setCell];exact h.fs o,h.pos,
  λi hi=>by rw[e];exact h.k0 i hi,λi hi=>by rw[e];exact h.k1 i hi,λi hi=>by rw[e];exact h.k2 i hi⟩
def eD.qz{w:ek}{b s aI count n:Nat}{D:Nat->Bool×Nat×to}(h:eD w b s aI count n D){i:Nat}(hi:i<n)(t:Bool)(k:Nat)(v:to):
 eD (((w.setCell (I s (i*3)) (.bool t)).setCell (I s (i*3+1)) (.int .u64 k)).setCell (I s (i*3+2)) v) b s aI count n (aS D i (t,k,v)):=by
 have eb:∀o,(((w.setCell (I s (i*3)) (.bool t)).setCell (I s (i*3+1)) (.int .u64 k)).setCell (I s (i*3+2)) v).cell? (I b o)=Xf w (I b o):=λo=>by rw[bi h.ne,bi h.ne,bi h.ne]
 refine⟨h.ne,by rw[eb];exact h.c0,by rw[eb];exact h.c1,by rw[eb];exact h.c2,λo=>?_,λo=>?_,h.pos,λj hj=>?_,λj hj=>?_,λj hj=>?_⟩
 ·rw[World.frozen?_setCell,World.frozen?_setCell,World.frozen?_setCell];exact h.fb o
 ·rw[World.frozen?_setCell,World.frozen?_setCell,World.frozen?_setCell];exact h.fs o
 ·by_cases e:j=i
  ·subst e;rw[aw,bu G,bu G];exact iX (h.k0 j hj)
  ·rw[an _ _ e,bu G,bu G,bu G];exact h.k0 j hj
 ·by_cases e:j=i
  ·subst e;rw[aw,bu G];exact iX (u:= .int .u64 (D j).2.1) (by rw[bu G];exact h.k1 j hj)
  ·rw[an _ _ e,bu G,bu G,bu G];exact h.k1 j hj
 ·by_cases e:j=i
  ·subst e;rw[aw];exact iX (u:=(D j).2.2) (by rw[bu G,bu G];exact h.k2 j hj)
  ·rw[an _ _ e,bu G,bu G,bu G];exact h.k2 j hj
def aC.qz{S:List Nat}{a w:ek}{s i:Nat}(f:aC S a w)(hs:s∈S)(t k v:to):
 aC S a (((w.setCell (I s (i*3)) t).setCell (I s (i*3+1)) k).setCell (I s (i*3+2)) v):=
 ((f.setCell hs _).setCell hs _).setCell hs _
def eh(z:to)(S:Tb to)(i:Nat):Bool×Nat×to:=match S i with|none=>(false,0,z)|some (k,v)=>(true,k,v)
def Pq(z:to)(S:Tb to)(i:Nat)(x:Option (Nat×to)):eh z (aS S i x)=aS (eh z S) i (match x with|none=>(false,0,z)|some (k,v)=>(true,k,v)):=by
 funext j;by_cases h:j=i
 ·subst h;rw[aw];unfold eh;rw[aw]
 ·rw[an _ _ h];unfold eh;rw[an _ _ h]
structure BK(n e:Nat):Prop where
 n:n=2 ^ e
 le:1<=e
 ge:e<=40
def BK.pos{n e:Nat}(g:BK n e):0<n:=by rw[g.n];exact Nat.two_pow_pos e
def BK.small{n e:Nat}(g:BK n e):n<=1099511627776:=by rw[g.n];exact Nat.pow_le_pow_right bz g.ge
def Ir:∀e,e<=40->Lib.bitLen (2 ^ e)=e+1:=by
 intro e he;have:∀f:Fin 41,Lib.bitLen (2 ^ f.val)=f.val+1:=by decide+kernel
 exact this ⟨e,G⟩
def Is{n e:Nat}(g:BK n e)(key:Nat):key*CR % wX / 2 ^ (64-e)=home n key:=by
 unfold home;have h2:wX=2 ^ (64-e)*n:=by rw[g.n,<-Nat.pow_add,show 64-e+e=64 from by have:=g.ge;omega];rfl
 generalize key*CR % wX=x;rw[h2,Nat.mul_div_mul_right _ _ g.pos]
def Kq(x:Int){n e:Nat}(g:BK n e):bits .and .i64 x ((n:Int) - 1)=x % (n:Int):=by
 have uy:(BitVec.ofInt 64 ((n:Int) - 1)).toNat=2 ^ e-1:=by
  have hs:=g.small;have hp:=g.pos;rw[BitVec.toNat_ofInt,<-g.n];have hc:((2 ^ 64:Nat):Int)=18446744073709551616:=by decide
  have:((n:Int) - 1) % ((2 ^ 64:Nat):Int)=(n:Int) - 1:=by rw[hc];exact Int.emod_eq_of_lt G G
  rw[this];omega
 have key:(BitVec.ofInt 64 x&&& BitVec.ofInt 64 ((n:Int) - 1)).toNat=(x % ((2 ^ 64:Nat):Int)).toNat % 2 ^ e:=by rw[BitVec.toNat_and,BitVec.toNat_ofInt,uy,Nat.and_two_pow_sub_one_eq_mod]
 show IntKind.i64.wrap ((BitVec.ofInt 64 x&&& BitVec.ofInt 64 ((n:Int) - 1)).toNat:Nat)=x % (n:Int);rw[key,IntKind.wrap_i64,<-g.n];have hs:=g.small;have hp:=g.pos;have hd:((n:Int))∣((2 ^ 64:Nat):Int):=by refine Int.natCast_dvd_natCast.2 ?_;rw[g.n];exact Nat.pow_dvd_pow 2 (by have:=g.ge;omega)
 have h1:((x % ((2 ^ 64:Nat):Int)).toNat % n:Nat)=(x % (n:Int)):=by rw[Int.natCast_emod,Int.toNat_of_nonneg (Int.emod_nonneg _ bz),Int.emod_emod_of_dvd _ hd]
 rw[h1];have h2:=Int.emod_nonneg x (b:=(n:Int)) G;have h3:=Int.emod_lt_of_pos x (b:=(n:Int)) G;omega
def E1{n e:Nat}(g:BK n e){a b:Nat}(ha:a<n)(X:b<n):bits .and .i64 ((b:Int) - (a:Int)) ((n:Int) - 1)=((c_ n a b:Nat):Int):=by
 rw[Kq _ g];have hp:=g.pos;rcases dc n a b with⟨h1,h2⟩|⟨h1,h2⟩
 ·rw[h2,Int.emod_eq_of_lt G G];omega
 ·rw[h2];have:((b:Int) - a) % n=((b:Int) - a+n) % n:=by simp
  rw[this,Int.emod_eq_of_lt G G];omega
def ZC{n e:Nat}(g:BK n e){i:Nat}(hi:i<n):bits .and .i64 ((i:Int)+1) ((n:Int) - 1)=((nx n i:Nat):Int):=by rw[Kq _ g,<-Zz hi];rfl
structure Fit(aI n e:Nat):Prop where
 ZD:BK n e
 ge:2*aI<=n
 lt:n=2\/n<4*aI
def jS(x y z:to)(n i:Nat)(hi:i<n):(madeCells #[x,y,z] (n*3))[i*3]? =O x/\(madeCells #[x,y,z] (n*3))[i*3+1]? =O y/\(madeCells #[x,y,z] (n*3))[i*3+2]? =O z:=by
 unfold madeCells;have h0:(i*3) % 3=0:=G;have h1:(i*3+1) % 3=1:=G;have h2:(i*3+2) % 3=2:=G;refine⟨?_,?_,?_⟩
 ·rw[Array.getElem?_map,Array.getElem?_range];simp[h0,show i*3<n*3 from by omega]
 ·rw[Array.getElem?_map,Array.getElem?_range];simp[h1,show i*3+1<n*3 from by omega]
 ·rw[Array.getElem?_map,Array.getElem?_range];simp[h2,show i*3+2<n*3 from by omega]
def aO(w:ek)(o:Obj):(w.alloc o).heap.size=w.heap.size+1:=by simp
def uO(w:ek)(o:Obj):(w.alloc o).heap[w.heap.size]? =O o:=by show(w.heap.push o)[w.heap.size]? =_;simp
def eV{w:ek}{b:Nat}{c:Array to}{t:TypeId}{z:Nat×Nat}(h:w.heap[b]? =O (Xe c t z))(o:Nat):Xf w (I b o)=c[o]? :=by simp[World.cell?,h]
def jT{w:ek}{b:Nat}{c:Array to}{t:TypeId}(h:w.heap[b]? =O (Xe c t (0,0)))(o:Nat):w.frozen? (I b o)=false:=by simp[World.frozen?,h]
def eD.made{w:ek}{b s aI n:Nat}{z:to}{t u:TypeId}(hbs:b≠s)(hn:0<n)(X:w.heap[b]? =O (Xe #[Y aI,Y 0,H (O (I s 0)) n n] t))
 (hs:w.heap[s]? =O (Xe (madeCells #[.bool false,.int .u64 0,z] (n*3)) u)):eD w b s aI 0 n (eh z λ_=>Xb):=by
 refine⟨hbs,?_,?_,?_,λo=>jT X o,λo=>jT hs o,hn,λi hi=>?_,λi hi=>?_,λi hi=>?_⟩
 ·rw[eV X];rfl
 ·rw[eV X];rfl
 ·exact⟨n,by rw[eV X];rfl⟩
 ·rw[eV hs];exact(jS _ _ _ n i hi).1
 ·rw[eV hs];exact(jS _ _ _ n i hi).2.1
 ·rw[eV hs];exact(jS _ _ _ n i hi).2.2
def It{P:Program}{f:FuncId}{args:Array to}{w:ek}{v:to}{n:Nat}(h:Calls P f args (w.drewN n) λe w'=>e=Xc v/\∃m,w'=(w.drewN n).drewN m):
 Calls P f args (w.drewN n) λe w''=>e=Xc v/\∃m,w''=w.drewN m:=h.mono λe w' ⟨a,m,b⟩=>⟨a,n+m,by rw[b,wZ]⟩
def aA(B:Nat)(w:ek)(n:Nat):Below B w (w.drewN n):=⟨rfl,rfl,rfl,Nat.le_refl _,λ_ _=>rfl⟩
end al
end
namespace al.Vm
open Go Go.RowKit
def rp{A:Array to}{D:List Deferred}{g:(Nat->to)->Act}(h:({tmps:=A,defers:=D}:Act)=g λi=>A.getD i undef):∃J,({tmps:=A,defers:=D}:Act)=g J:=⟨_,h⟩
def fL{p q:Prop}(hq:q)(h:q->p:=by
 intro hq
 (try simp only[List.getElem_toArray,List.getElem_cons_zero,List.getElem_cons_succ])
 exact hq):p:=h hq
def qZ{p:Prop}(h:p:=by
 (try simp only[List.getElem_toArray,List.getElem_cons_zero,List.getElem_cons_succ])
 first|(go_simp;done)|(go_simp;with_reducible rfl)):p:=h
def rH(w:ek)(cs:Array to)(T:TypeId):Below w.heap.size w (w.alloc (Xe cs T)):=(aZ _ _).alloc (Nat.le_refl _) _
def Mi(w:ek)(cs:Array to)(T:TypeId)(w_:Array to)(T2:TypeId):Below w.heap.size w ((w.alloc (Xe cs T)).alloc (Xe w_ T2)):=((aZ _ _).alloc (Nat.le_refl _) _).alloc az _
def mr(i:Nat)(h:i<4611686018427387904):IntKind.i64.wrap ((i:Int)+1)=((i+1:Nat):Int):=by rw[bJ _ kS];omega
def aH(w:ek)(b:Nat)(T:TypeId)(cs:Array to):Prop:=w.heap[b]? =O (Xe cs T (0,0))
def qA(w:ek)(b o:Nat)(v:to)(k:Nat):(w.setCell ⟨b,o,Xb⟩ v).heap[k]? =if k=b then(w.heap[k]?).map (λx=>match x with| .cells cs t z=> Xe (cs.setIfInBounds o v) t z|y=>y)else w.heap[k]? :=by
 by_cases h:k=b
 ·subst h;rw[if_pos rfl];simp only[World.setCell,Array.getElem?_modify,if_pos];cases w.heap[k]? with
  |none=>rfl
  |some x=>cases x<;>rfl
 ·rw[if_neg h];exact EZ _ _ _ _ h
section
variable {w w':ek}{b c o:Nat}{T U:TypeId}{cs ds:Array to}{v:to}
def aH.lt(h:aH w b T cs):b<w.heap.size:=(Array.getElem?_eq_some_iff.1 h).1
def aH.cell(h:aH w b T cs)(o:Nat):Xf w (I b o)=cs[o]? :=eV h o
def aH.c1{l:List to}{x0:to}(h:aH w b T (x0::l).toArray):Xf w (I b 0)=O x0:=h.cell 0
def aH.c2{l:List to}{x0 x1:to}(h:aH w b T (x0::x1::l).toArray):Xf w (I b 0)=O x0/\Xf w (I b 1)=O x1:=⟨h.cell 0,h.cell 1⟩
def aH.c3{l:List to}{x0 x1 x2:to}(h:aH w b T (x0::x1::x2::l).toArray):Xf w (I b 0)=O x0/\Xf w (I b 1)=O x1/\Xf w (I b 2)=O x2:=⟨h.cell 0,h.cell 1,h.cell 2⟩
def aH.c4{l:List to}{x0 x1 x2 x3:to}(h:aH w b T (x0::x1::x2::x3::l).toArray):Xf w (I b 0)=O x0/\Xf w (I b 1)=O x1/\Xf w (I b 2)=O x2/\Xf w (I b 3)=O x3:=⟨h.cell 0,h.cell 1,h.cell 2,h.cell 3⟩
def aH.c5{l:List to}{x0 x1 x2 x3 x4:to}(h:aH w b T (x0::x1::x2::x3::x4::l).toArray):Xf w (I b 0)=O x0/\Xf w (I b 1)=O x1/\Xf w (I b 2)=O x2/\Xf w (I b 3)=O x3/\Xf w (I b 4)=O x4:=⟨h.cell 0,h.cell 1,h.cell 2,h.cell 3,h.cell 4⟩
def aH.c6{l:List to}{x0 x1 x2 x3 x4 x5:to}(h:aH w b T (x0::x1::x2::x3::x4::x5::l).toArray):Xf w (I b 0)=O x0/\Xf w (I b 1)=O x1/\Xf w (I b 2)=O x2/\Xf w (I b 3)=O x3/\Xf w (I b 4)=O x4/\Xf w (I b 5)=O x5:=⟨h.cell 0,h.cell 1,h.cell 2,h.cell 3,h.cell 4,h.cell 5⟩
def aH.c7{l:List to}{x0 x1 x2 x3 x4 x5 x6:to}(h:aH w b T (x0::x1::x2::x3::x4::x5::x6::l).toArray):Xf w (I b 0)=O x0/\Xf w (I b 1)=O x1/\Xf w (I b 2)=O x2/\Xf w (I b 3)=O x3/\Xf w (I b 4)=O x4/\Xf w (I b 5)=O x5/\Xf w (I b 6)=O x6:=⟨h.cell 0,h.cell 1,h.cell 2,h.cell 3,h.cell 4,h.cell 5,h.cell 6⟩
def aH.c8{l:List to}{x0 x1 x2 x3 x4 x5 x6 x7:to}(h:aH w b T (x0::x1::x2::x3::x4::x5::x6::x7::l).toArray):Xf w (I b 0)=O x0/\Xf w (I b 1)=O x1/\Xf w (I b 2)=O x2/\Xf w (I b 3)=O x3/\Xf w (I b 4)=O x4/\Xf w (I b 5)=O x5/\Xf w (I b 6)=O x6/\Xf w (I b 7)=O x7:=⟨h.cell 0,h.cell 1,h.cell 2,h.cell 3,h.cell 4,h.cell 5,h.cell 6,h.cell 7⟩
def aH.c9{l:List to}{x0 x1 x2 x3 x4 x5 x6 x7 x8:to}(h:aH w b T (x0::x1::x2::x3::x4::x5::x6::x7::x8::l).toArray):Xf w (I b 0)=O x0/\Xf w (I b 1)=O x1/\Xf w (I b 2)=O x2/\Xf w (I b 3)=O x3/\Xf w (I b 4)=O x4/\Xf w (I b 5)=O x5/\Xf w (I b 6)=O x6/\Xf w (I b 7)=O x7/\Xf w (I b 8)=O x8:=⟨h.cell 0,h.cell 1,h.cell 2,h.cell 3,h.cell 4,h.cell 5,h.cell 6,h.cell 7,h.cell 8⟩
def aH.sB{l:List to}{x0 x1 x2 x3 x4 x5 x6 x7 x8 x9 Mj TL TM:to}(h:aH w b T (x0::x1::x2::x3::x4::x5::x6::x7::x8::x9::Mj::TL::TM::l).toArray):Xf w (I b 0)=O x0/\Xf w (I b 1)=O x1/\Xf w (I b 2)=O x2/\Xf w (I b 3)=O x3/\Xf w (I b 4)=O x4/\Xf w (I b 5)=O x5/\Xf w (I b 6)=O x6/\Xf w (I b 7)=O x7/\Xf w (I b 8)=O x8/\Xf w (I b 9)=O x9/\Xf w (I b 10)=O Mj/\Xf w (I b 11)=O TL/\Xf w (I b 12)=O TM:=⟨h.cell 0,h.cell 1,h.cell 2,h.cell 3,h.cell 4,h.cell 5,h.cell 6,h.cell 7,h.cell 8,h.cell 9,h.cell 10,h.cell 11,h.cell 12⟩
def aH.c14{l:List to}{x0 x1 x2 x3 x4 x5 x6 x7 x8 x9 Mj TL TM x13:to}(h:aH w b T (x0::x1::x2::x3::x4::x5::x6::x7::x8::x9::Mj::TL::TM::x13::l).toArray):Xf w (I b 0)=O x0/\Xf w (I b 1)=O x1/\Xf w (I b 2)=O x2/\Xf w (I b 3)=O x3/\Xf w (I b 4)=O x4/\Xf w (I b 5)=O x5/\Xf w (I b 6)=O x6/\Xf w (I b 7)=O x7/\Xf w (I b 8)=O x8/\Xf w (I b 9)=O x9/\Xf w (I b 10)=O Mj/\Xf w (I b 11)=O TL/\Xf w (I b 12)=O TM/\Xf w (I b 13)=O x13:=⟨h.cell 0,h.cell 1,h.cell 2,h.cell 3,h.cell 4,h.cell 5,h.cell 6,h.cell 7,h.cell 8,h.cell 9,h.cell 10,h.cell 11,h.cell 12,h.cell 13⟩
def aH.frozen(h:aH w b T cs)(o:Nat):w.frozen? (I b o)=false:=jT h o
def aH.set(h:aH w b T cs)(o:Nat)(v:to):aH (w.setCell (I b o) v) b T (cs.setIfInBounds o v):=by unfold aH at h ⊢;rw[qA,if_pos rfl,h];rfl
def aH.other(h:aH w b T cs)(hc:b≠c)(o:Nat)(v:to):aH (w.setCell (I c o) v) b T cs:=by unfold aH at h ⊢;rw[qA,if_neg hc];exact h
def aH.ne(h:aH w b T cs)(k:aH w c U ds)(ht:T≠U):b≠c:=by intro e;subst e;unfold aH at h k;rw[h]at k;simp at k;exact ht k.2
def aH.of(h:aH w b T cs)(X:w'.heap[b]? =w.heap[b]?):aH w' b T cs:=X.trans h
def aH.aG{S:List Nat}(h:aH w b T cs)(f:aC S w w')(X:b∉S):aH w' b T cs:=h.of (f.block b h.lt X)
def aH.drewN(h:aH w b T cs)(n:Nat):aH (w.drewN n) b T cs:=h
def aH.new(w:ek)(T:TypeId)(cs:Array to):aH (w.alloc (Xe cs T)) w.heap.size T cs:=uO w _
def aH.bK{w:ek}{b:Nat}{T:TypeId}{cs:Array to}(h:b=w.heap.size):aH (w.alloc (Xe cs T)) b T cs:=by subst h;exact aH.new w T cs
def aH.alloc(h:aH w b T cs)(x:Obj):aH (w.alloc x) b T cs:=h.of (Below.heap_alloc _ _ _ h.lt)
def aH.grown(h:aH w b T cs){row:Option Nat}(g:w.grownBy w' row)(hr:O b≠row):aH w' b T cs:=h.of (g.block b h.lt hr)
def fw(n:Nat)(g:Nat->to):List to:=(List.range n).map g
def gw(n:Nat)(g:Nat->to):(fw n g).length=n:=by simp[fw]
def oW{n o:Nat}(g:Nat->to)(h:o<n):(fw n g)[o]? =O (g o):=by simp[fw,h]
def sC(n m:Nat)(g:Nat->to):fw (n+m) g=fw n g++(List.range m).map λi=>g (n+i):=by unfold fw;rw[List.range_add,List.map_append,List.map_map];rfl
def qB{n:Nat}{f g:Nat->to}(h:∀o,o<n->f o=g o):fw n f=fw n g:=by unfold fw;exact List.map_congr_left λo ho=>h o (List.mem_range.1 ho)
def Row(w:ek)(e:TypeId)(size:Nat)(v:to)(n:Nat)(g:Nat->to):Prop:=w.ownsRow 0 e size v n (fw (n*size) g)
variable {e:TypeId}{size n:Nat}{g f:Nat->to}
def Row.nil(w:ek)(e:TypeId)(size:Nat)(g:Nat->to):Row w e size Xd 0 g:=⟨by simp[fw],.inl ⟨rfl,rfl⟩⟩
def Row.congr(h:Row w e size v n g)(hg:∀o,o<n*size->g o=f o):Row w e size v n f:=by unfold Row at h ⊢;rw[<-qB hg];exact h
def Row.val(h:Row w e size v n g):(v=Xd/\n=0)\/∃b cap,v=H (O (I b 0)) n cap/\n<=cap/\cap<=maxLen/\b<w.heap.size:=by
 rcases h.2 with h|⟨b,cap,BL,hv,_,X,h1,h2,_⟩
 ·exact .inl h
 ·exact .inr ⟨b,cap,hv,h1,h2,(Array.getElem?_eq_some_iff.1 X).1⟩
def Row.some(h:Row w e size v n g)(hn:0<n):∃b cap,v=H (.some (I b 0)) n cap/\n<=cap/\cap<=maxLen/\b<w.heap.size:=by
 rcases h.val with⟨_,h⟩|h
 ·omega
 ·exact h
def Row.slice{b m cap:Nat}(h:Row w e size (H (.some (I b 0)) m cap) n g):m=n/\n<=cap/\cap<=maxLen/\b<w.heap.size:=by
 rcases h.val with⟨h,_⟩|⟨b',pq,hv,h1,h2,h3⟩
 ·simp at h
 ·simp at hv;obtain⟨rfl,rfl,rfl⟩:=hv;exact⟨rfl,h1,h2,h3⟩
def Row.cell{b m cap:Nat}(h:Row w e size (H (.some (I b 0)) m cap) n g){o:Nat}(ho:o<n*size):Xf w (I b o)= .some (g o):=by have:=World.ownsRow.cells h (g:=b) rfl o (g o) (oW g ho);rwa[show((I b 0):Addr).add o=(I b o)by unfold Addr.add;split<;>simp_all]at this
def Row.dY{b m cap:Nat}(h:Row w e size (H (.some (I b 0)) m cap) n g):∃cs,aH w b e cs:=by
 rcases h.2 with⟨h,_⟩|⟨b',pq,BL,hv,_,X,_⟩
 ·simp at h
 ·simp at hv;obtain⟨rfl,_,_⟩:=hv;exact⟨BL,X⟩
def Row.frozen{b m cap:Nat}(h:Row w e size (H (.some (I b 0)) m cap) n g)(o:Nat):w.frozen? (I b o)=false:=by obtain⟨cs,X⟩:=h.dY;exact X.frozen o
def Row.of(h:Row w e size v n g)(X:∀b,v.ownBlock= .some b->w'.heap[b]? =w.heap[b]?):Row w' e size v n g:=by
 refine⟨h.1,?_⟩;rcases h.2 with h0|⟨b,cap,BL,rfl,h1,h2,h3⟩
 ·exact .inl h0
 ·exact .inr ⟨b,cap,BL,rfl,h1,(X b rfl).trans h2,h3⟩
def Row.aG{S:List Nat}(h:Row w e size v n g)(f:aC S w w')(X:∀b,v.ownBlock= .some b->b∉S):Row w' e size v n g:=
 h.of λb hv=>f.block b (gW h b hv).2 (X b hv)
def Row.drewN(h:Row w e size v n g)(k:Nat):Row (w.drewN k) e size v n g:=h.of λ_ _=>rfl
def Row.alloc(h:Row w e size v n g)(x:Obj):Row (w.alloc x) e size v n g:=World.ownsRow.alloc h x
def Row.grown(h:Row w e size v n g){row:Option Nat}(k:w.grownBy w' row)(bt:v.ownBlock=Xb\/v.ownBlock≠row):Row w' e size v n g:=World.ownsRow.kept h k bt
def Row.other(h:Row w e size v n g){c:Nat}(hc:v.ownBlock≠.some c)(o:Nat)(x:to):Row (w.setCell (I c o) x) e size v n g:=
 h.of λb X=>EZ _ _ _ _ (λe'=>hc (by rw[X,e']))
def Row.set{b m cap:Nat}(h:Row w e size (H (.some (I b 0)) m cap) n g){o:Nat}(ho:o<n*size)(x:to):Row (w.setCell (I b o) x) e size (H (.some (I b 0)) m cap) n (λi=>if i=o then x else g i):=by
 refine⟨by rw[gw],?_⟩;rcases h.2 with⟨h,_⟩|⟨b',pq,BL,hv,h1,X,h2,h3,h4,h5⟩
 ·simp at h
 ·simp at hv;obtain⟨rfl,rfl,rfl⟩:=hv;refine .inr ⟨b,cap,BL.setIfInBounds o x,rfl,h1,aH.set (T:=e) X o x,h2,h3,by simpa using h4,?_⟩;rw[Array.toList_setIfInBounds,List.take_set,h5];refine List.ext_getElem? λi=>?_;rw[List.getElem?_set];by_cases hi:i<m*size
  ·rw[oW _ hi];by_cases e':o=i
   ·subst e';rw[if_pos rfl,gw,if_pos hi,oW _ hi,if_pos rfl]
   ·rw[if_neg e',oW _ hi,if_neg (λe''=>e' e''.symm)]
  ·have a1:(fw (m*size) g)[i]? =Xb:=by simp[fw];omega
   have a2:(fw (m*size) (λi=>if i=o then x else g i))[i]? =Xb:=by simp[fw];omega
   rw[a1,a2];split
   ·rename_i e';subst e';omega
   ·rfl
def Row.less{b m cap k:Nat}(h:Row w e size (H (.some (I b 0)) m cap) n g)(hk:k<=n):Row w e size (H (.some (I b 0)) k cap) k g:=by
 refine⟨by rw[gw],?_⟩;rcases h.2 with⟨h,_⟩|⟨b',pq,BL,hv,h1,X,h2,h3,h4,h5⟩
 ·simp at h
 ·simp at hv;obtain⟨rfl,rfl,rfl⟩:=hv;refine .inr ⟨b,cap,BL,rfl,h1,X,G,h3,h4,?_⟩;have:=congrArg (List.take (k*size)) h5;rw[List.take_take,Nat.min_eq_left (Nat.mul_le_mul_right _ hk)]at this;rw[this];unfold fw;rw[<-List.map_take,List.take_range,Nat.min_eq_left (Nat.mul_le_mul_right _ hk)]
def Row.fx{b:Nat}{T:TypeId}{cs:Array to}(h:Row w e size v n g)(k:aH w b T cs)(ht:e≠T):v.ownBlock≠.some b:=by
 intro hv;rcases h.2 with⟨rfl,_⟩|⟨b',pq,BL,rfl,_,X,_⟩
 ·simp[Value.ownBlock]at hv
 ·simp[Value.ownBlock]at hv;subst hv;exact aH.ne (T:=e) X k ht rfl
def Row.ne{e':TypeId}{dj n':Nat}{v':to}{g':Nat->to}(h:Row w e size v n g)(k:Row w e' dj v' n' g')(ht:e≠e'):v.ownBlock=Xb\/v.ownBlock≠v'.ownBlock:=by
 rcases k.2 with⟨rfl,_⟩|⟨b',pq,BL,rfl,_,X,_⟩
 ·cases hv:v.ownBlock with
  |none=>exact .inl rfl
  |some x=>right;simp[Value.ownBlock]
 ·right;exact h.fx (T:=e') X ht
def Row.made{b cap:Nat}{cs:Array to}(h:aH w b e cs)(hs:cs.size=cap*size)(hm:cap<=maxLen)(hg:∀o,o<cap*size->cs[o]? = .some (g o)):Row w e size (H (.some (I b 0)) cap cap) cap g:=by
 refine⟨by rw[gw],.inr ⟨b,cap,cs,rfl,ck _,h,Nat.le_refl _,hm,hs,?_⟩⟩;refine List.ext_getElem? λi=>?_;by_cases hi:i<cap*size
 ·rw[oW _ hi,List.getElem?_take,if_pos hi,Array.getElem?_toList];exact hg i hi
 ·have a1:(fw (cap*size) g)[i]? =Xb:=by simp[fw];omega
  rw[a1,List.getElem?_take,if_neg hi]
def fp(R:Raw)(o:Nat):to:=
 if o % 8=0 then .int .u64 (R.val (o / 8)).key else if o % 8<5 then Y ((R.val (o / 8)).tg (o % 8-1))else if o % 8=5 then Y (R.own (o / 8))else Y (R.bY (o / 8) (o % 8-6))
def oX(R:Raw)(o:Nat):to:=if o % 3<2 then Y (R.ends (o / 3) (o % 3))else Y (R.dz (o / 3))
def BM(R:Raw)(n:Nat):fp R (n*8)= .int .u64 (R.val n).key:=by unfold fp;rw[aE G,show n*8 / 8=n by omega]
def km(R:Raw)(n:Nat){t:Nat}(ht:t<4):fp R (n*8+(1+t))=Y ((R.val n).tg t):=by unfold fp;rw[ax G,aE G,show(n*8+(1+t)) / 8=n by omega,show(n*8+(1+t)) % 8-1=t by omega]
def vV(R:Raw)(n:Nat):fp R (n*8+5)=Y (R.own n):=by unfold fp;rw[ax G,ax G,aE G,show(n*8+5) / 8=n by omega]
def BN(R:Raw)(n:Nat){e:Nat}(he:e<=1):fp R (n*8+(6+e))=Y (R.bY n e):=by unfold fp;rw[ax G,ax G,ax G,show(n*8+(6+e)) / 8=n by omega,show(n*8+(6+e)) % 8-6=e by omega]
def yZ(R:Raw)(q:Nat){e:Nat}(he:e<=1):oX R (q*3+e)=Y (R.ends q e):=by unfold oX;rw[aE G,show(q*3+e) / 3=q by omega,show(q*3+e) % 3=e by omega]
def BO(R:Raw)(q:Nat):oX R (q*3+2)=Y (R.dz q):=by unfold oX;rw[ax G,show(q*3+2) / 3=q by omega]
def CW(R:Raw)(n:Nat){e:Nat}(he:e<=1)(v:Int):(λo=>if o=n*8+(6+e)then Y v else fp R o)=fp {R with bY:=dq R.bY n e v}:=by
 funext o;unfold fp;by_cases h:o=n*8+(6+e)
 ·rw[aE h,h,ax G,ax G,ax G,show(n*8+(6+e)) / 8=n by omega,show(n*8+(6+e)) % 8-6=e by omega];dsimp only;rw[Bu]
 ·rw[ax h];by_cases h8:o % 8<6
  ·by_cases a:o % 8=0
   ·rw[aE a,aE a]
   ·rw[ax a,ax a];by_cases b:o % 8<5
    ·rw[aE b,aE b]
    ·rw[ax b,ax b,aE G,aE G]
  ·rw[ax G,ax G,ax G,ax G,ax G,ax G];dsimp only;rw[dr,ax G]
def CX(R:Raw)(n:Nat)(v:Int):(λo=>if o=n*8+5 then Y v else fp R o)=fp {R with own:=aS R.own n v}:=by
 funext o;unfold fp;by_cases h:o=n*8+5
 ·rw[aE h,h,ax G,ax G,aE G,show(n*8+5) / 8=n by omega];dsimp only;rw[aw]
 ·rw[ax h];by_cases a:o % 8=0
  ·rw[aE a,aE a]
  ·rw[ax a,ax a];by_cases b:o % 8<5
   ·rw[aE b,aE b]
   ·rw[ax b,ax b];by_cases c:o % 8=5
    ·rw[aE c,aE c];dsimp only;rw[an _ _ G]
    ·rw[ax c,ax c]
def A_(R:Raw)(q:Nat){e:Nat}(he:e<=1)(v:Int):(λo=>if o=q*3+e then Y v else oX R o)=oX {R with ends:=dq R.ends q e v}:=by
 funext o;unfold oX;by_cases h:o=q*3+e
 ·rw[aE h,h,aE G,show(q*3+e) / 3=q by omega,show(q*3+e) % 3=e by omega];dsimp only;rw[Bu]
 ·rw[ax h];by_cases a:o % 3<2
  ·rw[aE a,aE a];dsimp only;rw[dr,ax G]
  ·rw[ax a,ax a]
def CY(R:Raw)(q:Nat)(v:Nat):(λo=>if o=q*3+2 then Y v else oX R o)=oX {R with dz:=aS R.dz q v}:=by
 funext o;unfold oX;by_cases h:o=q*3+2
 ·rw[aE h,h,ax G,show(q*3+2) / 3=q by omega];dsimp only;rw[aw]
 ·rw[ax h];by_cases a:o % 3<2
  ·rw[aE a,aE a]
  ·rw[ax a,ax a];dsimp only;rw[an _ _ G]
structure sY(w:ek)(ab:Nat)(V L:to)(aI nl:Nat)(R:Raw):Prop where
 head:aH w ab 191 #[Y aI,V,L,Y R.dA,Y R.used]
 nodes:Row w 202 8 V R.made (fp R)
 lists:Row w 194 3 L nl (oX R)
def bL(ab:Nat)(V L:to):List Nat:=ab::(V.ownBlock.toList++L.ownBlock.toList)
variable {ab aI nl:Nat}{V L:to}{R:Raw}
def sY.nb(h:sY w ab V L aI nl R):V.ownBlock≠O ab:=h.nodes.fx h.head bz
def sY.lb(h:sY w ab V L aI nl R):L.ownBlock≠O ab:=h.lists.fx h.head bz
def sY.vl(h:sY w ab V L aI nl R):V.ownBlock=Xb\/V.ownBlock≠L.ownBlock:=h.nodes.ne h.lists bz
def sY.drewN(h:sY w ab V L aI nl R)(n:Nat):sY (w.drewN n) ab V L aI nl R:=⟨h.head,h.nodes.drewN n,h.lists.drewN n⟩
def sY.aG{S:List Nat}(h:sY w ab V L aI nl R)(f:aC S w w')(hs:∀b,b∈bL ab V L->b∉S):sY w' ab V L aI nl R:=
 ⟨h.head.aG f (hs _ (by simp[bL])),h.nodes.aG f λb X=>hs b (by simp[bL,X]),h.lists.aG f λb X=>hs b (by simp[bL,X])⟩
def sY.later{w w':ek}{ab aI nl:Nat}{V L:to}{R:Raw}(h:sY w ab V L aI nl R)(b:Below w.heap.size w w'):sY w' ab V L aI nl R:=
 h.aG (aC.ai (S:=[]) b) (λ_ _=>by simp)
structure eK(w:ek)(ab nb cn lb cl:Nat)(aI nl:Nat)(R:Raw):Prop where
 c:sY w ab (H (O (I nb 0)) R.made cn) (H (O (I lb 0)) nl cl) aI nl R
 pos:0<R.made
variable {nb cn lb cl:Nat}
def eK.ne(h:eK w ab nb cn lb cl aI nl R):nb≠ab/\lb≠ab/\nb≠lb:=by have a:=h.c.nb;have b:=h.c.lb;have c:=h.c.vl;simp[Value.ownBlock]at a b c;exact⟨a,b,c⟩
def Xo{p:Prop}(h:p:=by
 exact⟨⟨h.c.head.other (λe=>a e.symm) _ _,h1,h.c.lists.other (by simp[Value.ownBlock];exact λe=>c e.symm) _ _⟩,h.pos⟩):p:=h
def eK.jz(h:eK w ab nb cn lb cl aI nl R){n e:Nat}(hn:n<R.made)(he:e<=1)(v:Int):eK (w.setCell (I nb (n*8+(6+e))) (Y v)) ab nb cn lb cl aI nl {R with bY:=dq R.bY n e v}:=by obtain⟨a,b,c⟩:=h.ne;have h1:=h.c.nodes.set (o:=n*8+(6+e)) G (Y v);rw[CW R n he]at h1;exact Xo
def eK.y_(h:eK w ab nb cn lb cl aI nl R){n:Nat}(hn:n<R.made)(v:Int):eK (w.setCell (I nb (n*8+5)) (Y v)) ab nb cn lb cl aI nl {R with own:=aS R.own n v}:=by obtain⟨a,b,c⟩:=h.ne;have h1:=h.c.nodes.set (o:=n*8+5) G (Y v);rw[CX R n]at h1;exact Xo
def Xp{p:Prop}(h:p:=by
 exact⟨⟨h.c.head.other (λe=>b e.symm) _ _,h.c.nodes.other (by simp[Value.ownBlock];exact c) _ _,h1⟩,h.pos⟩):p:=h
def eK.lW(h:eK w ab nb cn lb cl aI nl R){q e:Nat}(hq:q<nl)(he:e<=1)(v:Int):eK (w.setCell (I lb (q*3+e)) (Y v)) ab nb cn lb cl aI nl {R with ends:=dq R.ends q e v}:=by obtain⟨a,b,c⟩:=h.ne;have h1:=h.c.lists.set (o:=q*3+e) G (Y v);rw[A_ R q he]at h1;exact Xp
def eK.rI(h:eK w ab nb cn lb cl aI nl R){q:Nat}(hq:q<nl)(v:Nat):eK (w.setCell (I lb (q*3+2)) (Y v)) ab nb cn lb cl aI nl {R with dz:=aS R.dz q v}:=by obtain⟨a,b,c⟩:=h.ne;have h1:=h.c.lists.set (o:=q*3+2) G (Y v);rw[CY R q]at h1;exact Xp
def Xq{p:Prop}(h:p:=by
 exact⟨⟨h1,h.c.nodes.other (by simp[Value.ownBlock];exact a) _ _,h.c.lists.other (by simp[Value.ownBlock];exact b) _ _⟩,h.pos⟩):p:=h
def eK.E3(h:eK w ab nb cn lb cl aI nl R)(v:Int):eK (w.setCell (I ab 3) (Y v)) ab nb cn lb cl aI nl {R with dA:=v}:=by obtain⟨a,b,c⟩:=h.ne;have h1:=h.c.head.set 3 (Y v);exact Xq
def eK.CZ(h:eK w ab nb cn lb cl aI nl R)(v:Nat):eK (w.setCell (I ab 4) (Y v)) ab nb cn lb cl aI nl {R with used:=v}:=by obtain⟨a,b,c⟩:=h.ne;have h1:=h.c.head.set 4 (Y v);exact Xq
def dT(w:ek)(b o:Nat)(x:eW):ek:=
 ((((w.setCell (I b o) (.int .u64 x.key)).setCell (I b (o+1)) (Y (x.tg 0))).setCell (I b (o+2)) (Y (x.tg 1))).setCell (I b (o+3)) (Y (x.tg 2))).setCell (I b (o+4)) (Y (x.tg 3))
def C7(R:Raw)(n:Nat)(x:eW):(λo=>if o=n*8+4 then Y (x.tg 3)else if o=n*8+3 then Y (x.tg 2)else if o=n*8+2 then Y (x.tg 1)else if o=n*8+1 then Y (x.tg 0)else if o=n*8 then .int .u64 x.key else fp R o)=fp {R with val:=aS R.val n x}:=by
 funext o;unfold fp;dsimp only;by_cases hn:o / 8=n
 ·have h8:o % 8=0\/o % 8=1\/o % 8=2\/o % 8=3\/o % 8=4\/5<=o % 8:=G;rw[hn,aw];rcases h8 with h|h|h|h|h|h
  ·rw[ax G,ax G,ax G,ax G,aE G,aE h]
  ·rw[ax G,ax G,ax G,aE G,ax G,aE G,h]
  ·rw[ax G,ax G,aE G,ax G,aE G,h]
  ·rw[ax G,aE G,ax G,aE G,h]
  ·rw[aE G,ax G,aE G,h]
  ·have c0:¬o % 8=0:=G;have c1:¬o % 8<5:=G;rw[ax G,ax G,ax G,ax G,ax G];simp only[c0,c1,if_false]
 ·rw[ax G,ax G,ax G,ax G,ax G,an _ _ hn]
def eK.C_(h:eK w ab nb cn lb cl aI nl R){n:Nat}(hn:n<R.made)(x:eW):eK (dT w nb (n*8) x) ab nb cn lb cl aI nl {R with val:=aS R.val n x}:=by
 obtain⟨a,b,c⟩:=h.ne;have h1:=((((h.c.nodes.set (o:=n*8) G (.int .u64 x.key)).set (o:=n*8+1) G (Y (x.tg 0))).set (o:=n*8+2) G (Y (x.tg 1))).set (o:=n*8+3) G (Y (x.tg 2))).set (o:=n*8+4) G (Y (x.tg 3));rw[C7 R n x]at h1;have ha:ab≠nb:=λe=>a e.symm;have hl:(Value.slice (O (I lb 0)) nl cl).ownBlock≠O nb:=by simp[Value.ownBlock];exact λe=>c e.symm
 exact⟨⟨((((h.c.head.other ha _ _).other ha _ _).other ha _ _).other ha _ _).other ha _ _,h1,((((h.c.lists.other hl _ _).other hl _ _).other hl _ _).other hl _ _).other hl _ _⟩,h.pos⟩
def gH{S:List Nat}{a w:ek}{b:Nat}(h:aC S a w)(X:b∈S)(o:Nat)(x:eW):aC S a (dT w b o x):=
 ((((h.setCell X _).setCell X _).setCell X _).setCell X _).setCell X _
def eK.aW(h:eK w ab nb cn lb cl aI nl R){n:Nat}(hn:n<R.made):Xf w (I nb (n*8))=O (.int .u64 (R.val n).key)/\Xf w (I nb (n*8+1))=O (Y ((R.val n).tg 0))/\
 Xf w (I nb (n*8+2))=O (Y ((R.val n).tg 1))/\Xf w (I nb (n*8+3))=O (Y ((R.val n).tg 2))/\Xf w (I nb (n*8+4))=O (Y ((R.val n).tg 3)):=by
 refine⟨?_,?_,?_,?_,?_⟩
 ·rw[h.c.nodes.cell (o:=n*8) G,BM]
 ·rw[h.c.nodes.cell (o:=n*8+1) G,show fp R (n*8+1)=_ from km R n (t:=0) G]
 ·rw[h.c.nodes.cell (o:=n*8+2) G,show fp R (n*8+2)=_ from km R n (t:=1) G]
 ·rw[h.c.nodes.cell (o:=n*8+3) G,show fp R (n*8+3)=_ from km R n (t:=2) G]
 ·rw[h.c.nodes.cell (o:=n*8+4) G,show fp R (n*8+4)=_ from km R n (t:=3) G]
def eK.h0(h:eK w ab nb cn lb cl aI nl R):Xf w (I ab 0)=O (Y aI):=h.c.head.cell 0
def eK.h1(h:eK w ab nb cn lb cl aI nl R):Xf w (I ab 1)=O (H (O (I nb 0)) R.made cn):=h.c.head.cell 1
def eK.h2(h:eK w ab nb cn lb cl aI nl R):Xf w (I ab 2)=O (H (O (I lb 0)) nl cl):=h.c.head.cell 2
def eK.h3(h:eK w ab nb cn lb cl aI nl R):Xf w (I ab 3)=O (Y R.dA):=h.c.head.cell 3
def eK.h4(h:eK w ab nb cn lb cl aI nl R):Xf w (I ab 4)=O (Y R.used):=h.c.head.cell 4
def eK.own(h:eK w ab nb cn lb cl aI nl R){n:Nat}(hn:n<R.made):Xf w (I nb (n*8+5))=O (Y (R.own n)):=by rw[h.c.nodes.cell (o:=n*8+5) G,vV]
def eK.bY(h:eK w ab nb cn lb cl aI nl R){n e:Nat}(hn:n<R.made)(he:e<=1):Xf w (I nb (n*8+(6+e)))=O (Y (R.bY n e)):=by rw[h.c.nodes.cell (o:=n*8+(6+e)) G,BN R n he]
def eK.ends(h:eK w ab nb cn lb cl aI nl R){q e:Nat}(hq:q<nl)(he:e<=1):Xf w (I lb (q*3+e))=O (Y (R.ends q e)):=by rw[h.c.lists.cell (o:=q*3+e) G,yZ R q he]
def eK.dz(h:eK w ab nb cn lb cl aI nl R){q:Nat}(hq:q<nl):Xf w (I lb (q*3+2))=O (Y (R.dz q)):=by rw[h.c.lists.cell (o:=q*3+2) G,BO]
def eK.fa(h:eK w ab nb cn lb cl aI nl R)(o:Nat):w.frozen? (I ab o)=false:=h.c.head.frozen o
def eK.fn(h:eK w ab nb cn lb cl aI nl R)(o:Nat):w.frozen? (I nb o)=false:=h.c.nodes.frozen o
def eK.fl(h:eK w ab nb cn lb cl aI nl R)(o:Nat):w.frozen? (I lb o)=false:=h.c.lists.frozen o
def eK.drewN(h:eK w ab nb cn lb cl aI nl R)(n:Nat):eK (w.drewN n) ab nb cn lb cl aI nl R:=⟨h.c.drewN n,h.pos⟩
def eK.later(h:eK w ab nb cn lb cl aI nl R)(b:Below w.heap.size w w'):eK w' ab nb cn lb cl aI nl R:=⟨h.c.later b,h.pos⟩
def eK.aG{S:List Nat}(h:eK w ab nb cn lb cl aI nl R)(f:aC S w w')(hs:ab∉S/\nb∉S/\lb∉S):eK w' ab nb cn lb cl aI nl R:=
 ⟨h.c.aG f (by intro b X;simp[bL,Value.ownBlock]at X;rcases X with rfl|rfl|rfl;exact hs.1;exact hs.2.1;exact hs.2.2),h.pos⟩
def eK.apart(h:eK w ab nb cn lb cl aI nl R){b:Nat}{T:TypeId}{cs:Array to}(k:aH w b T cs)(h1:191≠T:=by decide)(h2:202≠T:=by decide)(h3:194≠T:=by decide):b≠ab/\b≠nb/\b≠lb:=by have a:=h.c.head.ne k h1;have c:=h.c.nodes.fx k h2;have d:=h.c.lists.fx k h3;simp[Value.ownBlock]at c d;exact⟨λe=>a e.symm,λe=>c e.symm,λe=>d e.symm⟩
def eK.facts(h:eK w ab nb cn lb cl aI nl R){n:Nat}(hn:n<R.made):
 Xf w (I ab 1)=O (H (O (I nb 0)) R.made cn)/\Xf w (I ab 3)=O (Y R.dA)/\Xf w (I ab 4)=O (Y R.used)/\
 Xf w (I nb (n*8))=O (.int .u64 (R.val n).key)/\Xf w (I nb (n*8+1))=O (Y ((R.val n).tg 0))/\
 Xf w (I nb (n*8+2))=O (Y ((R.val n).tg 1))/\Xf w (I nb (n*8+3))=O (Y ((R.val n).tg 2))/\Xf w (I nb (n*8+4))=O (Y ((R.val n).tg 3))/\
 Xf w (I nb (n*8+5))=O (Y (R.own n))/\Xf w (I nb (n*8+6))=O (Y (R.bY n 0))/\Xf w (I nb (n*8+7))=O (Y (R.bY n 1))/\
 (∀o,w.frozen? (I nb o)=false)/\(∀o,w.frozen? (I ab o)=false):=by
 obtain⟨k0,k1,k2,k3,k4⟩:=h.aW hn;exact⟨h.h1,h.h3,h.h4,k0,k1,k2,k3,k4,h.own hn,h.bY (e:=0) hn G,h.bY (e:=1) hn G,h.fn,h.fa⟩
def kV{b:Nat}{v0 v1 v2 v3 v4:to}(h:aH w b 118 #[v0,v1,v2,v3,v4]):Xf w (I b 0)=O v0/\Xf w (I b 1)=O v1/\Xf w (I b 2)=O v2/\Xf w (I b 3)=O v3/\Xf w (I b 4)=O v4/\∀o,w.frozen? (I b o)=false:=
 ⟨h.cell 0,h.cell 1,h.cell 2,h.cell 3,h.cell 4,h.frozen⟩
end
end al.Vm
namespace Go.eO
open Go.RowKit al.Vm
open al hiding aS aw an
def TN{w:ek}{ab nb cn lb cl aI nl n l:Nat}{R:Raw}(h:eK w ab nb cn lb cl aI nl R)(hn:n<R.made)(hl:l<nl)(ny:R.ends l 0<0)(hc:R.dz l<=4194304)(hm:R.made<=4194304)(kQ:nl<=256):
 Calls prog 309 #[Oi ab,Y n,Y l,Y 0] w λe w'=>e=Xc (.tuple #[])/\aC [ab,nb,lb] w w'/\eK w' ab nb cn lb cl aI nl (gd R n l 0):=by
 obtain⟨d1,d2,d3⟩:=h.ne;have a1:=h.h1;have a2:=h.h2;have e0:Xf w (I lb (l*3))=O (Y (R.ends l 0)):=h.ends (e:=0) hl G;have e1:Xf w (I lb (l*3+1))=O (Y (R.ends l 1)):=h.ends (e:=1) hl G;have e2:=h.dz hl;have b5:=h.own hn;have b6:Xf w (I nb (n*8+6))=O (Y (R.bY n 0)):=h.bY (e:=0) hn G;have b7:Xf w (I nb (n*8+7))=O (Y (R.bY n 1)):=h.bY (e:=1) hn G;have fn:=h.fn;have fl:=h.fl;have HX:=Z h;clear h;generalize ed:R.ends l 0=last at*;generalize R.ends l 1=last1 at*;generalize kH:R.dz l=k at*;have HL:=Z ed;have HC:=Z kH;clear ed kH;go_enter func309,ntmps309;go_wp2;go_region;go_wp2;go_end0;have x1:=((((((HX.o.y_ hn l).jz (e:=0) hn G (-1)).jz (e:=1) hn G last).lW (e:=1) hl G n).lW (e:=0) hl G n).rI hl (k+1)).drewN 1;refine⟨rfl,((((((((aC.refl _ w).setCell az _).setCell az _).setCell az _).setCell az _).setCell az _).setCell az _)).drew,?_⟩;have e:gd R n l 0={R with own:=aS R.own n l,bY:=dq (dq R.bY n 0 (-1)) n 1 last,ends:=dq (dq R.ends l 1 n) l 0 n,dz:=aS R.dz l (k+1)}:=by unfold gd;rw[HL.o,HC.o];dsimp only;rw[ax G,ax G]
 rw[e];exact x1
def Xr{p:Prop}(h:p:=by
 unfold gd;rw[HL.o,HC.o];dsimp only;rw[aE G,aE G,Int.toNat_natCast]):p:=h
def TO{w:ek}{ab nb cn lb cl aI nl n l:Nat}{R:Raw}(h:eK w ab nb cn lb cl aI nl R)(hn:n<R.made)(hl:l<nl){m:Nat}(jw:R.ends l 0=(m:Int))(xN:m<R.made)(LU:m≠n)(hc:R.dz l<=4194304)(hm:R.made<=4194304)(kQ:nl<=256):
 Calls prog 309 #[Oi ab,Y n,Y l,Y 0] w λe w'=>e=Xc (.tuple #[])/\aC [ab,nb,lb] w w'/\eK w' ab nb cn lb cl aI nl (gd R n l 0):=by
 obtain⟨d1,d2,d3⟩:=h.ne;have a1:=h.h1;have a2:=h.h2;have e0:Xf w (I lb (l*3))=O (Y (R.ends l 0)):=h.ends (e:=0) hl G;have e1:Xf w (I lb (l*3+1))=O (Y (R.ends l 1)):=h.ends (e:=1) hl G;have e2:=h.dz hl;have b5:=h.own hn;have b6:Xf w (I nb (n*8+6))=O (Y (R.bY n 0)):=h.bY (e:=0) hn G;have b7:Xf w (I nb (n*8+7))=O (Y (R.bY n 1)):=h.bY (e:=1) hn G;have m6:Xf w (I nb (m*8+6))=O (Y (R.bY m 0)):=h.bY (e:=0) xN G;have m7:Xf w (I nb (m*8+7))=O (Y (R.bY m 1)):=h.bY (e:=1) xN G;have fn:=h.fn;have fl:=h.fl;have HX:=Z h;clear h;rw[jw]at e0;have ed:=jw;generalize R.ends l 1=last1 at e1;clear jw;generalize kH:R.dz l=k at*;have HL:=Z ed;have HC:=Z kH;clear ed kH;go_enter func309,ntmps309;go_wp2;go_region;go_wp2;go_end0;have x1:=((((((HX.o.y_ hn l).jz (e:=0) hn G (-1)).jz (e:=1) hn G (m:Int)).jz (e:=0) xN G n).lW (e:=0) hl G n).rI hl (k+1)).drewN 1;refine⟨rfl,((((((((aC.refl _ w).setCell az _).setCell az _).setCell az _).setCell az _).setCell az _).setCell az _)).drew,?_⟩;have e:gd R n l 0={R with own:=aS R.own n l,bY:=dq (dq (dq R.bY n 0 (-1)) n 1 (m:Int)) m 0 n,ends:=dq R.ends l 0 n,dz:=aS R.dz l (k+1)}:=by exact Xr
 rw[e];exact x1
def TP{w:ek}{ab nb cn lb cl aI nl n l:Nat}{R:Raw}(h:eK w ab nb cn lb cl aI nl R)(hn:n<R.made)(hl:l<nl)(ny:R.ends l 1<0)(hc:R.dz l<=4194304)(hm:R.made<=4194304)(kQ:nl<=256):
 Calls prog 309 #[Oi ab,Y n,Y l,Y 1] w λe w'=>e=Xc (.tuple #[])/\aC [ab,nb,lb] w w'/\eK w' ab nb cn lb cl aI nl (gd R n l 1):=by
 obtain⟨d1,d2,d3⟩:=h.ne;have a1:=h.h1;have a2:=h.h2;have e0:Xf w (I lb (l*3))=O (Y (R.ends l 0)):=h.ends (e:=0) hl G;have e1:Xf w (I lb (l*3+1))=O (Y (R.ends l 1)):=h.ends (e:=1) hl G;have e2:=h.dz hl;have b5:=h.own hn;have b6:Xf w (I nb (n*8+6))=O (Y (R.bY n 0)):=h.bY (e:=0) hn G;have b7:Xf w (I nb (n*8+7))=O (Y (R.bY n 1)):=h.bY (e:=1) hn G;have fn:=h.fn;have fl:=h.fl;have HX:=Z h;clear h;generalize ed:R.ends l 1=last at*;generalize R.ends l 0=last1 at*;generalize kH:R.dz l=k at*;have HL:=Z ed;have HC:=Z kH;clear ed kH;go_enter func309,ntmps309;go_wp2;go_region;go_wp2;go_end0;have x1:=((((((HX.o.y_ hn l).jz (e:=1) hn G (-1)).jz (e:=0) hn G last).lW (e:=0) hl G n).lW (e:=1) hl G n).rI hl (k+1)).drewN 1;refine⟨rfl,((((((((aC.refl _ w).setCell az _).setCell az _).setCell az _).setCell az _).setCell az _).setCell az _)).drew,?_⟩;have e:gd R n l 1={R with own:=aS R.own n l,bY:=dq (dq R.bY n 1 (-1)) n 0 last,ends:=dq (dq R.ends l 0 n) l 1 n,dz:=aS R.dz l (k+1)}:=by unfold gd;rw[HL.o,HC.o];dsimp only;rw[ax G,ax G]
 rw[e];exact x1
def TQ{w:ek}{ab nb cn lb cl aI nl n l:Nat}{R:Raw}(h:eK w ab nb cn lb cl aI nl R)(hn:n<R.made)(hl:l<nl){m:Nat}(jw:R.ends l 1=(m:Int))(xN:m<R.made)(LU:m≠n)(hc:R.dz l<=4194304)(hm:R.made<=4194304)(kQ:nl<=256):
 Calls prog 309 #[Oi ab,Y n,Y l,Y 1] w λe w'=>e=Xc (.tuple #[])/\aC [ab,nb,lb] w w'/\eK w' ab nb cn lb cl aI nl (gd R n l 1):=by
 obtain⟨d1,d2,d3⟩:=h.ne;have a1:=h.h1;have a2:=h.h2;have e0:Xf w (I lb (l*3))=O (Y (R.ends l 0)):=h.ends (e:=0) hl G;have e1:Xf w (I lb (l*3+1))=O (Y (R.ends l 1)):=h.ends (e:=1) hl G;have e2:=h.dz hl;have b5:=h.own hn;have b6:Xf w (I nb (n*8+6))=O (Y (R.bY n 0)):=h.bY (e:=0) hn G;have b7:Xf w (I nb (n*8+7))=O (Y (R.bY n 1)):=h.bY (e:=1) hn G;have m6:Xf w (I nb (m*8+6))=O (Y (R.bY m 0)):=h.bY (e:=0) xN G;have m7:Xf w (I nb (m*8+7))=O (Y (R.bY m 1)):=h.bY (e:=1) xN G;have fn:=h.fn;have fl:=h.fl;have HX:=Z h;clear h;rw[jw]at e1;have ed:=jw;generalize R.ends l 0=last1 at e0;clear jw;generalize kH:R.dz l=k at*;have HL:=Z ed;have HC:=Z kH;clear ed kH;go_enter func309,ntmps309;go_wp2;go_region;go_wp2;go_end0;have x1:=((((((HX.o.y_ hn l).jz (e:=1) hn G (-1)).jz (e:=0) hn G (m:Int)).jz (e:=1) xN G n).lW (e:=1) hl G n).rI hl (k+1)).drewN 1;refine⟨rfl,((((((((aC.refl _ w).setCell az _).setCell az _).setCell az _).setCell az _).setCell az _).setCell az _)).drew,?_⟩;have e:gd R n l 1={R with own:=aS R.own n l,bY:=dq (dq (dq R.bY n 1 (-1)) n 0 (m:Int)) m 1 n,ends:=dq R.ends l 1 n,dz:=aS R.dz l (k+1)}:=by exact Xr
 rw[e];exact x1
def Iu{w:ek}{ab nb cn lb cl aI nl n l e:Nat}{R:Raw}(h:eK w ab nb cn lb cl aI nl R)(hn:n<R.made)(hl:l<nl)(he:e<=1)(ed:R.ends l e<0\/∃m:Nat,R.ends l e=(m:Int)/\m<R.made/\m≠n)(hc:R.dz l<=4194304)(hm:R.made<=4194304)(kQ:nl<=256):
 Calls prog 309 #[Oi ab,Y n,Y l,Y e] w λe' w'=>e'=Xc (.tuple #[])/\aC [ab,nb,lb] w w'/\eK w' ab nb cn lb cl aI nl (gd R n l e):=by
 have:e=0\/e=1:=G;rcases this with rfl|rfl<;>rcases ed with Zm|⟨m,h1,h2,h3⟩
 ·exact TN h hn hl Zm hc hm kQ
 ·exact TO h hn hl h1 h2 h3 hc hm kQ
 ·exact TP h hn hl Zm hc hm kQ
 ·exact TQ h hn hl h1 h2 h3 hc hm kQ
def TR(x y:to)(w:ek):(Instr.index 192 (.agg #[x,y]) (Y 0)).run prog w= .ok x w:=by kernel_rfl
def TS(x y:to)(w:ek):(Instr.index 192 (.agg #[x,y]) (Y 1)).run prog w= .ok y w:=by kernel_rfl
def Xs{p:Prop}(h:p:=by
 unfold dB mG;simp only[be,dG,fS,SY,c0,c1,if_true,if_false,Nat.add_sub_cancel,Int.toNat_natCast,Nat.sub_zero,Nat.sub_self]):p:=h
def ZE{w:ek}{ab nb cn lb cl aI nl n l:Nat}{R:Raw}(h:eK w ab nb cn lb cl aI nl R)(hn:n<R.made)(hl:l<nl)(ho:R.own n=(l:Int))(h0:R.bY n 0<0)(h1:R.bY n 1<0)(hc:R.dz l<=4194304)(zd:0<R.dz l)(hm:R.made<=4194304)(kQ:nl<=256):
 Calls prog 230 #[Oi ab,Y n] w λe w'=>e=Xc (.tuple #[])/\aC [ab,nb,lb] w w'/\eK w' ab nb cn lb cl aI nl (dB R n):=by
 obtain⟨d1,d2,d3⟩:=h.ne;have a1:=h.h1;have a2:=h.h2;have e0:Xf w (I lb (l*3))=O (Y (R.ends l 0)):=h.ends (e:=0) hl G;have e1:Xf w (I lb (l*3+1))=O (Y (R.ends l 1)):=h.ends (e:=1) hl G;have e2:=h.dz hl;have b5:=h.own hn;have b6:Xf w (I nb (n*8+6))=O (Y (R.bY n 0)):=h.bY (e:=0) hn G;have b7:Xf w (I nb (n*8+7))=O (Y (R.bY n 1)):=h.bY (e:=1) hn G;have fn:=h.fn;have fl:=h.fl;have HX:=Z h;rw[ho]at b5;have HO:=Z ho;clear h ho;generalize dG:R.bY n 0=b0 at*;generalize fS:R.bY n 1=b1 at*;obtain⟨k,kH⟩:∃k,R.dz l=k+1:=⟨R.dz l-1,G⟩;rw[kH]at e2 hc zd;have H0:=Z dG;have H1:=Z fS;have HC:=Z kH;clear dG fS kH;have i0:=TR;have i1:=TS;go_enter func230,ntmps230;go_wp2;go_region;go_wp2;refine wp_loop_rounds 3 ?_;rw[pR];go_wp2;go_region;go_wp2;rw[pR];go_wp2;go_region;go_wp2;rw[pR];go_wp2;go_end0;refine⟨rfl,(((((aC.refl [ab,nb,lb] w).setCell az _).setCell az _).setCell az _)).drew.drew.drew,?_⟩;have x1:=(((HX.o.lW (e:=0) hl G b1).lW (e:=1) hl G b0).rI hl k).drewN 3;have e:dB R n={R with bY:=R.bY,ends:=dq (dq R.ends l 0 b1) l 1 b0,dz:=aS R.dz l k}:=by
  have be:(R.own n).toNat=l:=by rw[HO.o];rfl
  have dG:=H0.o;have fS:=H1.o;have SY:=HC.o;have c0:(b0<0)=True:=by simp[h0]
  have c1:(b1<0)=True:=by simp[h1]
  exact Xs
 rw[e];exact x1
def ZF{w:ek}{ab nb cn lb cl aI nl n l:Nat}{R:Raw}(h:eK w ab nb cn lb cl aI nl R)(hn:n<R.made)(hl:l<nl)(ho:R.own n=(l:Int))(h0:R.bY n 0<0){m1:Nat}(h1:R.bY n 1=(m1:Int))(k1:m1<R.made)(j1:m1≠n)(hc:R.dz l<=4194304)(zd:0<R.dz l)(hm:R.made<=4194304)(kQ:nl<=256):
 Calls prog 230 #[Oi ab,Y n] w λe w'=>e=Xc (.tuple #[])/\aC [ab,nb,lb] w w'/\eK w' ab nb cn lb cl aI nl (dB R n):=by
 obtain⟨d1,d2,d3⟩:=h.ne;have a1:=h.h1;have a2:=h.h2;have e0:Xf w (I lb (l*3))=O (Y (R.ends l 0)):=h.ends (e:=0) hl G;have e1:Xf w (I lb (l*3+1))=O (Y (R.ends l 1)):=h.ends (e:=1) hl G;have e2:=h.dz hl;have b5:=h.own hn;have b6:Xf w (I nb (n*8+6))=O (Y (R.bY n 0)):=h.bY (e:=0) hn G;have b7:Xf w (I nb (n*8+7))=O (Y (R.bY n 1)):=h.bY (e:=1) hn G;have q6:Xf w (I nb (m1*8+6))=O (Y (R.bY m1 0)):=h.bY (e:=0) k1 G;have q7:Xf w (I nb (m1*8+7))=O (Y (R.bY m1 1)):=h.bY (e:=1) k1 G;have fn:=h.fn;have fl:=h.fl;have HX:=Z h;rw[ho]at b5;have HO:=Z ho;clear h ho;generalize dG:R.bY n 0=b0 at*;rw[h1]at b7;have fS:=h1;clear h1;obtain⟨k,kH⟩:∃k,R.dz l=k+1:=⟨R.dz l-1,G⟩;rw[kH]at e2 hc zd;have H0:=Z dG;have H1:=Z fS;have HC:=Z kH;clear dG fS kH;have i0:=TR;have i1:=TS;go_enter func230,ntmps230;go_wp2;go_region;go_wp2;refine wp_loop_rounds 3 ?_;rw[pR];go_wp2;go_region;go_wp2;rw[pR];go_wp2;go_region;go_wp2;rw[pR];go_wp2;go_end0;refine⟨rfl,(((((aC.refl [ab,nb,lb] w).setCell az _).setCell az _).setCell az _)).drew.drew.drew,?_⟩;have x1:=(((HX.o.lW (e:=0) hl G (m1:Int)).jz (e:=0) k1 G b0).rI hl k).drewN 3;have e:dB R n={R with bY:=dq R.bY m1 0 b0,ends:=dq R.ends l 0 (m1:Int),dz:=aS R.dz l k}:=by
  have be:(R.own n).toNat=l:=by rw[HO.o];rfl
  have dG:=H0.o;have fS:=H1.o;have SY:=HC.o;have c0:(b0<0)=True:=by simp[h0]
  have c1:((m1:Int)<0)=False:=by simp
  exact Xs
 rw[e];exact x1
def Xt{p:Prop}(h:p:=by
 unfold dB mG;simp only[be,dG,fS,SY,c0,c1,if_true,if_false,Nat.add_sub_cancel,Int.toNat_natCast,Nat.sub_zero,Nat.sub_self,hq]):p:=h
def ZG{w:ek}{ab nb cn lb cl aI nl n l:Nat}{R:Raw}(h:eK w ab nb cn lb cl aI nl R)(hn:n<R.made)(hl:l<nl)(ho:R.own n=(l:Int)){m0:Nat}(h0:R.bY n 0=(m0:Int))(k0:m0<R.made)(j0:m0≠n)(h1:R.bY n 1<0)(hc:R.dz l<=4194304)(zd:0<R.dz l)(hm:R.made<=4194304)(kQ:nl<=256):
 Calls prog 230 #[Oi ab,Y n] w λe w'=>e=Xc (.tuple #[])/\aC [ab,nb,lb] w w'/\eK w' ab nb cn lb cl aI nl (dB R n):=by
 obtain⟨d1,d2,d3⟩:=h.ne;have a1:=h.h1;have a2:=h.h2;have e0:Xf w (I lb (l*3))=O (Y (R.ends l 0)):=h.ends (e:=0) hl G;have e1:Xf w (I lb (l*3+1))=O (Y (R.ends l 1)):=h.ends (e:=1) hl G;have e2:=h.dz hl;have b5:=h.own hn;have b6:Xf w (I nb (n*8+6))=O (Y (R.bY n 0)):=h.bY (e:=0) hn G;have b7:Xf w (I nb (n*8+7))=O (Y (R.bY n 1)):=h.bY (e:=1) hn G;have p6:Xf w (I nb (m0*8+6))=O (Y (R.bY m0 0)):=h.bY (e:=0) k0 G;have p7:Xf w (I nb (m0*8+7))=O (Y (R.bY m0 1)):=h.bY (e:=1) k0 G;have fn:=h.fn;have fl:=h.fl;have HX:=Z h;rw[ho]at b5;have HO:=Z ho;clear h ho;rw[h0]at b6;have dG:=h0;clear h0;generalize fS:R.bY n 1=b1 at*;obtain⟨k,kH⟩:∃k,R.dz l=k+1:=⟨R.dz l-1,G⟩;rw[kH]at e2 hc zd;have H0:=Z dG;have H1:=Z fS;have HC:=Z kH;clear dG fS kH;have i0:=TR;have i1:=TS;go_enter func230,ntmps230;go_wp2;go_region;go_wp2;refine wp_loop_rounds 3 ?_;rw[pR];go_wp2;go_region;go_wp2;rw[pR];go_wp2;go_region;go_wp2;rw[pR];go_wp2;go_end0;refine⟨rfl,(((((aC.refl [ab,nb,lb] w).setCell az _).setCell az _).setCell az _)).drew.drew.drew,?_⟩;have x1:=(((HX.o.jz (e:=1) k0 G b1).lW (e:=1) hl G (m0:Int)).rI hl k).drewN 3;have e:dB R n={R with bY:=dq R.bY m0 1 b1,ends:=dq R.ends l 1 (m0:Int),dz:=aS R.dz l k}:=by
  have be:(R.own n).toNat=l:=by rw[HO.o];rfl
  have dG:=H0.o;have fS:=H1.o;have SY:=HC.o;have c0:((m0:Int)<0)=False:=by simp
  have hq:dq R.bY m0 1 b1 n 0=(m0:Int):=by rw[dr,ax G];exact dG
  have c1:(b1<0)=True:=by simp[h1]
  exact Xt
 rw[e];exact x1
def ZH{w:ek}{ab nb cn lb cl aI nl n l:Nat}{R:Raw}(h:eK w ab nb cn lb cl aI nl R)(hn:n<R.made)(hl:l<nl)(ho:R.own n=(l:Int)){m0:Nat}(h0:R.bY n 0=(m0:Int))(k0:m0<R.made)(j0:m0≠n){m1:Nat}(h1:R.bY n 1=(m1:Int))(k1:m1<R.made)(j1:m1≠n)(hc:R.dz l<=4194304)(zd:0<R.dz l)(hm:R.made<=4194304)(kQ:nl<=256):
 Calls prog 230 #[Oi ab,Y n] w λe w'=>e=Xc (.tuple #[])/\aC [ab,nb,lb] w w'/\eK w' ab nb cn lb cl aI nl (dB R n):=by
 obtain⟨d1,d2,d3⟩:=h.ne;have a1:=h.h1;have a2:=h.h2;have e0:Xf w (I lb (l*3))=O (Y (R.ends l 0)):=h.ends (e:=0) hl G;have e1:Xf w (I lb (l*3+1))=O (Y (R.ends l 1)):=h.ends (e:=1) hl G;have e2:=h.dz hl;have b5:=h.own hn;have b6:Xf w (I nb (n*8+6))=O (Y (R.bY n 0)):=h.bY (e:=0) hn G;have b7:Xf w (I nb (n*8+7))=O (Y (R.bY n 1)):=h.bY (e:=1) hn G;have p6:Xf w (I nb (m0*8+6))=O (Y (R.bY m0 0)):=h.bY (e:=0) k0 G;have p7:Xf w (I nb (m0*8+7))=O (Y (R.bY m0 1)):=h.bY (e:=1) k0 G;have q6:Xf w (I nb (m1*8+6))=O (Y (R.bY m1 0)):=h.bY (e:=0) k1 G;have q7:Xf w (I nb (m1*8+7))=O (Y (R.bY m1 1)):=h.bY (e:=1) k1 G;have fn:=h.fn;have fl:=h.fl;have HX:=Z h;rw[ho]at b5;have HO:=Z ho;clear h ho;rw[h0]at b6;have dG:=h0;clear h0;rw[h1]at b7;have fS:=h1;clear h1;obtain⟨k,kH⟩:∃k,R.dz l=k+1:=⟨R.dz l-1,G⟩;rw[kH]at e2 hc zd;have H0:=Z dG;have H1:=Z fS;have HC:=Z kH;clear dG fS kH;have i0:=TR;have i1:=TS;go_enter func230,ntmps230;go_wp2;go_region;go_wp2;refine wp_loop_rounds 3 ?_;rw[pR];go_wp2;go_region;go_wp2;rw[pR];go_wp2;go_region;go_wp2;rw[pR];go_wp2;go_end0;refine⟨rfl,(((((aC.refl [ab,nb,lb] w).setCell az _).setCell az _).setCell az _)).drew.drew.drew,?_⟩;have x1:=(((HX.o.jz (e:=1) k0 G (m1:Int)).jz (e:=0) k1 G (m0:Int)).rI hl k).drewN 3;have e:dB R n={R with bY:=dq (dq R.bY m0 1 (m1:Int)) m1 0 (m0:Int),ends:=R.ends,dz:=aS R.dz l k}:=by
  have be:(R.own n).toNat=l:=by rw[HO.o];rfl
  have dG:=H0.o;have fS:=H1.o;have SY:=HC.o;have c0:((m0:Int)<0)=False:=by simp
  have hq:dq R.bY m0 1 (m1:Int) n 0=(m0:Int):=by rw[dr,ax G];exact dG
  have c1:((m1:Int)<0)=False:=by simp
  exact Xt
 rw[e];exact x1
def rJ(R:Raw)(n e:Nat):Prop:=R.bY n e<0\/∃m:Nat,R.bY n e=(m:Int)/\m<R.made/\m≠n
def Xu{w:ek}{ab nb cn lb cl aI nl n l:Nat}{R:Raw}(h:eK w ab nb cn lb cl aI nl R)(hn:n<R.made)(hl:l<nl)(ho:R.own n=(l:Int))(h0:rJ R n 0)(h1:rJ R n 1)(hc:R.dz l<=4194304)(zd:0<R.dz l)(hm:R.made<=4194304)(kQ:nl<=256):
 Calls prog 230 #[Oi ab,Y n] w λe w'=>e=Xc (.tuple #[])/\aC [ab,nb,lb] w w'/\eK w' ab nb cn lb cl aI nl (dB R n):=by
 rcases h0 with a0|⟨m0,a0,b0,c0⟩<;>rcases h1 with a1|⟨m1,a1,b1,c1⟩
 ·exact ZE h hn hl ho a0 a1 hc zd hm kQ
 ·exact ZF h hn hl ho a0 a1 b1 c1 hc zd hm kQ
 ·exact ZG h hn hl ho a0 b0 c0 a1 hc zd hm kQ
 ·exact ZH h hn hl ho a0 b0 c0 a1 b1 c1 hc zd hm kQ
def bP(x:eW):to:= .agg #[.int .u64 x.key,Y (x.tg 0),Y (x.tg 1),Y (x.tg 2),Y (x.tg 3)]
section
variable {w:ek}{ab aI nl:Nat}{V L:to}{R:Raw}
def rK(h:sY w ab V L aI nl R){q:Nat}(hq:q<nl):∃lb cl,L=H (O (I lb 0)) nl cl:=by obtain⟨b,cap,hv,_⟩:=h.lists.some G;exact⟨b,cap,hv⟩
def rL(h:sY w ab V L aI nl R){n:Nat}(hn:n<R.made):∃nb cn,V=H (O (I nb 0)) R.made cn:=by obtain⟨b,cap,hv,_⟩:=h.nodes.some G;exact⟨b,cap,hv⟩
def Kr{e:Nat}(he:e<=1)(w:ek):Calls prog 226 #[Y e] w λr w'=>r=Xc (.bool true)/\w=w':=by
 have:e=0\/e=1:=G;rcases this with rfl|rfl
 all_goals
  go_enter func226,ntmps226;go_wp2;exact G7
def Ml(h:sY w ab V L aI nl R){q e:Nat}(hq:q<nl)(he:e<=1):Calls prog 224 #[Oi ab,Y q,Y e] w λr w'=>r=Xc (.bool true)/\w=w':=by
 obtain⟨lb,cl,rfl⟩:=rK h hq;have h2:Xf w (I ab 2)=O (H (O (I lb 0)) nl cl):=h.head.cell 2;have HE:=Z (Kr he);clear h he;have t1:decide ((0:Int)<=(q:Int))=true:=by simp
 have t2:decide ((q:Int)<(nl:Int))=true:=by simp;omega
 go_enter func224,ntmps224;go_wp2_with (go_at_call 226;refine(HE.o _).mono ?_;rintro r w' ⟨rfl,rfl⟩);exact G7
def sD(h:sY w ab V L aI nl R){n:Nat}(hn:n<R.made)(ho:0<=R.own n)(hm:R.made<=aI):Calls prog 133 #[Oi ab,Y n] w λr w'=>r=Xc (Y 0)/\w=w':=by
 obtain⟨nb,cn,rfl⟩:=rL h hn;obtain⟨h0,h1⟩:=h.head.c2;have h5:=h.nodes.cell (o:=n*8+5) G;rw[vV]at h5;generalize R.own n=o at*;generalize R.made=k at*;have t1:decide ((n:Int)<0)=false:=by simp
 have t2:decide ((aI:Int)<=(n:Int))=false:=by simp;omega
 have t3:decide ((k:Int)<=(n:Int))=false:=by simp;omega
 have t4:decide (o<0)=false:=by simp;omega
 clear h;go_enter func133,ntmps133;go_wp2;exact G7
def TT(n:Int)(h:0<=n)(w:ek):Calls prog 225 #[Y n] w λr w'=>r=Xc (.tuple #[Y n,.bool true])/\w=w':=by have hm:max n 0=n:=G;go_enter func225,ntmps225;go_wp2;go_ret2;exact⟨rfl,rfl⟩
def TU(n:Int)(h:n<0)(w:ek):Calls prog 225 #[Y n] w λr w'=>r=Xc (.tuple #[Y 0,.bool false])/\w=w':=by
 have t1:decide (0<=n)=false:=by simp;omega
 have hm:max n 0=0:=G;go_enter func225,ntmps225;go_wp2;go_ret2;exact⟨rfl,rfl⟩
def ZI(h:sY w ab V L aI nl R){n:Nat}(hn:n<R.made)(ho:0<=R.own n)(hm:R.made<=aI):Calls prog 60 #[Oi ab,Y n] w λr w'=>r=Xc (.tuple #[Y (R.own n),.bool true])/\w=w':=by have HH:=Z (sD h hn ho hm);obtain⟨nb,cn,rfl⟩:=rL h hn;have h1:Xf w (I ab 1)=O (H (O (I nb 0)) R.made cn):=h.head.cell 1;have h5:=h.nodes.cell (o:=n*8+5) G;rw[vV]at h5;generalize R.own n=o at*;generalize R.made=k at*;clear h;go_enter func60,ntmps60;go_wp2_with (go_at_call 133;refine HH.o.mono ?_;rintro r w' ⟨rfl,rfl⟩);go_ret2;exact⟨rfl,rfl⟩
def BP(h:sY w ab V L aI nl R){n:Nat}(hn:n<R.made)(ho:0<=R.own n)(hm:R.made<=aI):Calls prog 208 #[Oi ab,Y n] w λr w'=>r=Xc (.tuple #[bP (R.val n),Y 0])/\Below w.heap.size w w':=by have HH:=Z (sD (h.later ((aZ _ w).alloc (aL _) (Xe #[.int .u64 0,Y 0,Y 0,Y 0,Y 0] 118))) hn ho hm);obtain⟨nb,cn,rfl⟩:=rL h hn;have h1:Xf w (I ab 1)=O (H (O (I nb 0)) R.made cn):=h.head.cell 1;have k0:=h.nodes.cell (o:=n*8) G;have k1:=h.nodes.cell (o:=n*8+1) G;have k2:=h.nodes.cell (o:=n*8+2) G;have k3:=h.nodes.cell (o:=n*8+3) G;have k4:=h.nodes.cell (o:=n*8+4) G;rw[BM]at k0;rw[show fp R (n*8+1)=_ from km R n (t:=0) G]at k1;rw[show fp R (n*8+2)=_ from km R n (t:=1) G]at k2;rw[show fp R (n*8+3)=_ from km R n (t:=2) G]at k3;rw[show fp R (n*8+4)=_ from km R n (t:=3) G]at k4;have lab:=h.head.lt;have lnb:=ay k0;unfold bP;generalize R.val n=x at*;generalize R.made=k at*;clear h;go_enter func208,ntmps208;go_wp2_with (go_at_call 133;refine HH.o.mono ?_;rintro r w' ⟨rfl,rfl⟩);refine bR (v:= .tuple #[.agg #[.int .u64 x.key,Y (x.tg 0),Y (x.tg 1),Y (x.tg 2),Y (x.tg 3)],Y 0]) (by simp[results,results208,go_sem]) rfl ⟨rfl,(aZ _ _).alloc (aL _) _⟩
def Pr{nb cn lb cl:Nat}(h:eK w ab nb cn lb cl aI nl R){n:Nat}(hn:n<R.made)(ho:0<=R.own n)(hm:R.made<=aI)(x:eW):Calls prog 268 #[Oi ab,Y n,bP x] w λr w'=>r=Xc (Y 0)/\aC [ab,nb,lb] w w'/\eK w' ab nb cn lb cl aI nl {R with val:=aS R.val n x}:=by
 have HH:=Z (sD (h.c.later ((aZ _ w).alloc (aL _) (Xe #[.int .u64 x.key,Y (x.tg 0),Y (x.tg 1),Y (x.tg 2),Y (x.tg 3)] 118))) hn ho hm);have HX:=Z h;have h1:=h.h1;obtain⟨k0,k1,k2,k3,k4⟩:=h.aW hn;have lab:=h.c.head.lt;have lnb:=ay k0;have fn:=h.fn;unfold bP;generalize R.val n=y at*;clear h;go_enter func268,ntmps268;go_wp2_with (go_at_call 133;refine HH.o.mono ?_;rintro r w' ⟨rfl,rfl⟩);obtain⟨w1,kI⟩:∃w1,w1=w.alloc (Xe #[.int .u64 x.key,Y (x.tg 0),Y (x.tg 1),Y (x.tg 2),Y (x.tg 3)] 118):=⟨_,rfl⟩;rw[<-kI];have X:aH w1 w.heap.size 118 #[.int .u64 x.key,Y (x.tg 0),Y (x.tg 1),Y (x.tg 2),Y (x.tg 3)]:=by rw[kI];exact aH.new _ _ _
 have hB:Below w.heap.size w w1:=by rw[kI];exact(aZ _ w).alloc (aL _) _
 have AN:Hid (eK w1 ab nb cn lb cl aI nl R):=Z ⟨HX.o.c.later hB,HX.o.pos⟩;obtain⟨g0,g1,g2,g3,g4⟩:=X.c5;have h1':=AN.o.h1;obtain⟨j0,j1,j2,j3,j4⟩:=AN.o.aW hn;have fn':=AN.o.fn;have HBF:=Z (aC.ai (S:=[ab,nb,lb]) hB);clear kI X hB h1 k0 k1 k2 k3 k4 fn HX HH;generalize w.heap.size=bx at*;generalize hy':R.val n=y' at*;clear hy';have bt:bx≠nb:=G;go_region;go_wp2;go_ret;exact⟨rfl,(gH HBF.o az (n*8) x).drew,(AN.o.C_ hn x).drewN 1⟩
def mf(h:sY w ab V L aI nl R){q:Nat}(hq:q<nl):Calls prog 204 #[Oi ab,Y q] w λr w'=>r=Xc (Y (R.dz q))/\w=w':=by have HI:=Z (Ml h hq (e:=0) G);obtain⟨lb,cl,rfl⟩:=rK h hq;have h2:Xf w (I ab 2)=O (H (O (I lb 0)) nl cl):=h.head.cell 2;have h5:=h.lists.cell (o:=q*3+2) G;rw[BO]at h5;generalize R.dz q=k at*;clear h;go_enter func204,ntmps204;go_wp2_with (go_at_call 224;refine HI.o.mono ?_;rintro r w' ⟨rfl,rfl⟩);exact G7
def eY(n:Int):to:= .tuple #[Y (if 0<=n then n else 0),.bool (decide (0<=n))]
def BQ(n:Int)(w:ek):Calls prog 225 #[Y n] w λr w'=>r=Xc (.tuple #[Y (if 0<=n then n else 0),.bool (decide (0<=n))])/\w=w':=by
 by_cases h:0<=n
 ·rw[aE h,decide_eq_true h];exact TT n h w
 ·rw[ax h,decide_eq_false h];exact TU n G w
def Ps(h:sY w ab V L aI nl R){q e:Nat}(hq:q<nl)(he:e<=1):Calls prog 134 #[Oi ab,Y q,Y e] w λr w'=>r=Xc (eY (R.ends q e))/\w=w':=by
 have HI:=Z (Ml h hq he);obtain⟨lb,cl,rfl⟩:=rK h hq;have h2:Xf w (I ab 2)=O (H (O (I lb 0)) nl cl):=h.head.cell 2;have h5:=h.lists.cell (o:=q*3+e) G;rw[yZ R q he]at h5;have HT:=Z (BQ (R.ends q e));unfold eY;generalize R.ends q e=k at*;clear h;have Kd:e=0\/e=1:=G;rcases Kd with rfl|rfl
 all_goals
  try simp only[Nat.add_zero]at h5
  go_enter func134,ntmps134;go_wp2_with (first|(go_at_call 224;refine HI.o.mono ?_;rintro r w' ⟨rfl,rfl⟩)|(go_at_call 225;refine(HT.o _).mono ?_;rintro r w' ⟨rfl,rfl⟩))
  all_goals (go_ret2;exact⟨rfl,rfl⟩)
def ZJ(h:sY w ab V L aI nl R){n e:Nat}(hn:n<R.made)(ho:0<=R.own n)(hm:R.made<=aI)(he:e<=1):Calls prog 135 #[Oi ab,Y n,Y e] w λr w'=>r=Xc (eY (R.bY n e))/\w=w':=by
 have HH:=Z (sD h hn ho hm);have HE:=Z (Kr he w);obtain⟨nb,cn,rfl⟩:=rL h hn;have h1:Xf w (I ab 1)=O (H (O (I nb 0)) R.made cn):=h.head.cell 1;have h5:=h.nodes.cell (o:=n*8+(6+e)) G;rw[BN R n he]at h5;have HT:=Z (BQ (R.bY n e));unfold eY;generalize R.bY n e=k at*;generalize R.made=m at*;clear h;have Kd:e=0\/e=1:=G;rcases Kd with rfl|rfl
 all_goals
  try simp only[Nat.add_zero]at h5
  go_enter func135,ntmps135;go_wp2_with (first|(go_at_call 133;refine HH.o.mono ?_;rintro r w' ⟨rfl,rfl⟩)|(go_at_call 226;refine HE.o.mono ?_;rintro r w' ⟨rfl,rfl⟩)|(go_at_call 225;refine(HT.o _).mono ?_;rintro r w' ⟨rfl,rfl⟩))
  all_goals (go_ret2;exact⟨rfl,rfl⟩)
def BR{k:Int}{m:Nat}(h:k=(m:Int)):eY k= .tuple #[Y m,.bool true]:=by unfold eY;rw[aE G,decide_eq_true G,h]
def BS{k:Int}(h:k<0):eY k= .tuple #[Y 0,.bool false]:=by unfold eY;rw[ax G,decide_eq_false G]
def mu(R:Raw)(n:Nat):(dB R n).own=R.own/\(dB R n).made=R.made/\(dB R n).val=R.val/\(dB R n).dA=R.dA/\(dB R n).used=R.used:=by obtain⟨o1,o2,o3,o4,o5,o6⟩:=uz R n (R.own n).toNat 0 (R.bY n 0);obtain⟨p1,p2,p3,p4,p5,p6⟩:=uz (mG R n (R.own n).toNat 0 (R.bY n 0)) n (R.own n).toNat 1 (R.bY n 1);exact⟨p1.trans o1,p2.trans o2,p3.trans o3,p4.trans o4,p5.trans o5⟩
variable {nb cn lb cl:Nat}
def E4(w:ek)(ab nb n:Nat)(Pt:Int)(k:Nat):ek:=
 (((((dT w nb (n*8) eB).setCell (I nb (n*8+5)) (Y (-1))).setCell (I nb (n*8+6)) (Y Pt)).setCell (I nb (n*8+7)) (Y (-1))).setCell (I ab 3) (Y n)).setCell (I ab 4) (Y k)
def Pu(h:eK w ab nb cn lb cl aI nl R){n:Nat}(hn:n<R.made)(k:Nat):eK (E4 w ab nb n R.dA k) ab nb cn lb cl aI nl
 {R with val:=aS R.val n eB,own:=aS R.own n (-1),bY:=dq (dq R.bY n 0 R.dA) n 1 (-1),dA:=n,used:=k}:=
 (((((h.C_ hn eB).y_ hn (-1)).jz (e:=0) hn G R.dA).jz (e:=1) hn G (-1)).E3 n).CZ k
def BT(w:ek)(ab nb lb n:Nat)(Pt:Int)(k:Nat):aC [ab,nb,lb] w (E4 w ab nb n Pt k):=by unfold E4;exact((((((gH (aC.refl _ w) az _ _).setCell az _).setCell az _).setCell az _).setCell az _).setCell az _)
def lK{b:Nat}{v0 v1 v2 v3 v4:to}(h:aH w b 118 #[v0,v1,v2,v3,v4])(x:eW):aH (dT w b 0 x) b 118 #[.int .u64 x.key,Y (x.tg 0),Y (x.tg 1),Y (x.tg 2),Y (x.tg 3)]:=
 ((((h.set 0 _).set 1 _).set 2 _).set 3 _).set 4 _
def ze{S:List Nat}{a:ek}{b:Nat}(h:aC S a w)(X:a.heap.size<=b)(o:Nat)(x:eW):aC S a (dT w b o x):=
 ((((h.tP X _).tP X _).tP X _).tP X _).tP X _
def ZK(h:eK w ab nb cn lb cl aI nl R){n l:Nat}(hn:n<R.made)(hl:l<nl)(ho:R.own n=(l:Int))(h0:rJ R n 0)(h1:rJ R n 1)(hc:R.dz l<=4194304)(zd:0<R.dz l)(hm:R.made<=4194304)(kQ:nl<=256)(hu:0<R.used)(zg:R.used<=4194304):
 Calls prog 143 #[Oi ab,Y n] w λr w'=>r=Xc (bP (R.val n))/\aC [ab,nb,lb] w w'/\eK w' ab nb cn lb cl aI nl (lT R n):=by
 have yi:Below w.heap.size w (w.alloc (Xe #[.int .u64 0,Y 0,Y 0,Y 0,Y 0] 118)):=(aZ _ w).alloc (aL _) _;have El:=aH.new w 118 #[.int .u64 0,Y 0,Y 0,Y 0,Y 0];have xf:eK _ ab nb cn lb cl aI nl R:=⟨h.c.later yi,h.pos⟩;have HC:=Z (Xu xf hn hl ho h0 h1 hc zd hm kQ);have je:=xf.apart El;have fM:=Z yi;have xh:=Z El;clear yi El xf;obtain⟨f1,f2,f3,f4,f5⟩:=mu R n;have HF:=Z (show lT R n={dB R n with val:=aS (dB R n).val n eB,own:=aS (dB R n).own n (-1),bY:=dq (dq (dB R n).bY n 0 (dB R n).dA) n 1 (-1),dA:=n,used:=R.used-1}by unfold lT OR;rw[f5]);have hv:R.val n=(dB R n).val n:=by rw[f3]
 rw[hv];rw[<-f2]at hn;have hU:R.used=(dB R n).used:=f5.symm;rw[hU]at hu zg HF;clear h0 h1 hc zd hm kQ ho hl hv f1 f2 f3 f4 f5 h hU;generalize dB R n=R1 at*;obtain⟨k,hk⟩:∃k,R1.used=k+1:=⟨R1.used-1,G⟩;unfold bP;generalize hy:R1.val n=y;have HY:=Z hy;clear hy;go_enter func143,ntmps143;have HK:=Z hk;rw[hk]at hu zg;clear hk;go_wp2_with fail;refine HC.o.mono ?_;rintro r w1 ⟨rfl,F1,X1⟩;have Zg:aH w1 w.heap.size 118 #[.int .u64 0,Y 0,Y 0,Y 0,Y 0]:=xh.o.aG F1 kZ;have hF0:aC [ab,nb,lb] w w1:=(aC.ai fM.o).trans F1;obtain⟨d1,d2,d3⟩:=X1.ne;obtain⟨a1,a3,a4,k0,k1,k2,k3,k4,b5,b6,b7,fn,fa⟩:=X1.facts hn;rw[HY.o]at k0 k1 k2 k3 k4;have HX:=Z X1;have Em:=Z Zg;have ZL:=Z hF0;have hz:w.heap.size≠ab/\w.heap.size≠nb/\w.heap.size≠lb/\w.heap.size<w1.heap.size:=⟨G,G,G,Zg.lt⟩;have Da:Hid (w.heap.size<=w.heap.size):=Z (aL _);clear Zg hF0 xh fM HC X1 F1 je;generalize gP:w.heap.size=bx at*;have lL:Hid (w.heap.size<=bx):=Z G;clear gP Da;go_wp2;obtain⟨w2,tQ⟩:∃w2,w2=w1.alloc (Xe #[.int .u64 y.key,Y (y.tg 0),Y (y.tg 1),Y (y.tg 2),Y (y.tg 3)] 118):=⟨_,rfl⟩;rw[<-tQ];have hB2:Below w1.heap.size w1 w2:=by rw[tQ];exact(aZ _ w1).alloc (aL _) _
 have E5:aH w2 w1.heap.size 118 #[.int .u64 y.key,Y (y.tg 0),Y (y.tg 1),Y (y.tg 2),Y (y.tg 3)]:=by rw[tQ];exact aH.new _ _ _
 have nN:=Z (HX.o.later hB2);have um:=Z (Em.o.of (hB2.block _ hz.2.2.2));have E6:=Z (ZL.o.trans (aC.ai hB2));have hv:w1.heap.size≠ab/\w1.heap.size≠nb/\w1.heap.size≠lb:=by have:=nN.o.apart E5;omega
 clear tQ a1 a3 a4 k0 k1 k2 k3 k4 b5 b6 b7 fn fa HX Em ZL hB2;obtain⟨a1,a3,a4,k0,k1,k2,k3,k4,b5,b6,b7,fn,fa⟩:=nN.o.facts hn;rw[HY.o]at k0 k1 k2 k3 k4;rw[HK.o]at a4;obtain⟨g0,g1,g2,g3,g4,gf⟩:=kV um.o;obtain⟨v0,v1,v2,v3,v4,a0o⟩:=kV E5;generalize uA:R1.dA=Pt at*;have tR:=Z uA;clear uA E5;generalize w1.heap.size=vx at*;go_region;go_wp2;have x3:=Pu nN.o hn k;rw[tR.o]at x3;have r4:=lK (um.o.aG (BT w2 ab nb lb n Pt k) kZ) y;have x4:=(x3.aG (gH (b:=bx) (aC.refl [bx] _) az 0 y) ⟨by simp;omega,by simp;omega,by simp;omega⟩).drewN 1;have f4:=(ze (E6.o.trans (BT w2 ab nb lb n Pt k)) lL.o 0 y).drewN 1;have r5:=r4.drewN 1;change bodyPost _ _ _ _ _ ((dT (E4 w2 ab nb n Pt k) bx 0 y).drewN 1);generalize(dT (E4 w2 ab nb n Pt k) bx 0 y).drewN 1=w5 at*;obtain⟨e0,e1,e2,e3,e4,_⟩:=kV r5;have hF:=HF.o;rw[HK.o]at hF;have hF':lT R n={R1 with val:=aS R1.val n eB,own:=aS R1.own n (-1),bY:=dq (dq R1.bY n 0 Pt) n 1 (-1),dA:=n,used:=k}:=hF;exact bR (v:= .agg #[.int .u64 y.key,Y (y.tg 0),Y (y.tg 1),Y (y.tg 2),Y (y.tg 3)]) (by simp[results,results143,go_sem,e0,e1,e2,e3,e4]) rfl ⟨rfl,f4,by rw[hF'];exact x4⟩
end
end Go.eO
