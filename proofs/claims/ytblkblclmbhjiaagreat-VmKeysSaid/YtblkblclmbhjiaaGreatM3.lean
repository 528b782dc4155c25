import Derived.Test.YtblkblclmbhjiaaGreatM2
import Derived.Test.YtblkblclmbhjiaaGreatRows
set_option linter.unusedVariables false
set_option linter.unusedSimpArgs false
set_option maxHeartbeats 40000000
set_option maxRecDepth 100000
abbrev af7:=@Bool.eq_iff_iff
abbrev agc:=@decide_eq_false_iff_not
abbrev agi:=@of_decide_eq_true
abbrev agk:=@Bool.eq_false_iff
abbrev agx:=@decide_eq_true
abbrev af5:=@Option.some.injEq
abbrev agu:=@List.drop_eq_getElem_cons
namespace ak.Vm
structure kE where
 ty:List Nat
 loop:Int
 hand:Int
 jI:Bool
 deriving DecidableEq
def s0:kE:=⟨[],0,0,false⟩
structure jS where
 at_:Nat->kE
 up:Nat->Int
def fx (p:aO) (n:Nat):Bool:=(p.on++[p.aJ]).contains (n:Int)
def gE (p:aO) (n:Int):Bool:=decide (0<=n)&&decide (n < p.code.length)&&decide ((ai p n.toNat).op=25)
def dZ (p:aO) (x:Ins) (h:Int):Bool×Int:=
 if x.op=36 then (decide (h=2),3)
 else if x.op=37 then (decide (h=1)||decide (h=3),0)
 else if x.op=35 then (if bj p x.a then (decide (h=1)||decide (h=3),0) else (decide (h=2),0))
 else if x.op=34 then (if bj p x.a then (decide (h=0),1) else (decide (h=0),2))
 else if (1<=x.op/\x.op<=21)\/x.op=28\/x.op=29\/x.op=30 then (true,h)
 else (decide (h=0),0)
def cw (x:Ins) (ty:List Nat):Int×List Nat:=
 let t:=bO x.op.toNat
 let g:=if aR x.op.toNat=0 then [] else [aR x.op.toNat]
 let left:=g++ty.drop t.length
 if ty.length < t.length\/(x.op=0/\t.length < ty.length) then (93,[])
 else if 256 < left.length then (93,[])
 else if x.op=19 then (if ty.getD 0 0≠ty.getD 1 0 then (94,[]) else (0,left))
 else if ty.take t.length≠t then (94,[]) else (0,left)
def dL (p:aO) (L:jS) (pc:Nat) (x:Ins) (ty:List Nat) (loop:Int):Bool:=
 if (x.op=22\/x.op=23\/x.op=25\/x.op=26)/\(x.a<=pc\/gE p x.a=true) then false
 else if x.op=25 then decide (0 < pc)&&decide ((ai p (pc - 1)).op=24)&& !fx p pc
 else if x.op=24 then gE p ((pc:Int)+1)
 else if x.op=26 then decide (0<=loop)&&decide (x.a=(ai p loop.toNat).a)
 else if x.op=27 then decide (0<=loop)&&decide (x.a=loop)&&decide (ty=(L.at_ loop.toNat).ty)
 else if x.op=0 then decide (loop < 0)
 else true
def dP (L:jS) (pc:Nat) (x:Ins) (s:kE):List (Nat×kE):=
 if x.op=0\/x.op=27 then []
 else if x.op=22 then [(x.a.toNat,s)]
 else if x.op=23 then [(pc+1,s),(x.a.toNat,s)]
 else if x.op=25 then [(pc+1,{s with loop:=pc}),(x.a.toNat,s)]
 else if x.op=26 then [(pc+1,s),(x.a.toNat,{s with loop:=L.up s.loop.toNat})]
 else [(pc+1,s)]
def fQ (L:jS) (pc:Nat) (x:Ins) (loop:Int):jS:=if x.op=25 then {L with up:=aL L.up pc loop} else L
def sI (L:jS) (l:List (Nat×kE)):Bool:=l.all fun w=> !(L.at_ w.1).jI||decide (L.at_ w.1=w.2)
def eC (L:jS):List (Nat×kE)->Option jS
 |[]=>some L
 |w::l=>if (L.at_ w.1).jI then (if L.at_ w.1=w.2 then eC L l else none) else eC {L with at_:=aL L.at_ w.1 w.2} l
def jj (p:aO) (L:jS) (pc:Nat):Int×jS:=
 let x:=ai p pc
 let s:=L.at_ pc
 if s.jI=false then (99,L)
 else if (dZ p x s.hand).1=false then (96,L)
 else if (cw x s.ty).1≠0 then ((cw x s.ty).1,L)
 else if cJ p x=false then (92,L)
 else if dL p L pc x (cw x s.ty).2 s.loop=false then (95,L)
 else
  let L1:=fQ L pc x s.loop
  let l:=dP L1 pc x ⟨(cw x s.ty).2,s.loop,(dZ p x s.hand).2,true⟩
  if l.any (fun w=>decide (w.1=p.code.length)) then (98,L1)
  else if sI L1 l=false then (94,L1)
  else match eC L1 l with
   |none=>(94,L1)
   |some L2=>(0,L2)
def eX (p:aO):Nat->Nat->jS->(Int×Nat) ⊕ jS
 |0,_,L=> .inr L
 |k+1,pc,L=>if (jj p L pc).1=0 then eX p k (pc+1) (jj p L pc).2 else .inl ((jj p L pc).1,pc)
def f_ (p:aO):jS:=⟨fun n=>if fx p n then ⟨[],-1,0,true⟩ else s0,fun _=>0⟩
def fh:List Nat->Int
 |[]=> -1
 |t::_=>t
structure Hw (p:aO) (T:Map) (L:jS) (pc:Nat):Prop where
 OZ:∀n s,T n=some s->L.at_ n=⟨s.ty,fh s.lo,s.ha,true⟩
 no:∀n,T n=none->(L.at_ n).jI=false
 up:∀n s,T n=some s->n < pc->(ai p n).op=25->L.up n=fh s.lo
 loops:∀q s,T q=some s->de p T q s.lo
 len:∀q s,T q=some s->s.ty.length<=256
 lt:∀q s,T q=some s->q < p.code.length
theorem head_eq {p:aO} {T:Map} {q q':Nat} {a b:List Nat} (ha:de p T q a) (hb:de p T q' b) (h:fh a=fh b):a=b:=by
 cases a with
 |nil=>cases b with
  |nil=>rfl
  |cons t l=>simp only [fh] at h;omega
 |cons t l=>cases b with
  |nil=>simp only [fh] at h;omega
  |cons t' l'=>
   have e:t=t':=by simp only [fh] at h;omega
   subst e;obtain ⟨_,_,s,h1,h2⟩:=ha;obtain ⟨_,_,s',h3,h4⟩:=hb;rw [h1] at h3;have:s=s':=af0 h3;subst this;rw [<-h2,<-h4]
theorem Hx (p:aO) (x:Ins) (ha:Nat) (h0:0<=x.op) (Xh:x.op<=41):(dZ p x ha).1=dU p x ha/\(dU p x ha=true->(dZ p x ha).2=(be p x ha:Nat)):=by
 unfold dZ dU be;by_cases h36:x.op=36
 ·simp only [h36,afE rfl];exact ⟨by rw [af7];simp;omega,fun _=>rfl⟩
 simp only [h36,if_false];by_cases Xi:x.op=37
 ·simp only [Xi];refine ⟨?_,fun _=>by simp⟩;rw [af7];simp;omega
 simp only [Xi,if_false];by_cases Xj:x.op=35
 ·simp only [Xj];cases bj p x.a
  ·exact ⟨by rw [af7];simp;omega,fun _=>by simp⟩
  ·exact ⟨by rw [af7];simp;omega,fun _=>by simp⟩
 simp only [Xj,if_false];by_cases h34:x.op=34
 ·simp only [h34];cases bj p x.a
  ·exact ⟨by rw [af7];simp,fun _=>by simp⟩
  ·exact ⟨by rw [af7];simp,fun _=>by simp⟩
 simp only [h34,if_false];by_cases hs:x.op=28\/x.op=29\/x.op=30
 ·rw [afE (.inr hs),afE hs];simp [Xj,Xi]
 rw [abH hs];by_cases hr:1<=x.op/\x.op<=21
 ·rw [afE (.inl hr)];simp [Xj,Xi,hr.1,hr.2]
 ·rw [abH (by simp only [not_or];exact ⟨hr,fun h=>hs (.inl h),fun h=>hs (.inr (.inl h)),fun h=>hs (.inr (.inr h))⟩)];have e1:(decide (1<=x.op)&&decide (x.op<=21))=false:=by rw [agk];simp;omega
  rw [e1];refine ⟨by rw [af7];simp,fun h=>?_⟩;simp at h;simp [Xj,Xi,h]
theorem sJ (n:Nat):bO n=[]\/bO n=[1]\/bO n=[2]\/bO n=[1,1]\/(n=19/\bO n=[3,3]):=by unfold bO;split<;>simp
theorem Hy (x:Ins) (ty:List Nat) (h0:0<=x.op) (hl:ty.length<=256):(cw x ty).1=bM x ty/\(bM x ty=0->(cw x ty).2=aT x ty):=by
 have hz:x.op=0->bO x.op.toNat=[]:=fun h=>by rw [h];rfl
 have sE:x.op.toNat=19↔x.op=19:=omm;unfold cw bM aT;dsimp only;have hg:(if aR x.op.toNat=0 then ty.drop (bO x.op.toNat).length else aR x.op.toNat::ty.drop (bO x.op.toNat).length)=(if aR x.op.toNat=0 then [] else [aR x.op.toNat])++ty.drop (bO x.op.toNat).length:=by split<;>rfl
 rw [hg];have hlen:((if aR x.op.toNat=0 then [] else [aR x.op.toNat])++ty.drop (bO x.op.toNat).length).length=(if aR x.op.toNat=0 then 0 else 1)+(ty.length - (bO x.op.toNat).length):=by rw [List.length_append,List.length_drop];split<;>rfl
 rw [hlen];generalize (if aR x.op.toNat=0 then [] else [aR x.op.toNat])++ty.drop (bO x.op.toNat).length=R;by_cases c1:ty.length < (bO x.op.toNat).length\/(x.op=0/\0 < ty.length)
 ·have c2:ty.length < (bO x.op.toNat).length\/(x.op=0/\(bO x.op.toNat).length < ty.length):=by
   rcases c1 with c1|⟨c1,c2⟩
   ·exact .inl c1
   ·exact .inr ⟨c1,by rw [hz c1];exact c2⟩
  rw [afE c2,afE (by rcases c1 with c|c;exact .inl c;exact .inr (.inl c))];exact ⟨rfl,fun h=>by simp at h⟩
 ·have c2:¬(ty.length < (bO x.op.toNat).length\/(x.op=0/\(bO x.op.toNat).length < ty.length)):=by
   intro c;apply c1;rcases c with c|⟨c,c'⟩
   ·exact .inl c
   ·rw [hz c] at c';exact .inr ⟨c,by simpa using c'⟩
  rw [abH c2];simp only [not_or] at c1;by_cases c3:aR x.op.toNat≠0/\256 < ty.length - (bO x.op.toNat).length+1
  ·rw [afE (show 256 < _ by rw [abH c3.1];omega),afE (.inr (.inr c3))];exact ⟨rfl,fun h=>by simp at h⟩
  ·rw [abH (show ¬256 < _ by
    by_cases g:aR x.op.toNat=0
    ·rw [afE g];omega
    ·rw [abH g];intro h;exact c3 ⟨g,omm⟩)]
   rw [abH (show ¬(_\/_\/_) by simp only [not_or];exact ⟨c1.1,c1.2,c3⟩)];have c4:=c1.1;rcases sJ x.op.toNat with e|e|e|e|⟨e0,e⟩
   ·rw [e];have h:x.op≠19:=by intro h;rw [h] at e;exact absurd e dee
    simp [hZ,h]
   ·rw [e] at c4 ⊢;have h:x.op≠19:=by intro h;rw [h] at e;exact absurd e dee
    cases ty with
    |nil=>simp at c4
    |cons a l=>by_cases ha:a=1<;>simp [hZ,h,ha]
   ·rw [e] at c4 ⊢;have h:x.op≠19:=by intro h;rw [h] at e;exact absurd e dee
    cases ty with
    |nil=>simp at c4
    |cons a l=>by_cases ha:a=2<;>simp [hZ,h,ha]
   ·rw [e] at c4 ⊢;have h:x.op≠19:=by intro h;rw [h] at e;exact absurd e dee
    cases ty with
    |nil=>simp at c4
    |cons a l=>
     cases l with
     |nil=>simp at c4
     |cons b l=>by_cases ha:a=1<;>by_cases hb:b=1<;>simp [hZ,h,ha,hb]
   ·have h:x.op=19:=sE.1 e0;rw [e] at c4 ⊢;cases ty with
    |nil=>simp at c4
    |cons a l=>
     cases l with
     |nil=>simp at c4
     |cons b l=>by_cases hb:a=b<;>simp [hZ,h,hb]
def iy (s:Std):kE:=⟨s.ty,fh s.lo,s.ha,true⟩
def m16 (w:Nat×Std):Nat×kE:=(w.1,iy w.2)
theorem yi {p:aO} {T:Map} {q q':Nat} {a b:Std} (ha:de p T q a.lo) (hb:de p T q' b.lo) (h:iy a=iy b):a=b:=by obtain ⟨t1,l1,h1⟩:=a;obtain ⟨t2,l2,h2⟩:=b;simp only [iy,kE.mk.injEq] at h;have e:=head_eq ha hb h.2.1;simp only at e;rw [h.1,e,show h1=h2 by omega]
structure LA (T:Map) (at_:Nat->kE):Prop where
 OZ:∀n s,T n=some s->at_ n=iy s
 no:∀n,T n=none->(at_ n).jI=false
theorem LA.aL {T:Map} {at_:Nat->kE} (h:LA T at_) (n:Nat) (s:Std):LA (Vm.aL T n (some s)) (Vm.aL at_ n (iy s)):=by
 refine ⟨fun m t hm=>?_,fun m hm=>?_⟩
 ·rw [cG] at hm ⊢;split
  ·next e=>rw [afE e] at hm;rw [af0 hm]
  ·next e=>rw [abH e] at hm;exact h.OZ m t hm
 ·rw [cG] at hm ⊢;split
  ·next e=>rw [afE e] at hm;simp at hm
  ·next e=>rw [abH e] at hm;exact h.no m hm
theorem Hz {T:Map} {L:jS} (A:LA T L.at_) {l:List (Nat×Std)} (hq:∀w,w∈l->∀s,T w.1=some s->iy s=iy w.2->s=w.2):sI L (l.map m16)=yI T l:=by
 unfold sI yI
 induction l with
 |nil=>rfl
 |cons w l ih=>
  simp only [List.map_cons,List.all_cons];rw [ih (fun v hv=>hq v (by simp [hv]))];congr 1;show (!(L.at_ w.1).jI||decide (L.at_ w.1=iy w.2))=_;cases hT:T w.1 with
  |none=>rw [A.no _ hT];rfl
  |some s=>
   rw [A.OZ _ _ hT];show (!true||decide (iy s=iy w.2))=decide (s=w.2);by_cases e:s=w.2
   ·rw [e];simp
   ·rw [decide_eq_false e,decide_eq_false (fun h=>e (hq w smm s hT h))];rfl
theorem uq {T:Map} {L:jS} (A:LA T L.at_) {w:Nat×Std} {l:List (Nat×kE)} (hm:∀s,T w.1=some s->s=w.2):
 ∃D3,eC L (m16 w::l)=eC {L with at_:=D3} l/\LA (aL T w.1 (some w.2)) D3:=by
 show ∃D3,(if (L.at_ w.1).jI then (if L.at_ w.1=iy w.2 then eC L l else none) else eC {L with at_:=aL L.at_ w.1 (iy w.2)} l)=_/\_;cases hT:T w.1 with
 |none=>rw [A.no _ hT];exact ⟨_,rfl,A.aL _ _⟩
 |some s=>
  have:=hm s hT;subst this;have e:=A.OZ _ _ hT;rw [e];refine ⟨L.at_,by show (if true=true then (if iy w.2=iy w.2 then eC L l else none) else _)=_;rw [afE rfl,afE rfl],?_⟩;have e2:aL T w.1 (some w.2)=T:=by
   funext n;rw [cG];split
   ·next e'=>rw [e',hT]
   ·rfl
  rw [e2];exact A
theorem vz {T:Map} {l:List (Nat×Std)} (h:yI T l=true) {w:Nat×Std} (hw:w∈l) {s:Std} (hs:T w.1=some s):s=w.2:=by have:=(List.all_eq_true.1 h) w hw;rw [hs] at this;simpa using this
theorem KW {T:Map} {L:jS} (A:LA T L.at_) {l:List (Nat×Std)} (h2:l=[]\/(∃a,l=[a])\/∃a b,l=[a,b]) (hm:yI T l=true) (hq:∀v w,v∈l->w∈l->iy v.2=iy w.2->v.2=w.2):
 (jh l=true->∃D3,eC L (l.map m16)=some {L with at_:=D3}/\LA (oP T l) D3)/\(jh l=false->eC L (l.map m16)=none):=by
 rcases h2 with rfl|⟨a,rfl⟩|⟨a,b,rfl⟩
 ·exact ⟨fun _=>⟨L.at_,rfl,A⟩,fun h=>by simp [jh] at h⟩
 ·obtain ⟨D3,e,A'⟩:=uq A (w:=a) (l:=[]) (fun s hs=>vz hm smm hs);exact ⟨fun _=>⟨D3,e,A'⟩,fun h=>by simp [jh] at h⟩
 ·obtain ⟨D3,e,A'⟩:=uq A (w:=a) (l:=[m16 b]) (fun s hs=>vz hm smm hs);show (_->∃D3,eC L [m16 a,m16 b]=_/\_)/\(_->eC L [m16 a,m16 b]=none);rw [e];have Xk:jh [a,b]=(decide (b.1=a.1)==false||decide (b.2=a.2)):=by simp [jh]
  rw [Xk];by_cases e1:b.1=a.1
  ·by_cases e2:b.2=a.2
   ·refine ⟨fun _=>?_,fun h=>by simp [e2] at h⟩;obtain ⟨at2,e3,A2⟩:=uq (L:={L with at_:=D3}) A' (w:=b) (l:=[]) (fun s hs=>by rw [e1,an] at hs;rw [e2];exact (af0 hs).symm);exact ⟨at2,e3,A2⟩
   ·refine ⟨fun h=>by simp [e1,e2] at h,fun _=>?_⟩;show (if (D3 b.1).jI then (if D3 b.1=iy b.2 then _ else none) else _)=none;have:=A'.OZ a.1 a.2 (an _ _ _);rw [e1,this];show (if true=true then (if iy a.2=iy b.2 then _ else none) else _)=none;rw [afE rfl,abH (fun h=>e2 ((hq a b smm smm h).symm))]
  ·refine ⟨fun _=>?_,fun h=>by simp [e1] at h⟩;obtain ⟨at2,e3,A2⟩:=uq (L:={L with at_:=D3}) A' (w:=b) (l:=[]) (fun s hs=>by rw [aj _ _ e1] at hs;exact vz hm smm hs);exact ⟨at2,e3,A2⟩
theorem vA (pc:Nat) (x:Ins) (s:Std):cm pc x s=[]\/(∃a,cm pc x s=[a])\/∃a b,cm pc x s=[a,b]:=by
 unfold cm;split
 ·exact .inl rfl
 split
 ·exact .inr (.inl ⟨_,rfl⟩)
 split
 ·exact .inr (.inr ⟨_,_,rfl⟩)
 split
 ·exact .inr (.inr ⟨_,_,rfl⟩)
 split
 ·exact .inr (.inr ⟨_,_,rfl⟩)
 ·exact .inr (.inl ⟨_,rfl⟩)
theorem Gc {p:aO} {n:Int} (h0:0<=n) (h1:n < p.code.length):gE p n=true↔(ai p n.toNat).op=25:=by unfold gE;simp [h0,h1]
theorem D4 {p:aO} {T:Map} {L:jS} {pc:Nat} {x:Ins} {ty lo:List Nat} (K:Hw p T L pc) (iF:de p T pc lo) (hx:(x.op=22\/x.op=23\/x.op=25\/x.op=26)->0<=x.a/\x.a < p.code.length):
 dL p L pc x ty (fh lo)=cC p T pc x ty lo:=by
 unfold dL cC;by_cases c1:(x.op=22\/x.op=23\/x.op=25\/x.op=26)/\(x.a<=pc\/(ai p x.a.toNat).op=25)
 ·rw [afE c1,afE ⟨c1.1,by rcases c1.2 with h|h;exact .inl h;exact .inr ((Gc (hx c1.1).1 (hx c1.1).2).2 h)⟩]
 ·rw [abH c1,abH (fun c=>c1 ⟨c.1,by rcases c.2 with h|h;exact .inl h;exact .inr ((Gc (hx c.1).1 (hx c.1).2).1 h)⟩)];by_cases pW:x.op=25
  ·rw [afE pW,abH omm,afE pW];rw [af7];unfold fx;simp;constructor
   ·rintro ⟨⟨a,b⟩,c,d⟩;exact ⟨⟨⟨a,b⟩,fun h=>d h.symm⟩,c⟩
   ·rintro ⟨⟨⟨a,b⟩,c⟩,d⟩;exact ⟨⟨a,b⟩,d,fun h=>c h.symm⟩
  rw [abH pW];by_cases NQ:x.op=24
  ·rw [afE NQ,afE NQ];unfold gE;rw [af7];simp;intro _;omega
  rw [abH NQ,abH NQ,abH pW];by_cases OX:x.op=26
  ·rw [afE OX,afE OX];cases lo with
   |nil=>simp [fh]
   |cons t l=>rw [af7,afW,afX,afX];exact ⟨fun h=>agx h.2,fun h=>⟨by simp [fh],agi h⟩⟩
  rw [abH OX,abH OX];by_cases Vv:x.op=27
  ·rw [afE Vv,afE Vv];cases lo with
   |nil=>simp [fh]
   |cons t l=>
    obtain ⟨_,_,s',hs,hl⟩:=iF;dsimp only;rw [hs];have hy:(L.at_ (fh (t::l)).toNat).ty=s'.ty:=by rw [show (fh (t::l)).toNat=t from rfl,K.OZ t s' hs]
    rw [af7];simp only [afW,afX,hy];constructor
    ·rintro ⟨⟨h1,h2⟩,h3⟩;exact ⟨h2,h3.symm,hl⟩
    ·rintro ⟨h2,h3,_⟩;exact ⟨⟨by simp [fh],h2⟩,h3.symm⟩
  rw [abH Vv,abH Vv];split
  ·cases lo with
   |nil=>simp [fh]
   |cons t l=>show decide (((t:Nat):Int) < 0)=false;rw [agc];omega
  ·rfl
theorem H_ {p:aO} {T:Map} {L:jS} {pc:Nat} {x:Ins} {ty lo:List Nat} {ha:Nat} {h':Int} (K:Hw p T L pc) (iF:de p T pc lo) (hj:cC p T pc x ty lo=true) (hh:h'=ha):
 dP (fQ L pc x (fh lo)) pc x ⟨ty,fh lo,h',true⟩=(cm pc x ⟨ty,lo,ha⟩).map m16:=by
 subst hh;unfold dP cm;split
 ·rfl
 split
 ·rfl
 split
 ·rfl
 split
 ·rfl
 split
 ·next OX=>
  have pW:¬x.op=25:=omm;unfold fQ;rw [abH pW];unfold cC at hj;rw [afE OX] at hj;cases lo with
  |nil=>exfalso;rw [abH (show ¬x.op=24 by omega),abH (show ¬x.op=25 by omega)] at hj;simp at hj
  |cons t l=>obtain ⟨h1,h2,s',hs,hl⟩:=iF;have:=K.up t s' hs h1 h2;simp only [List.map_cons,List.map_nil,m16,iy,fh,List.tail];rw [show ((t:Nat):Int).toNat=t from rfl,this,hl];rfl
 ·rfl
theorem O0 {p:aO} {pc:Nat} {x:Ins} {s:Std} (nj:pc < p.code.length) (hx:(x.op=22\/x.op=23\/x.op=25\/x.op=26)->0<=x.a/\x.a < p.code.length) {w:Nat×Std} (hw:w∈cm pc x s):w.1<=p.code.length:=by
 unfold cm at hw;split at hw
 ·simp at hw
 split at hw
 ·next h=>simp at hw;subst hw;have:=hx omm;dsimp only;omega
 split at hw
 ·next h=>simp at hw;have:=hx omm;rcases hw with rfl|rfl<;>dsimp only<;>omega
 split at hw
 ·next h=>simp at hw;have:=hx omm;rcases hw with rfl|rfl<;>dsimp only<;>omega
 split at hw
 ·next h=>simp at hw;have:=hx omm;rcases hw with rfl|rfl<;>dsimp only<;>omega
 ·simp at hw;subst hw;dsimp only;omega
theorem D5 {p:aO} {T:Map} {pc:Nat} {x:Ins} {s:Std} {ty lo:List Nat} (hj:cC p T pc x ty lo=true) {w:Nat×Std} (hw:w∈cm pc x s):pc < w.1:=by
 have key:(x.op=22\/x.op=23\/x.op=25\/x.op=26)->(pc:Int) < x.a:=by
  intro h;unfold cC at hj;by_cases c:x.a<=pc
  ·rw [afE ⟨h,.inl c⟩] at hj;simp at hj
  ·omega
 unfold cm at hw;split at hw
 ·simp at hw
 split at hw
 ·next h=>simp at hw;subst hw;have:=key omm;dsimp only;omega
 split at hw
 ·next h=>simp at hw;have:=key omm;rcases hw with rfl|rfl<;>dsimp only<;>omega
 split at hw
 ·next h=>simp at hw;have:=key omm;rcases hw with rfl|rfl<;>dsimp only<;>omega
 split at hw
 ·next h=>simp at hw;have:=key omm;rcases hw with rfl|rfl<;>dsimp only<;>omega
 ·simp at hw;subst hw;dsimp only;omega
theorem yj {x:Ins} {ty:List Nat} (h:bM x ty=0) (hl:ty.length<=256):(aT x ty).length<=256:=by
 unfold bM at h;dsimp only at h;split at h
 ·simp at h
 ·next h1=>
  unfold aT;dsimp only;split
  ·rw [List.length_drop];omega
  ·next hg=>
   rw [List.length_cons,List.length_drop];rcases Nat.lt_or_ge 256 (ty.length - (bO x.op.toNat).length+1) with h2|h2
   ·exact absurd (.inr (.inr ⟨hg,h2⟩)) h1
   ·omega
theorem O1 (L:jS) (pc:Nat) (x:Ins) (n:Int):(fQ L pc x n).at_=L.at_:=by unfold fQ;split<;>rfl
theorem D6 {p:aO} {T:Map} {L:jS} {pc:Nat} (K:Hw p T L pc) (nj:pc < p.code.length) (h0:0<=(ai p pc).op) (Xh:(ai p pc).op<=41)
 (hx:((ai p pc).op=22\/(ai p pc).op=23\/(ai p pc).op=25\/(ai p pc).op=26)->0<=(ai p pc).a/\(ai p pc).a < p.code.length):
 (jj p L pc).1=cO p T pc/\(cO p T pc=0->Hw p (iE p T pc) (jj p L pc).2 (pc+1)):=by
 have hA:LA T L.at_:=⟨K.OZ,K.no⟩;cases hT:T pc with
 |none=>unfold jj cO;rw [hT];dsimp only;rw [afE (K.no pc hT)];exact ⟨rfl,fun h=>by simp at h⟩
 |some s=>
  have hs:=K.OZ pc s hT;have iF:=K.loops pc s hT;have hlen:=K.len pc s hT;have hL:iE p T pc=oP T (fE p pc s):=by unfold iE;rw [hT];rfl
  unfold jj cO;rw [hT,hs];dsimp only;obtain ⟨a1,a2⟩:=Hx p (ai p pc) s.ha h0 Xh;obtain ⟨b1,b2⟩:=Hy (ai p pc) s.ty h0 hlen;unfold fE at hL;rw [abH (show ¬(true=false) by simp),a1,b1];cases c1:dU p (ai p pc) s.ha with
  |false=>exact ⟨rfl,fun h=>by simp at h⟩
  |true=>
  rw [abH (show ¬(true=false) by simp),abH (show ¬((!true)=true) by simp)];by_cases c2:bM (ai p pc) s.ty≠0
  ·rw [afE c2,afE c2];exact ⟨rfl,fun h=>absurd h c2⟩
  have c2:bM (ai p pc) s.ty=0:=omm;have c2':¬(bM (ai p pc) s.ty≠0):=omm;rw [abH c2',abH c2',b2 c2];cases c3:cJ p (ai p pc) with
  |false=>exact ⟨rfl,fun h=>by simp at h⟩
  |true=>
  rw [abH (show ¬(true=false) by simp),abH (show ¬((!true)=true) by simp),D4 K iF hx];cases c4:cC p T pc (ai p pc) (aT (ai p pc) s.ty) s.lo with
  |false=>exact ⟨rfl,fun h=>by simp at h⟩
  |true=>
  rw [abH (show ¬(true=false) by simp),abH (show ¬((!true)=true) by simp),a2 c1,H_ K iF c4 rfl];have aag:((cm pc (ai p pc) ⟨aT (ai p pc) s.ty,s.lo,be p (ai p pc) s.ha⟩).map m16).any (fun w=>decide (w.1=p.code.length))=(cm pc (ai p pc) ⟨aT (ai p pc) s.ty,s.lo,be p (ai p pc) s.ha⟩).any (fun w=>decide (p.code.length<=w.1)):=by
   rw [List.any_map,af7,List.any_eq_true,List.any_eq_true];constructor
   ·rintro ⟨w,h1,h2⟩;have h2:decide (w.1=p.code.length)=true:=h2;rw [afX] at h2;exact ⟨w,h1,agx omm⟩
   ·rintro ⟨w,h1,h2⟩;have:=O0 nj hx h1;rw [afX] at h2;exact ⟨w,h1,agx (show w.1=p.code.length by omega)⟩
  rw [aag];have Ι:∀w,w∈cm pc (ai p pc) ⟨aT (ai p pc) s.ty,s.lo,be p (ai p pc) s.ha⟩->de p T w.1 w.2.lo:=fun w hw=>I8 hT K.loops c4 hw;have Vw:LA T (fQ L pc (ai p pc) (fh s.lo)).at_:=by rw [O1];exact hA
  rw [Hz Vw (fun w hw s' Bl e=>yi (K.loops _ _ Bl) (Ι w hw) e)];have aah:=KW (L:=fQ L pc (ai p pc) (fh s.lo)) Vw (vA pc (ai p pc) ⟨aT (ai p pc) s.ty,s.lo,be p (ai p pc) s.ha⟩);have S3:=fun w (hw:w∈cm pc (ai p pc) ⟨aT (ai p pc) s.ty,s.lo,be p (ai p pc) s.ha⟩)=>D5 c4 hw;have aeV:=fun hm=>aah hm (fun v w hv hw e=>yi (Ι v hv) (Ι w hw) e);generalize hW:cm pc (ai p pc) ⟨aT (ai p pc) s.ty,s.lo,be p (ai p pc) s.ha⟩=l at*;split
  ·exact ⟨rfl,fun h=>by simp at h⟩
  ·next c5=>
   cases c6:yI T l with
   |false=>rw [afE rfl,afE smm];exact ⟨rfl,fun h=>by simp at h⟩
   |true=>
    rw [abH smm];cases c7:jh l with
    |false=>rw [(aeV c6).2 c7,afE smm];exact ⟨rfl,fun h=>by simp at h⟩
    |true=>
     obtain ⟨D3,e,A'⟩:=(aeV c6).1 c7;rw [e,abH smm];refine ⟨rfl,fun _=>?_⟩;obtain ⟨d1,d2,d3⟩:=zq l T c7 c6;rw [hL];refine ⟨A'.OZ,A'.no,fun n s' hn a8 pW=>?_,fun q s' hq=>?_,fun q s' hq=>?_,fun q s' hq=>?_⟩
     ·show (fQ L pc (ai p pc) (fh s.lo)).up n=_;have Κ:T n=some s':=by
       rcases d3 n s' hn with h|h
       ·exact h
       ·have:=S3 _ h;dsimp only at this;omega
      unfold fQ;by_cases e':n=pc
      ·subst e';rw [afE pW];show aL L.up n _ n=_;rw [an];rw [hT] at Κ;rw [af0 Κ]
      ·split
       ·show aL L.up pc _ n=_;rw [aj _ _ e'];exact K.up n s' Κ omm pW
       ·exact K.up n s' Κ omm pW
     ·rcases d3 q s' hq with h|h
      ·exact (K.loops q s' h).sub d1
      ·exact (Ι _ h).sub d1
     ·rcases d3 q s' hq with h|h
      ·exact K.len q s' h
      ·have:s'.ty=aT (ai p pc) s.ty:=by
        rw [<-hW] at h;unfold cm at h;split at h
        ·simp at h
        split at h
        ·simp at h;rw [h.2]
        split at h
        ·simp at h;rcases h with h|h<;>rw [h.2]
        split at h
        ·simp at h;rcases h with h|h<;>rw [h.2]
        split at h
        ·simp at h;rcases h with h|h<;>rw [h.2]
        ·simp at h;rw [h.2]
       rw [this];exact yj c2 hlen
     ·rcases d3 q s' hq with h|h
      ·exact K.lt q s' h
      ·simp only [Bool.not_eq_true,List.any_eq_false] at c5;have:=c5 _ h;simpa using this
theorem qI {p:aO} (mM:∀i,i∈p.code->iP i=true/\gI p i=true):∀(k pc:Nat) (T:Map) (L:jS),Hw p T L pc->pc+k<=p.code.length->
 (∀e,looks p k pc T= .inl e->eX p k pc L= .inl e)/\(∀T',looks p k pc T= .inr T'->∃L',eX p k pc L= .inr L'):=by
 intro k
 induction k with
 |zero=>intro pc T L K hk;exact ⟨fun e h=>by simp [looks] at h,fun T' h=>⟨L,rfl⟩⟩
 |succ k ih=>
  intro pc T L K hk;have nj:pc < p.code.length:=omm;obtain ⟨ho,hi⟩:=mM _ (ei nj);have ho:0<=(ai p pc).op/\(ai p pc).op<=41:=by unfold iP aF at ho;simpa using ho
  have hx:((ai p pc).op=22\/(ai p pc).op=23\/(ai p pc).op=25\/(ai p pc).op=26)->0<=(ai p pc).a/\(ai p pc).a < p.code.length:=by
   rintro (h|h|h|h)
   ·have:=js (dW hi (k:=22) omm).1;omega
   ·have:=js (dW hi (k:=23) omm).1;omega
   ·have:=js (dW hi (k:=25) omm).1;omega
   ·have:=js (dW hi (k:=26) omm).1;omega
  obtain ⟨e,K'⟩:=D6 K nj ho.1 ho.2 hx;unfold looks eX;rw [e];by_cases h:cO p T pc=0
  ·rw [afE h,afE h];exact ih (pc+1) _ _ (K' h) omm
  ·rw [abH h,abH h];exact ⟨fun e' he=>by rw [Sum.inl.inj he],fun T' h'=>by simp at h'⟩
theorem n_ {p:aO} (tb:vj p):Hw p (db p) (f_ p) 0:=by
 refine ⟨fun n s h=>?_,fun n h=>?_,fun n s _ h=>omm,KE p,fun q s h=>?_,fun q s h=>?_⟩
 ·unfold db at h;show (if fx p n then _ else s0)=_;unfold fx;split at h
  ·next h'=>rw [afE h',<-af0 h];rfl
  ·simp at h
 ·unfold db at h;show (if fx p n then _ else s0).jI=_;unfold fx;split at h
  ·simp at h
  ·next h'=>rw [abH h'];rfl
 ·unfold db at h;split at h
  ·rw [<-af0 h];decide
  ·simp at h
 ·unfold db at h;split at h
  ·next h'=>
   simp at h';have h1:=tb.aJ;rcases h' with h'|h'
   ·have:=tb.Xb _ h';omega
   ·omega
  ·simp at h
def vB (p:aO):Int×Int:=
 if bo p≠0 then (bo p,0)
 else match eX p p.code.length 0 (f_ p) with
  | .inl (e,at_)=>(e,at_)
  | .inr _=>match bk p (p.on++[p.aJ]) with
    |some n=>(97,n)
    |none=>(0,0)
theorem tH (p:aO):vB p=aZ p:=by
 unfold vB aZ;by_cases h:bo p=0
 ·rw [abH (by simp [h]),abH (by simp [h])];obtain ⟨tb,mM⟩:=cK h;obtain ⟨h1,h2⟩:=qI mM p.code.length 0 _ _ (n_ tb) omm;cases hl:looks p p.code.length 0 (db p) with
  |inl e=>rw [h1 e hl]
  |inr T=>obtain ⟨L',e⟩:=h2 T hl;rw [e];dsimp only;cases bk p (p.on++[p.aJ])<;>rfl
 ·rw [afE h,afE h]
def fH (ty:List Nat):ByteArray:=⟨(ty.reverse.map UInt8.ofNat).toArray⟩
theorem nw (ty:List Nat):(fH ty).size=ty.length:=by simp [fH,ByteArray.size]
theorem KY (g:Nat) (ty:List Nat):fH ty++⟨#[UInt8.ofNat g]⟩=fH (g::ty):=by apply ByteArray.ext;simp [fH,ByteArray.data_append]
theorem BB (ty:List Nat) (i:Nat):(fH ty)[i]? =(ty.reverse[i]?).map UInt8.ofNat:=by
 show (fH ty)[i]? =_;by_cases h:i < ty.length
 ·have h1:i < (fH ty).size:=by rw [nw];exact h
  rw [getElem?_pos (fH ty) i h1];rw [afP (by simpa using h)];simp only [Option.map_some];congr 1;show (fH ty).data[i]=_;simp [fH]
 ·rw [getElem?_neg (fH ty) i (by rw [nw];omega),List.getElem?_eq_none sso];rfl
theorem D7 {ty:List Nat} {j:Nat} (h:j < ty.length):ty.reverse[ty.length - 1 - j]? =some (ty.getD j 0):=by rw [List.getElem?_reverse omm];rw [show ty.length - 1 - (ty.length - 1 - j)=j by omega,afS,afP h];rfl
theorem KZ (ty:List Nat) (k:Nat):(fH ty).extract 0 (ty.length - k)=fH (ty.drop k):=by apply ByteArray.ext;simp only [fH,ByteArray.data_extract,List.extract_toArray,List.extract_eq_take_drop,List.drop_zero,Nat.sub_zero];congr 1;rw [List.reverse_drop,List.map_take]
def eI (ty:List Nat):Prop:=∀t,t∈ty->t=1\/t=2
theorem eI.take {ty:List Nat} (h:eI ty) (k:Nat):eI (ty.take k):=fun t ht=>h t (List.mem_of_mem_take ht)
theorem eI.drop {ty:List Nat} (h:eI ty) (k:Nat):eI (ty.drop k):=fun t ht=>h t (List.mem_of_mem_drop ht)
theorem eI.at {ty:List Nat} (h:eI ty) {j:Nat} (hj:j < ty.length):ty.getD j 0=1\/ty.getD j 0=2:=by rw [afS,afP hj];exact h _ (af6 hj)
theorem O3 {a b:List Nat} (ha:eI a) (hb:eI b) (h:fH a=fH b):a=b:=by
 have hl:a.length=b.length:=by rw [<-nw a,h,nw]
 refine List.ext_getElem hl fun j h1 h2=>?_;have e:=congrArg (fun s:ByteArray=>s[a.length - 1 - j]?) h;simp only [BB] at e;rw [D7 h1] at e;rw [hl,D7 h2] at e;simp only [Option.map_some,af5] at e;have x:=ha.at h1;have y:=hb.at h2;have ea:a.getD j 0=a[j]:=by rw [afS,afP h1];rfl
 have eb:b.getD j 0=b[j]:=by rw [afS,afP h2];rfl
 rw [<-ea,<-eb];rcases x with x|x<;>rcases y with y|y<;>rw [x,y] at e ⊢
 ·exact absurd e dee
 ·exact absurd e dee
def bE (lo:List Nat) (i:Nat):Nat:=lo.reverse.getD i 0
theorem O4 {lo:List Nat} {i:Nat} (h:lo.length<=i):bE lo i=0:=by unfold bE;rw [afS,List.getElem?_eq_none (by simpa using h)];rfl
theorem vC (t:Nat) (lo:List Nat) (i:Nat):bE (t::lo) i=if i=lo.length then t else bE lo i:=by
 unfold bE;rw [List.reverse_cons,afS,afS];by_cases h:i < lo.length
 ·rw [List.getElem?_append_left (by simpa using h),abH omm]
 ·rw [List.getElem?_append_right (by simpa using h)];by_cases h2:i=lo.length
  ·rw [afE h2];simp [h2]
  ·rw [abH h2,List.getElem?_eq_none sso,List.getElem?_eq_none sso]
theorem K_ (t:Nat) (lo:List Nat):bE (t::lo) lo.length=t:=by rw [vC,afE rfl]
theorem La (lo:List Nat) (i:Nat):bE lo.tail i=if i+1=lo.length then 0 else bE lo i:=by
 cases lo with
 |nil=>simp [bE]
 |cons t lo=>
  rw [List.tail_cons,vC];by_cases h:i=lo.length
  ·rw [afE (by simpa using h),O4 omm]
  ·rw [abH (by simpa using h),abH h]
theorem O5 {a b:List Nat} (hl:a.length=b.length) (h:∀i,i < a.length->bE a i=bE b i):a=b:=by refine List.reverse_inj.1 ?_;refine List.ext_getElem (by simpa using hl) fun i h1 h2=>?_;have e:=h i (by simpa using h1);unfold bE at e;rw [afS,afS,afP h1,afP h2] at e;exact e
def bH (S:Sys):Nat:=min (cF S.nq fun q=>if S.gh q then 0 else S.cq q) S.sz+cF S.nq fun q=>if S.gh q then S.cq q else 0
theorem BN {k:Nat} {f g:Nat->Nat} (h:∀j,j < k->f j<=g j) {q:Nat} (hq:q < k) (a8:f q < g q):cF k f < cF k g:=by
 induction k with
 |zero=>omega
 |succ k ih=>
  show cF k f+f k < cF k g+g k;have h2:=h k omm;by_cases e:q=k
  ·subst e;have:=qA (k:=q) (f:=f) (g:=g) fun j hj=>h j omm;omega
  ·have:=ih (fun j hj=>h j omm) omm;omega
theorem Im {k:Nat} {f g h:Nat->Nat} (e:∀j,j < k->f j+g j=h j):cF k f+cF k g=cF k h:=by
 induction k with
 |zero=>rfl
 |succ k ih=>have h1:=ih fun j hj=>e j omm;have h2:=e k omm;show (cF k f+f k)+(cF k g+g k)=cF k h+h k;omega
theorem Io (S:Sys) (a:Nd):fX S a+cF S.nq (fun q=>if S.gh q then (a.ls q).length else 0)=cF S.nq fun q=>(a.ls q).length:=by unfold fX;refine Im fun j hj=>?_;by_cases h:S.gh j=true<;>simp [h]
theorem acd {p:Prop} (h:p:=by
 have:=h.len j hj;by_cases hg:S.gh j=true<;>simp [hg];omega):p:=h
theorem Pf {S:Sys} {s:St} (h:Inv S s) {q:Nat} (hq:q < S.nq) (hl:(s.a.ls q).length < S.cq q) (ht:S.gh q=true\/s.total < S.sz):(cF S.nq fun q=>(s.a.ls q).length) < bH S:=by
 rw [<-Io S s.a];unfold bH;have h1:fX S s.a<=cF S.nq fun q=>if S.gh q then 0 else S.cq q:=qA fun j hj=>by exact acd
 have h2:cF S.nq (fun q=>if S.gh q then (s.a.ls q).length else 0)<=cF S.nq fun q=>if S.gh q then S.cq q else 0:=qA fun j hj=>by exact acd
 have h3:=h.NJ;have h4:=h.Kd;by_cases hg:S.gh q=true
 ·have:cF S.nq (fun q=>if S.gh q then (s.a.ls q).length else 0) < cF S.nq fun q=>if S.gh q then S.cq q else 0:=by
   refine BN (fun j hj=>?_) hq ?_
   ·exact acd
   ·simp [hg];exact hl
  omega
 ·have:fX S s.a < cF S.nq fun q=>if S.gh q then 0 else S.cq q:=by
   refine BN (fun j hj=>?_) hq ?_
   ·exact acd
   ·simp [hg];exact hl
  have h5:s.total < S.sz:=by rcases ht with ht|ht;exact absurd ht hg;exact ht
  omega
theorem Lo {p:aO} {c:Cp} (h:sC p c) (hg:p.ap.length<=16):(aw p c).sz<=1048576/\∀q,q < p.ap.length->(aw p c).cq q<=1048576:=by
 refine ⟨?_,fun q hq=>?_⟩
 ·show c.size.toNat<=_;have:=h.s2;omega
 ·show (c.aI.getD q 0).toNat<=_;have:=h.q1 q hq;omega
theorem Lp {p:aO} {c:Cp} {s:St} (h:Inv (aw p c) s) (hc:sC p c): -1073741824<=s.total/\s.total<=1048576:=by have h1:=h.Kd;have h2:=h.NJ;have h3:(aw p c).sz=c.size.toNat:=rfl;have:=hc.s2;omega
theorem yp {l:List Nat} {n:Nat} (h:n∈l):∃y,dir 0 l=y++n::iI l n:=by
 obtain ⟨y,e,_⟩:=lV h;refine ⟨y.reverse,?_⟩;unfold dir;rw [abH dee]
 conv=>lhs;rw [e]
 simp
theorem Gj (l:List Nat):hd l=if 0 < l.length then ((l.getD 0 0:Nat):Int) else -1:=by
 cases l<;>simp [hd]
theorem BO {l:List Nat} {n:Nat} (pR:l.Nodup) (h:n∈l):kK (dir 0 l) n=if 0 < (iI l n).length then (((iI l n).getD 0 0:Nat):Int) else -1:=by obtain ⟨y,e⟩:=yp h;have hn:=(kS (e:=0)).2 pR;rw [e] at hn ⊢;rw [jC (fun hy=>(List.nodup_append.1 hn).2.2 n hy n smm rfl),Gj]
theorem Ej {l:List Nat} {n k:Nat} (pR:l.Nodup) (h:n∈l) (hk:k < (iI l n).length):
 kK (dir 0 l) ((iI l n).getD k 0)=if k+1 < (iI l n).length then (((iI l n).getD (k+1) 0:Nat):Int) else -1:=by
 obtain ⟨y,e⟩:=yp h;have hn:=(kS (e:=0)).2 pR;rw [e] at hn ⊢;generalize iI l n=A at*;have e2:y++n::A=(y++n::A.take k)++A.getD k 0::A.drop (k+1):=by
  have h1:A=A.take k++A.getD k 0::A.drop (k+1):=by have h3:=(List.take_append_drop k A).symm;rw [agu hk] at h3;rw [afS,afP hk];exact h3
  conv=>lhs;rw [h1]
  simp
 rw [e2] at hn ⊢;rw [jC (fun hy=>(List.nodup_append.1 hn).2.2 _ hy _ smm rfl),Gj,List.length_drop];by_cases h2:k+1 < A.length
 ·rw [afE h2,afE omm];congr 1;simp [List.getD]
 ·rw [abH h2,abH omm]
theorem Ip {l:List Nat} {n k:Nat} (h:n∈l) (hk:k < (iI l n).length):(iI l n).getD k 0∈l:=by
 obtain ⟨y,e,_⟩:=lV h;have:(iI l n).getD k 0∈iI l n:=by rw [afS,afP hk];exact af6 hk
 generalize (iI l n).getD k 0=m at*;rw [e];simp [this]
theorem Iq (l:List Nat) (n:Nat):(iI l n).length<=l.length:=by unfold iI;rw [List.length_reverse];exact (List.takeWhile_sublist _).length_le
structure VM (p:aO) (T:Map):Prop where
 loops:∀q s,T q=some s->de p T q s.lo
 ty:∀q s,T q=some s->eI s.ty
 len:∀q s,T q=some s->s.ty.length<=256
 ha:∀q s,T q=some s->s.ha<=3
 lt:∀q s,T q=some s->q < p.code.length
theorem Mp:∀n,n < 42->aR n<=2:=by decide
theorem Cn {x:Ins} {ty:List Nat} (h:x.op.toNat < 42) (ht:eI ty):eI (aT x ty):=by
 have hg:=Mp _ h;unfold aT;dsimp only;split
 ·exact ht.drop _
 ·next h0=>
  intro t hm;rcases List.mem_cons.1 hm with rfl|hm
  ·omega
  ·exact ht.drop _ t hm
theorem PO {p:aO} {x:Ins} {ha:Nat} (h:ha<=3):be p x ha<=3:=by
 unfold be;split
 ·omega
 split
 ·omega
 split
 ·split<;>omega
 ·exact h
theorem acR {p:Prop} (h:p:=by
 simp at h;rcases h with rfl|rfl<;>exact ⟨rfl,rfl⟩):p:=h
theorem Ag {pc:Nat} {x:Ins} {s:Std} {w:Nat×Std} (h:w∈cm pc x s):w.2.ty=s.ty/\w.2.ha=s.ha:=by
 unfold cm at h;split at h
 ·simp at h
 split at h
 ·simp at h;subst h;exact ⟨rfl,rfl⟩
 split at h
 ·exact acR
 split at h
 ·exact acR
 split at h
 ·exact acR
 ·simp at h;subst h;exact ⟨rfl,rfl⟩
theorem EQ {p:aO} {T:Map} {pc:Nat} (K:VM p T) (Xh:(ai p pc).op<=41) (h:cO p T pc=0):VM p (iE p T pc):=by
 obtain ⟨s,hT,g1,g2,g3,g4,g5,g6,g7,g8⟩:=look_ok h;obtain ⟨a1,a2,a3⟩:=zq _ T g6 g7;rw [g8];have ht:=Cn (x:=ai p pc) omm (K.ty pc s hT);have hl:=yj g2 (K.len pc s hT);have hh:=PO (p:=p) (x:=ai p pc) (K.ha pc s hT);refine ⟨fun q s' hq=>?_,fun q s' hq=>?_,fun q s' hq=>?_,fun q s' hq=>?_,fun q s' hq=>?_⟩
 ·rcases a3 q s' hq with h1|h1
  ·exact (K.loops q s' h1).sub a1
  ·exact (I8 hT K.loops g4 h1).sub a1
 ·rcases a3 q s' hq with h1|h1
  ·exact K.ty q s' h1
  ·rw [(Ag h1).1];exact ht
 ·rcases a3 q s' hq with h1|h1
  ·exact K.len q s' h1
  ·rw [(Ag h1).1];exact hl
 ·rcases a3 q s' hq with h1|h1
  ·exact K.ha q s' h1
  ·rw [(Ag h1).2];exact hh
 ·rcases a3 q s' hq with h1|h1
  ·exact K.lt q s' h1
  ·exact g5 _ h1
theorem Ah {p:aO} (tb:vj p):VM p (db p):=by
 have L:=n_ tb;refine ⟨L.loops,fun q s h=>?_,L.len,fun q s h=>?_,L.lt⟩
 ·unfold db at h;split at h
  ·rw [<-af0 h];intro t ht;simp at ht
  ·simp at h
 ·unfold db at h;split at h
  ·rw [<-af0 h];exact Nat.zero_le _
  ·simp at h
def Am (p:aO):Prop:=∀j,j < p.code.length->0<=(ai p j).op/\((ai p j).op=22\/(ai p j).op=23->0<=(ai p j).a/\(ai p j).a < p.code.length)/\
 ((ai p j).op=24->0<=(ai p j).a/\(ai p j).a<=4194304/\j+2 < p.code.length/\0<=(ai p (j+1)).a/\(ai p (j+1)).a < p.code.length)/\((ai p j).op≠0->(ai p j).op≠27->(ai p j).op≠22->j+1 < p.code.length)
theorem yC {p:aO} {T:Map} (hc:bo p=0) (hl:looks p p.code.length 0 (db p)= .inr T):Am p:=by
 obtain ⟨tb,mM⟩:=cK hc;obtain ⟨-,-,fF⟩:=Bv _ _ _ _ hl (KE p);have cW:∀j,j < p.code.length->0<=(ai p j).op/\(ai p j).op<=41:=fun j hj=>by have:=(mM _ (ei hj)).1;unfold iP aF at this;simpa using this
 have nx:∀j,j < p.code.length->(ai p j).op≠0->(ai p j).op≠27->(ai p j).op≠22->j+1 < p.code.length:=fun j hj h0 Vv h22=>by
  obtain ⟨s,R⟩:=fF j (Nat.zero_le _) omm;have hw:=R.ways;unfold fE cm at hw;rw [abH (by simp only [not_or];exact ⟨h0,Vv⟩),abH h22] at hw;split at hw
  ·exact (hw _ (List.mem_cons_self ..)).1
  split at hw
  ·exact (hw _ (List.mem_cons_self ..)).1
  split at hw
  ·exact (hw _ (List.mem_cons_self ..)).1
  ·exact (hw _ (List.mem_cons_self ..)).1
 intro j hj;have hi:=(mM _ (ei hj)).2;refine ⟨(cW j hj).1,?_,?_,nx j hj⟩
 ·rintro (h|h)
  ·exact js (dW hi (k:=22) (by rw [h];rfl)).1
  ·exact js (dW hi (k:=23) (by rw [h];rfl)).1
 ·intro h;have h7:aY p 7 (ai p j).a=true:=(dW hi (k:=24) (by rw [h];rfl)).1;unfold aY aF dM dN at h7;simp at h7;obtain ⟨s,R⟩:=fF j (Nat.zero_le _) omm;have RP:=R.jumps;unfold cC at RP;simp [h] at RP;have AH:=(mM _ (ei RP.1)).2;have ha:=js (dW AH (k:=25) (by rw [RP.2];rfl)).1;exact ⟨h7.1,h7.2,nx (j+1) RP.1 (by rw [RP.2];decide) (by rw [RP.2];decide) (by rw [RP.2];decide),ha.1,ha.2⟩
def gj:aO:=⟨[false],[],[],[0],2,[⟨32,0,0,0,0⟩,⟨0,0,0,0,0⟩,⟨4,0,0,0,0⟩,⟨5,0,0,0,0⟩,⟨19,0,0,0,0⟩,⟨23,7,0,0,0⟩,⟨40,0,1,0,0⟩,⟨31,0,0,0,0⟩,⟨0,0,0,0,0⟩]⟩
def iX:Cp:=⟨2,[2]⟩
def xx (p:aO):St:=⟨⟨fun _=>[],fun _=>dI,fun i=>i⟩,fun _=>none,fun i=>(p.vars.getD i ⟨0,0,0⟩).init,0⟩
theorem yF:aZ gj=(0,0):=by decide
theorem pk:mh gj:=by unfold mh;decide
def k1:St:=dF gj iX (xx gj) 7
def k2:St:=dF gj iX k1 8
def k3:St:=dF gj iX k2 7
def k4:St:=dF gj iX k3 9
theorem sV:sH gj iX k2 7=true/\(lD gj iX k2 7).1=2/\dE gj iX k2 7=0:=by decide
theorem lH:sH gj iX k3 9=false/\(lD gj iX k3 9).1=7/\dE gj iX k3 9=0/\gK gj iX k3 9=[8]:=by decide
theorem Cy:k4.a.ls 0=[1,0]/\k4.f 7=some 0/\k4.f 9=some 1:=by decide
theorem GK {p:aO} (c:Cp) (tb:vj p):Inv (aw p c) (xx p):=by
 have h0:∀nq,cF nq (fun q=>if (aw p c).gh q then 0 else ((xx p).a.ls q).length)=0:=fun nq=>by
  induction nq with
  |zero=>rfl
  |succ k ih=>unfold cF;rw [ih];dsimp only;split<;>rfl
 refine ⟨⟨fun _ _=>List.nodup_nil,fun _ _ _ _ _ h=>(by cases h),fun _ _ _ h=>(by cases h),fun _ _ h=>h,fun _=>rfl⟩,fun k n=>⟨fun h=>(by cases h),?_⟩,fun _ _=>Nat.zero_le _,?_,?_,fun _ _ _ h=>(by cases h),fun _ _ _ h=>(by cases h),fun i=>?_⟩
 ·rintro ⟨q,-,h,-⟩;cases h
 ·show (0:Int)=((fX _ _:Nat):Int);unfold fX;rw [h0];rfl
 ·unfold fX;rw [h0];exact Nat.zero_le _
 ·show -1073741824<=(p.vars.getD i ⟨0,0,0⟩).init/\(p.vars.getD i ⟨0,0,0⟩).init<=1073741824;by_cases hi:i < p.vars.length
  ·rw [afS,afP hi];have:=tb.vars _ (af6 hi);simp only [Option.getD_some];omega
  ·rw [afS,List.getElem?_eq_none omm];decide
theorem Qt:∃T,Env gj iX T:=by
 obtain ⟨hc,T,hT,-⟩:=rA yF rfl;exact ⟨T,hT,hc,dee,dee,dee,fun q hq=>by
  have:q=0:=by have:gj.ap.length=1:=rfl;omega
  subst this;decide⟩
theorem MM:vj gj:=(cK (p:=gj) dee).1
theorem Ue:Inv (aw gj iX) k1:=by obtain ⟨T,E⟩:=Qt;exact oW E pk (GK _ MM) dee
theorem Uf:Inv (aw gj iX) k2:=by obtain ⟨T,E⟩:=Qt;exact oW E pk Ue dee
theorem Ug:Inv (aw gj iX) k3:=by obtain ⟨T,E⟩:=Qt;exact oW E pk Uf dee
theorem Uh:Inv (aw gj iX) k4:=by obtain ⟨T,E⟩:=Qt;exact oW E pk Ug dee
theorem E3 (k n:Nat):k4.f k=some n↔(k=7/\n=0)\/(k=9/\n=1):=by
 obtain ⟨h1,h2,h3⟩:=Cy;constructor
 ·intro h;obtain ⟨q,hq,hn,hk⟩:=(Uh.idx k n).1 h;have:q=0:=by have:(aw gj iX).nq=1:=rfl;omega
  subst this;rw [h1] at hn;simp at hn;rcases hn with rfl|rfl
  ·right;exact ⟨hk.symm.trans dee,rfl⟩
  ·left;exact ⟨hk.symm.trans dee,rfl⟩
 ·rintro (⟨rfl,rfl⟩|⟨rfl,rfl⟩)
  ·exact h2
  ·exact h3
def YW:aO:=⟨[],[],[],[],0,[⟨1,0,0,0,0⟩]⟩
theorem MN:aZ YW=(98,0):=by decide
theorem ey {α:Type} {R:α->α->Prop} {c:Prop} [Decidable c] {a b a' b':α} (h1:c->R a a') (h2:¬c->R b b'):R (if c then a else b) (if c then a' else b'):=by
 by_cases h:c
 ·rw [afE h,afE h];exact h1 h
 ·rw [abH h,abH h];exact h2 h
def I6 (σ:Nat->Nat) (e:eW):eW:=⟨σ e.key,e.tg⟩
structure uD (σ:Nat->Nat) (nq:Nat) (s s':St):Prop where
 ls:s'.a.ls=s.a.ls
 fs:s'.a.fs=s.a.fs
 val:∀q n,q < nq->n∈s.a.ls q->s'.a.val n=I6 σ (s.a.val n)
 f:∀k,s'.f k=s.f (σ k)
 vars:s'.vars=s.vars
 total:s'.total=s.total
structure qw (σ:Nat->Nat) (r r':Rn):Prop where
 key:r'.key=σ r.key
 at_:r'.at_=r.at_
 stack:r'.stack=r.stack
 loops:r'.loops=r.loops
 hand:r'.hand=r.hand.map (I6 σ)
 told:r'.told=r.told.map σ
 br:r'.br=r.br
 done:r'.done=r.done
def rn (σ:Nat->Nat) (nq:Nat) (x y:SR):Prop:=uD σ nq x.1 y.1/\qw σ x.2 y.2
section
variable {σ:Nat->Nat} {S:Sys} {s s':St} {r r':Rn} {x y:SR}
theorem qw.bI (h:qw σ r r'):qw σ (bI r) (bI r'):=⟨h.key,by show r'.at_+1=r.at_+1;rw [h.at_],h.stack,h.loops,h.hand,h.told,h.br,h.done⟩
theorem qw.push (h:qw σ r r') (n:Int):qw σ (r.push n) (r'.push n):=⟨h.key,h.at_,by show n::r'.stack=n::r.stack;rw [h.stack],h.loops,h.hand,h.told,h.br,h.done⟩
theorem qw.pop (h:qw σ r r'):qw σ r.pop r'.pop:=⟨h.key,h.at_,by show r'.stack.tail=r.stack.tail;rw [h.stack],h.loops,h.hand,h.told,h.br,h.done⟩
theorem qw.fO (h:qw σ r r'):r'.fO=r.fO:=by unfold Rn.fO;rw [h.stack]
theorem qw.note (h:qw σ r r') (u u':sm):qw σ (r.note u) (r'.note u'):=⟨h.key,h.at_,h.stack,h.loops,h.hand,h.told,h.br,h.done⟩
theorem qw.dG (h:qw σ r r') (t:Int):qw σ (r.dG t) (r'.dG t):=⟨h.key,h.at_,h.stack,h.loops,h.hand,h.told,rfl,h.done⟩
theorem qw.go (h:qw σ r r') (a:Nat):qw σ {r with at_:=a} {r' with at_:=a}:=⟨h.key,rfl,h.stack,h.loops,h.hand,h.told,h.br,h.done⟩
theorem qw.lay (h:qw σ r r') (l:List Int):qw σ {r with loops:=l} {r' with loops:=l}:=⟨h.key,h.at_,h.stack,rfl,h.hand,h.told,h.br,h.done⟩
theorem qw.ends (h:qw σ r r'):qw σ {r with done:=true} {r' with done:=true}:=⟨h.key,h.at_,h.stack,h.loops,h.hand,h.told,h.br,rfl⟩
theorem qw.hold (h:qw σ r r') (v:Option eW):qw σ {r with hand:=v} {r' with hand:=v.map (I6 σ)}:=⟨h.key,h.at_,h.stack,h.loops,rfl,h.told,h.br,h.done⟩
theorem qw.aeZ (h:qw σ r r') (a:Nat):qw σ (jr r a) (jr r' a):=⟨h.key,rfl,h.stack,by show r'.loops.tail=r.loops.tail;rw [h.loops],h.hand,h.told,h.br,h.done⟩
theorem uD.put (Fc:∀k,σ (σ k)=k) (h:uD σ S.nq s s') (q e:Nat) (v:eW):uD σ S.nq (ja S s q e v) (ja S s' q e (I6 σ v)):=by
 refine ⟨?_,?_,fun p n hp hn=>?_,fun k=>?_,h.vars,?_⟩
 ·show aL s'.a.ls q (ext e (s'.a.ls q) (s'.a.fs 0))=aL s.a.ls q (ext e (s.a.ls q) (s.a.fs 0));rw [h.ls,h.fs]
 ·show Fw s'.a.fs=Fw s.a.fs;rw [h.fs]
 ·show aL s'.a.val (s'.a.fs 0) (I6 σ v) n=I6 σ (aL s.a.val (s.a.fs 0) v n);rw [h.fs,cG,cG];by_cases e1:n=s.a.fs 0
  ·rw [afE e1,afE e1]
  ·rw [abH e1,abH e1];rcases jL.1 hn with ⟨_,e2⟩|hm
   ·exact absurd e2 e1
   ·exact h.val p n hp hm
 ·show aL s'.f (σ v.key) (some (s'.a.fs 0)) k=aL s.f v.key (some (s.a.fs 0)) (σ k);rw [h.fs,cG,cG,h.f];by_cases e1:k=σ v.key
  ·rw [afE e1,afE (by rw [e1,Fc])]
  ·rw [abH e1,abH (fun e2=>e1 (by rw [<-e2,Fc]))]
 ·show (if S.gh q then s'.total else s'.total+1)=(if S.gh q then s.total else s.total+1);rw [h.total]
theorem uD.take (Fc:∀k,σ (σ k)=k) (h:uD σ S.nq s s') (hI:Inv S s) {q n:Nat} (hq:q < S.nq) (hn:n∈s.a.ls q):uD σ S.nq (fR S s q n) (fR S s' q n):=by
 have hk:(s'.a.val n).key=σ (s.a.val n).key:=by rw [h.val q n hq hn];rfl
 refine ⟨?_,?_,fun p m hp hm=>?_,fun k=>?_,h.vars,?_⟩
 ·show aL s'.a.ls q ((s'.a.ls q).erase n)=aL s.a.ls q ((s.a.ls q).erase n);rw [h.ls]
 ·show uJ n s'.a.fs=uJ n s.a.fs;rw [h.fs]
 ·obtain ⟨h1,h2⟩:=(Bd hI.wf hq hp hn).1 hm;show aL s'.a.val n dI m=I6 σ (aL s.a.val n dI m);rw [aj _ _ h2,aj _ _ h2];exact h.val p m hp h1
 ·show aL s'.f (s'.a.val n).key none k=aL s.f (s.a.val n).key none (σ k);rw [hk,cG,cG,h.f];by_cases e1:k=σ (s.a.val n).key
  ·rw [afE e1,afE (by rw [e1,Fc])]
  ·rw [abH e1,abH (fun e2=>e1 (by rw [<-e2,Fc]))]
 ·show (if S.gh q then s'.total else s'.total - 1)=(if S.gh q then s.total else s.total - 1);rw [h.total]
theorem uD.mark (h:uD σ S.nq s s') (n:Nat) (v:eW):uD σ S.nq (kD s n v) (kD s' n (I6 σ v)):=by
 refine ⟨h.ls,h.fs,fun p m hp hm=>?_,h.f,h.vars,h.total⟩;show aL s'.a.val n (I6 σ v) m=I6 σ (aL s.a.val n v m);rw [cG,cG];by_cases e1:m=n
 ·rw [afE e1,afE e1]
 ·rw [abH e1,abH e1];exact h.val p m hp hm
theorem uD.end_ (h:uD σ S.nq s s') (q e:Nat):ck s'.a q e=ck s.a q e:=by unfold ck;rw [h.ls]
theorem uD.NP (h:uD σ S.nq s s') (n:Nat):NP S s'.a n=NP S s.a n:=by unfold Vm.NP;rw [h.ls]
theorem ZK (Fc:∀k,σ (σ k)=k) (h:rn σ S.nq x y) (q e:Nat) (v:eW):rn σ S.nq (gW S x q e v).1 (gW S y q e (I6 σ v)).1:=by
 unfold gW;rw [h.1.ls,h.1.total];by_cases hc:(x.1.a.ls q).length=S.cq q\/(S.gh q=false/\x.1.total=S.sz)
 ·rw [afE hc,afE hc];exact ⟨h.1,h.2.dG 1⟩
 ·rw [abH hc,abH hc];exact ⟨h.1.put Fc q e v,h.2.note _ _⟩
theorem ad0 (Fc:∀k,σ (σ k)=k) (h:rn σ S.nq x y) (hI:Inv S x.1) {q n:Nat} (hq:q < S.nq) (hn:n∈x.1.a.ls q):rn σ S.nq (ry S x n q) (ry S y n q):=
 ⟨h.1.take Fc hI hq hn,h.2.note _ _⟩
theorem CN (Fc:∀k,σ (σ k)=k) (h:rn σ S.nq x y) (hI:Inv S x.1) {q e:Nat} (hq:q < S.nq):rn σ S.nq (bi S x q e).1 (bi S y q e).1/\(bi S y q e).2=(bi S x q e).2:=by
 unfold bi;rw [h.1.ls];by_cases hc:x.1.a.ls q=[]
 ·rw [afE hc,afE hc];exact ⟨⟨h.1,h.2.dG 2⟩,rfl⟩
 ·rw [abH hc,abH hc];refine ⟨⟨?_,?_⟩,rfl⟩
  ·show uD σ S.nq (jn S x.1 q e) (jn S y.1 q e);unfold jn;rw [h.1.end_];exact h.1.take Fc hI hq (fi hc)
  ·dsimp only;rw [h.1.end_,h.1.val q _ hq (fi hc)];have k:=(h.2.note (.put q e (x.1.a.val (ck x.1.a q e))) (.put q e (I6 σ (x.1.a.val (ck x.1.a q e))))).hold (some (x.1.a.val (ck x.1.a q e)));exact k
theorem aaW (h:qw σ r r') (hh:r.hand≠none):oA r'=I6 σ (oA r):=by
 unfold oA;rw [h.hand];cases hv:r.hand with
 |none=>exact absurd hv hh
 |some v=>rfl
theorem KM (Fc:∀k,σ (σ k)=k) (h:rn σ S.nq x y) (hh:x.2.hand≠none) (q e:Nat):rn σ S.nq (dt S x q e).1 (dt S y q e).1:=by unfold dt;rw [aaW h.2 hh];exact ZK Fc (x:=(x.1,{x.2 with hand:=none})) (y:=(y.1,{y.2 with hand:=none})) ⟨h.1,h.2.hold none⟩ q e _
theorem KO (h:rn σ S.nq x y) (hh:x.2.hand≠none):rn σ S.nq (fY x) (fY y):=by refine ⟨h.1,?_⟩;unfold fY;dsimp only;rw [aaW h.2 hh];exact ⟨h.2.key,h.2.at_,h.2.stack,h.2.loops,h.2.hand,by show y.2.told++[σ (oA x.2).key]=(x.2.told++[(oA x.2).key]).map σ;rw [h.2.told];simp,h.2.br,h.2.done⟩
theorem GP (h:rn σ S.nq x y):rn σ S.nq (fG x) (fG y):=⟨h.1,h.2.hold none⟩
theorem CP {q e:Nat} (h:(bi S x q e).2=true):(bi S x q e).1.2.hand≠none:=by
 unfold bi at h ⊢;split at h
 ·simp at h
 ·next hc=>rw [abH hc];simp
variable {p:aO} {c:Cp} {T:Map} {s0:St} {st:Std}
theorem RS {S:Sys} (hI:Inv S s) {k n:Nat} (h:s.f k=some n):NP S s.a n < S.nq/\n∈s.a.ls (NP S s.a n):=by obtain ⟨q,hq,hn,-⟩:=(hI.idx k n).1 h;rw [jq hI.wf hq hn];exact ⟨hq,hn⟩
theorem Wz {x y:SR} (h:rn σ (aw p c).nq x y) {q n:Nat} (hq:q < (aw p c).nq) (hn:n∈x.1.a.ls q) (tag:Nat) (v:Int):rn σ (aw p c).nq (oB p x n tag v) (oB p y n tag v):=by unfold oB;rw [h.1.val q n hq hn];exact ⟨h.1.mark n (lY (x.1.a.val n) tag v (p.aW.getD tag 0)),h.2.note _ _⟩
theorem aeB (Fc:∀k,σ (σ k)=k) (E:Env p c T) (C:ft p T r st) (H:eY (aw p c) p.vars.length s0 (s,r)) (h:rn σ (aw p c).nq (s,r) (s',r')):
 rn σ (aw p c).nq (aC p c (ai p r.at_) (s,bI r)) (aC p c (ai p r.at_) (s',bI r')):=by
 have hI:Inv (aw p c) s:=H.inv;have hs:uD σ (aw p c).nq s s':=h.1;have hr:qw σ (bI r) (bI r'):=h.2.bI;have hx:rn σ (aw p c).nq (s,bI r) (s',bI r'):=⟨hs,hr⟩;have hq1:∀k:Nat,(ai p r.at_).op=(k:Int)->(bY k).getD 0 0=1->N (ai p r.at_).a < (aw p c).nq:=fun k hk h1=>by have:=(ed E C hk).1;rw [h1] at this;exact (cX this).2.2
 have fk:s'.f r'.key=s.f r.key:=by rw [hs.f,h.2.key,Fc]
 have fO:(bI r').fO=(bI r).fO:=hr.fO;have ty:=C.iH;generalize hi:ai p r.at_=i at*;unfold aC;dsimp only;refine ey (fun h0=>⟨hs,hr.ends⟩) (fun h0=>?_);refine ey (fun h1=>⟨hs,hr.push _⟩) (fun h1=>?_);refine ey (fun h3=>⟨hs,by dsimp only;rw [hs.vars];exact hr.push _⟩) (fun h3=>?_);refine ey (fun h4=>⟨hs,by dsimp only;rw [hs.ls];exact hr.push _⟩) (fun h4=>?_);refine ey (fun h5=>⟨hs,hr.push _⟩) (fun h5=>?_);refine ey (fun h6=>⟨hs,hr.push _⟩) (fun h6=>?_);refine ey (fun h7=>⟨hs,by dsimp only;rw [hs.total];exact hr.push _⟩) (fun h7=>?_);refine ey (fun h8=>?_) (fun h8=>?_)
 ·unfold sx;refine ⟨hs,?_⟩;dsimp only;rw [show (bI r').key=r'.key from rfl,show (bI r).key=r.key from rfl,fk];cases s.f r.key with
  |none=>exact hr.push _
  |some n=>dsimp only;rw [hs.NP];exact hr.push _
 refine ey (fun h9=>?_) (fun h9=>?_)
 ·unfold tE;dsimp only;rw [show (bI r').key=r'.key from rfl,show (bI r).key=r.key from rfl,fk];cases hf:s.f r.key with
  |none=>exact ⟨hs,hr.dG _⟩
  |some n=>obtain ⟨k1,k2⟩:=RS hI hf;dsimp only;rw [hs.val _ n k1 k2];exact ⟨hs,hr.push _⟩
 refine ey (fun h10=>?_) (fun h10=>?_)
 ·unfold l_;dsimp only;rw [hs.ls];refine ey (fun hc=>⟨hs,hr.dG _⟩) (fun hc=>?_);rw [hs.end_,hs.val _ _ (hq1 10 h10 rfl) (fi hc)];exact ⟨hs,hr.push _⟩
 refine ey (fun h13=>⟨hs,by dsimp only;rw [fO];exact hr.pop.push _⟩) (fun h13=>?_);refine ey (fun h14=>⟨hs,by dsimp only;rw [fO];exact hr.pop.push _⟩) (fun h14=>?_);refine ey (fun h15=>⟨hs,by dsimp only;rw [fO,hr.pop.fO];exact hr.pop.pop.push _⟩) (fun h15=>?_);refine ey (fun h22=>⟨hs,hr.go _⟩) (fun h22=>?_);refine ey (fun h23=>⟨hs,?_⟩) (fun h23=>?_)
 ·dsimp only;rw [fO];exact ey (fun _=>hr.pop.go _) (fun _=>hr.pop)
 refine ey (fun NQ=>⟨hs,by dsimp only;rw [hr.loops];exact hr.lay _⟩) (fun NQ=>?_);refine ey (fun pW=>?_) (fun pW=>?_)
 ·unfold ql;dsimp only;rw [hr.loops];exact ey (R:=rn σ (aw p c).nq) (fun _=>⟨hs,hr.aeZ _⟩) (fun _=>⟨hs,hr.lay _⟩)
 refine ey (fun OX=>?_) (fun OX=>?_)
 ·unfold qm;dsimp only;rw [fO];exact ey (R:=rn σ (aw p c).nq) (fun _=>⟨hs,hr.pop.aeZ _⟩) (fun _=>⟨hs,hr.pop⟩)
 refine ey (fun h28=>?_) (fun h28=>?_)
 ·unfold zp;dsimp only;rw [fO,hs.vars];exact ⟨⟨hs.ls,hs.fs,hs.val,hs.f,rfl,hs.total⟩,(hr.note _ _).pop⟩
 refine ey (fun h29=>?_) (fun h29=>?_)
 ·unfold oO;dsimp only;rw [show (bI r').key=r'.key from rfl,show (bI r).key=r.key from rfl,fk,fO];cases hf:s.f r.key with
  |none=>exact ⟨hs,hr.pop.dG _⟩
  |some n=>obtain ⟨k1,k2⟩:=RS hI hf;exact Wz (x:=(s,(bI r).pop)) (y:=(s',(bI r').pop)) ⟨hs,hr.pop⟩ k1 k2 _ _
 refine ey (fun h30=>?_) (fun h30=>?_)
 ·unfold jO;dsimp only;rw [hs.ls,hs.end_,fO];refine ey (R:=rn σ (aw p c).nq) (fun hc=>⟨hs,hr.pop.dG _⟩) (fun hc=>?_);exact Wz (x:=(s,(bI r).pop)) (y:=(s',(bI r').pop)) ⟨hs,hr.pop⟩ (hq1 30 h30 rfl) (fi hc) _ _
 refine ey (fun h31=>?_) (fun h31=>?_)
 ·unfold lZ;dsimp only;rw [show (bI r').key=r'.key from rfl,show (bI r).key=r.key from rfl,fk];cases hf:s.f r.key with
  |some n=>exact ⟨hs,hr.dG _⟩
  |none=>dsimp only;rw [h.2.key];exact ZK Fc hx _ _ ⟨r.key,fun _=>0⟩
 refine ey (fun h32=>?_) (fun h32=>?_)
 ·unfold tD;dsimp only;rw [show (bI r').key=r'.key from rfl,show (bI r).key=r.key from rfl,fk];cases hf:s.f r.key with
  |none=>exact ⟨hs,hr.dG _⟩
  |some n=>obtain ⟨k1,k2⟩:=RS hI hf;dsimp only;rw [hs.NP,hs.val _ n k1 k2];exact ZK Fc (ad0 Fc hx hI k1 k2) _ _ _
 refine ey (fun h33=>?_) (fun h33=>?_)
 ·unfold l8;dsimp only;rw [show (bI r').key=r'.key from rfl,show (bI r).key=r.key from rfl,fk];cases hf:s.f r.key with
  |none=>exact ⟨hs,hr.dG _⟩
  |some n=>obtain ⟨k1,k2⟩:=RS hI hf;dsimp only;rw [hs.NP];exact ey (R:=rn σ (aw p c).nq) (fun _=>ad0 Fc hx hI k1 k2) (fun _=>⟨hs,hr.dG _⟩)
 refine ey (fun h34=>(CN Fc hx hI (hq1 34 h34 rfl)).1) (fun h34=>?_);have ji:=ty.ji;rw [hi] at ji;refine ey (fun Xj=>KM Fc hx ?_ _ _) (fun Xj=>?_)
 ·intro hn;have:st.ha=0:=C.hand.2 hn;rw [this] at ji;unfold dU at ji;rw [abH omm,abH omm,afE Xj] at ji;split at ji<;>simp at ji
 refine ey (fun h36=>KO hx ?_) (fun h36=>?_)
 ·intro hn;have:st.ha=0:=C.hand.2 hn;rw [this] at ji;unfold dU at ji;rw [afE h36] at ji;simp at ji
 refine ey (fun Xi=>GP hx) (fun Xi=>?_);refine ey (fun h38=>?_) (fun h38=>?_)
 ·unfold nX;dsimp only;obtain ⟨t1,t2⟩:=CN Fc hx hI (e:=N i.b) (hq1 38 h38 rfl);rw [t2];exact ey (R:=rn σ (aw p c).nq) (fun hc=>KM Fc t1 (CP hc) _ _) (fun _=>t1)
 refine ey (fun h39=>?_) (fun h39=>?_)
 ·unfold nY;dsimp only;obtain ⟨t1,t2⟩:=CN Fc hx hI (e:=N i.b) (hq1 39 h39 rfl);rw [t2];exact ey (R:=rn σ (aw p c).nq) (fun hc=>KM Fc (KO t1 (CP hc)) (CP (x:=(s,bI r)) hc) _ _) (fun _=>t1)
 refine ey (fun h40=>?_) (fun h40=>?_)
 ·unfold nZ;dsimp only;obtain ⟨t1,t2⟩:=CN Fc hx hI (e:=N i.b) (hq1 40 h40 rfl);rw [t2];exact ey (R:=rn σ (aw p c).nq) (fun hc=>GP (KO t1 (CP hc))) (fun _=>t1)
 ·unfold rz;dsimp only;have cW:=(np E C).1;rw [hi] at cW;unfold iP aF at cW;simp only [afW,afX] at cW;obtain ⟨t1,t2⟩:=CN Fc hx hI (e:=N i.b) (hq1 41 (by show i.op=41;omega) rfl);rw [t2];exact ey (R:=rn σ (aw p c).nq) (fun hc=>GP t1) (fun _=>t1)
theorem aeC {nq:Nat} {x y:SR} (h:rn σ nq x y):jH y=jH x:=by unfold jH;rw [h.2.done,h.2.br]
theorem aeM (Fc:∀k,σ (σ k)=k) (E:Env p c T):∀(f:Nat) (s:St) (r:Rn) (st:Std) (s':St) (r':Rn),ft p T r st->eY (aw p c) p.vars.length s0 (s,r)->rn σ (aw p c).nq (s,r) (s',r')->
 (iU p c f (s',r')).1=(iU p c f (s,r)).1/\rn σ (aw p c).nq (iU p c f (s,r)).2 (iU p c f (s',r')).2:=by
 intro f
 induction f with
 |zero=>intro s r st s' r' C H h;exact ⟨rfl,h⟩
 |succ f ih=>
  intro s r st s' r' C H h;have hs:=zs E C H;have hx:rn σ (aw p c).nq (dY p c (s,r)) (dY p c (s',r')):=by unfold dY;dsimp only;rw [h.2.at_];exact aeB Fc E C H h
  unfold iU;rw [aeC hx];by_cases fj:jH (dY p c (s,r))=true
  ·rw [afE fj,afE fj];exact ⟨rfl,hx⟩
  ·rw [abH fj,abH fj];obtain ⟨h1,h2⟩:=oU fj;obtain ⟨st',C'⟩:=hs.next h1 h2;have:=ih (dY p c (s,r)).1 (dY p c (s,r)).2 st' (dY p c (s',r')).1 (dY p c (s',r')).2 C' hs.hold hx;exact ⟨by show (iU p c f (dY p c (s',r'))).1+1=(iU p c f (dY p c (s,r))).1+1;rw [this.1],this.2⟩
theorem ae4 (Fc:∀k,σ (σ k)=k) (E:Env p c T) (hI:Inv (aw p c) s) {key:Nat} (hk:key < 18446744073709551616) (h:uD σ (aw p c).nq s s'):
 sH p c s' (σ key)=sH p c s key/\(lD p c s' (σ key)).1=(lD p c s key).1/\dE p c s' (σ key)=dE p c s key/\gK p c s' (σ key)=(gK p c s key).map σ/\uD σ (aw p c).nq (dF p c s key) (dF p c s' (σ key)):=by
 have hf:s'.f (σ key)=s.f key:=by rw [h.f,Fc]
 have ha:KU p c s' (σ key)=KU p c s key:=by
  unfold KU;rw [hf];cases s.f key with
  |none=>rfl
  |some n=>dsimp only;rw [h.NP]
 have hh:sH p c s' (σ key)=sH p c s key:=by
  unfold sH;rw [hf];cases s.f key with
  |none=>rfl
  |some n=>dsimp only;rw [h.NP]
 have aeD:(lD p c s' (σ key)).1=(lD p c s key).1/\rn σ (aw p c).nq (lD p c s key).2 (lD p c s' (σ key)).2:=by
  unfold lD;rw [ha];by_cases kL:KU p c s key < 0
  ·rw [afE kL,afE kL];exact ⟨rfl,h,rfl,rfl,rfl,rfl,rfl,rfl,rfl,rfl⟩
  ·rw [abH kL,abH kL];exact aeM (s0:=s) Fc E gD s _ _ s' _ (pH E (at_mem E hI key) omm key) (nr hI hk _) ⟨h,rfl,rfl,rfl,rfl,rfl,rfl,rfl,rfl⟩
 refine ⟨hh,aeD.1,aeD.2.2.br,aeD.2.2.told,?_⟩;unfold dF dE;rw [aeD.2.2.br];exact ey (fun _=>aeD.2.1) (fun _=>h)
theorem adq (Fc:∀k,σ (σ k)=k) (hI:Inv (aw p c) s) (key:Nat) (h:uD σ (aw p c).nq s s'):
 gT p c s' (σ key)=gT p c s key/\uD σ (aw p c).nq (gX p c s key) (gX p c s' (σ key)):=by
 have hf:s'.f (σ key)=s.f key:=by rw [h.f,Fc]
 unfold gT gX;rw [hf];cases hk:s.f key with
 |none=>exact ⟨rfl,h⟩
 |some n=>obtain ⟨k1,k2⟩:=RS hI hk;dsimp only;rw [h.NP];exact ⟨rfl,h.take Fc hI k1 k2⟩
variable {k0:Nat}
variable {z:St}
end
structure mG (p:aO) (s:kE):Prop where
 ty:eI s.ty
 len:s.ty.length<=256
 lp: -1<=s.loop/\s.loop < p.code.length
 ha:0<=s.hand/\s.hand<=3
structure kJ (p:aO) (L:jS):Prop where
 at_:∀n,mG p (L.at_ n)
 up:∀n,-1<=L.up n/\L.up n < p.code.length
theorem Ns {p:aO} (h:0 < p.code.length):mG p s0:=⟨by intro t ht;simp [s0] at ht,dee,by unfold s0;dsimp only;omega,dee⟩
theorem I9 {p:aO} (h:0 < p.code.length):kJ p (f_ p):=by
 refine ⟨fun n=>?_,fun n=>by show -1<=(0:Int)/\(0:Int) < _;omega⟩;show mG p (if fx p n then _ else s0);split
 ·exact ⟨by intro t ht;simp at ht,dee,by dsimp only;omega,dee⟩
 ·exact Ns h
theorem Nt (p:aO) (x:Ins) {h:Int} (hh:0<=h/\h<=3):0<=(dZ p x h).2/\(dZ p x h).2<=3:=by
 unfold dZ
 repeat' split
 all_goals first|exact hh|(dsimp only;omega)
theorem Nu {x:Ins} {ty:List Nat} (h:eI ty) (h0:(cw x ty).1=0):eI (cw x ty).2/\(cw x ty).2.length<=256:=by
 have key:∀left:List Nat,left=(if aR x.op.toNat=0 then [] else [aR x.op.toNat])++ty.drop (bO x.op.toNat).length->¬256 < left.length->eI left/\left.length<=256:=by
  intro left e hl;refine ⟨?_,omm⟩;rw [e];intro t ht;rcases List.mem_append.1 ht with ht|ht
  ·have hg:∀n:Nat,aR n≠0->aR n=1\/aR n=2:=by
    intro n;unfold aR
    repeat' split
    all_goals simp
   split at ht
   ·simp at ht
   ·next h1=>simp at ht;subst ht;exact hg _ h1
  ·exact h t (List.mem_of_mem_drop ht)
 unfold cw at h0 ⊢;dsimp only at h0 ⊢;by_cases c1:ty.length < (bO x.op.toNat).length\/(x.op=0/\(bO x.op.toNat).length < ty.length)
 ·rw [afE c1] at h0;simp at h0
 rw [abH c1] at h0 ⊢;by_cases c2:256 < ((if aR x.op.toNat=0 then [] else [aR x.op.toNat])++ty.drop (bO x.op.toNat).length).length
 ·rw [afE c2] at h0;simp at h0
 rw [abH c2] at h0 ⊢;by_cases c3:x.op=19
 ·rw [afE c3] at h0 ⊢;split at h0
  ·simp at h0
  ·next h4=>rw [abH h4];exact key _ rfl c2
 ·rw [abH c3] at h0 ⊢;split at h0
  ·simp at h0
  ·next h4=>rw [abH h4];exact key _ rfl c2
theorem Fi {p:aO} {L:jS} (K:kJ p L) (pc:Nat) (x:Ins) {loop:Int} (h: -1<=loop/\loop < p.code.length):kJ p (fQ L pc x loop):=by
 unfold fQ;split
 ·refine ⟨K.at_,fun n=>?_⟩;show -1<=aL L.up pc loop n/\aL L.up pc loop n < p.code.length;rw [cG];split
  ·exact h
  ·exact K.up n
 ·exact K
theorem Nv {p:aO} {L:jS} (K:kJ p L) {pc:Nat} (nj:pc < p.code.length) (x:Ins) {s:kE} (h:mG p s) {w:Nat×kE} (hw:w∈dP L pc x s):mG p w.2:=by
 unfold dP at hw;split at hw
 ·simp at hw
 split at hw
 ·simp at hw;rw [hw];exact h
 split at hw
 ·simp at hw;rcases hw with rfl|rfl<;>exact h
 split at hw
 ·simp at hw;rcases hw with rfl|rfl
  ·exact ⟨h.ty,h.len,by dsimp only;omega,h.ha⟩
  ·exact h
 split at hw
 ·simp at hw;rcases hw with rfl|rfl
  ·exact h
  ·exact ⟨h.ty,h.len,K.up _,h.ha⟩
 ·simp at hw;rw [hw];exact h
theorem GV {p:aO} {L:jS} (K:kJ p L) (z:Nat) {s:kE} (h:mG p s):kJ p {L with at_:=aL L.at_ z s}:=
 ⟨fun n=>by show mG p (aL L.at_ z s n);rw [cG];split;exact h;exact K.at_ n,K.up⟩
theorem QA {p:aO}:∀(l:List (Nat×kE)) (L L':jS),kJ p L->(∀w,w∈l->mG p w.2)->eC L l=some L'->kJ p L':=by
 intro l
 induction l with
 |nil=>intro L L' K _ h;simp [eC] at h;subst h;exact K
 |cons w l ih=>
  intro L L' K hs h;unfold eC at h;split at h
  ·split at h
   ·exact ih _ _ K (fun v hv=>hs v (by simp [hv])) h
   ·simp at h
  ·exact ih _ _ (GV K _ (hs w smm)) (fun v hv=>hs v (by simp [hv])) h
theorem I_ {p:aO} {L:jS} (K:kJ p L) {pc:Nat} (nj:pc < p.code.length) (h:(jj p L pc).1=0):kJ p (jj p L pc).2:=by
 unfold jj at h ⊢;dsimp only at h ⊢;by_cases c0:(L.at_ pc).jI=false
 ·rw [afE c0] at h;simp at h
 rw [abH c0] at h ⊢;by_cases c1:(dZ p (ai p pc) (L.at_ pc).hand).1=false
 ·rw [afE c1] at h;simp at h
 rw [abH c1] at h ⊢;by_cases c2:(cw (ai p pc) (L.at_ pc).ty).1≠0
 ·rw [afE c2] at h;exact absurd h c2
 rw [abH c2] at h ⊢;by_cases c3:cJ p (ai p pc)=false
 ·rw [afE c3] at h;simp at h
 rw [abH c3] at h ⊢;by_cases c4:dL p L pc (ai p pc) (cw (ai p pc) (L.at_ pc).ty).2 (L.at_ pc).loop=false
 ·rw [afE c4] at h;simp at h
 rw [abH c4] at h ⊢;have hu:=Fi K pc (ai p pc) (K.at_ pc).lp;have ho:=Nu (x:=ai p pc) (K.at_ pc).ty (Decidable.not_not.1 c2);have hs:mG p ⟨(cw (ai p pc) (L.at_ pc).ty).2,(L.at_ pc).loop,(dZ p (ai p pc) (L.at_ pc).hand).2,true⟩:=⟨ho.1,ho.2,(K.at_ pc).lp,Nt p _ (K.at_ pc).ha⟩;split at h
 ·simp at h
 next c5=>
 rw [abH c5];split at h
 ·simp at h
 next c6=>
 rw [abH c6];cases e:eC (fQ L pc (ai p pc) (L.at_ pc).loop) (dP (fQ L pc (ai p pc) (L.at_ pc).loop) pc (ai p pc) ⟨(cw (ai p pc) (L.at_ pc).ty).2,(L.at_ pc).loop,(dZ p (ai p pc) (L.at_ pc).hand).2,true⟩) with
 |none=>rw [e] at h;simp at h
 |some L2=>exact QA _ _ _ hu (fun w hw=>Nv hu nj _ hs hw) e
end ak.Vm
namespace ak.Vm
open Go Go.RowKit
def ep (R:Raw) (o:Nat):Value:=
 if o % 8=0 then .int .u64 (R.val (o / 8)).key else if o % 8 < 5 then ι ((R.val (o / 8)).tg (o % 8 - 1)) else if o % 8=5 then ι (R.own (o / 8)) else ι (R.bK (o / 8) (o % 8 - 6))
def lW (R:Raw) (o:Nat):Value:=if o % 3 < 2 then ι (R.ends (o / 3) (o % 3)) else ι (R.cR (o / 3))
theorem xJ (R:Raw) (n:Nat):ep R (n*8)= .int .u64 (R.val n).key:=by unfold ep;rw [afE omm,show n*8 / 8=n by omega]
theorem iL (R:Raw) (n:Nat) {t:Nat} (ht:t < 4):ep R (n*8+(1+t))=ι ((R.val n).tg t):=by unfold ep;rw [abH omm,afE omm,show (n*8+(1+t)) / 8=n by omega,show (n*8+(1+t)) % 8 - 1=t by omega]
theorem sq (R:Raw) (n:Nat):ep R (n*8+5)=ι (R.own n):=by unfold ep;rw [abH omm,abH omm,afE omm,show (n*8+5) / 8=n by omega]
theorem xK (R:Raw) (n:Nat) {e:Nat} (he:e<=1):ep R (n*8+(6+e))=ι (R.bK n e):=by unfold ep;rw [abH omm,abH omm,abH omm,show (n*8+(6+e)) / 8=n by omega,show (n*8+(6+e)) % 8 - 6=e by omega]
theorem uL (R:Raw) (q:Nat) {e:Nat} (he:e<=1):lW R (q*3+e)=ι (R.ends q e):=by unfold lW;rw [afE omm,show (q*3+e) / 3=q by omega,show (q*3+e) % 3=e by omega]
theorem xL (R:Raw) (q:Nat):lW R (q*3+2)=ι (R.cR q):=by unfold lW;rw [abH omm,show (q*3+2) / 3=q by omega]
theorem yT (R:Raw) (n:Nat) {e:Nat} (he:e<=1) (v:Int):(fun o=>if o=n*8+(6+e) then ι v else ep R o)=ep {R with bK:=cM R.bK n e v}:=by
 funext o;unfold ep;by_cases h:o=n*8+(6+e)
 ·rw [afE h,h,abH omm,abH omm,abH omm,show (n*8+(6+e)) / 8=n by omega,show (n*8+(6+e)) % 8 - 6=e by omega];dsimp only;rw [xG]
 ·rw [abH h];by_cases h8:o % 8 < 6
  ·by_cases a:o % 8=0
   ·rw [afE a,afE a]
   ·rw [abH a,abH a];by_cases b:o % 8 < 5
    ·rw [afE b,afE b]
    ·rw [abH b,abH b,afE omm,afE omm]
  ·rw [abH omm,abH omm,abH omm,abH omm,abH omm,abH omm];dsimp only;rw [cN,abH omm]
theorem yU (R:Raw) (n:Nat) (v:Int):(fun o=>if o=n*8+5 then ι v else ep R o)=ep {R with own:=aL R.own n v}:=by
 funext o;unfold ep;by_cases h:o=n*8+5
 ·rw [afE h,h,abH omm,abH omm,afE omm,show (n*8+5) / 8=n by omega];dsimp only;rw [an]
 ·rw [abH h];by_cases a:o % 8=0
  ·rw [afE a,afE a]
  ·rw [abH a,abH a];by_cases b:o % 8 < 5
   ·rw [afE b,afE b]
   ·rw [abH b,abH b];by_cases c:o % 8=5
    ·rw [afE c,afE c];dsimp only;rw [aj _ _ omm]
    ·rw [abH c,abH c]
theorem wY (R:Raw) (q:Nat) {e:Nat} (he:e<=1) (v:Int):(fun o=>if o=q*3+e then ι v else lW R o)=lW {R with ends:=cM R.ends q e v}:=by
 funext o;unfold lW;by_cases h:o=q*3+e
 ·rw [afE h,h,afE omm,show (q*3+e) / 3=q by omega,show (q*3+e) % 3=e by omega];dsimp only;rw [xG]
 ·rw [abH h];by_cases a:o % 3 < 2
  ·rw [afE a,afE a];dsimp only;rw [cN,abH omm]
  ·rw [abH a,abH a]
theorem yV (R:Raw) (q:Nat) (v:Nat):(fun o=>if o=q*3+2 then ι v else lW R o)=lW {R with cR:=aL R.cR q v}:=by
 funext o;unfold lW;by_cases h:o=q*3+2
 ·rw [afE h,h,abH omm,show (q*3+2) / 3=q by omega];dsimp only;rw [an]
 ·rw [abH h];by_cases a:o % 3 < 2
  ·rw [afE a,afE a]
  ·rw [abH a,abH a];dsimp only;rw [aj _ _ omm]
structure qg (w:World) (ab:Nat) (V L:Value) (az nl:Nat) (R:Raw):Prop where
 head:ay w ab 191 #[ι az,V,L,ι R.cS,ι R.used]
 nodes:Row w 202 8 V R.made (ep R)
 lists:Row w 194 3 L nl (lW R)
def bp (ab:Nat) (V L:Value):List Nat:=ab::(V.ownBlock.toList++L.ownBlock.toList)
section
variable {w w':World} {ab az nl:Nat} {V L:Value} {R:Raw}
theorem qg.nb (h:qg w ab V L az nl R):V.ownBlock≠some ab:=h.nodes.eF h.head dee
theorem qg.lb (h:qg w ab V L az nl R):L.ownBlock≠some ab:=h.lists.eF h.head dee
theorem qg.vl (h:qg w ab V L az nl R):V.ownBlock=none\/V.ownBlock≠L.ownBlock:=h.nodes.ne h.lists dee
theorem qg.drewN (h:qg w ab V L az nl R) (n:Nat):qg (w.drewN n) ab V L az nl R:=⟨h.head,h.nodes.drewN n,h.lists.drewN n⟩
theorem qg.aB {S:List Nat} (h:qg w ab V L az nl R) (f:da S w w') (hs:∀b,b∈bp ab V L->b∉S):qg w' ab V L az nl R:=
 ⟨h.head.aB f (hs _ (by simp [bp])),h.nodes.aB f fun b hb=>hs b (by simp [bp,hb]),h.lists.aB f fun b hb=>hs b (by simp [bp,hb])⟩
theorem qg.later {w w':World} {ab az nl:Nat} {V L:Value} {R:Raw} (h:qg w ab V L az nl R) (b:Below w.heap.size w w'):qg w' ab V L az nl R:=
 h.aB (da.ah (S:=[]) b) (fun _ _=>by simp)
structure dO (w:World) (ab nb cn lb cl:Nat) (az nl:Nat) (R:Raw):Prop where
 c:qg w ab (.slice (some (π nb 0)) R.made cn) (.slice (some (π lb 0)) nl cl) az nl R
 pos:0 < R.made
variable {nb cn lb cl:Nat}
theorem dO.ne (h:dO w ab nb cn lb cl az nl R):nb≠ab/\lb≠ab/\nb≠lb:=by have a:=h.c.nb;have b:=h.c.lb;have c:=h.c.vl;simp [Value.ownBlock] at a b c;exact ⟨a,b,c⟩
theorem acw {p:Prop} (h:p:=by
 exact ⟨⟨h.c.head.other (fun e=>a e.symm) _ _,h1,h.c.lists.other (by simp [Value.ownBlock];exact fun e=>c e.symm) _ _⟩,h.pos⟩):p:=h
theorem dO.ij (h:dO w ab nb cn lb cl az nl R) {n e:Nat} (hn:n < R.made) (he:e<=1) (v:Int):dO (w.setCell (π nb (n*8+(6+e))) (ι v)) ab nb cn lb cl az nl {R with bK:=cM R.bK n e v}:=by obtain ⟨a,b,c⟩:=h.ne;have h1:=h.c.nodes.set (o:=n*8+(6+e)) omm (ι v);rw [yT R n he] at h1;exact acw
theorem dO.uM (h:dO w ab nb cn lb cl az nl R) {n:Nat} (hn:n < R.made) (v:Int):dO (w.setCell (π nb (n*8+5)) (ι v)) ab nb cn lb cl az nl {R with own:=aL R.own n v}:=by obtain ⟨a,b,c⟩:=h.ne;have h1:=h.c.nodes.set (o:=n*8+5) omm (ι v);rw [yU R n] at h1;exact acw
theorem acx {p:Prop} (h:p:=by
 exact ⟨⟨h.c.head.other (fun e=>b e.symm) _ _,h.c.nodes.other (by simp [Value.ownBlock];exact c) _ _,h1⟩,h.pos⟩):p:=h
theorem dO.jE (h:dO w ab nb cn lb cl az nl R) {q e:Nat} (hq:q < nl) (he:e<=1) (v:Int):dO (w.setCell (π lb (q*3+e)) (ι v)) ab nb cn lb cl az nl {R with ends:=cM R.ends q e v}:=by obtain ⟨a,b,c⟩:=h.ne;have h1:=h.c.lists.set (o:=q*3+e) omm (ι v);rw [wY R q he] at h1;exact acx
theorem dO.oJ (h:dO w ab nb cn lb cl az nl R) {q:Nat} (hq:q < nl) (v:Nat):dO (w.setCell (π lb (q*3+2)) (ι v)) ab nb cn lb cl az nl {R with cR:=aL R.cR q v}:=by obtain ⟨a,b,c⟩:=h.ne;have h1:=h.c.lists.set (o:=q*3+2) omm (ι v);rw [yV R q] at h1;exact acx
theorem acy {p:Prop} (h:p:=by
 exact ⟨⟨h1,h.c.nodes.other (by simp [Value.ownBlock];exact a) _ _,h.c.lists.other (by simp [Value.ownBlock];exact b) _ _⟩,h.pos⟩):p:=h
theorem dO.Bf (h:dO w ab nb cn lb cl az nl R) (v:Int):dO (w.setCell (π ab 3) (ι v)) ab nb cn lb cl az nl {R with cS:=v}:=by obtain ⟨a,b,c⟩:=h.ne;have h1:=h.c.head.set 3 (ι v);exact acy
theorem dO.yW (h:dO w ab nb cn lb cl az nl R) (v:Nat):dO (w.setCell (π ab 4) (ι v)) ab nb cn lb cl az nl {R with used:=v}:=by obtain ⟨a,b,c⟩:=h.ne;have h1:=h.c.head.set 4 (ι v);exact acy
def dr (w:World) (b o:Nat) (x:eW):World:=
 ((((w.setCell (π b o) (.int .u64 x.key)).setCell (π b (o+1)) (ι (x.tg 0))).setCell (π b (o+2)) (ι (x.tg 1))).setCell (π b (o+3)) (ι (x.tg 2))).setCell (π b (o+4)) (ι (x.tg 3))
theorem yX (R:Raw) (n:Nat) (x:eW):(fun o=>if o=n*8+4 then ι (x.tg 3) else if o=n*8+3 then ι (x.tg 2) else if o=n*8+2 then ι (x.tg 1) else if o=n*8+1 then ι (x.tg 0) else if o=n*8 then .int .u64 x.key else ep R o)=ep {R with val:=aL R.val n x}:=by
 funext o;unfold ep;dsimp only;by_cases hn:o / 8=n
 ·have h8:o % 8=0\/o % 8=1\/o % 8=2\/o % 8=3\/o % 8=4\/5<=o % 8:=omm;rw [hn,an];rcases h8 with h|h|h|h|h|h
  ·rw [abH omm,abH omm,abH omm,abH omm,afE omm,afE h]
  ·rw [abH omm,abH omm,abH omm,afE omm,abH omm,afE omm,h]
  ·rw [abH omm,abH omm,afE omm,abH omm,afE omm,h]
  ·rw [abH omm,afE omm,abH omm,afE omm,h]
  ·rw [afE omm,abH omm,afE omm,h]
  ·have c0:¬o % 8=0:=omm;have c1:¬o % 8 < 5:=omm;rw [abH omm,abH omm,abH omm,abH omm,abH omm];simp only [c0,c1,if_false]
 ·rw [abH omm,abH omm,abH omm,abH omm,abH omm,aj _ _ hn]
theorem dO.yY (h:dO w ab nb cn lb cl az nl R) {n:Nat} (hn:n < R.made) (x:eW):dO (dr w nb (n*8) x) ab nb cn lb cl az nl {R with val:=aL R.val n x}:=by
 obtain ⟨a,b,c⟩:=h.ne;have h1:=((((h.c.nodes.set (o:=n*8) omm (.int .u64 x.key)).set (o:=n*8+1) omm (ι (x.tg 0))).set (o:=n*8+2) omm (ι (x.tg 1))).set (o:=n*8+3) omm (ι (x.tg 2))).set (o:=n*8+4) omm (ι (x.tg 3));rw [yX R n x] at h1;have ha:ab≠nb:=fun e=>a e.symm;have hl:(Value.slice (some (π lb 0)) nl cl).ownBlock≠some nb:=by simp [Value.ownBlock];exact fun e=>c e.symm
 exact ⟨⟨((((h.c.head.other ha _ _).other ha _ _).other ha _ _).other ha _ _).other ha _ _,h1,((((h.c.lists.other hl _ _).other hl _ _).other hl _ _).other hl _ _).other hl _ _⟩,h.pos⟩
theorem fD {S:List Nat} {a w:World} {b:Nat} (h:da S a w) (hb:b∈S) (o:Nat) (x:eW):da S a (dr w b o x):=
 ((((h.setCell hb _).setCell hb _).setCell hb _).setCell hb _).setCell hb _
theorem dO.aW (h:dO w ab nb cn lb cl az nl R) {n:Nat} (hn:n < R.made):w.cell? (π nb (n*8))=some (.int .u64 (R.val n).key)/\w.cell? (π nb (n*8+1))=some (ι ((R.val n).tg 0))/\
 w.cell? (π nb (n*8+2))=some (ι ((R.val n).tg 1))/\w.cell? (π nb (n*8+3))=some (ι ((R.val n).tg 2))/\w.cell? (π nb (n*8+4))=some (ι ((R.val n).tg 3)):=by
 refine ⟨?_,?_,?_,?_,?_⟩
 ·rw [h.c.nodes.cell (o:=n*8) omm,xJ]
 ·rw [h.c.nodes.cell (o:=n*8+1) omm,show ep R (n*8+1)=_ from iL R n (t:=0) omm]
 ·rw [h.c.nodes.cell (o:=n*8+2) omm,show ep R (n*8+2)=_ from iL R n (t:=1) omm]
 ·rw [h.c.nodes.cell (o:=n*8+3) omm,show ep R (n*8+3)=_ from iL R n (t:=2) omm]
 ·rw [h.c.nodes.cell (o:=n*8+4) omm,show ep R (n*8+4)=_ from iL R n (t:=3) omm]
theorem dO.h0 (h:dO w ab nb cn lb cl az nl R):w.cell? (π ab 0)=some (ι az):=h.c.head.cell 0
theorem dO.h1 (h:dO w ab nb cn lb cl az nl R):w.cell? (π ab 1)=some (.slice (some (π nb 0)) R.made cn):=h.c.head.cell 1
theorem dO.h2 (h:dO w ab nb cn lb cl az nl R):w.cell? (π ab 2)=some (.slice (some (π lb 0)) nl cl):=h.c.head.cell 2
theorem dO.h3 (h:dO w ab nb cn lb cl az nl R):w.cell? (π ab 3)=some (ι R.cS):=h.c.head.cell 3
theorem dO.h4 (h:dO w ab nb cn lb cl az nl R):w.cell? (π ab 4)=some (ι R.used):=h.c.head.cell 4
theorem dO.own (h:dO w ab nb cn lb cl az nl R) {n:Nat} (hn:n < R.made):w.cell? (π nb (n*8+5))=some (ι (R.own n)):=by rw [h.c.nodes.cell (o:=n*8+5) omm,sq]
theorem dO.bK (h:dO w ab nb cn lb cl az nl R) {n e:Nat} (hn:n < R.made) (he:e<=1):w.cell? (π nb (n*8+(6+e)))=some (ι (R.bK n e)):=by rw [h.c.nodes.cell (o:=n*8+(6+e)) omm,xK R n he]
theorem dO.ends (h:dO w ab nb cn lb cl az nl R) {q e:Nat} (hq:q < nl) (he:e<=1):w.cell? (π lb (q*3+e))=some (ι (R.ends q e)):=by rw [h.c.lists.cell (o:=q*3+e) omm,uL R q he]
theorem dO.cR (h:dO w ab nb cn lb cl az nl R) {q:Nat} (hq:q < nl):w.cell? (π lb (q*3+2))=some (ι (R.cR q)):=by rw [h.c.lists.cell (o:=q*3+2) omm,xL]
theorem dO.fa (h:dO w ab nb cn lb cl az nl R) (o:Nat):w.frozen? (π ab o)=false:=h.c.head.frozen o
theorem dO.fn (h:dO w ab nb cn lb cl az nl R) (o:Nat):w.frozen? (π nb o)=false:=h.c.nodes.frozen o
theorem dO.fl (h:dO w ab nb cn lb cl az nl R) (o:Nat):w.frozen? (π lb o)=false:=h.c.lists.frozen o
theorem dO.drewN (h:dO w ab nb cn lb cl az nl R) (n:Nat):dO (w.drewN n) ab nb cn lb cl az nl R:=⟨h.c.drewN n,h.pos⟩
theorem dO.later (h:dO w ab nb cn lb cl az nl R) (b:Below w.heap.size w w'):dO w' ab nb cn lb cl az nl R:=⟨h.c.later b,h.pos⟩
theorem dO.aB {S:List Nat} (h:dO w ab nb cn lb cl az nl R) (f:da S w w') (hs:ab∉S/\nb∉S/\lb∉S):dO w' ab nb cn lb cl az nl R:=
 ⟨h.c.aB f (by intro b hb;simp [bp,Value.ownBlock] at hb;rcases hb with rfl|rfl|rfl;exact hs.1;exact hs.2.1;exact hs.2.2),h.pos⟩
theorem dO.apart (h:dO w ab nb cn lb cl az nl R) {b:Nat} {T:TypeId} {cs:Array Value} (k:ay w b T cs) (h1:191≠T:=by decide) (h2:202≠T:=by decide) (h3:194≠T:=by decide):b≠ab/\b≠nb/\b≠lb:=by have a:=h.c.head.ne k h1;have c:=h.c.nodes.eF k h2;have d:=h.c.lists.eF k h3;simp [Value.ownBlock] at c d;exact ⟨fun e=>a e.symm,fun e=>c e.symm,fun e=>d e.symm⟩
theorem dO.facts (h:dO w ab nb cn lb cl az nl R) {n:Nat} (hn:n < R.made):
 w.cell? (π ab 1)=some (.slice (some (π nb 0)) R.made cn)/\w.cell? (π ab 3)=some (ι R.cS)/\w.cell? (π ab 4)=some (ι R.used)/\
 w.cell? (π nb (n*8))=some (.int .u64 (R.val n).key)/\w.cell? (π nb (n*8+1))=some (ι ((R.val n).tg 0))/\
 w.cell? (π nb (n*8+2))=some (ι ((R.val n).tg 1))/\w.cell? (π nb (n*8+3))=some (ι ((R.val n).tg 2))/\w.cell? (π nb (n*8+4))=some (ι ((R.val n).tg 3))/\
 w.cell? (π nb (n*8+5))=some (ι (R.own n))/\w.cell? (π nb (n*8+6))=some (ι (R.bK n 0))/\w.cell? (π nb (n*8+7))=some (ι (R.bK n 1))/\
 (∀o,w.frozen? (π nb o)=false)/\(∀o,w.frozen? (π ab o)=false):=by
 obtain ⟨k0,k1,k2,k3,k4⟩:=h.aW hn;exact ⟨h.h1,h.h3,h.h4,k0,k1,k2,k3,k4,h.own hn,h.bK (e:=0) hn omm,h.bK (e:=1) hn omm,h.fn,h.fa⟩
theorem jc {b:Nat} {v0 v1 v2 v3 v4:Value} (h:ay w b 118 #[v0,v1,v2,v3,v4]):w.cell? (π b 0)=some v0/\w.cell? (π b 1)=some v1/\w.cell? (π b 2)=some v2/\w.cell? (π b 3)=some v3/\w.cell? (π b 4)=some v4/\∀o,w.frozen? (π b o)=false:=
 ⟨h.cell 0,h.cell 1,h.cell 2,h.cell 3,h.cell 4,h.frozen⟩
end
end ak.Vm
