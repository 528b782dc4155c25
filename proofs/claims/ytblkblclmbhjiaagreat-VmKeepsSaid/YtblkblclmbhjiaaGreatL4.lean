/- Of the proof that VmKeeps holds: a key keeps its node, what traps leaves no trace. No condition. -/
import Derived.Test.YtblkblclmbhjiaaGreatL3
set_option linter.unusedVariables false
set_option linter.unusedSimpArgs false
set_option maxHeartbeats 40000000
set_option maxRecDepth 100000
namespace ak.Vm
structure kE where
 ty:List Nat
 loop:Int
 hand:Int
 jI:Bool
 deriving DecidableEq
def s0:kE:=⟨[],0,0,false⟩
structure jS where
 at_:Nat->kE
 up:Nat->Int
def fx (p:aO) (n:Nat):Bool:=(p.on++[p.aJ]).contains (n:Int)
def gE (p:aO) (n:Int):Bool:=decide (0<=n)&&decide (n < p.code.length)&&decide ((ai p n.toNat).op=25)
def dZ (p:aO) (x:Ins) (h:Int):Bool×Int:=
 if x.op=36 then (decide (h=2),3)
 else if x.op=37 then (decide (h=1)||decide (h=3),0)
 else if x.op=35 then (if bj p x.a then (decide (h=1)||decide (h=3),0) else (decide (h=2),0))
 else if x.op=34 then (if bj p x.a then (decide (h=0),1) else (decide (h=0),2))
 else if (1<=x.op/\x.op<=21)\/x.op=28\/x.op=29\/x.op=30 then (true,h)
 else (decide (h=0),0)
def cw (x:Ins) (ty:List Nat):Int×List Nat:=
 let t:=bO x.op.toNat
 let g:=if aR x.op.toNat=0 then [] else [aR x.op.toNat]
 let left:=g++ty.drop t.length
 if ty.length < t.length\/(x.op=0/\t.length < ty.length) then (93,[])
 else if 256 < left.length then (93,[])
 else if x.op=19 then (if ty.getD 0 0≠ty.getD 1 0 then (94,[]) else (0,left))
 else if ty.take t.length≠t then (94,[]) else (0,left)
def dL (p:aO) (L:jS) (pc:Nat) (x:Ins) (ty:List Nat) (loop:Int):Bool:=
 if (x.op=22\/x.op=23\/x.op=25\/x.op=26)/\(x.a<=pc\/gE p x.a=true) then false
 else if x.op=25 then decide (0 < pc)&&decide ((ai p (pc - 1)).op=24)&& !fx p pc
 else if x.op=24 then gE p ((pc:Int)+1)
 else if x.op=26 then decide (0<=loop)&&decide (x.a=(ai p loop.toNat).a)
 else if x.op=27 then decide (0<=loop)&&decide (x.a=loop)&&decide (ty=(L.at_ loop.toNat).ty)
 else if x.op=0 then decide (loop < 0)
 else true
def dP (L:jS) (pc:Nat) (x:Ins) (s:kE):List (Nat×kE):=
 if x.op=0\/x.op=27 then []
 else if x.op=22 then [(x.a.toNat,s)]
 else if x.op=23 then [(pc+1,s),(x.a.toNat,s)]
 else if x.op=25 then [(pc+1,{s with loop:=pc}),(x.a.toNat,s)]
 else if x.op=26 then [(pc+1,s),(x.a.toNat,{s with loop:=L.up s.loop.toNat})]
 else [(pc+1,s)]
def fQ (L:jS) (pc:Nat) (x:Ins) (loop:Int):jS:=if x.op=25 then {L with up:=aL L.up pc loop} else L
def sI (L:jS) (l:List (Nat×kE)):Bool:=l.all fun w=> !(L.at_ w.1).jI||decide (L.at_ w.1=w.2)
def eC (L:jS):List (Nat×kE)->Option jS
 |[]=>some L
 |w::l=>if (L.at_ w.1).jI then (if L.at_ w.1=w.2 then eC L l else none) else eC {L with at_:=aL L.at_ w.1 w.2} l
def bW (p:aO) (L:jS) (pc:Nat):Int×jS:=
 let x:=ai p pc
 let s:=L.at_ pc
 if s.jI=false then (99,L)
 else if (dZ p x s.hand).1=false then (96,L)
 else if (cw x s.ty).1≠0 then ((cw x s.ty).1,L)
 else if cJ p x=false then (92,L)
 else if dL p L pc x (cw x s.ty).2 s.loop=false then (95,L)
 else
  let L1:=fQ L pc x s.loop
  let l:=dP L1 pc x ⟨(cw x s.ty).2,s.loop,(dZ p x s.hand).2,true⟩
  if l.any (fun w=>decide (w.1=p.code.length)) then (98,L1)
  else if sI L1 l=false then (94,L1)
  else match eC L1 l with
   |none=>(94,L1)
   |some L2=>(0,L2)
def eX (p:aO):Nat->Nat->jS->(Int×Nat) ⊕ jS
 |0,_,L=> .inr L
 |k+1,pc,L=>if (bW p L pc).1=0 then eX p k (pc+1) (bW p L pc).2 else .inl ((bW p L pc).1,pc)
def f_ (p:aO):jS:=⟨fun n=>if fx p n then ⟨[],-1,0,true⟩ else s0,fun _=>0⟩
def fh:List Nat->Int
 |[]=> -1
 |t::_=>t
structure Hw (p:aO) (T:Map) (L:jS) (pc:Nat):Prop where
 OZ:∀n s,T n=some s->L.at_ n=⟨s.ty,fh s.lo,s.ha,true⟩
 no:∀n,T n=none->(L.at_ n).jI=false
 up:∀n s,T n=some s->n < pc->(ai p n).op=25->L.up n=fh s.lo
 loops:∀q s,T q=some s->de p T q s.lo
 len:∀q s,T q=some s->s.ty.length<=256
 lt:∀q s,T q=some s->q < p.code.length
theorem head_eq {p:aO} {T:Map} {q q':Nat} {a b:List Nat} (ha:de p T q a) (hb:de p T q' b) (h:fh a=fh b):a=b:=by
 cases a with
 |nil=>cases b with
  |nil=>rfl
  |cons t l=>simp only [fh] at h;omega
 |cons t l=>cases b with
  |nil=>simp only [fh] at h;omega
  |cons t' l'=>
   have e:t=t':=by simp only [fh] at h;omega
   subst e;obtain ⟨_,_,s,h1,h2⟩:=ha;obtain ⟨_,_,s',h3,h4⟩:=hb;rw [h1] at h3;have:s=s':=Option.some.inj h3;subst this;rw [<-h2,<-h4]
theorem Hx (p:aO) (x:Ins) (ha:Nat) (h0:0<=x.op) (Xh:x.op<=41):(dZ p x ha).1=dU p x ha/\(dU p x ha=true->(dZ p x ha).2=(be p x ha:Nat)):=by
 unfold dZ dU be;by_cases h36:x.op=36
 ·simp only [h36,if_pos rfl];exact ⟨by rw [Bool.eq_iff_iff];simp;omega,fun _=>rfl⟩
 simp only [h36,if_false];by_cases Xi:x.op=37
 ·simp only [Xi];refine ⟨?_,fun _=>by simp⟩;rw [Bool.eq_iff_iff];simp;omega
 simp only [Xi,if_false];by_cases Xj:x.op=35
 ·simp only [Xj];cases bj p x.a
  ·exact ⟨by rw [Bool.eq_iff_iff];simp;omega,fun _=>by simp⟩
  ·exact ⟨by rw [Bool.eq_iff_iff];simp;omega,fun _=>by simp⟩
 simp only [Xj,if_false];by_cases h34:x.op=34
 ·simp only [h34];cases bj p x.a
  ·exact ⟨by rw [Bool.eq_iff_iff];simp,fun _=>by simp⟩
  ·exact ⟨by rw [Bool.eq_iff_iff];simp,fun _=>by simp⟩
 simp only [h34,if_false];by_cases hs:x.op=28\/x.op=29\/x.op=30
 ·rw [if_pos (.inr hs),if_pos hs];simp [Xj,Xi]
 rw [if_neg hs];by_cases hr:1<=x.op/\x.op<=21
 ·rw [if_pos (.inl hr)];simp [Xj,Xi,hr.1,hr.2]
 ·rw [if_neg (by simp only [not_or];exact ⟨hr,fun h=>hs (.inl h),fun h=>hs (.inr (.inl h)),fun h=>hs (.inr (.inr h))⟩)];have e1:(decide (1<=x.op)&&decide (x.op<=21))=false:=by rw [Bool.eq_false_iff];simp;omega
  rw [e1];refine ⟨by rw [Bool.eq_iff_iff];simp,fun h=>?_⟩;simp at h;simp [Xj,Xi,h]
theorem sJ (n:Nat):bO n=[]\/bO n=[1]\/bO n=[2]\/bO n=[1,1]\/(n=19/\bO n=[3,3]):=by unfold bO;split<;>simp
theorem Hy (x:Ins) (ty:List Nat) (h0:0<=x.op) (hl:ty.length<=256):(cw x ty).1=bM x ty/\(bM x ty=0->(cw x ty).2=aT x ty):=by
 have hz:x.op=0->bO x.op.toNat=[]:=fun h=>by rw [h];rfl
 have sE:x.op.toNat=19↔x.op=19:=by omega
 unfold cw bM aT;dsimp only;have hg:(if aR x.op.toNat=0 then ty.drop (bO x.op.toNat).length else aR x.op.toNat::ty.drop (bO x.op.toNat).length)=(if aR x.op.toNat=0 then [] else [aR x.op.toNat])++ty.drop (bO x.op.toNat).length:=by split<;>rfl
 rw [hg];have hlen:((if aR x.op.toNat=0 then [] else [aR x.op.toNat])++ty.drop (bO x.op.toNat).length).length=(if aR x.op.toNat=0 then 0 else 1)+(ty.length - (bO x.op.toNat).length):=by rw [List.length_append,List.length_drop];split<;>rfl
 rw [hlen];generalize (if aR x.op.toNat=0 then [] else [aR x.op.toNat])++ty.drop (bO x.op.toNat).length=R;by_cases c1:ty.length < (bO x.op.toNat).length\/(x.op=0/\0 < ty.length)
 ·have c2:ty.length < (bO x.op.toNat).length\/(x.op=0/\(bO x.op.toNat).length < ty.length):=by
   rcases c1 with c1|⟨c1,c2⟩
   ·exact .inl c1
   ·exact .inr ⟨c1,by rw [hz c1];exact c2⟩
  rw [if_pos c2,if_pos (by rcases c1 with c|c;exact .inl c;exact .inr (.inl c))];exact ⟨rfl,fun h=>by simp at h⟩
 ·have c2:¬(ty.length < (bO x.op.toNat).length\/(x.op=0/\(bO x.op.toNat).length < ty.length)):=by
   intro c;apply c1;rcases c with c|⟨c,c'⟩
   ·exact .inl c
   ·rw [hz c] at c';exact .inr ⟨c,by simpa using c'⟩
  rw [if_neg c2];simp only [not_or] at c1;by_cases c3:aR x.op.toNat≠0/\256 < ty.length - (bO x.op.toNat).length+1
  ·rw [if_pos (show 256 < _ by rw [if_neg c3.1];omega),if_pos (.inr (.inr c3))];exact ⟨rfl,fun h=>by simp at h⟩
  ·rw [if_neg (show ¬256 < _ by
    by_cases g:aR x.op.toNat=0
    ·rw [if_pos g];omega
    ·rw [if_neg g];intro h;exact c3 ⟨g,by omega⟩)]
   rw [if_neg (show ¬(_\/_\/_) by simp only [not_or];exact ⟨c1.1,c1.2,c3⟩)];have c4:=c1.1;rcases sJ x.op.toNat with e|e|e|e|⟨e0,e⟩
   ·rw [e];have h:x.op≠19:=by intro h;rw [h] at e;exact absurd e (by decide)
    simp [hZ,h]
   ·rw [e] at c4 ⊢;have h:x.op≠19:=by intro h;rw [h] at e;exact absurd e (by decide)
    cases ty with
    |nil=>simp at c4
    |cons a l=>by_cases ha:a=1<;>simp [hZ,h,ha]
   ·rw [e] at c4 ⊢;have h:x.op≠19:=by intro h;rw [h] at e;exact absurd e (by decide)
    cases ty with
    |nil=>simp at c4
    |cons a l=>by_cases ha:a=2<;>simp [hZ,h,ha]
   ·rw [e] at c4 ⊢;have h:x.op≠19:=by intro h;rw [h] at e;exact absurd e (by decide)
    cases ty with
    |nil=>simp at c4
    |cons a l=>
     cases l with
     |nil=>simp at c4
     |cons b l=>by_cases ha:a=1<;>by_cases hb:b=1<;>simp [hZ,h,ha,hb]
   ·have h:x.op=19:=sE.1 e0;rw [e] at c4 ⊢;cases ty with
    |nil=>simp at c4
    |cons a l=>
     cases l with
     |nil=>simp at c4
     |cons b l=>by_cases hb:a=b<;>simp [hZ,h,hb]
def iy (s:Std):kE:=⟨s.ty,fh s.lo,s.ha,true⟩
def m16 (w:Nat×Std):Nat×kE:=(w.1,iy w.2)
theorem yi {p:aO} {T:Map} {q q':Nat} {a b:Std} (ha:de p T q a.lo) (hb:de p T q' b.lo) (h:iy a=iy b):a=b:=by obtain ⟨t1,l1,h1⟩:=a;obtain ⟨t2,l2,h2⟩:=b;simp only [iy,kE.mk.injEq] at h;have e:=head_eq ha hb h.2.1;simp only at e;rw [h.1,e,show h1=h2 by omega]
structure LA (T:Map) (at_:Nat->kE):Prop where
 OZ:∀n s,T n=some s->at_ n=iy s
 no:∀n,T n=none->(at_ n).jI=false
theorem LA.aL {T:Map} {at_:Nat->kE} (h:LA T at_) (n:Nat) (s:Std):LA (Vm.aL T n (some s)) (Vm.aL at_ n (iy s)):=by
 refine ⟨fun m t hm=>?_,fun m hm=>?_⟩
 ·rw [cG] at hm ⊢;split
  ·next e=>rw [if_pos e] at hm;rw [Option.some.inj hm]
  ·next e=>rw [if_neg e] at hm;exact h.OZ m t hm
 ·rw [cG] at hm ⊢;split
  ·next e=>rw [if_pos e] at hm;simp at hm
  ·next e=>rw [if_neg e] at hm;exact h.no m hm
theorem Hz {T:Map} {L:jS} (A:LA T L.at_) {l:List (Nat×Std)} (hq:∀w,w∈l->∀s,T w.1=some s->iy s=iy w.2->s=w.2):sI L (l.map m16)=lA T l:=by
 unfold sI lA
 induction l with
 |nil=>rfl
 |cons w l ih=>
  simp only [List.map_cons,List.all_cons];rw [ih (fun v hv=>hq v (by simp [hv]))];congr 1;show (!(L.at_ w.1).jI||decide (L.at_ w.1=iy w.2))=_;cases hT:T w.1 with
  |none=>rw [A.no _ hT];rfl
  |some s=>
   rw [A.OZ _ _ hT];show (!true||decide (iy s=iy w.2))=decide (s=w.2);by_cases e:s=w.2
   ·rw [e];simp
   ·rw [decide_eq_false e,decide_eq_false (fun h=>e (hq w (by simp) s hT h))];rfl
theorem uq {T:Map} {L:jS} (A:LA T L.at_) {w:Nat×Std} {l:List (Nat×kE)} (hm:∀s,T w.1=some s->s=w.2):
 ∃D3,eC L (m16 w::l)=eC {L with at_:=D3} l/\LA (aL T w.1 (some w.2)) D3:=by
 show ∃D3,(if (L.at_ w.1).jI then (if L.at_ w.1=iy w.2 then eC L l else none) else eC {L with at_:=aL L.at_ w.1 (iy w.2)} l)=_/\_;cases hT:T w.1 with
 |none=>rw [A.no _ hT];exact ⟨_,rfl,A.aL _ _⟩
 |some s=>
  have:=hm s hT;subst this;have e:=A.OZ _ _ hT;rw [e];refine ⟨L.at_,by show (if true=true then (if iy w.2=iy w.2 then eC L l else none) else _)=_;rw [if_pos rfl,if_pos rfl],?_⟩;have e2:aL T w.1 (some w.2)=T:=by
   funext n;rw [cG];split
   ·next e'=>rw [e',hT]
   ·rfl
  rw [e2];exact A
theorem vz {T:Map} {l:List (Nat×Std)} (h:lA T l=true) {w:Nat×Std} (hw:w∈l) {s:Std} (hs:T w.1=some s):s=w.2:=by have:=(List.all_eq_true.1 h) w hw;rw [hs] at this;simpa using this
theorem KW {T:Map} {L:jS} (A:LA T L.at_) {l:List (Nat×Std)} (h2:l=[]\/(∃a,l=[a])\/∃a b,l=[a,b]) (hm:lA T l=true) (hq:∀v w,v∈l->w∈l->iy v.2=iy w.2->v.2=w.2):
 (jh l=true->∃D3,eC L (l.map m16)=some {L with at_:=D3}/\LA (oP T l) D3)/\(jh l=false->eC L (l.map m16)=none):=by
 rcases h2 with rfl|⟨a,rfl⟩|⟨a,b,rfl⟩
 ·exact ⟨fun _=>⟨L.at_,rfl,A⟩,fun h=>by simp [jh] at h⟩
 ·obtain ⟨D3,e,A'⟩:=uq A (w:=a) (l:=[]) (fun s hs=>vz hm (by simp) hs);exact ⟨fun _=>⟨D3,e,A'⟩,fun h=>by simp [jh] at h⟩
 ·obtain ⟨D3,e,A'⟩:=uq A (w:=a) (l:=[m16 b]) (fun s hs=>vz hm (by simp) hs);show (_->∃D3,eC L [m16 a,m16 b]=_/\_)/\(_->eC L [m16 a,m16 b]=none);rw [e];have Xk:jh [a,b]=(decide (b.1=a.1)==false||decide (b.2=a.2)):=by simp [jh]
  rw [Xk];by_cases e1:b.1=a.1
  ·by_cases e2:b.2=a.2
   ·refine ⟨fun _=>?_,fun h=>by simp [e2] at h⟩;obtain ⟨at2,e3,A2⟩:=uq (L:={L with at_:=D3}) A' (w:=b) (l:=[]) (fun s hs=>by rw [e1,an] at hs;rw [e2];exact (Option.some.inj hs).symm);exact ⟨at2,e3,A2⟩
   ·refine ⟨fun h=>by simp [e1,e2] at h,fun _=>?_⟩;show (if (D3 b.1).jI then (if D3 b.1=iy b.2 then _ else none) else _)=none;have:=A'.OZ a.1 a.2 (an _ _ _);rw [e1,this];show (if true=true then (if iy a.2=iy b.2 then _ else none) else _)=none;rw [if_pos rfl,if_neg (fun h=>e2 ((hq a b (by simp) (by simp) h).symm))]
  ·refine ⟨fun _=>?_,fun h=>by simp [e1] at h⟩;obtain ⟨at2,e3,A2⟩:=uq (L:={L with at_:=D3}) A' (w:=b) (l:=[]) (fun s hs=>by rw [aj _ _ e1] at hs;exact vz hm (by simp) hs);exact ⟨at2,e3,A2⟩
theorem vA (pc:Nat) (x:Ins) (s:Std):cm pc x s=[]\/(∃a,cm pc x s=[a])\/∃a b,cm pc x s=[a,b]:=by
 unfold cm;split
 ·exact .inl rfl
 split
 ·exact .inr (.inl ⟨_,rfl⟩)
 split
 ·exact .inr (.inr ⟨_,_,rfl⟩)
 split
 ·exact .inr (.inr ⟨_,_,rfl⟩)
 split
 ·exact .inr (.inr ⟨_,_,rfl⟩)
 ·exact .inr (.inl ⟨_,rfl⟩)
theorem Gc {p:aO} {n:Int} (h0:0<=n) (h1:n < p.code.length):gE p n=true↔(ai p n.toNat).op=25:=by unfold gE;simp [h0,h1]
theorem D4 {p:aO} {T:Map} {L:jS} {pc:Nat} {x:Ins} {ty lo:List Nat} (K:Hw p T L pc) (iF:de p T pc lo) (hx:(x.op=22\/x.op=23\/x.op=25\/x.op=26)->0<=x.a/\x.a < p.code.length):
 dL p L pc x ty (fh lo)=cC p T pc x ty lo:=by
 unfold dL cC;by_cases c1:(x.op=22\/x.op=23\/x.op=25\/x.op=26)/\(x.a<=pc\/(ai p x.a.toNat).op=25)
 ·rw [if_pos c1,if_pos ⟨c1.1,by rcases c1.2 with h|h;exact .inl h;exact .inr ((Gc (hx c1.1).1 (hx c1.1).2).2 h)⟩]
 ·rw [if_neg c1,if_neg (fun c=>c1 ⟨c.1,by rcases c.2 with h|h;exact .inl h;exact .inr ((Gc (hx c.1).1 (hx c.1).2).1 h)⟩)];by_cases pW:x.op=25
  ·rw [if_pos pW,if_neg (by omega),if_pos pW];rw [Bool.eq_iff_iff];unfold fx;simp;constructor
   ·rintro ⟨⟨a,b⟩,c,d⟩;exact ⟨⟨⟨a,b⟩,fun h=>d h.symm⟩,c⟩
   ·rintro ⟨⟨⟨a,b⟩,c⟩,d⟩;exact ⟨⟨a,b⟩,d,fun h=>c h.symm⟩
  rw [if_neg pW];by_cases NQ:x.op=24
  ·rw [if_pos NQ,if_pos NQ];unfold gE;rw [Bool.eq_iff_iff];simp;intro _;omega
  rw [if_neg NQ,if_neg NQ,if_neg pW];by_cases OX:x.op=26
  ·rw [if_pos OX,if_pos OX];cases lo with
   |nil=>simp [fh]
   |cons t l=>rw [Bool.eq_iff_iff,Bool.and_eq_true,decide_eq_true_eq,decide_eq_true_eq];exact ⟨fun h=>decide_eq_true h.2,fun h=>⟨by simp [fh],of_decide_eq_true h⟩⟩
  rw [if_neg OX,if_neg OX];by_cases Vv:x.op=27
  ·rw [if_pos Vv,if_pos Vv];cases lo with
   |nil=>simp [fh]
   |cons t l=>
    obtain ⟨_,_,s',hs,hl⟩:=iF;dsimp only;rw [hs];have hy:(L.at_ (fh (t::l)).toNat).ty=s'.ty:=by rw [show (fh (t::l)).toNat=t from rfl,K.OZ t s' hs]
    rw [Bool.eq_iff_iff];simp only [Bool.and_eq_true,decide_eq_true_eq,hy];constructor
    ·rintro ⟨⟨h1,h2⟩,h3⟩;exact ⟨h2,h3.symm,hl⟩
    ·rintro ⟨h2,h3,_⟩;exact ⟨⟨by simp [fh],h2⟩,h3.symm⟩
  rw [if_neg Vv,if_neg Vv];split
  ·cases lo with
   |nil=>simp [fh]
   |cons t l=>show decide (((t:Nat):Int) < 0)=false;rw [decide_eq_false_iff_not];omega
  ·rfl
theorem H_ {p:aO} {T:Map} {L:jS} {pc:Nat} {x:Ins} {ty lo:List Nat} {ha:Nat} {h':Int} (K:Hw p T L pc) (iF:de p T pc lo) (hj:cC p T pc x ty lo=true) (hh:h'=ha):
 dP (fQ L pc x (fh lo)) pc x ⟨ty,fh lo,h',true⟩=(cm pc x ⟨ty,lo,ha⟩).map m16:=by
 subst hh;unfold dP cm;split
 ·rfl
 split
 ·rfl
 split
 ·rfl
 split
 ·rfl
 split
 ·next OX=>
  have pW:¬x.op=25:=by omega
  unfold fQ;rw [if_neg pW];unfold cC at hj;rw [if_pos OX] at hj;cases lo with
  |nil=>exfalso;rw [if_neg (show ¬x.op=24 by omega),if_neg (show ¬x.op=25 by omega)] at hj;simp at hj
  |cons t l=>obtain ⟨h1,h2,s',hs,hl⟩:=iF;have:=K.up t s' hs h1 h2;simp only [List.map_cons,List.map_nil,m16,iy,fh,List.tail];rw [show ((t:Nat):Int).toNat=t from rfl,this,hl];rfl
 ·rfl
theorem O0 {p:aO} {pc:Nat} {x:Ins} {s:Std} (nj:pc < p.code.length) (hx:(x.op=22\/x.op=23\/x.op=25\/x.op=26)->0<=x.a/\x.a < p.code.length) {w:Nat×Std} (hw:w∈cm pc x s):w.1<=p.code.length:=by
 unfold cm at hw;split at hw
 ·simp at hw
 split at hw
 ·next h=>simp at hw;subst hw;have:=hx (by omega);dsimp only;omega
 split at hw
 ·next h=>simp at hw;have:=hx (by omega);rcases hw with rfl|rfl<;>dsimp only<;>omega
 split at hw
 ·next h=>simp at hw;have:=hx (by omega);rcases hw with rfl|rfl<;>dsimp only<;>omega
 split at hw
 ·next h=>simp at hw;have:=hx (by omega);rcases hw with rfl|rfl<;>dsimp only<;>omega
 ·simp at hw;subst hw;dsimp only;omega
theorem D5 {p:aO} {T:Map} {pc:Nat} {x:Ins} {s:Std} {ty lo:List Nat} (hj:cC p T pc x ty lo=true) {w:Nat×Std} (hw:w∈cm pc x s):pc < w.1:=by
 have key:(x.op=22\/x.op=23\/x.op=25\/x.op=26)->(pc:Int) < x.a:=by
  intro h;unfold cC at hj;by_cases c:x.a<=pc
  ·rw [if_pos ⟨h,.inl c⟩] at hj;simp at hj
  ·omega
 unfold cm at hw;split at hw
 ·simp at hw
 split at hw
 ·next h=>simp at hw;subst hw;have:=key (by omega);dsimp only;omega
 split at hw
 ·next h=>simp at hw;have:=key (by omega);rcases hw with rfl|rfl<;>dsimp only<;>omega
 split at hw
 ·next h=>simp at hw;have:=key (by omega);rcases hw with rfl|rfl<;>dsimp only<;>omega
 split at hw
 ·next h=>simp at hw;have:=key (by omega);rcases hw with rfl|rfl<;>dsimp only<;>omega
 ·simp at hw;subst hw;dsimp only;omega
theorem yj {x:Ins} {ty:List Nat} (h:bM x ty=0) (hl:ty.length<=256):(aT x ty).length<=256:=by
 unfold bM at h;dsimp only at h;split at h
 ·simp at h
 ·next h1=>
  unfold aT;dsimp only;split
  ·rw [List.length_drop];omega
  ·next hg=>
   rw [List.length_cons,List.length_drop];rcases Nat.lt_or_ge 256 (ty.length - (bO x.op.toNat).length+1) with h2|h2
   ·exact absurd (.inr (.inr ⟨hg,h2⟩)) h1
   ·omega
theorem O1 (L:jS) (pc:Nat) (x:Ins) (n:Int):(fQ L pc x n).at_=L.at_:=by unfold fQ;split<;>rfl
theorem D6 {p:aO} {T:Map} {L:jS} {pc:Nat} (K:Hw p T L pc) (nj:pc < p.code.length) (h0:0<=(ai p pc).op) (Xh:(ai p pc).op<=41)
 (hx:((ai p pc).op=22\/(ai p pc).op=23\/(ai p pc).op=25\/(ai p pc).op=26)->0<=(ai p pc).a/\(ai p pc).a < p.code.length):
 (bW p L pc).1=cO p T pc/\(cO p T pc=0->Hw p (iE p T pc) (bW p L pc).2 (pc+1)):=by
 have hA:LA T L.at_:=⟨K.OZ,K.no⟩;cases hT:T pc with
 |none=>unfold bW cO;rw [hT];dsimp only;rw [if_pos (K.no pc hT)];exact ⟨rfl,fun h=>by simp at h⟩
 |some s=>
  have hs:=K.OZ pc s hT;have iF:=K.loops pc s hT;have hlen:=K.len pc s hT;have hL:iE p T pc=oP T (fE p pc s):=by unfold iE;rw [hT];rfl
  unfold bW cO;rw [hT,hs];dsimp only;obtain ⟨a1,a2⟩:=Hx p (ai p pc) s.ha h0 Xh;obtain ⟨b1,b2⟩:=Hy (ai p pc) s.ty h0 hlen;unfold fE at hL;rw [if_neg (show ¬(true=false) by simp),a1,b1];cases c1:dU p (ai p pc) s.ha with
  |false=>exact ⟨rfl,fun h=>by simp at h⟩
  |true=>
  rw [if_neg (show ¬(true=false) by simp),if_neg (show ¬((!true)=true) by simp)];by_cases c2:bM (ai p pc) s.ty≠0
  ·rw [if_pos c2,if_pos c2];exact ⟨rfl,fun h=>absurd h c2⟩
  have c2:bM (ai p pc) s.ty=0:=by omega
  have c2':¬(bM (ai p pc) s.ty≠0):=by omega
  rw [if_neg c2',if_neg c2',b2 c2];cases c3:cJ p (ai p pc) with
  |false=>exact ⟨rfl,fun h=>by simp at h⟩
  |true=>
  rw [if_neg (show ¬(true=false) by simp),if_neg (show ¬((!true)=true) by simp),D4 K iF hx];cases c4:cC p T pc (ai p pc) (aT (ai p pc) s.ty) s.lo with
  |false=>exact ⟨rfl,fun h=>by simp at h⟩
  |true=>
  rw [if_neg (show ¬(true=false) by simp),if_neg (show ¬((!true)=true) by simp),a2 c1,H_ K iF c4 rfl];have aag:((cm pc (ai p pc) ⟨aT (ai p pc) s.ty,s.lo,be p (ai p pc) s.ha⟩).map m16).any (fun w=>decide (w.1=p.code.length))=(cm pc (ai p pc) ⟨aT (ai p pc) s.ty,s.lo,be p (ai p pc) s.ha⟩).any (fun w=>decide (p.code.length<=w.1)):=by
   rw [List.any_map,Bool.eq_iff_iff,List.any_eq_true,List.any_eq_true];constructor
   ·rintro ⟨w,h1,h2⟩;have h2:decide (w.1=p.code.length)=true:=h2;rw [decide_eq_true_eq] at h2;exact ⟨w,h1,decide_eq_true (by omega)⟩
   ·rintro ⟨w,h1,h2⟩;have:=O0 nj hx h1;rw [decide_eq_true_eq] at h2;exact ⟨w,h1,decide_eq_true (show w.1=p.code.length by omega)⟩
  rw [aag];have Ι:∀w,w∈cm pc (ai p pc) ⟨aT (ai p pc) s.ty,s.lo,be p (ai p pc) s.ha⟩->de p T w.1 w.2.lo:=fun w hw=>sA hT K.loops c4 hw;have Vw:LA T (fQ L pc (ai p pc) (fh s.lo)).at_:=by rw [O1];exact hA
  rw [Hz Vw (fun w hw s' Bl e=>yi (K.loops _ _ Bl) (Ι w hw) e)];have aah:=KW (L:=fQ L pc (ai p pc) (fh s.lo)) Vw (vA pc (ai p pc) ⟨aT (ai p pc) s.ty,s.lo,be p (ai p pc) s.ha⟩);have S3:=fun w (hw:w∈cm pc (ai p pc) ⟨aT (ai p pc) s.ty,s.lo,be p (ai p pc) s.ha⟩)=>D5 c4 hw;have Rg:=fun hm=>aah hm (fun v w hv hw e=>yi (Ι v hv) (Ι w hw) e);generalize hW:cm pc (ai p pc) ⟨aT (ai p pc) s.ty,s.lo,be p (ai p pc) s.ha⟩=l at*;split
  ·exact ⟨rfl,fun h=>by simp at h⟩
  ·next c5=>
   cases c6:lA T l with
   |false=>rw [if_pos rfl,if_pos (by simp)];exact ⟨rfl,fun h=>by simp at h⟩
   |true=>
    rw [if_neg (by simp)];cases c7:jh l with
    |false=>rw [(Rg c6).2 c7,if_pos (by simp)];exact ⟨rfl,fun h=>by simp at h⟩
    |true=>
     obtain ⟨D3,e,A'⟩:=(Rg c6).1 c7;rw [e,if_neg (by simp)];refine ⟨rfl,fun _=>?_⟩;obtain ⟨d1,d2,d3⟩:=zq l T c7 c6;rw [hL];refine ⟨A'.OZ,A'.no,fun n s' hn a8 pW=>?_,fun q s' hq=>?_,fun q s' hq=>?_,fun q s' hq=>?_⟩
     ·show (fQ L pc (ai p pc) (fh s.lo)).up n=_;have Κ:T n=some s':=by
       rcases d3 n s' hn with h|h
       ·exact h
       ·have:=S3 _ h;dsimp only at this;omega
      unfold fQ;by_cases e':n=pc
      ·subst e';rw [if_pos pW];show aL L.up n _ n=_;rw [an];rw [hT] at Κ;rw [Option.some.inj Κ]
      ·split
       ·show aL L.up pc _ n=_;rw [aj _ _ e'];exact K.up n s' Κ (by omega) pW
       ·exact K.up n s' Κ (by omega) pW
     ·rcases d3 q s' hq with h|h
      ·exact (K.loops q s' h).sub d1
      ·exact (Ι _ h).sub d1
     ·rcases d3 q s' hq with h|h
      ·exact K.len q s' h
      ·have:s'.ty=aT (ai p pc) s.ty:=by
        rw [<-hW] at h;unfold cm at h;split at h
        ·simp at h
        split at h
        ·simp at h;rw [h.2]
        split at h
        ·simp at h;rcases h with h|h<;>rw [h.2]
        split at h
        ·simp at h;rcases h with h|h<;>rw [h.2]
        split at h
        ·simp at h;rcases h with h|h<;>rw [h.2]
        ·simp at h;rw [h.2]
       rw [this];exact yj c2 hlen
     ·rcases d3 q s' hq with h|h
      ·exact K.lt q s' h
      ·simp only [Bool.not_eq_true,List.any_eq_false] at c5;have:=c5 _ h;simpa using this
theorem qI {p:aO} (mM:∀i,i∈p.code->iP i=true/\gI p i=true):∀(k pc:Nat) (T:Map) (L:jS),Hw p T L pc->pc+k<=p.code.length->
 (∀e,looks p k pc T= .inl e->eX p k pc L= .inl e)/\(∀T',looks p k pc T= .inr T'->∃L',eX p k pc L= .inr L'):=by
 intro k
 induction k with
 |zero=>intro pc T L K hk;exact ⟨fun e h=>by simp [looks] at h,fun T' h=>⟨L,rfl⟩⟩
 |succ k ih=>
  intro pc T L K hk;have nj:pc < p.code.length:=by omega
  obtain ⟨ho,hi⟩:=mM _ (ei nj);have ho:0<=(ai p pc).op/\(ai p pc).op<=41:=by unfold iP aF at ho;simpa using ho
  have hx:((ai p pc).op=22\/(ai p pc).op=23\/(ai p pc).op=25\/(ai p pc).op=26)->0<=(ai p pc).a/\(ai p pc).a < p.code.length:=by
   rintro (h|h|h|h)
   ·have:=js (dW hi (k:=22) (by omega)).1;omega
   ·have:=js (dW hi (k:=23) (by omega)).1;omega
   ·have:=js (dW hi (k:=25) (by omega)).1;omega
   ·have:=js (dW hi (k:=26) (by omega)).1;omega
  obtain ⟨e,K'⟩:=D6 K nj ho.1 ho.2 hx;unfold looks eX;rw [e];by_cases h:cO p T pc=0
  ·rw [if_pos h,if_pos h];exact ih (pc+1) _ _ (K' h) (by omega)
  ·rw [if_neg h,if_neg h];exact ⟨fun e' he=>by rw [Sum.inl.inj he],fun T' h'=>by simp at h'⟩
theorem n_ {p:aO} (tb:vj p):Hw p (db p) (f_ p) 0:=by
 refine ⟨fun n s h=>?_,fun n h=>?_,fun n s _ h=>by omega,sB p,fun q s h=>?_,fun q s h=>?_⟩
 ·unfold db at h;show (if fx p n then _ else s0)=_;unfold fx;split at h
  ·next h'=>rw [if_pos h',<-Option.some.inj h];rfl
  ·simp at h
 ·unfold db at h;show (if fx p n then _ else s0).jI=_;unfold fx;split at h
  ·simp at h
  ·next h'=>rw [if_neg h'];rfl
 ·unfold db at h;split at h
  ·rw [<-Option.some.inj h];decide
  ·simp at h
 ·unfold db at h;split at h
  ·next h'=>
   simp at h';have h1:=tb.aJ;rcases h' with h'|h'
   ·have:=tb.Xb _ h';omega
   ·omega
  ·simp at h
def vB (p:aO):Int×Int:=
 if bo p≠0 then (bo p,0)
 else match eX p p.code.length 0 (f_ p) with
  | .inl (e,at_)=>(e,at_)
  | .inr _=>match bk p (p.on++[p.aJ]) with
    |some n=>(97,n)
    |none=>(0,0)
theorem tH (p:aO):vB p=aZ p:=by
 unfold vB aZ;by_cases h:bo p=0
 ·rw [if_neg (by simp [h]),if_neg (by simp [h])];obtain ⟨tb,mM⟩:=cK h;obtain ⟨h1,h2⟩:=qI mM p.code.length 0 _ _ (n_ tb) (by omega);cases hl:looks p p.code.length 0 (db p) with
  |inl e=>rw [h1 e hl]
  |inr T=>obtain ⟨L',e⟩:=h2 T hl;rw [e];dsimp only;cases bk p (p.on++[p.aJ])<;>rfl
 ·rw [if_pos h,if_pos h]
def fH (ty:List Nat):ByteArray:=⟨(ty.reverse.map UInt8.ofNat).toArray⟩
theorem nw (ty:List Nat):(fH ty).size=ty.length:=by simp [fH,ByteArray.size]
theorem KY (g:Nat) (ty:List Nat):fH ty++⟨#[UInt8.ofNat g]⟩=fH (g::ty):=by apply ByteArray.ext;simp [fH,ByteArray.data_append]
theorem BB (ty:List Nat) (i:Nat):(fH ty)[i]? =(ty.reverse[i]?).map UInt8.ofNat:=by
 show (fH ty)[i]? =_;by_cases h:i < ty.length
 ·have h1:i < (fH ty).size:=by rw [nw];exact h
  rw [getElem?_pos (fH ty) i h1];rw [List.getElem?_eq_getElem (by simpa using h)];simp only [Option.map_some];congr 1;show (fH ty).data[i]=_;simp [fH]
 ·rw [getElem?_neg (fH ty) i (by rw [nw];omega),List.getElem?_eq_none (by simp;omega)];rfl
theorem D7 {ty:List Nat} {j:Nat} (h:j < ty.length):ty.reverse[ty.length - 1 - j]? =some (ty.getD j 0):=by rw [List.getElem?_reverse (by omega)];rw [show ty.length - 1 - (ty.length - 1 - j)=j by omega,List.getD_eq_getElem?_getD,List.getElem?_eq_getElem h];rfl
theorem KZ (ty:List Nat) (k:Nat):(fH ty).extract 0 (ty.length - k)=fH (ty.drop k):=by apply ByteArray.ext;simp only [fH,ByteArray.data_extract,List.extract_toArray,List.extract_eq_take_drop,List.drop_zero,Nat.sub_zero];congr 1;rw [List.reverse_drop,List.map_take]
def eI (ty:List Nat):Prop:=∀t,t∈ty->t=1\/t=2
theorem eI.take {ty:List Nat} (h:eI ty) (k:Nat):eI (ty.take k):=fun t ht=>h t (List.mem_of_mem_take ht)
theorem eI.drop {ty:List Nat} (h:eI ty) (k:Nat):eI (ty.drop k):=fun t ht=>h t (List.mem_of_mem_drop ht)
theorem eI.at {ty:List Nat} (h:eI ty) {j:Nat} (hj:j < ty.length):ty.getD j 0=1\/ty.getD j 0=2:=by rw [List.getD_eq_getElem?_getD,List.getElem?_eq_getElem hj];exact h _ (List.getElem_mem hj)
theorem O3 {a b:List Nat} (ha:eI a) (hb:eI b) (h:fH a=fH b):a=b:=by
 have hl:a.length=b.length:=by rw [<-nw a,h,nw]
 refine List.ext_getElem hl fun j h1 h2=>?_;have e:=congrArg (fun s:ByteArray=>s[a.length - 1 - j]?) h;simp only [BB] at e;rw [D7 h1] at e;rw [hl,D7 h2] at e;simp only [Option.map_some,Option.some.injEq] at e;have x:=ha.at h1;have y:=hb.at h2;have ea:a.getD j 0=a[j]:=by rw [List.getD_eq_getElem?_getD,List.getElem?_eq_getElem h1];rfl
 have eb:b.getD j 0=b[j]:=by rw [List.getD_eq_getElem?_getD,List.getElem?_eq_getElem h2];rfl
 rw [<-ea,<-eb];rcases x with x|x<;>rcases y with y|y<;>rw [x,y] at e ⊢
 ·exact absurd e (by decide)
 ·exact absurd e (by decide)
def bE (lo:List Nat) (i:Nat):Nat:=lo.reverse.getD i 0
theorem O4 {lo:List Nat} {i:Nat} (h:lo.length<=i):bE lo i=0:=by unfold bE;rw [List.getD_eq_getElem?_getD,List.getElem?_eq_none (by simpa using h)];rfl
theorem vC (t:Nat) (lo:List Nat) (i:Nat):bE (t::lo) i=if i=lo.length then t else bE lo i:=by
 unfold bE;rw [List.reverse_cons,List.getD_eq_getElem?_getD,List.getD_eq_getElem?_getD];by_cases h:i < lo.length
 ·rw [List.getElem?_append_left (by simpa using h),if_neg (by omega)]
 ·rw [List.getElem?_append_right (by simpa using h)];by_cases h2:i=lo.length
  ·rw [if_pos h2];simp [h2]
  ·rw [if_neg h2,List.getElem?_eq_none (by simp;omega),List.getElem?_eq_none (by simp;omega)]
theorem K_ (t:Nat) (lo:List Nat):bE (t::lo) lo.length=t:=by rw [vC,if_pos rfl]
theorem La (lo:List Nat) (i:Nat):bE lo.tail i=if i+1=lo.length then 0 else bE lo i:=by
 cases lo with
 |nil=>simp [bE]
 |cons t lo=>
  rw [List.tail_cons,vC];by_cases h:i=lo.length
  ·rw [if_pos (by simpa using h),O4 (by omega)]
  ·rw [if_neg (by simpa using h),if_neg h]
theorem O5 {a b:List Nat} (hl:a.length=b.length) (h:∀i,i < a.length->bE a i=bE b i):a=b:=by refine List.reverse_inj.1 ?_;refine List.ext_getElem (by simpa using hl) fun i h1 h2=>?_;have e:=h i (by simpa using h1);unfold bE at e;rw [List.getD_eq_getElem?_getD,List.getD_eq_getElem?_getD,List.getElem?_eq_getElem h1,List.getElem?_eq_getElem h2] at e;exact e
def bH (S:Sys):Nat:=min (cF S.nq fun q=>if S.gh q then 0 else S.cq q) S.sz+cF S.nq fun q=>if S.gh q then S.cq q else 0
theorem BN {k:Nat} {f g:Nat->Nat} (h:∀j,j < k->f j<=g j) {q:Nat} (hq:q < k) (a8:f q < g q):cF k f < cF k g:=by
 induction k with
 |zero=>omega
 |succ k ih=>
  show cF k f+f k < cF k g+g k;have h2:=h k (by omega);by_cases e:q=k
  ·subst e;have:=qA (k:=q) (f:=f) (g:=g) fun j hj=>h j (by omega);omega
  ·have:=ih (fun j hj=>h j (by omega)) (by omega);omega
theorem Im {k:Nat} {f g h:Nat->Nat} (e:∀j,j < k->f j+g j=h j):cF k f+cF k g=cF k h:=by
 induction k with
 |zero=>rfl
 |succ k ih=>have h1:=ih fun j hj=>e j (by omega);have h2:=e k (by omega);show (cF k f+f k)+(cF k g+g k)=cF k h+h k;omega
theorem Io (S:Sys) (a:Nd):fX S a+cF S.nq (fun q=>if S.gh q then (a.ls q).length else 0)=cF S.nq fun q=>(a.ls q).length:=by unfold fX;refine Im fun j hj=>?_;by_cases h:S.gh j=true<;>simp [h]
theorem acd {p:Prop} (h:p:=by
 have:=h.len j hj;by_cases hg:S.gh j=true<;>simp [hg];omega):p:=h
theorem Pf {S:Sys} {s:St} (h:Inv S s) {q:Nat} (hq:q < S.nq) (hl:(s.a.ls q).length < S.cq q) (ht:S.gh q=true\/s.total < S.sz):(cF S.nq fun q=>(s.a.ls q).length) < bH S:=by
 rw [<-Io S s.a];unfold bH;have h1:fX S s.a<=cF S.nq fun q=>if S.gh q then 0 else S.cq q:=qA fun j hj=>by exact acd
 have h2:cF S.nq (fun q=>if S.gh q then (s.a.ls q).length else 0)<=cF S.nq fun q=>if S.gh q then S.cq q else 0:=qA fun j hj=>by exact acd
 have h3:=h.NJ;have h4:=h.Kd;by_cases hg:S.gh q=true
 ·have:cF S.nq (fun q=>if S.gh q then (s.a.ls q).length else 0) < cF S.nq fun q=>if S.gh q then S.cq q else 0:=by
   refine BN (fun j hj=>?_) hq ?_
   ·exact acd
   ·simp [hg];exact hl
  omega
 ·have:fX S s.a < cF S.nq fun q=>if S.gh q then 0 else S.cq q:=by
   refine BN (fun j hj=>?_) hq ?_
   ·exact acd
   ·simp [hg];exact hl
  have h5:s.total < S.sz:=by rcases ht with ht|ht;exact absurd ht hg;exact ht
  omega
theorem Lo {p:aO} {c:Cp} (h:sC p c) (hg:p.ap.length<=16):(aw p c).sz<=1048576/\∀q,q < p.ap.length->(aw p c).cq q<=1048576:=by
 refine ⟨?_,fun q hq=>?_⟩
 ·show c.size.toNat<=_;have:=h.s2;omega
 ·show (c.aI.getD q 0).toNat<=_;have:=h.q1 q hq;omega
theorem Lp {p:aO} {c:Cp} {s:St} (h:Inv (aw p c) s) (hc:sC p c): -1073741824<=s.total/\s.total<=1048576:=by have h1:=h.Kd;have h2:=h.NJ;have h3:(aw p c).sz=c.size.toNat:=rfl;have:=hc.s2;omega
theorem yp {l:List Nat} {n:Nat} (h:n∈l):∃y,dir 0 l=y++n::bV l n:=by
 obtain ⟨y,e,_⟩:=lV h;refine ⟨y.reverse,?_⟩;unfold dir;rw [if_neg (by decide)]
 conv=>lhs;rw [e]
 simp
theorem Gj (l:List Nat):hd l=if 0 < l.length then ((l.getD 0 0:Nat):Int) else -1:=by
 cases l<;>simp [hd]
theorem BO {l:List Nat} {n:Nat} (pR:l.Nodup) (h:n∈l):kK (dir 0 l) n=if 0 < (bV l n).length then (((bV l n).getD 0 0:Nat):Int) else -1:=by obtain ⟨y,e⟩:=yp h;have hn:=(kS (e:=0)).2 pR;rw [e] at hn ⊢;rw [jC (fun hy=>(List.nodup_append.1 hn).2.2 n hy n (by simp) rfl),Gj]
theorem Ej {l:List Nat} {n k:Nat} (pR:l.Nodup) (h:n∈l) (hk:k < (bV l n).length):
 kK (dir 0 l) ((bV l n).getD k 0)=if k+1 < (bV l n).length then (((bV l n).getD (k+1) 0:Nat):Int) else -1:=by
 obtain ⟨y,e⟩:=yp h;have hn:=(kS (e:=0)).2 pR;rw [e] at hn ⊢;generalize bV l n=A at*;have e2:y++n::A=(y++n::A.take k)++A.getD k 0::A.drop (k+1):=by
  have h1:A=A.take k++A.getD k 0::A.drop (k+1):=by have h3:=(List.take_append_drop k A).symm;rw [List.drop_eq_getElem_cons hk] at h3;rw [List.getD_eq_getElem?_getD,List.getElem?_eq_getElem hk];exact h3
  conv=>lhs;rw [h1]
  simp
 rw [e2] at hn ⊢;rw [jC (fun hy=>(List.nodup_append.1 hn).2.2 _ hy _ (by simp) rfl),Gj,List.length_drop];by_cases h2:k+1 < A.length
 ·rw [if_pos h2,if_pos (by omega)];congr 1;simp [List.getD]
 ·rw [if_neg h2,if_neg (by omega)]
theorem Ip {l:List Nat} {n k:Nat} (h:n∈l) (hk:k < (bV l n).length):(bV l n).getD k 0∈l:=by
 obtain ⟨y,e,_⟩:=lV h;have:(bV l n).getD k 0∈bV l n:=by rw [List.getD_eq_getElem?_getD,List.getElem?_eq_getElem hk];exact List.getElem_mem hk
 generalize (bV l n).getD k 0=m at*;rw [e];simp [this]
theorem Iq (l:List Nat) (n:Nat):(bV l n).length<=l.length:=by unfold bV;rw [List.length_reverse];exact (List.takeWhile_sublist _).length_le
structure VM (p:aO) (T:Map):Prop where
 loops:∀q s,T q=some s->de p T q s.lo
 ty:∀q s,T q=some s->eI s.ty
 len:∀q s,T q=some s->s.ty.length<=256
 ha:∀q s,T q=some s->s.ha<=3
 lt:∀q s,T q=some s->q < p.code.length
theorem Mp:∀n,n < 42->aR n<=2:=by decide
theorem Cn {x:Ins} {ty:List Nat} (h:x.op.toNat < 42) (ht:eI ty):eI (aT x ty):=by
 have hg:=Mp _ h;unfold aT;dsimp only;split
 ·exact ht.drop _
 ·next h0=>
  intro t hm;rcases List.mem_cons.1 hm with rfl|hm
  ·omega
  ·exact ht.drop _ t hm
theorem PO {p:aO} {x:Ins} {ha:Nat} (h:ha<=3):be p x ha<=3:=by
 unfold be;split
 ·omega
 split
 ·omega
 split
 ·split<;>omega
 ·exact h
theorem acR {p:Prop} (h:p:=by
 simp at h;rcases h with rfl|rfl<;>exact ⟨rfl,rfl⟩):p:=h
theorem Ag {pc:Nat} {x:Ins} {s:Std} {w:Nat×Std} (h:w∈cm pc x s):w.2.ty=s.ty/\w.2.ha=s.ha:=by
 unfold cm at h;split at h
 ·simp at h
 split at h
 ·simp at h;subst h;exact ⟨rfl,rfl⟩
 split at h
 ·exact acR
 split at h
 ·exact acR
 split at h
 ·exact acR
 ·simp at h;subst h;exact ⟨rfl,rfl⟩
theorem EQ {p:aO} {T:Map} {pc:Nat} (K:VM p T) (Xh:(ai p pc).op<=41) (h:cO p T pc=0):VM p (iE p T pc):=by
 obtain ⟨s,hT,g1,g2,g3,g4,g5,g6,g7,g8⟩:=look_ok h;obtain ⟨a1,a2,a3⟩:=zq _ T g6 g7;rw [g8];have ht:=Cn (x:=ai p pc) (by omega) (K.ty pc s hT);have hl:=yj g2 (K.len pc s hT);have hh:=PO (p:=p) (x:=ai p pc) (K.ha pc s hT);refine ⟨fun q s' hq=>?_,fun q s' hq=>?_,fun q s' hq=>?_,fun q s' hq=>?_,fun q s' hq=>?_⟩
 ·rcases a3 q s' hq with h1|h1
  ·exact (K.loops q s' h1).sub a1
  ·exact (sA hT K.loops g4 h1).sub a1
 ·rcases a3 q s' hq with h1|h1
  ·exact K.ty q s' h1
  ·rw [(Ag h1).1];exact ht
 ·rcases a3 q s' hq with h1|h1
  ·exact K.len q s' h1
  ·rw [(Ag h1).1];exact hl
 ·rcases a3 q s' hq with h1|h1
  ·exact K.ha q s' h1
  ·rw [(Ag h1).2];exact hh
 ·rcases a3 q s' hq with h1|h1
  ·exact K.lt q s' h1
  ·exact g5 _ h1
theorem Ah {p:aO} (tb:vj p):VM p (db p):=by
 have L:=n_ tb;refine ⟨L.loops,fun q s h=>?_,L.len,fun q s h=>?_,L.lt⟩
 ·unfold db at h;split at h
  ·rw [<-Option.some.inj h];intro t ht;simp at ht
  ·simp at h
 ·unfold db at h;split at h
  ·rw [<-Option.some.inj h];exact Nat.zero_le _
  ·simp at h
def Am (p:aO):Prop:=∀j,j < p.code.length->0<=(ai p j).op/\((ai p j).op=22\/(ai p j).op=23->0<=(ai p j).a/\(ai p j).a < p.code.length)/\
 ((ai p j).op=24->0<=(ai p j).a/\(ai p j).a<=4194304/\j+2 < p.code.length/\0<=(ai p (j+1)).a/\(ai p (j+1)).a < p.code.length)/\((ai p j).op≠0->(ai p j).op≠27->(ai p j).op≠22->j+1 < p.code.length)
theorem yC {p:aO} {T:Map} (hc:bo p=0) (hl:looks p p.code.length 0 (db p)= .inr T):Am p:=by
 obtain ⟨tb,mM⟩:=cK hc;obtain ⟨-,-,fF⟩:=Bv _ _ _ _ hl (sB p);have cW:∀j,j < p.code.length->0<=(ai p j).op/\(ai p j).op<=41:=fun j hj=>by have:=(mM _ (ei hj)).1;unfold iP aF at this;simpa using this
 have nx:∀j,j < p.code.length->(ai p j).op≠0->(ai p j).op≠27->(ai p j).op≠22->j+1 < p.code.length:=fun j hj h0 Vv h22=>by
  obtain ⟨s,R⟩:=fF j (Nat.zero_le _) (by omega);have hw:=R.ways;unfold fE cm at hw;rw [if_neg (by simp only [not_or];exact ⟨h0,Vv⟩),if_neg h22] at hw;split at hw
  ·exact (hw _ (List.mem_cons_self ..)).1
  split at hw
  ·exact (hw _ (List.mem_cons_self ..)).1
  split at hw
  ·exact (hw _ (List.mem_cons_self ..)).1
  ·exact (hw _ (List.mem_cons_self ..)).1
 intro j hj;have hi:=(mM _ (ei hj)).2;refine ⟨(cW j hj).1,?_,?_,nx j hj⟩
 ·rintro (h|h)
  ·exact js (dW hi (k:=22) (by rw [h];rfl)).1
  ·exact js (dW hi (k:=23) (by rw [h];rfl)).1
 ·intro h;have h7:aY p 7 (ai p j).a=true:=(dW hi (k:=24) (by rw [h];rfl)).1;unfold aY aF dM dN at h7;simp at h7;obtain ⟨s,R⟩:=fF j (Nat.zero_le _) (by omega);have RP:=R.jumps;unfold cC at RP;simp [h] at RP;have AH:=(mM _ (ei RP.1)).2;have ha:=js (dW AH (k:=25) (by rw [RP.2];rfl)).1;exact ⟨h7.1,h7.2,nx (j+1) RP.1 (by rw [RP.2];decide) (by rw [RP.2];decide) (by rw [RP.2];decide),ha.1,ha.2⟩
def gj:aO:=⟨[false],[],[],[0],2,[⟨32,0,0,0,0⟩,⟨0,0,0,0,0⟩,⟨4,0,0,0,0⟩,⟨5,0,0,0,0⟩,⟨19,0,0,0,0⟩,⟨23,7,0,0,0⟩,⟨40,0,1,0,0⟩,⟨31,0,0,0,0⟩,⟨0,0,0,0,0⟩]⟩
def iX:Cp:=⟨2,[2]⟩
def xx (p:aO):St:=⟨⟨fun _=>[],fun _=>dI,fun i=>i⟩,fun _=>none,fun i=>(p.vars.getD i ⟨0,0,0⟩).init,0⟩
theorem yF:aZ gj=(0,0):=by decide
theorem pk:mh gj:=by unfold mh;decide
def k1:St:=dF gj iX (xx gj) 7
def k2:St:=dF gj iX k1 8
def k3:St:=dF gj iX k2 7
def k4:St:=dF gj iX k3 9
theorem sV:sH gj iX k2 7=true/\(lD gj iX k2 7).1=2/\dE gj iX k2 7=0:=by decide
theorem lH:sH gj iX k3 9=false/\(lD gj iX k3 9).1=7/\dE gj iX k3 9=0/\gK gj iX k3 9=[8]:=by decide
theorem Cy:k4.a.ls 0=[1,0]/\k4.f 7=some 0/\k4.f 9=some 1:=by decide
theorem GK {p:aO} (c:Cp) (tb:vj p):Inv (aw p c) (xx p):=by
 have h0:∀nq,cF nq (fun q=>if (aw p c).gh q then 0 else ((xx p).a.ls q).length)=0:=fun nq=>by
  induction nq with
  |zero=>rfl
  |succ k ih=>unfold cF;rw [ih];dsimp only;split<;>rfl
 refine ⟨⟨fun _ _=>List.nodup_nil,fun _ _ _ _ _ h=>(by cases h),fun _ _ _ h=>(by cases h),fun _ _ h=>h,fun _=>rfl⟩,fun k n=>⟨fun h=>(by cases h),?_⟩,fun _ _=>Nat.zero_le _,?_,?_,fun _ _ _ h=>(by cases h),fun _ _ _ h=>(by cases h),fun i=>?_⟩
 ·rintro ⟨q,-,h,-⟩;cases h
 ·show (0:Int)=((fX _ _:Nat):Int);unfold fX;rw [h0];rfl
 ·unfold fX;rw [h0];exact Nat.zero_le _
 ·show -1073741824<=(p.vars.getD i ⟨0,0,0⟩).init/\(p.vars.getD i ⟨0,0,0⟩).init<=1073741824;by_cases hi:i < p.vars.length
  ·rw [List.getD_eq_getElem?_getD,List.getElem?_eq_getElem hi];have:=tb.vars _ (List.getElem_mem hi);simp only [Option.getD_some];omega
  ·rw [List.getD_eq_getElem?_getD,List.getElem?_eq_none (by omega)];decide
theorem uA:∃T,Env gj iX T:=by
 obtain ⟨hc,T,hT,-⟩:=rA yF rfl;exact ⟨T,hT,hc,by decide,by decide,by decide,fun q hq=>by
  have:q=0:=by have:gj.ap.length=1:=rfl;omega
  subst this;decide⟩
theorem MM:vj gj:=(cK (p:=gj) (by decide)).1
theorem Ue:Inv (aw gj iX) k1:=by obtain ⟨T,E⟩:=uA;exact oW E pk (GK _ MM) (by decide)
theorem Uf:Inv (aw gj iX) k2:=by obtain ⟨T,E⟩:=uA;exact oW E pk Ue (by decide)
theorem Ug:Inv (aw gj iX) k3:=by obtain ⟨T,E⟩:=uA;exact oW E pk Uf (by decide)
theorem Uh:Inv (aw gj iX) k4:=by obtain ⟨T,E⟩:=uA;exact oW E pk Ug (by decide)
theorem E3 (k n:Nat):k4.f k=some n↔(k=7/\n=0)\/(k=9/\n=1):=by
 obtain ⟨h1,h2,h3⟩:=Cy;constructor
 ·intro h;obtain ⟨q,hq,hn,hk⟩:=(Uh.idx k n).1 h;have:q=0:=by have:(aw gj iX).nq=1:=rfl;omega
  subst this;rw [h1] at hn;simp at hn;rcases hn with rfl|rfl
  ·right;exact ⟨hk.symm.trans (by decide),rfl⟩
  ·left;exact ⟨hk.symm.trans (by decide),rfl⟩
 ·rintro (⟨rfl,rfl⟩|⟨rfl,rfl⟩)
  ·exact h2
  ·exact h3
def YW:aO:=⟨[],[],[],[],0,[⟨1,0,0,0,0⟩]⟩
theorem MN:aZ YW=(98,0):=by decide
structure uC (s0:St) (k0:Nat) (x:SR):Prop where
 key:x.2.key=k0
 idx:∀k n m,k≠k0->s0.f k=some n->x.1.f k=some m->m=n
 gm:∀v n,x.2.hand=some v->v.key≠k0->s0.f v.key=some n->x.1.a.fs 0=n
section
variable {s0:St} {k0:Nat} {x y:SR} {S:Sys}
theorem uC.of (h:uC s0 k0 x) (e1:y.1.f=x.1.f) (e2:y.1.a.fs=x.1.a.fs) (e3:y.2.key=x.2.key) (e4:y.2.hand=x.2.hand\/y.2.hand=none):uC s0 k0 y:=
 ⟨e3.trans h.key,by rw [e1];exact h.idx,fun v n hv=>by
   rw [e2];rcases e4 with e|e
   ·rw [e] at hv;exact h.gm v n hv
   ·rw [e] at hv;cases hv⟩
theorem Av (h:uC s0 k0 x) (hh:x.2.hand=none) {v:eW} (hv:v.key=k0\/∀n,s0.f v.key=some n->x.1.a.fs 0=n) {q e:Nat}:uC s0 k0 (gW S x q e v).1:=by
 unfold gW;split
 ·exact h.of rfl rfl rfl (.inl rfl)
 ·refine ⟨h.key,fun k n m hk hn hm=>?_,fun v n hv=>?_⟩
  ·change aL x.1.f v.key (some (x.1.a.fs 0)) k=some m at hm;rw [cG] at hm;split at hm
   ·next e=>
    subst e;rcases hv with hv|hv
    ·exact absurd hv hk
    ·rw [<-Option.some.inj hm];exact hv n hn
   ·exact h.idx k n m hk hn hm
  ·have:x.2.hand=some v:=hv;rw [hh] at this;cases this
theorem GP (h:uC s0 k0 x) (hh:x.2.hand=none) {n q:Nat}:uC s0 k0 (ry S x n q):=by
 refine ⟨h.key,fun k n' m hk hn hm=>?_,fun v n hv=>?_⟩
 ·change aL x.1.f (x.1.a.val n).key none k=some m at hm;rw [cG] at hm;split at hm
  ·cases hm
  ·exact h.idx k n' m hk hn hm
 ·have:x.2.hand=some v:=hv;rw [hh] at this;cases this
theorem nL (h:uC s0 k0 x) (hI:Inv S x.1) {q e:Nat} (hq:q < S.nq) (hh:x.2.hand=none):
 uC s0 k0 (bi S x q e).1/\((bi S x q e).2=true->∃v,(bi S x q e).1.2.hand=some v):=by
 unfold bi;split
 ·exact ⟨h.of rfl rfl rfl (.inl rfl),fun e=>by cases e⟩
 ·next bz=>
  have hm:=fi (e:=e) bz;refine ⟨⟨h.key,fun k n' m hk hn hm=>?_,fun v n hv hk hn=>?_⟩,fun _=>⟨_,rfl⟩⟩
  ·change aL x.1.f (x.1.a.val (ck x.1.a q e)).key none k=some m at hm;rw [cG] at hm;split at hm
   ·cases hm
   ·exact h.idx k n' m hk hn hm
  ·obtain rfl:x.1.a.val (ck x.1.a q e)=v:=Option.some.inj hv;exact h.idx _ n _ hk hn ((hI.idx _ _).2 ⟨q,hq,hm,rfl⟩)
theorem sX (h:uC s0 k0 x) {v:eW} (hh:x.2.hand=some v) {q e:Nat}:uC s0 k0 (dt S x q e).1:=by
 unfold dt;refine Av (h.of (y:=(x.1,{x.2 with hand:=none})) rfl rfl rfl (.inr rfl)) rfl ?_;have:oA x.2=v:=by unfold oA;rw [hh];rfl
 rw [this];by_cases hk:v.key=k0
 ·exact .inl hk
 ·exact .inr fun n hn=>h.gm v n hh hk hn
theorem sY (h:uC s0 k0 x):uC s0 k0 (fY x):=h.of rfl rfl rfl (.inl rfl)
theorem qU (h:uC s0 k0 x):uC s0 k0 (fG x):=h.of rfl rfl rfl (.inr rfl)
theorem CO {p:aO} (h:uC s0 k0 x) {n tag:Nat} {v:Int}:uC s0 k0 (oB p x n tag v):=h.of rfl rfl rfl (.inl rfl)
end
section
variable {p:aO} {c:Cp} {T:Map} {s0 s z:St} {r:Rn} {st:Std} {k0:Nat}
theorem Qs (E:Env p c T) (C:ft p T r st) (hI:Inv (aw p c) s) (K:uC s0 k0 (s,r)):uC s0 k0 (aC p c (ai p r.at_) (s,bI r)):=by
 obtain ⟨-,mM⟩:=cK E.check;have hi:=(mM _ (ei C.lt)).2;have hx:uC s0 k0 (s,bI r):=K.of rfl rfl rfl (.inl rfl);have RA:Inv (aw p c) (s,bI r).1:=hI;have qw:31<=(ai p r.at_).op->(ai p r.at_).op≠35->(ai p r.at_).op≠36->(ai p r.at_).op≠37->(s,bI r).2.hand=none:=fun h1 h2 h3 h4=>by have hh:=C.iH.ji;unfold dU at hh;rw [if_neg h3,if_neg h4,if_neg h2,if_neg (by omega)] at hh;simp at hh;exact C.hand.1 (by omega)
 have Nj:(ai p r.at_).op=35->∃v,(s,bI r).2.hand=some v:=fun h=>by
  have hh:=C.iH.ji;unfold dU at hh;rw [if_neg (by omega),if_neg (by omega),if_pos h] at hh;have h0:st.ha≠0:=fun e=>by rw [e] at hh;split at hh<;>simp at hh
  cases hr:r.hand with
  |none=>exact absurd (C.hand.2 hr) h0
  |some v=>exact ⟨v,hr⟩
 have Kt:(ai p r.at_).op=34\/(ai p r.at_).op=38\/(ai p r.at_).op=39\/(ai p r.at_).op=40\/(ai p r.at_).op=41->N (ai p r.at_).a < (aw p c).nq:=fun h=>by
  rcases h with h|h|h|h|h
  ·exact (cX (dW hi (k:=34) (by rw [h];rfl)).1).2.2
  ·exact (cX (dW hi (k:=38) (by rw [h];rfl)).1).2.2
  ·exact (cX (dW hi (k:=39) (by rw [h];rfl)).1).2.2
  ·exact (cX (dW hi (k:=40) (by rw [h];rfl)).1).2.2
  ·exact (cX (dW hi (k:=41) (by rw [h];rfl)).1).2.2
 have cW:=(mM _ (ei C.lt)).1;unfold iP aF at cW;simp only [Bool.and_eq_true,decide_eq_true_eq] at cW;clear hi mM K E C hI
 revert hx RA qw Nj Kt cW
 generalize ai p r.at_=i;generalize (s,bI r)=x;intro hx hI qw Nj Kt cW;have S0:∀y:SR,y.1.f=x.1.f->y.1.a.fs=x.1.a.fs->y.2.key=x.2.key->y.2.hand=x.2.hand->uC s0 k0 y:=fun y h1 h2 h3 h4=>hx.of h1 h2 h3 (.inl h4);unfold aC;dsimp only;refine aG (fun _=>S0 _ rfl rfl rfl rfl) (fun _=>?_);refine aG (fun _=>S0 _ rfl rfl rfl rfl) (fun _=>?_);refine aG (fun _=>S0 _ rfl rfl rfl rfl) (fun _=>?_);refine aG (fun _=>S0 _ rfl rfl rfl rfl) (fun _=>?_);refine aG (fun _=>S0 _ rfl rfl rfl rfl) (fun _=>?_);refine aG (fun _=>S0 _ rfl rfl rfl rfl) (fun _=>?_);refine aG (fun _=>S0 _ rfl rfl rfl rfl) (fun _=>?_);refine aG (fun _=>S0 _ rfl rfl rfl rfl) (fun _=>?_);refine aG (fun _=>by unfold tE;split<;>exact S0 _ rfl rfl rfl rfl) (fun _=>?_);refine aG (fun _=>by unfold l_;split<;>exact S0 _ rfl rfl rfl rfl) (fun _=>?_);refine aG (fun _=>S0 _ rfl rfl rfl rfl) (fun _=>?_);refine aG (fun _=>S0 _ rfl rfl rfl rfl) (fun _=>?_);refine aG (fun _=>S0 _ rfl rfl rfl rfl) (fun _=>?_);refine aG (fun _=>S0 _ rfl rfl rfl rfl) (fun _=>?_);refine aG (fun _=>by split<;>exact S0 _ rfl rfl rfl rfl) (fun _=>?_);refine aG (fun _=>S0 _ rfl rfl rfl rfl) (fun _=>?_);refine aG (fun _=>by unfold ql;split<;>exact S0 _ rfl rfl rfl rfl) (fun _=>?_);refine aG (fun _=>by unfold qm;split<;>exact S0 _ rfl rfl rfl rfl) (fun _=>?_);refine aG (fun _=>S0 _ rfl rfl rfl rfl) (fun _=>?_);refine aG (fun _=>?_) (fun _=>?_)
 ·unfold oO;split
  ·exact S0 _ rfl rfl rfl rfl
  ·exact CO (S0 (x.1,x.2.pop) rfl rfl rfl rfl)
 refine aG (fun _=>?_) (fun _=>?_)
 ·unfold jO;split
  ·exact S0 _ rfl rfl rfl rfl
  ·exact CO (S0 (x.1,x.2.pop) rfl rfl rfl rfl)
 refine aG (fun o=>?_) (fun _=>?_)
 ·unfold lZ;split
  ·exact S0 _ rfl rfl rfl rfl
  ·exact Av hx (qw (by omega) (by omega) (by omega) (by omega)) (.inl hx.key)
 refine aG (fun o=>?_) (fun _=>?_)
 ·have hn:=qw (by omega) (by omega) (by omega) (by omega);unfold tD;split
  ·exact S0 _ rfl rfl rfl rfl
  ·next n hf=>obtain ⟨q,hq,hm,hk⟩:=(hI.idx _ _).1 hf;exact Av (GP hx hn) hn (.inl (hk.trans hx.key))
 refine aG (fun o=>?_) (fun _=>?_)
 ·have hn:=qw (by omega) (by omega) (by omega) (by omega);unfold l8;split
  ·exact S0 _ rfl rfl rfl rfl
  ·split
   ·exact GP hx hn
   ·exact S0 _ rfl rfl rfl rfl
 refine aG (fun o=>(nL hx hI (Kt (by omega)) (qw (by omega) (by omega) (by omega) (by omega))).1) (fun _=>?_);refine aG (fun o=>?_) (fun _=>?_)
 ·obtain ⟨v,hv⟩:=Nj o;exact sX hx hv
 refine aG (fun _=>sY hx) (fun _=>?_);refine aG (fun _=>qU hx) (fun _=>?_);refine aG (fun o=>?_) (fun _=>?_)
 ·obtain ⟨h1,h2⟩:=nL hx hI (e:=N i.b) (Kt (by omega)) (qw (by omega) (by omega) (by omega) (by omega));unfold nX;dsimp only;split
  ·next e=>obtain ⟨v,hv⟩:=h2 e;exact sX h1 hv
  ·exact h1
 refine aG (fun o=>?_) (fun _=>?_)
 ·obtain ⟨h1,h2⟩:=nL hx hI (e:=N i.b) (Kt (by omega)) (qw (by omega) (by omega) (by omega) (by omega));unfold nY;dsimp only;split
  ·next e=>obtain ⟨v,hv⟩:=h2 e;exact sX (sY h1) hv
  ·exact h1
 refine aG (fun o=>?_) (fun _=>?_)
 ·obtain ⟨h1,h2⟩:=nL hx hI (e:=N i.b) (Kt (by omega)) (qw (by omega) (by omega) (by omega) (by omega));unfold nZ;dsimp only;split
  ·exact qU (sY h1)
  ·exact h1
 ·have o:i.op=41:=by omega
  obtain ⟨h1,h2⟩:=nL hx hI (e:=N i.b) (Kt (by omega)) (qw (by omega) (by omega) (by omega) (by omega));unfold rz;dsimp only;split
  ·exact qU h1
  ·exact h1
theorem UC (E:Env p c T):∀(f n:Nat) (s:St) (r:Rn) (st:Std),ft p T r st->eY (aw p c) p.vars.length z (s,r)->left p r st<=f->uC s0 k0 (s,r)->uC s0 k0 (iU p c f (s,r)).2:=by
 intro f
 induction f with
 |zero=>intro n s r st C H hf K;exact K
 |succ f ih=>
  intro n s r st C H hf K;have hs:=zs E C H;have hk:uC s0 k0 (dY p c (s,r)):=Qs E C H.inv K;unfold iU;by_cases h:jH (dY p c (s,r))=true
  ·rw [if_pos h];exact hk
  ·rw [if_neg h];obtain ⟨h1,h2⟩:=oU h;obtain ⟨st',C'⟩:=hs.next h1 h2;have hl:=qH E C C';exact ih (n+1) (dY p c (s,r)).1 (dY p c (s,r)).2 st' C' hs.hold (Nat.le_trans (by show left p (dY p c (s,r)).2 st'<=left p r st - 1;exact Nat.le_sub_of_add_le hl) (by omega)) hk
theorem acq {p:Prop} (h:p:=by
 rw [h0] at h1;exact (Option.some.inj h1).symm):p:=h
theorem Fb (E:Env p c T) (hS:mh p) (hI:Inv (aw p c) s) {key:Nat} (hk:key < 18446744073709551616) {k n m:Nat} (bz:k≠key) (h0:s.f k=some n) (h1:(dF p c s key).f k=some m):m=n:=by
 unfold dF at h1;split at h1
 ·unfold lD at h1;have ha:=at_mem E hI key;split at h1
  ·exact acq
  ·next h=>
   have hr:=UC (s0:=s) (k0:=key) E gD 0 s _ _ (pH E ha (by omega) key) (nr hI hk _) (oV E hS ha (by omega) key)
    ⟨rfl,fun k n m _ e1 e2=>by rw [show s.f k=some n from e1] at e2;exact (Option.some.inj e2).symm,fun v n hv=>by cases hv⟩
   exact hr.idx k n m bz h0 h1
 ·exact acq
theorem Aw {key k n m:Nat} (h0:s.f k=some n) (h1:(gX p c s key).f k=some m):m=n:=by
 unfold gX at h1;split at h1
 ·exact acq
 ·change aL s.f _ none k=some m at h1;rw [cG] at h1;split at h1
  ·cases h1
  ·exact acq
end
structure mG (p:aO) (s:kE):Prop where
 ty:eI s.ty
 len:s.ty.length<=256
 lp: -1<=s.loop/\s.loop < p.code.length
 ha:0<=s.hand/\s.hand<=3
structure kJ (p:aO) (L:jS):Prop where
 at_:∀n,mG p (L.at_ n)
 up:∀n,-1<=L.up n/\L.up n < p.code.length
theorem Ns {p:aO} (h:0 < p.code.length):mG p s0:=⟨by intro t ht;simp [s0] at ht,by decide,by unfold s0;dsimp only;omega,by decide⟩
theorem I9 {p:aO} (h:0 < p.code.length):kJ p (f_ p):=by
 refine ⟨fun n=>?_,fun n=>by show -1<=(0:Int)/\(0:Int) < _;omega⟩;show mG p (if fx p n then _ else s0);split
 ·exact ⟨by intro t ht;simp at ht,by decide,by dsimp only;omega,by decide⟩
 ·exact Ns h
theorem Nt (p:aO) (x:Ins) {h:Int} (hh:0<=h/\h<=3):0<=(dZ p x h).2/\(dZ p x h).2<=3:=by
 unfold dZ
 repeat' split
 all_goals first|exact hh|(dsimp only;omega)
theorem Nu {x:Ins} {ty:List Nat} (h:eI ty) (h0:(cw x ty).1=0):eI (cw x ty).2/\(cw x ty).2.length<=256:=by
 have key:∀left:List Nat,left=(if aR x.op.toNat=0 then [] else [aR x.op.toNat])++ty.drop (bO x.op.toNat).length->¬256 < left.length->eI left/\left.length<=256:=by
  intro left e hl;refine ⟨?_,by omega⟩;rw [e];intro t ht;rcases List.mem_append.1 ht with ht|ht
  ·have hg:∀n:Nat,aR n≠0->aR n=1\/aR n=2:=by
    intro n;unfold aR
    repeat' split
    all_goals simp
   split at ht
   ·simp at ht
   ·next h1=>simp at ht;subst ht;exact hg _ h1
  ·exact h t (List.mem_of_mem_drop ht)
 unfold cw at h0 ⊢;dsimp only at h0 ⊢;by_cases c1:ty.length < (bO x.op.toNat).length\/(x.op=0/\(bO x.op.toNat).length < ty.length)
 ·rw [if_pos c1] at h0;simp at h0
 rw [if_neg c1] at h0 ⊢;by_cases c2:256 < ((if aR x.op.toNat=0 then [] else [aR x.op.toNat])++ty.drop (bO x.op.toNat).length).length
 ·rw [if_pos c2] at h0;simp at h0
 rw [if_neg c2] at h0 ⊢;by_cases c3:x.op=19
 ·rw [if_pos c3] at h0 ⊢;split at h0
  ·simp at h0
  ·next h4=>rw [if_neg h4];exact key _ rfl c2
 ·rw [if_neg c3] at h0 ⊢;split at h0
  ·simp at h0
  ·next h4=>rw [if_neg h4];exact key _ rfl c2
theorem Fi {p:aO} {L:jS} (K:kJ p L) (pc:Nat) (x:Ins) {loop:Int} (h: -1<=loop/\loop < p.code.length):kJ p (fQ L pc x loop):=by
 unfold fQ;split
 ·refine ⟨K.at_,fun n=>?_⟩;show -1<=aL L.up pc loop n/\aL L.up pc loop n < p.code.length;rw [cG];split
  ·exact h
  ·exact K.up n
 ·exact K
theorem Nv {p:aO} {L:jS} (K:kJ p L) {pc:Nat} (nj:pc < p.code.length) (x:Ins) {s:kE} (h:mG p s) {w:Nat×kE} (hw:w∈dP L pc x s):mG p w.2:=by
 unfold dP at hw;split at hw
 ·simp at hw
 split at hw
 ·simp at hw;rw [hw];exact h
 split at hw
 ·simp at hw;rcases hw with rfl|rfl<;>exact h
 split at hw
 ·simp at hw;rcases hw with rfl|rfl
  ·exact ⟨h.ty,h.len,by dsimp only;omega,h.ha⟩
  ·exact h
 split at hw
 ·simp at hw;rcases hw with rfl|rfl
  ·exact h
  ·exact ⟨h.ty,h.len,K.up _,h.ha⟩
 ·simp at hw;rw [hw];exact h
theorem GV {p:aO} {L:jS} (K:kJ p L) (z:Nat) {s:kE} (h:mG p s):kJ p {L with at_:=aL L.at_ z s}:=
 ⟨fun n=>by show mG p (aL L.at_ z s n);rw [cG];split;exact h;exact K.at_ n,K.up⟩
theorem QA {p:aO}:∀(l:List (Nat×kE)) (L L':jS),kJ p L->(∀w,w∈l->mG p w.2)->eC L l=some L'->kJ p L':=by
 intro l
 induction l with
 |nil=>intro L L' K _ h;simp [eC] at h;subst h;exact K
 |cons w l ih=>
  intro L L' K hs h;unfold eC at h;split at h
  ·split at h
   ·exact ih _ _ K (fun v hv=>hs v (by simp [hv])) h
   ·simp at h
  ·exact ih _ _ (GV K _ (hs w (by simp))) (fun v hv=>hs v (by simp [hv])) h
theorem I_ {p:aO} {L:jS} (K:kJ p L) {pc:Nat} (nj:pc < p.code.length) (h:(bW p L pc).1=0):kJ p (bW p L pc).2:=by
 unfold bW at h ⊢;dsimp only at h ⊢;by_cases c0:(L.at_ pc).jI=false
 ·rw [if_pos c0] at h;simp at h
 rw [if_neg c0] at h ⊢;by_cases c1:(dZ p (ai p pc) (L.at_ pc).hand).1=false
 ·rw [if_pos c1] at h;simp at h
 rw [if_neg c1] at h ⊢;by_cases c2:(cw (ai p pc) (L.at_ pc).ty).1≠0
 ·rw [if_pos c2] at h;exact absurd h c2
 rw [if_neg c2] at h ⊢;by_cases c3:cJ p (ai p pc)=false
 ·rw [if_pos c3] at h;simp at h
 rw [if_neg c3] at h ⊢;by_cases c4:dL p L pc (ai p pc) (cw (ai p pc) (L.at_ pc).ty).2 (L.at_ pc).loop=false
 ·rw [if_pos c4] at h;simp at h
 rw [if_neg c4] at h ⊢;have hu:=Fi K pc (ai p pc) (K.at_ pc).lp;have ho:=Nu (x:=ai p pc) (K.at_ pc).ty (Decidable.not_not.1 c2);have hs:mG p ⟨(cw (ai p pc) (L.at_ pc).ty).2,(L.at_ pc).loop,(dZ p (ai p pc) (L.at_ pc).hand).2,true⟩:=⟨ho.1,ho.2,(K.at_ pc).lp,Nt p _ (K.at_ pc).ha⟩;split at h
 ·simp at h
 next c5=>
 rw [if_neg c5];split at h
 ·simp at h
 next c6=>
 rw [if_neg c6];cases e:eC (fQ L pc (ai p pc) (L.at_ pc).loop) (dP (fQ L pc (ai p pc) (L.at_ pc).loop) pc (ai p pc) ⟨(cw (ai p pc) (L.at_ pc).ty).2,(L.at_ pc).loop,(dZ p (ai p pc) (L.at_ pc).hand).2,true⟩) with
 |none=>rw [e] at h;simp at h
 |some L2=>exact QA _ _ _ hu (fun w hw=>Nv hu nj _ hs hw) e
end ak.Vm
