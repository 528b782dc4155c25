/- Of the proof that VmKeeps holds: a key keeps its node, what traps leaves no trace. No condition. -/
import Derived.Test.YtblkblclmbhjiaaGreatL1
set_option linter.unusedVariables false
set_option linter.unusedSimpArgs false
set_option maxHeartbeats 40000000
set_option maxRecDepth 100000
namespace ak.Vm
structure Ins where
 op:Int
 a:Int
 b:Int
 c:Int
 d:Int
 deriving DecidableEq
structure Vr where
 init:Int
 lo:Int
 hi:Int
 deriving DecidableEq
structure aO where
 ap:List Bool
 vars:List Vr
 aW:List Int
 on:List Int
 aJ:Int
 code:List Ins
structure Cp where
 size:Int
 aI:List Int
def aw (p:aO) (c:Cp):Sys:=⟨p.ap.length,fun q=>p.ap.getD q false,fun q=>(c.aI.getD q 0).toNat,c.size.toNat⟩
def within (n lo hi:Int):Int:=max lo (min hi n)
def kj (n:Int):Int:=within n (-1073741824) 1073741824
def ni (b:Bool):Int:=if b then 1 else 0
def uZ (a b:Int):Int:=if b=0 then 0 else kj (if a.tmod b≠0/\(decide (a < 0)≠decide (b < 0)) then a.tdiv b - 1 else a.tdiv b)
theorem sw {n lo hi:Int} (h:lo<=hi):lo<=within n lo hi/\within n lo hi<=hi:=by unfold within;omega
theorem ru (n:Int): -1073741824<=kj n/\kj n<=1073741824:=sw (by decide)
theorem lu (b:Bool):ni b=0\/ni b=1:=by cases b<;>simp [ni]
theorem OW (a b:Int): -1073741824<=uZ a b/\uZ a b<=1073741824:=by
 unfold uZ;split
 ·omega
 ·exact ru _
structure Rn where
 key:Nat
 at_:Nat
 stack:List Int
 loops:List Int
 hand:Option eW
 told:List Nat
 br:Int
 bm:List sm
 done:Bool
def Rn.push (r:Rn) (n:Int):Rn:={r with stack:=n::r.stack}
def Rn.fO (r:Rn):Int:=r.stack.headD 0
def Rn.pop (r:Rn):Rn:={r with stack:=r.stack.tail}
def Rn.note (r:Rn) (u:sm):Rn:={r with bm:=u::r.bm}
def Rn.dG (r:Rn) (t:Int):Rn:={r with br:=t}
def NP (S:Sys) (a:Nd) (n:Nat):Nat:=((List.range S.nq).find? fun q=>(a.ls q).contains n).getD 0
theorem jq {S:Sys} {a:Nd} (h:Wf S.nq a) {q n:Nat} (hq:q < S.nq) (hn:n∈a.ls q):NP S a n=q:=by
 unfold NP;cases hf:(List.range S.nq).find? fun q=>(a.ls q).contains n with
 |none=>have:=List.find?_eq_none.1 hf q (by simp [hq]);simp [hn] at this
 |some p=>have h1:=List.find?_some hf;have h2:=List.mem_of_find?_eq_some hf;simp at h1 h2;exact h.Vk p q n h2 hq h1 hn
abbrev SR:=St×Rn
def gW (S:Sys) (x:SR) (q e:Nat) (v:eW):SR×Bool:=
 if (x.1.a.ls q).length=S.cq q\/(S.gh q=false/\x.1.total=S.sz) then ((x.1,x.2.dG 1),false) else ((ja S x.1 q e v,x.2.note (.cut q e)),true)
def ry (S:Sys) (x:SR) (n q:Nat):SR:=(fR S x.1 q n,x.2.note (.out q (x.1.a.val n) (bV (x.1.a.ls q) n)))
def bi (S:Sys) (x:SR) (q e:Nat):SR×Bool:=
 if x.1.a.ls q=[] then ((x.1,x.2.dG 2),false)
 else ((jn S x.1 q e,{x.2.note (.put q e (x.1.a.val (ck x.1.a q e))) with hand:=some (x.1.a.val (ck x.1.a q e))}),true)
def oA (r:Rn):eW:=r.hand.getD dI
def dt (S:Sys) (x:SR) (q e:Nat):SR×Bool:=gW S (x.1,{x.2 with hand:=none}) q e (oA x.2)
def fY (x:SR):SR:=(x.1,{x.2 with told:=x.2.told++[(oA x.2).key]})
def fG (x:SR):SR:=(x.1,{x.2 with hand:=none})
def lY (e:eW) (tag:Nat) (n m:Int):eW:=⟨e.key,aL e.tg tag (within n 0 m)⟩
def oB (p:aO) (x:SR) (n tag:Nat) (v:Int):SR:=
 (kD x.1 n (lY (x.1.a.val n) tag v (p.aW.getD tag 0)),x.2.note (.mark (x.1.a.val n)))
def jr (r:Rn) (at_:Nat):Rn:={r with loops:=r.loops.tail,at_:=at_}
def mL (op:Int) (a b:Int):Int:=
 if op=11 then min a b else if op=12 then max a b else if op=15 then kj (a*b) else if op=16 then uZ a b else if op=17 then kj (a+b)
 else if op=18 then kj (a - b) else if op=19 then ni (decide (a=b)) else if op=20 then ni (decide (a < b)) else ni (decide (a<=b))
def N (i:Int):Nat:=i.toNat
def lZ (S:Sys) (i:Ins) (x:SR):SR:=
 match x.1.f x.2.key with
 |some _=>(x.1,x.2.dG 3)
 |none=>(gW S x (N i.a) (N i.b) ⟨x.2.key,fun _=>0⟩).1
def tD (S:Sys) (i:Ins) (x:SR):SR:=
 match x.1.f x.2.key with
 |none=>(x.1,x.2.dG 3)
 |some n=>(gW S (ry S x n (NP S x.1.a n)) (N i.a) (N i.b) (x.1.a.val n)).1
def l8 (S:Sys) (x:SR):SR:=
 match x.1.f x.2.key with
 |none=>(x.1,x.2.dG 3)
 |some n=>if S.gh (NP S x.1.a n) then ry S x n (NP S x.1.a n) else (x.1,x.2.dG 3)
def nX (S:Sys) (i:Ins) (x:SR):SR:=let y:=bi S x (N i.a) (N i.b);if y.2 then (dt S y.1 (N i.c) (N i.d)).1 else y.1
def nY (S:Sys) (i:Ins) (x:SR):SR:=let y:=bi S x (N i.a) (N i.b);if y.2 then (dt S (fY y.1) (N i.c) (N i.d)).1 else y.1
def nZ (S:Sys) (i:Ins) (x:SR):SR:=let y:=bi S x (N i.a) (N i.b);if y.2 then fG (fY y.1) else y.1
def rz (S:Sys) (i:Ins) (x:SR):SR:=let y:=bi S x (N i.a) (N i.b);if y.2 then fG y.1 else y.1
def zp (p:aO) (i:Ins) (x:SR):SR:=
 let v:=p.vars.getD (N i.a) ⟨0,0,0⟩
 ({x.1 with vars:=aL x.1.vars (N i.a) (within x.2.fO v.lo v.hi)},(x.2.note (.var (N i.a) (x.1.vars (N i.a)))).pop)
def oO (p:aO) (i:Ins) (x:SR):SR:=
 match x.1.f x.2.key with
 |none=>(x.1,x.2.pop.dG 3)
 |some n=>oB p (x.1,x.2.pop) n (N i.a) x.2.fO
def jO (p:aO) (i:Ins) (x:SR):SR:=
 if x.1.a.ls (N i.a)=[] then (x.1,x.2.pop.dG 2) else oB p (x.1,x.2.pop) (ck x.1.a (N i.a) (N i.b)) (N i.c) x.2.fO
def tE (i:Ins) (x:SR):SR:=
 match x.1.f x.2.key with
 |none=>(x.1,x.2.dG 3)
 |some n=>(x.1,x.2.push ((x.1.a.val n).tg (N i.a)))
def l_ (i:Ins) (x:SR):SR:=
 if x.1.a.ls (N i.a)=[] then (x.1,x.2.dG 2) else (x.1,x.2.push ((x.1.a.val (ck x.1.a (N i.a) (N i.b))).tg (N i.c)))
def sx (S:Sys) (i:Ins) (x:SR):SR:=
 (x.1,x.2.push (ni (match x.1.f x.2.key with|none=>false|some n=>decide ((NP S x.1.a n:Int)=i.a))))
def ql (i:Ins) (x:SR):SR:=
 if x.2.loops.headD 0=0 then (x.1,jr x.2 (N i.a)) else (x.1,{x.2 with loops:=(x.2.loops.headD 0 - 1)::x.2.loops.tail})
def qm (i:Ins) (x:SR):SR:=if x.2.fO=0 then (x.1,jr x.2.pop (N i.a)) else (x.1,x.2.pop)
def aC (p:aO) (c:Cp) (i:Ins) (x:SR):SR:=
 let S:=aw p c
 if i.op=0 then (x.1,{x.2 with done:=true})
 else if i.op=1\/i.op=2 then (x.1,x.2.push i.a)
 else if i.op=3 then (x.1,x.2.push (x.1.vars (N i.a)))
 else if i.op=4 then (x.1,x.2.push (x.1.a.ls (N i.a)).length)
 else if i.op=5 then (x.1,x.2.push (c.aI.getD (N i.a) 0))
 else if i.op=6 then (x.1,x.2.push c.size)
 else if i.op=7 then (x.1,x.2.push x.1.total)
 else if i.op=8 then sx S i x
 else if i.op=9 then tE i x
 else if i.op=10 then l_ i x
 else if i.op=13 then (x.1,x.2.pop.push (-x.2.fO))
 else if i.op=14 then (x.1,x.2.pop.push (1 - x.2.fO))
 else if 11<=i.op/\i.op<=21 then (x.1,x.2.pop.pop.push (mL i.op x.2.pop.fO x.2.fO))
 else if i.op=22\/i.op=27 then (x.1,{x.2 with at_:=N i.a})
 else if i.op=23 then (x.1,if x.2.fO=0 then {x.2.pop with at_:=N i.a} else x.2.pop)
 else if i.op=24 then (x.1,{x.2 with loops:=i.a::x.2.loops})
 else if i.op=25 then ql i x
 else if i.op=26 then qm i x
 else if i.op=28 then zp p i x
 else if i.op=29 then oO p i x
 else if i.op=30 then jO p i x
 else if i.op=31 then lZ S i x
 else if i.op=32 then tD S i x
 else if i.op=33 then l8 S x
 else if i.op=34 then (bi S x (N i.a) (N i.b)).1
 else if i.op=35 then (dt S x (N i.a) (N i.b)).1
 else if i.op=36 then fY x
 else if i.op=37 then fG x
 else if i.op=38 then nX S i x
 else if i.op=39 then nY S i x
 else if i.op=40 then nZ S i x
 else rz S i x
def bY (op:Nat):List Nat:=
 match op with
 |1=>[5]|2=>[6]|3=>[2]|4=>[1]|5=>[1]|8=>[1]|9=>[3]|10=>[1,4,3]
 |22=>[8]|23=>[8]|24=>[7]|25=>[8]|26=>[8]|27=>[8]
 |28=>[2]|29=>[3]|30=>[1,4,3]|31=>[1,4]|32=>[1,4]|34=>[1,4]|35=>[1,4]
 |38=>[1,4,1,4]|39=>[1,4,1,4]|40=>[1,4]|41=>[1,4]
 |_=>[]
def aF (n lo hi:Int):Bool:=decide (lo<=n)&&decide (n<=hi)
def dM (kind:Nat):Int:=if kind=5 then -1073741824 else 0
def dN (p:aO) (kind:Nat):Int:=
 if kind=1 then (p.ap.length:Int) - 1 else if kind=2 then (p.vars.length:Int) - 1 else if kind=3 then (p.aW.length:Int) - 1
 else if kind=4 then 1 else if kind=5 then 1073741824 else if kind=6 then 1 else if kind=7 then 4194304 else if kind=8 then (p.code.length:Int) - 1 else 0
def aY (p:aO) (kind:Nat) (n:Int):Bool:=aF n (dM kind) (dN p kind)
def operands (i:Ins):List Int:=[i.a,i.b,i.c,i.d]
def gI (p:aO) (i:Ins):Bool:=
 aY p ((bY i.op.toNat).getD 0 0) i.a&&aY p ((bY i.op.toNat).getD 1 0) i.b&&aY p ((bY i.op.toNat).getD 2 0) i.c&&aY p ((bY i.op.toNat).getD 3 0) i.d
def iP (i:Ins):Bool:=aF i.op 0 41
def me (v:Vr):Bool:=decide (v.lo<=v.init)&&decide (v.init<=v.hi)&&decide (-1073741824<=v.lo)&&decide (v.hi<=1073741824)
def bS (p:aO):Bool:=
 decide (p.ap.length<=16)&&decide (p.vars.length<=16)&&decide (p.aW.length<=4)&&decide (p.on.length=p.ap.length)&&decide (p.code.length<=262144)&&
 p.vars.all me&&p.aW.all (fun t=>aF t 1 255)&&p.on.all (fun n=>aF n (-1) ((p.code.length:Int) - 1))&&aF p.aJ (-1) ((p.code.length:Int) - 1)
def dp (p:aO):List Ins->Int
 |[]=>0
 |i::l=>if iP i then (if gI p i then dp p l else 92) else 91
def bo (p:aO):Int:=if bS p then dp p p.code else 85
structure Std where
 ty:List Nat
 lo:List Nat
 ha:Nat
 deriving DecidableEq
abbrev Map:=Nat->Option Std
def bO (op:Nat):List Nat:=
 match op with
 |11|12|15|16|17|18|20|21=>[1,1]
 |13=>[1]|14=>[2]|19=>[3,3]|23|26=>[2]|28|29|30=>[1]
 |_=>[]
def aR (op:Nat):Nat:=
 match op with
 |1|3|4|5|6|7|9|10|11|12|13|15|16|17|18=>1
 |2|8|14|19|20|21=>2
 |_=>0
def hZ:List Nat->List Nat->Bool
 |[],_=>true
 |w::ws,t::ts=>(w==3||t==w)&&hZ ws ts
 |_::_,[]=>false
def bj (p:aO) (n:Int):Bool:=p.ap.getD n.toNat false
def ai (p:aO) (n:Nat):Ins:=p.code.getD n ⟨0,0,0,0,0⟩
def dU (p:aO) (x:Ins) (ha:Nat):Bool:=
 if x.op=36 then ha==2
 else if x.op=37 then ha==1||ha==3
 else if x.op=35 then (if bj p x.a then ha==1||ha==3 else ha==2)
 else if x.op=28\/x.op=29\/x.op=30 then true
 else (decide (1<=x.op)&&decide (x.op<=21))||ha==0
def bM (x:Ins) (ty:List Nat):Int:=
 let t:=bO x.op.toNat
 if ty.length < t.length\/(x.op=0/\0 < ty.length)\/(aR x.op.toNat≠0/\256 < ty.length - t.length+1) then 93
 else if !hZ t ty||(decide (x.op=19)&&ty.getD 0 0 !=ty.getD 1 0) then 94 else 0
def aT (x:Ins) (ty:List Nat):List Nat:=
 let r:=ty.drop (bO x.op.toNat).length
 if aR x.op.toNat=0 then r else aR x.op.toNat::r
def cJ (p:aO) (x:Ins):Bool:=
 if x.op=32\/x.op=40 then !bj p x.a
 else if x.op=41 then bj p x.a
 else if x.op=38 then bj p x.a==bj p x.c
 else if x.op=39 then !bj p x.a&&bj p x.c
 else true
def cC (p:aO) (T:Map) (pc:Nat) (x:Ins) (ty lo:List Nat):Bool:=
 if (x.op=22\/x.op=23\/x.op=25\/x.op=26)/\(x.a<=pc\/(ai p x.a.toNat).op=25) then false
 else if x.op=24 then decide (pc+1 < p.code.length)&&decide ((ai p (pc+1)).op=25)
 else if x.op=25 then decide (0 < pc)&&decide ((ai p (pc - 1)).op=24)&&decide (p.aJ≠pc)&& !p.on.contains (pc:Int)
 else if x.op=26 then (match lo with|[]=>false|t::_=>decide (x.a=(ai p t).a))
 else if x.op=27 then (match lo with|[]=>false|t::l=>decide (x.a=t)&&(match T t with|some s=>decide (s.ty=ty/\s.lo=l)|none=>decide (ty=[]/\l=[])))
 else if x.op=0 then lo.isEmpty
 else true
def be (p:aO) (x:Ins) (ha:Nat):Nat:=
 if x.op=36 then 3 else if x.op=35\/x.op=37 then 0 else if x.op=34 then (if bj p x.a then 1 else 2) else ha
def cm (pc:Nat) (x:Ins) (s:Std):List (Nat×Std):=
 if x.op=0\/x.op=27 then []
 else if x.op=22 then [(x.a.toNat,s)]
 else if x.op=23 then [(pc+1,s),(x.a.toNat,s)]
 else if x.op=25 then [(pc+1,{s with lo:=pc::s.lo}),(x.a.toNat,s)]
 else if x.op=26 then [(pc+1,s),(x.a.toNat,{s with lo:=s.lo.tail})]
 else [(pc+1,s)]
def lA (T:Map) (l:List (Nat×Std)):Bool:=l.all fun w=>match T w.1 with|some s=>decide (s=w.2)|none=>true
def jh:List (Nat×Std)->Bool
 |[]=>true
 |w::l=>(l.all fun v=>decide (v.1=w.1)==false||decide (v.2=w.2))&&jh l
def oP (T:Map):List (Nat×Std)->Map
 |[]=>T
 |w::l=>oP (aL T w.1 (some w.2)) l
def cO (p:aO) (T:Map) (pc:Nat):Int:=
 let x:=ai p pc
 match T pc with
 |none=>99
 |some s=>
  if !dU p x s.ha then 96
  else if bM x s.ty≠0 then bM x s.ty
  else if !cJ p x then 92
  else if !cC p T pc x (aT x s.ty) s.lo then 95
  else
   let l:=cm pc x ⟨aT x s.ty,s.lo,be p x s.ha⟩
   if l.any (fun w=>decide (p.code.length<=w.1)) then 98
   else if !(jh l&&lA T l) then 94 else 0
def iE (p:aO) (T:Map) (pc:Nat):Map:=
 let x:=ai p pc
 match T pc with
 |none=>T
 |some s=>oP T (cm pc x ⟨aT x s.ty,s.lo,be p x s.ha⟩)
def looks (p:aO):Nat->Nat->Map->(Int×Nat) ⊕ Map
 |0,_,T=> .inr T
 |k+1,pc,T=>if cO p T pc=0 then looks p k (pc+1) (iE p T pc) else .inl (cO p T pc,pc)
def db (p:aO):Map:=fun pc=>if (p.on++[p.aJ]).contains (pc:Int) then some ⟨[],[],0⟩ else none
def MS:Nat:=4611686018427387904
def bC (a b:Nat):Nat:=if MS - b < a then MS else a+b
def dV (a b:Nat):Nat:=if a*b<=MS then a*b else MS
def km (p:aO) (g:Nat->Nat) (pc:Nat):Nat:=
 let x:=ai p pc
 if x.op=0\/x.op=27 then 1
 else if x.op=22 then bC 1 (g x.a.toNat)
 else if x.op=23 then bC 1 (max (g (pc+1)) (g x.a.toNat))
 else if x.op=24 then bC (bC 1 (dV x.a.toNat (bC 1 (g (pc+2))))) (bC 1 (g (ai p (pc+1)).a.toNat))
 else bC 1 (g (pc+1))
def dw (p:aO):Nat->(Nat->Nat)
 |0=>fun _=>0
 |k+1=>let g:=dw p k;aL g (p.code.length - 1 - k) (km p g (p.code.length - 1 - k))
def jP (p:aO):Nat->Nat:=dw p p.code.length
def MF:Nat:=1152921504606846976
def bN (p:aO) (n:Int):Nat:=if n < 0 then 0 else jP p n.toNat
def bk (p:aO):List Int->Option Int
 |[]=>none
 |n::l=>if MF < bN p n then some n else bk p l
def aZ (p:aO):Int×Int:=
 if bo p≠0 then (bo p,0)
 else match looks p p.code.length 0 (db p) with
  | .inl (e,at_)=>(e,at_)
  | .inr _=>match bk p (p.on++[p.aJ]) with
    |some n=>(97,n)
    |none=>(0,0)
def de (p:aO) (T:Map) (q:Nat):List Nat->Prop
 |[]=>True
 |t::l=>t < q/\(ai p t).op=25/\∃s,T t=some s/\s.lo=l
def fE (p:aO) (pc:Nat) (s:Std):List (Nat×Std):=cm pc (ai p pc) ⟨aT (ai p pc) s.ty,s.lo,be p (ai p pc) s.ha⟩
structure oQ (p:aO) (T:Map) (pc:Nat) (s:Std):Prop where
 at_:T pc=some s
 ji:dU p (ai p pc) s.ha=true
 taken:bM (ai p pc) s.ty=0
 kinds:cJ p (ai p pc)=true
 jumps:cC p T pc (ai p pc) (aT (ai p pc) s.ty) s.lo=true
 ways:∀w,w∈fE p pc s->w.1 < p.code.length/\T w.1=some w.2
structure Typed (p:aO) (T:Map):Prop where
 all:∀pc,pc < p.code.length->∃s,oQ p T pc s
 loops:∀q s,T q=some s->de p T q s.lo
 u_:∀b,b∈p.on++[p.aJ]->0<=b->T b.toNat=some ⟨[],[],0⟩
def Sub (T T':Map):Prop:=∀q s,T q=some s->T' q=some s
theorem Sub.refl (T:Map):Sub T T:=fun _ _ h=>h
theorem Sub.trans {A B C:Map} (h:Sub A B) (k:Sub B C):Sub A C:=fun q s e=>k q s (h q s e)
theorem de.sub {p:aO} {T T':Map} (h:Sub T T') {q:Nat} {l:List Nat} (k:de p T q l):de p T' q l:=by
 cases l with
 |nil=>trivial
 |cons t l=>obtain ⟨a,b,s,c,d⟩:=k;exact ⟨a,b,s,h _ _ c,d⟩
theorem de.later {p:aO} {T:Map} {q r:Nat} {l:List Nat} (k:de p T q l) (h:q<=r):de p T r l:=by
 cases l with
 |nil=>trivial
 |cons t l=>obtain ⟨a,b⟩:=k;exact ⟨by omega,b⟩
theorem zq:∀(l:List (Nat×Std)) (T:Map),jh l=true->lA T l=true->Sub T (oP T l)/\(∀w,w∈l->oP T l w.1=some w.2)/\(∀q s,oP T l q=some s->T q=some s\/(q,s)∈l):=by
 intro l
 induction l with
 |nil=>intro T _ _;exact ⟨Sub.refl _,fun w hw=>by simp at hw,fun q s h=> .inl h⟩
 |cons w l ih=>
  intro T hs hm;unfold jh at hs;simp only [Bool.and_eq_true] at hs;have iR:lA (aL T w.1 (some w.2)) l=true:=by
   unfold lA at hm ⊢;rw [List.all_eq_true] at hm ⊢;intro v hv;have h1:=hm v (by simp [hv]);have h2:=(List.all_eq_true.1 hs.1) v hv;by_cases e:v.1=w.1
   ·rw [e,an];simp [e] at h2;simp [h2]
   ·rw [aj _ _ e];exact h1
  obtain ⟨a,b,c⟩:=ih (aL T w.1 (some w.2)) hs.2 iR;have J1:Sub T (aL T w.1 (some w.2)):=by
   intro q s h;by_cases e:q=w.1
   ·subst e;rw [an];unfold lA at hm;have:=(List.all_eq_true.1 hm) w (by simp);rw [h] at this;simp at this;rw [this]
   ·rw [aj _ _ e];exact h
  refine ⟨J1.trans a,fun v hv=>?_,fun q s h=>?_⟩
  ·rcases List.mem_cons.1 hv with rfl|hv
   ·exact a _ _ (an _ _ _)
   ·exact b v hv
  ·rcases c q s h with h|h
   ·by_cases e:q=w.1
    ·subst e;rw [an] at h;right;simp;left;rw [<-Option.some.inj h]
    ·rw [aj _ _ e] at h;exact .inl h
   ·right;simp [h]
theorem look_ok {p:aO} {T:Map} {pc:Nat} (h:cO p T pc=0):∃s,T pc=some s/\dU p (ai p pc) s.ha=true/\bM (ai p pc) s.ty=0/\cJ p (ai p pc)=true/\
 cC p T pc (ai p pc) (aT (ai p pc) s.ty) s.lo=true/\(∀w,w∈fE p pc s->w.1 < p.code.length)/\jh (fE p pc s)=true/\lA T (fE p pc s)=true/\iE p T pc=oP T (fE p pc s):=by
 unfold cO at h;cases hT:T pc with
 |none=>rw [hT] at h;simp at h
 |some s=>
  rw [hT] at h;dsimp only at h;split at h
  ·simp at h
  ·next h1=>
   split at h
   ·next h2=>exact absurd h h2
   ·next h2=>
    split at h
    ·simp at h
    ·next h3=>
     split at h
     ·simp at h
     ·next h4=>
      split at h
      ·simp at h
      ·next h5=>
       split at h
       ·simp at h
       ·next h6=>
        refine ⟨s,rfl,by simpa using h1,by simpa using h2,by simpa using h3,by simpa using h4,?_,?_,?_,?_⟩
        ·intro w hw;simp only [Bool.not_eq_true,List.any_eq_false] at h5;have:=h5 w hw;simp at this;exact this
        ·simp at h6;exact h6.1
        ·simp at h6;exact h6.2
        ·unfold iE;rw [hT];rfl
theorem sA {p:aO} {T:Map} {pc:Nat} {s:Std} (hT:T pc=some s) (hl:∀q s,T q=some s->de p T q s.lo) (hj:cC p T pc (ai p pc) (aT (ai p pc) s.ty) s.lo=true) {w:Nat×Std} (hw:w∈fE p pc s):de p T w.1 w.2.lo:=by
 have h0:=hl pc s hT;unfold fE cm at hw;generalize hx:ai p pc=x at*;unfold cC at hj;split at hw
 ·simp at hw
 split at hw
 ·next h22=>
  simp at hw;subst hw;have hc:¬((x.op=22\/x.op=23\/x.op=25\/x.op=26)/\(x.a<=pc\/(ai p x.a.toNat).op=25)):=by intro h';rw [if_pos h'] at hj;simp at hj
  exact h0.later (by omega)
 split at hw
 ·next h23=>
  have hc:¬((x.op=22\/x.op=23\/x.op=25\/x.op=26)/\(x.a<=pc\/(ai p x.a.toNat).op=25)):=by intro h';rw [if_pos h'] at hj;simp at hj
  simp at hw;rcases hw with rfl|rfl
  ·exact h0.later (by simp)
  ·exact h0.later (by simp;omega)
 split at hw
 ·next pW=>
  have hc:¬((x.op=22\/x.op=23\/x.op=25\/x.op=26)/\(x.a<=pc\/(ai p x.a.toNat).op=25)):=by intro h';rw [if_pos h'] at hj;simp at hj
  simp at hw;rcases hw with rfl|rfl
  ·exact ⟨by simp,by rw [hx];exact pW,s,hT,rfl⟩
  ·exact h0.later (by simp;omega)
 split at hw
 ·next OX=>
  have hc:¬((x.op=22\/x.op=23\/x.op=25\/x.op=26)/\(x.a<=pc\/(ai p x.a.toNat).op=25)):=by intro h';rw [if_pos h'] at hj;simp at hj
  simp at hw;rcases hw with rfl|rfl
  ·exact h0.later (by simp)
  ·dsimp only;cases iF:s.lo with
   |nil=>trivial
   |cons t l=>rw [iF] at h0;obtain ⟨a,b,s',c,d⟩:=h0;have:=hl t s' c;rw [d] at this;exact this.later (by omega)
 ·simp at hw;subst hw;exact h0.later (by simp)
theorem Ho {p:aO} {T T':Map} {pc:Nat} {x:Ins} {ty lo:List Nat} (h:Sub T T') (hs:∀t l,lo=t::l->∃s,T t=some s) (hj:cC p T pc x ty lo=true):cC p T' pc x ty lo=true:=by
 unfold cC at hj ⊢;split at hj
 ·simp at hj
 next h0=>
 rw [if_neg h0];split at hj
 ·next h1=>rw [if_pos h1];exact hj
 next h1=>
 rw [if_neg h1];split at hj
 ·next h2=>rw [if_pos h2];exact hj
 next h2=>
 rw [if_neg h2];split at hj
 ·next h3=>rw [if_pos h3];exact hj
 next h3=>
 rw [if_neg h3];split at hj
 ·next h4=>
  rw [if_pos h4];cases lo with
  |nil=>simp at hj
  |cons t l=>obtain ⟨s,Xa⟩:=hs t l rfl;dsimp only at hj ⊢;rw [h t s Xa];rw [Xa] at hj;exact hj
 next h4=>
 rw [if_neg h4];exact hj
theorem Bv {p:aO}:∀(k pc:Nat) (T T':Map),looks p k pc T= .inr T'->(∀q s,T q=some s->de p T q s.lo)->
 Sub T T'/\(∀q s,T' q=some s->de p T' q s.lo)/\∀q,pc<=q->q < pc+k->∃s,oQ p T' q s:=by
 intro k
 induction k with
 |zero=>
  intro pc T T' h hl;have:T=T':=by unfold looks at h;exact Sum.inr.inj h
  subst this;exact ⟨Sub.refl _,hl,fun q h1 h2=>by omega⟩
 |succ k ih=>
  intro pc T T' h hl;unfold looks at h;split at h
  ·next h0=>
   obtain ⟨s,hT,g1,g2,g3,g4,g5,g6,g7,g8⟩:=look_ok h0;obtain ⟨a1,a2,a3⟩:=zq _ T g6 g7;rw [g8] at h;have Ba:∀q s',oP T (fE p pc s) q=some s'->de p (oP T (fE p pc s)) q s'.lo:=by
    intro q s' hq;rcases a3 q s' hq with h1|h1
    ·exact (hl q s' h1).sub a1
    ·exact (sA hT hl g4 h1).sub a1
   obtain ⟨b1,b2,b3⟩:=ih (pc+1) _ T' h Ba;refine ⟨a1.trans b1,b2,fun q h1 h2=>?_⟩;by_cases e:q=pc
   ·subst e;refine ⟨s,b1 _ _ (a1 _ _ hT),g1,g2,g3,?_,fun w hw=>⟨g5 w hw,b1 _ _ (a2 w hw)⟩⟩;refine Ho (a1.trans b1) ?_ g4;intro t l e';have:=hl q s hT;rw [e'] at this;obtain ⟨_,_,s',Bl,_⟩:=this;exact ⟨s',Bl⟩
   ·exact b3 q (by omega) (by omega)
  ·simp at h
theorem sB (p:aO):∀q s,db p q=some s->de p (db p) q s.lo:=by
 intro q s h;unfold db at h;split at h
 ·have:=Option.some.inj h;rw [<-this];trivial
 ·simp at h
theorem rA {p:aO} {e:Int×Int} (h:aZ p=e) (he:e.1=0):bo p=0/\∃T,Typed p T/\bk p (p.on++[p.aJ])=none:=by
 unfold aZ at h;split at h
 ·next h0=>rw [<-h] at he;exact absurd he h0
 next h0=>
 have h0':bo p=0:=by omega
 cases hl:looks p p.code.length 0 (db p) with
 |inl v=>
  obtain ⟨e1,a⟩:=v;rw [hl] at h;dsimp only at h;exfalso;have key:∀(k pc:Nat) (T:Map) e1 a,looks p k pc T= .inl (e1,a)->e1≠0:=by
   intro k
   induction k with
   |zero=>intro pc T e1 a h;unfold looks at h;simp at h
   |succ k ih=>
    intro pc T e1 a h;unfold looks at h;split at h
    ·exact ih _ _ _ _ h
    ·next bz=>simp at h;rw [<-h.1];exact bz
  rw [<-h] at he;exact key _ _ _ _ _ hl he
 |inr T=>
  rw [hl] at h;dsimp only at h;obtain ⟨a,b,d⟩:=Bv _ _ _ _ hl (sB p);refine ⟨h0',T,⟨fun pc nj=>d pc (Nat.zero_le _) (by omega),b,fun b' hb dQ=>?_⟩,?_⟩
  ·refine a _ _ ?_;unfold db;rw [if_pos];rw [Int.toNat_of_nonneg dQ];simpa using hb
  ·cases Vh:bk p (p.on++[p.aJ]) with
   |none=>rfl
   |some n=>rw [Vh] at h;dsimp only at h;rw [<-h] at he;simp at he
def pX (t:Nat) (n:Int):Prop:=if t=2 then n=0\/n=1 else -1073741824<=n/\n<=1073741824
def vd:List Int->List Nat->Prop
 |[],[]=>True
 |n::st,t::ty=>pX t n/\vd st ty
 |_,_=>False
theorem pX.num {n:Int} (h: -1073741824<=n/\n<=1073741824):pX 1 n:=by unfold pX;rw [if_neg (by decide)];exact h
theorem pX.bool {n:Int} (h:n=0\/n=1):pX 2 n:=by unfold pX;rw [if_pos rfl];exact h
theorem pX.in {t:Nat} {n:Int} (h:pX t n): -1073741824<=n/\n<=1073741824:=by
 unfold pX at h;split at h
 ·omega
 ·exact h
def Safe (S:Sys) (nv:Nat) (s:St):sm->Prop
 | .var i oE=>i < nv
 | .mark oE=>∃q n,q < S.nq/\n∈s.a.ls q/\s.f oE.key=some n
 | .cut q e=>q < S.nq/\e<=1/\s.a.ls q≠[]
 | .put q e x=>q < S.nq/\e<=1/\s.f x.key=none/\(s.a.ls q).length < S.cq q/\(S.gh q=true\/s.total < S.sz)
 | .out q x ahead=>q < S.nq/\s.f x.key=none/\(s.a.ls q).length < S.cq q/\(S.gh q=true\/s.total < S.sz)/\∀m,m∈ahead->m∈s.a.ls q
def Good (S:Sys) (nv:Nat) (s0:St):List sm->St->Prop
 |[],s=>s=s0
 |u::l,s=>Safe S nv s u/\Inv S (k_ S u s)/\Good S nv s0 l (k_ S u s)
def SO (s:St) (h:Option eW):Prop:=∀x,h=some x->s.f x.key=none/\(∀t,0<=x.tg t/\x.tg t<=255)/\x.key < 18446744073709551616
structure eY (S:Sys) (nv:Nat) (s0:St) (x:SR):Prop where
 inv:Inv S x.1
 ua:Good S nv s0 x.2.bm x.1
 hand:SO x.1 x.2.hand
 key:x.2.key < 18446744073709551616
 told:∀k,k∈x.2.told->k < 18446744073709551616
theorem vg {S:Sys} {nv:Nat} {s0:St} {x:SR} (h:eY S nv s0 x) {q e:Nat} (hq:q < S.nq) (he:e<=1) {v:eW} (hk:x.1.f v.key=none) (hv:∀t,0<=v.tg t/\v.tg t<=255) (si:v.key < 18446744073709551616) (hh:x.2.hand=none):
 eY S nv s0 (gW S x q e v).1/\(gW S x q e v).1.2.hand=none/\((gW S x q e v).2=true->(gW S x q e v).1.2=x.2.note (.cut q e))/\((gW S x q e v).2=false->(gW S x q e v).1.2=x.2.dG 1):=by
 unfold gW;split
 ·exact ⟨⟨h.inv,h.ua,h.hand,h.key,h.told⟩,hh,fun e'=>by simp at e',fun _=>rfl⟩
 ·next hn=>
  have hl:(x.1.a.ls q).length < S.cq q:=by have:=h.inv.len q hq;omega
  have ht:S.gh q=true\/x.1.total < S.sz:=by
   have h1:=h.inv.Kd;have h2:=h.inv.NJ;by_cases hg:S.gh q=true
   ·exact .inl hg
   ·right;have:¬x.1.total=S.sz:=fun e'=>hn (.inr ⟨by simpa using hg,e'⟩);omega
  have hu:=Kf h.inv hq he hk;refine ⟨⟨OB h.inv hq hk hl ht hv si,⟨⟨hq,he,?_⟩,?_⟩,?_,h.key,h.told⟩,hh,fun _=>rfl,fun e'=>by simp at e'⟩
  ·intro e';have:x.1.a.fs 0∈(ja S x.1 q e v).a.ls q:=jL.2 (.inl ⟨rfl,rfl⟩);rw [e'] at this;simp at this
  ·show Inv S (k_ S (.cut q e) (ja S x.1 q e v))/\Good S nv s0 x.2.bm (k_ S (.cut q e) (ja S x.1 q e v));rw [hu];exact ⟨h.inv,h.ua⟩
  ·intro y hy;have:x.2.hand=some y:=hy;rw [hh] at this;simp at this
theorem xW {S:Sys} {s:St} (h:Inv S s) {q n:Nat} (hq:q < S.nq) (hn:n∈s.a.ls q):
 ((fR S s q n).a.ls q).length < S.cq q/\(S.gh q=true\/(fR S s q n).total < S.sz)/\(fR S s q n).f (s.a.val n).key=none:=by
 have h1:=h.len q hq;have h2:=List.length_pos_of_mem hn;refine ⟨?_,?_,an _ _ _⟩
 ·show (aL s.a.ls q _ q).length < _;rw [an,List.length_erase_of_mem hn];omega
 ·have h3:=h.Kd;have h4:=h.NJ;by_cases hg:S.gh q=true
  ·exact .inl hg
  ·right;show (if S.gh q then s.total else s.total - 1) < _;simp [hg];omega
theorem Bw {S:Sys} {nv:Nat} {s0:St} {x:SR} (h:eY S nv s0 x) {n q:Nat} (hq:q < S.nq) (hn:n∈x.1.a.ls q) (hh:x.2.hand=none):
 eY S nv s0 (ry S x n q)/\(ry S x n q).1.f (x.1.a.val n).key=none:=by
 obtain ⟨r1,r2,r3⟩:=xW h.inv hq hn;have hu:=Kh h.inv hq hn;refine ⟨⟨jM h.inv hq hn,⟨⟨hq,r3,r1,r2,fun m hm=>?_⟩,?_⟩,?_,h.key,h.told⟩,r3⟩
 ·obtain ⟨y,h1,h2⟩:=lV hn;refine (Bd h.inv.wf hq hq hn).2 ⟨?_,fun e=>by subst e;exact h2 hm⟩;rw [h1];simp [hm]
 ·show Inv S (k_ S _ (fR S x.1 q n))/\Good S nv s0 x.2.bm (k_ S _ (fR S x.1 q n));rw [hu];exact ⟨h.inv,h.ua⟩
 ·intro y hy;have:x.2.hand=some y:=hy;rw [hh] at this;simp at this
theorem vh {S:Sys} {nv:Nat} {s0:St} {x:SR} (h:eY S nv s0 x) {q e:Nat} (hq:q < S.nq) (he:e<=1) (hh:x.2.hand=none):
 eY S nv s0 (bi S x q e).1/\((bi S x q e).2=false->(bi S x q e).1.2=x.2.dG 2)/\
 ((bi S x q e).2=true->∃v,(bi S x q e).1.2={x.2.note (.put q e v) with hand:=some v}):=by
 unfold bi;split
 ·exact ⟨⟨h.inv,h.ua,h.hand,h.key,h.told⟩,fun _=>rfl,fun e'=>by simp at e'⟩
 ·next bz=>
  have hm:=fi (e:=e) bz;obtain ⟨r1,r2,r3⟩:=xW h.inv hq hm;have hu:=Kg h.inv hq he bz;refine ⟨⟨jM h.inv hq hm,⟨⟨hq,he,r3,r1,r2⟩,?_⟩,?_,h.key,h.told⟩,fun e'=>by simp at e',fun _=>⟨_,rfl⟩⟩
  ·show Inv S (k_ S (.put q e _) (jn S x.1 q e))/\Good S nv s0 x.2.bm (k_ S (.put q e _) (jn S x.1 q e));rw [hu];exact ⟨h.inv,h.ua⟩
  ·intro y hy;have:y=x.1.a.val (ck x.1.a q e):=(Option.some.inj hy).symm;subst this;exact ⟨r3,h.inv.tag q _ hq hm,h.inv.key q _ hq hm⟩
theorem xX {S:Sys} {nv:Nat} {s0:St} {p:aO} {x:SR} (h:eY S nv s0 x) {q n tag:Nat} (hq:q < S.nq) (hn:n∈x.1.a.ls q) (v:Int) (hm:0<=p.aW.getD tag 0/\p.aW.getD tag 0<=255):
 eY S nv s0 (oB p x n tag v):=by
 have dK:=sw (n:=v) hm.1;have hx:∀t,0<=(lY (x.1.a.val n) tag v (p.aW.getD tag 0)).tg t/\(lY (x.1.a.val n) tag v (p.aW.getD tag 0)).tg t<=255:=by
  intro t;show 0<=aL _ _ _ _/\aL _ _ _ _<=_;rw [cG];split
  ·omega
  ·exact h.inv.tag q n hq hn t
 have hu:=G7 (x:=lY (x.1.a.val n) tag v (p.aW.getD tag 0)) h.inv hq hn rfl;refine ⟨Ke h.inv hq hn rfl hx,⟨⟨q,n,hq,hn,(h.inv.idx _ _).2 ⟨q,hq,hn,rfl⟩⟩,?_⟩,h.hand,h.key,h.told⟩;show Inv S (k_ S _ (kD x.1 n _))/\Good S nv s0 x.2.bm (k_ S _ (kD x.1 n _));rw [hu];exact ⟨h.inv,h.ua⟩
theorem KN {S:Sys} {nv:Nat} {s0:St} {x:SR} (h:eY S nv s0 x) {i:Nat} (hi:i < nv) {v:Int} (hv: -1073741824<=v/\v<=1073741824):
 eY S nv s0 ({x.1 with vars:=aL x.1.vars i v},x.2.note (.var i (x.1.vars i))):=by
 have hu:=Ki S x.1 i v;refine ⟨⟨h.inv.wf,h.inv.idx,h.inv.len,h.inv.Kd,h.inv.NJ,h.inv.tag,h.inv.key,fun j=>?_⟩,⟨hi,?_⟩,h.hand,h.key,h.told⟩
 ·show _<=aL _ _ _ _/\aL _ _ _ _<=_;rw [cG];split
  ·exact hv
  ·exact h.inv.var j
 ·show Inv S (k_ S _ {x.1 with vars:=aL x.1.vars i v})/\Good S nv s0 x.2.bm (k_ S _ {x.1 with vars:=aL x.1.vars i v});rw [hu];exact ⟨h.inv,h.ua⟩
theorem eY.same {S:Sys} {nv:Nat} {s0:St} {s:St} {r r':Rn} (h:eY S nv s0 (s,r)) (h1:r'.bm=r.bm) (h2:r'.hand=r.hand\/r'.hand=none) (h3:r'.key=r.key) (h4:r'.told=r.told):eY S nv s0 (s,r'):=
 ⟨h.inv,by show Good S nv s0 r'.bm s;rw [h1];exact h.ua,by
   intro x hx;rcases h2 with h2|h2
   ·exact h.hand x (by rw [<-h2];exact hx)
   ·have:r'.hand=some x:=hx;rw [h2] at this;simp at this,by show r'.key < _;rw [h3];exact h.key,by show ∀k,k∈r'.told->_;rw [h4];exact h.told⟩
section
structure sC (p:aO) (c:Cp):Prop where
 s1:1<=c.size
 s2:c.size<=1048576
 len:c.aI.length=p.ap.length
 q1:∀q,q < p.ap.length->1<=c.aI.getD q 0/\c.aI.getD q 0<=1048576
structure Env (p:aO) (c:Cp) (T:Map):Prop where
 qn:Typed p T
 check:bo p=0
 gQ:sC p c
theorem DV {p:aO}:∀(l:List Ins),dp p l=0->∀i,i∈l->iP i=true/\gI p i=true:=by
 intro l
 induction l with
 |nil=>intro _ i hi;simp at hi
 |cons a l ih=>
  intro h i hi;unfold dp at h;split at h
  ·next h1=>
   split at h
   ·next h2=>
    rcases List.mem_cons.1 hi with rfl|hi
    ·exact ⟨h1,h2⟩
    ·exact ih h i hi
   ·simp at h
  ·simp at h
structure vj (p:aO):Prop where
 g:p.ap.length<=16
 v:p.vars.length<=16
 t:p.aW.length<=4
 on:p.on.length=p.ap.length
 code:p.code.length<=262144
 vars:∀v,v∈p.vars->v.lo<=v.init/\v.init<=v.hi/\-1073741824<=v.lo/\v.hi<=1073741824
 aW:∀t,t∈p.aW->1<=t/\t<=255
 Xb:∀n,n∈p.on->-1<=n/\n<=(p.code.length:Int) - 1
 aJ: -1<=p.aJ/\p.aJ<=(p.code.length:Int) - 1
theorem Hp {p:aO} (h:bS p=true):vj p:=by
 unfold bS at h;simp only [Bool.and_eq_true,decide_eq_true_eq,List.all_eq_true] at h;obtain ⟨⟨⟨⟨⟨⟨⟨⟨h1,h2⟩,h3⟩,h4⟩,h5⟩,h6⟩,h7⟩,h8⟩,h9⟩:=h;refine ⟨h1,h2,h3,h4,h5,fun v hv=>?_,fun t ht=>?_,fun n hn=>?_,?_⟩
 ·have:=h6 v hv;unfold me at this;simp only [Bool.and_eq_true,decide_eq_true_eq] at this;omega
 ·have:=h7 t ht;unfold aF at this;simpa only [Bool.and_eq_true,decide_eq_true_eq] using this
 ·have:=h8 n hn;unfold aF at this;simpa only [Bool.and_eq_true,decide_eq_true_eq] using this
 ·unfold aF at h9;simpa only [Bool.and_eq_true,decide_eq_true_eq] using h9
theorem cK {p:aO} (h:bo p=0):vj p/\∀i,i∈p.code->iP i=true/\gI p i=true:=by
 unfold bo at h;split at h
 ·next h1=>exact ⟨Hp h1,DV _ h⟩
 ·simp at h
theorem ei {p:aO} {pc:Nat} (h:pc < p.code.length):ai p pc∈p.code:=by unfold ai;rw [List.getD_eq_getElem?_getD,List.getElem?_eq_getElem h];exact List.getElem_mem h
theorem dW {p:aO} {i:Ins} (h:gI p i=true) {k:Nat} (cW:i.op.toNat=k):
 aY p ((bY k).getD 0 0) i.a=true/\aY p ((bY k).getD 1 0) i.b=true/\aY p ((bY k).getD 2 0) i.c=true/\aY p ((bY k).getD 3 0) i.d=true:=by
 unfold gI at h;rw [cW] at h;simp only [Bool.and_eq_true] at h;exact ⟨h.1.1.1,h.1.1.2,h.1.2,h.2⟩
theorem abL {p:Prop} (h:p:=by
 unfold aY aF dM dN N at*;simp at h ⊢;omega):p:=h
theorem cX {p:aO} {n:Int} (h:aY p 1 n=true):0<=n/\n < p.ap.length/\N n < p.ap.length:=by exact abL
theorem DW {p:aO} {n:Int} (h:aY p 2 n=true):0<=n/\n < p.vars.length/\N n < p.vars.length:=by exact abL
theorem sD {p:aO} {n:Int} (h:aY p 3 n=true):0<=n/\n < p.aW.length/\N n < p.aW.length:=by exact abL
theorem fZ {p:aO} {n:Int} (h:aY p 4 n=true):0<=n/\n<=1/\N n<=1:=by exact abL
theorem abM {p:Prop} (h:p:=by
 unfold aY aF dM dN at*;simp at h;omega):p:=h
theorem SP {p:aO} {n:Int} (h:aY p 5 n=true): -1073741824<=n/\n<=1073741824:=by exact abM
theorem SQ {p:aO} {n:Int} (h:aY p 6 n=true):n=0\/n=1:=by exact abM
theorem SS {p:aO} {n:Int} (h:aY p 7 n=true):0<=n/\n<=4194304:=by exact abM
theorem js {p:aO} {n:Int} (h:aY p 8 n=true):0<=n/\n < p.code.length:=by exact abM
structure ft (p:aO) (T:Map) (r:Rn) (st:Std):Prop where
 lt:r.at_ < p.code.length
 iH:oQ p T r.at_ st
 stack:vd r.stack st.ty
 loops:r.loops.length=st.lo.length+if (ai p r.at_).op=25 then 1 else 0
 Xc:∀n,n∈r.loops->0<=n/\n<=4194304
 hand:st.ha=0↔r.hand=none
 br:r.br=0
 done:r.done=false
theorem abU {p:Prop} (h:p:=by
 simp at hw;rcases hw with rfl|rfl
 ·exact F_ rfl
 ·exact dD (by omega) pW):p:=h
theorem Bx {p:aO} {T:Map} (hT:Typed p T) {pc:Nat} {st:Std} (hr:oQ p T pc st) (NQ:(ai p pc).op≠24) {w:Nat×Std} (hw:w∈fE p pc st):(ai p w.1).op≠25:=by
 have a8:=(hr.ways w hw).1;obtain ⟨s',Θ⟩:=hT.all w.1 a8;have hj:=hr.jumps;have KQ:=Θ.jumps;intro pW;have F_:w.1=pc+1->False:=by
  intro e;unfold cC at KQ;rw [pW] at KQ;split at KQ
  ·simp at KQ
  ·simp at KQ;rw [e] at KQ;simp at KQ;exact NQ KQ.1.1
 unfold fE cm at hw;generalize hx:ai p pc=x at*;have dD:(x.op=22\/x.op=23\/x.op=25\/x.op=26)->(ai p x.a.toNat).op≠25:=by intro ho h;unfold cC at hj;rw [if_pos ⟨ho,.inr h⟩] at hj;simp at hj
 split at hw
 ·simp at hw
 split at hw
 ·next h=>simp at hw;subst hw;exact dD (by omega) pW
 split at hw
 ·next h=>exact abU
 split at hw
 ·next h=>exact abU
 split at hw
 ·next h=>exact abU
 ·simp at hw;subst hw;exact F_ rfl
theorem go_on {p:aO} {c:Cp} {T:Map} (E:Env p c T) {pc:Nat} {st:Std} (hr:oQ p T pc st) (NQ:(ai p pc).op≠24) {r':Rn} {st':Std} (hw:(r'.at_,st')∈fE p pc st) (h1:vd r'.stack st'.ty) (h2:r'.loops.length=st'.lo.length)
 (h3:∀n,n∈r'.loops->0<=n/\n<=4194304) (h4:st'.ha=0↔r'.hand=none) (h5:r'.br=0) (h6:r'.done=false):ft p T r' st':=by
 have pW:=Bx E.qn hr NQ hw;obtain ⟨a,b⟩:=hr.ways _ hw;obtain ⟨s,hs⟩:=E.qn.all r'.at_ a;have:s=st':=by have:=hs.at_;rw [b] at this;exact (Option.some.inj this).symm
 subst this;exact ⟨a,hs,h1,by rw [if_neg pW];exact h2,h3,h4,h5,h6⟩
theorem jQ {x:Ins} {ty:List Nat} (h:bM x ty=0):(bO x.op.toNat).length<=ty.length/\(x.op=0->ty=[])/\hZ (bO x.op.toNat) ty=true/\(x.op=19->ty.getD 0 0=ty.getD 1 0):=by
 unfold bM at h;dsimp only at h;split at h
 ·simp at h
 ·next h1=>
  split at h
  ·simp at h
  ·next h2=>simp at h2;have h3:¬ty.length < (bO x.op.toNat).length:=fun h'=>h1 (.inl h');refine ⟨by omega,fun h0=>?_,h2.1,h2.2⟩;have h4:¬(x.op=0/\0 < ty.length):=fun h'=>h1 (.inr (.inl h'));exact List.length_eq_zero_iff.1 (by omega)
def bI (r:Rn):Rn:={r with at_:=r.at_+1}
def bT (op:Int):Prop:=op≠0/\op≠22/\op≠23/\op≠24/\op≠25/\op≠26/\op≠27
theorem rB {p:aO} {pc:Nat} {st:Std} (h:bT (ai p pc).op):(pc+1,(⟨aT (ai p pc) st.ty,st.lo,be p (ai p pc) st.ha⟩:Std))∈fE p pc st:=by unfold bT at h;unfold fE cm;rw [if_neg (by omega),if_neg (by omega),if_neg (by omega),if_neg (by omega),if_neg (by omega)];simp
theorem go_straight {p:aO} {c:Cp} {T:Map} (E:Env p c T) {r:Rn} {st:Std} (C:ft p T r st) (h:bT (ai p r.at_).op) {r':Rn} (h0:r'.at_=r.at_+1) (h1:vd r'.stack (aT (ai p r.at_) st.ty))
 (h2:r'.loops=r.loops) (h4:be p (ai p r.at_) st.ha=0↔r'.hand=none) (h5:r'.br=0) (h6:r'.done=false):∃st',ft p T r' st':=by
 have hw:=rB (st:=st) h;rw [<-h0] at hw;have hl:=C.loops;unfold bT at h;rw [if_neg (by omega)] at hl;exact ⟨_,go_on E C.iH (by omega) hw h1 (by rw [h2];exact hl) (by rw [h2];exact C.Xc) h4 h5 h6⟩
structure oR (p:aO) (T:Map) (S:Sys) (s0:St) (y:SR):Prop where
 hold:eY S p.vars.length s0 y
 tr:0<=y.2.br/\y.2.br<=3
 next:y.2.br=0->y.2.done=false->∃st',ft p T y.2 st'
theorem vd.vm {st:List Int} {ty:List Nat} {w:Nat} {ws:List Nat} (h:vd st ty) (hf:hZ (w::ws) ty=true):∃n st' t SU,st=n::st'/\ty=t::SU/\pX t n/\vd st' SU/\hZ ws SU=true/\(w≠3->t=w):=by
 cases ty with
 |nil=>simp [hZ] at hf
 |cons t ty=>
  cases st with
  |nil=>exact absurd h (by simp [vd])
  |cons n st=>
   unfold hZ at hf;simp at hf;refine ⟨n,st,t,ty,rfl,rfl,h.1,h.2,hf.2,fun hw=>?_⟩;rcases hf.1 with h'|h'
   ·exact absurd h' hw
   ·exact h'
variable {p:aO} {c:Cp} {T:Map} {s0 s:St} {r:Rn} {st:Std}
theorem dX {S:Sys} {nv:Nat} {r':Rn} (H:eY S nv s0 (s,r)) (h1:r'.bm=r.bm) (h2:r'.hand=r.hand) (h3:r'.key=r.key) (h4:r'.told=r.told):eY S nv s0 (s,r'):=H.same h1 (.inl h2) h3 h4
theorem gu (E:Env p c T) (C:ft p T r st) (H:eY (aw p c) p.vars.length s0 (s,r)) (hs:bT (ai p r.at_).op) {t:Nat} (ht:t≠0) (h1:bO (ai p r.at_).op.toNat=[]) (h2:aR (ai p r.at_).op.toNat=t)
 (h3:∀ha,be p (ai p r.at_) ha=ha) {n:Int} (hn:pX t n):oR p T (aw p c) s0 (s,(bI r).push n):=by
 refine ⟨dX H rfl rfl rfl rfl,by show 0<=r.br/\r.br<=3;rw [C.br];decide,fun _ _=>?_⟩;refine go_straight E C hs rfl ?_ rfl (by rw [h3];exact C.hand) C.br C.done;unfold aT;rw [h1,h2];dsimp only;rw [if_neg ht];exact ⟨hn,C.stack⟩
theorem Ga (E:Env p c T) (C:ft p T r st) (H:eY (aw p c) p.vars.length s0 (s,r)) (hs:bT (ai p r.at_).op) {t w:Nat} (ht:t≠0) (hw:w≠3) (h1:bO (ai p r.at_).op.toNat=[w]) (h2:aR (ai p r.at_).op.toNat=t)
 (h3:∀ha,be p (ai p r.at_) ha=ha) {f:Int->Int} (hn:∀n,pX w n->pX t (f n)):oR p T (aw p c) s0 (s,(bI r).pop.push (f (bI r).fO))/\r.stack≠[]/\pX w r.fO:=by
 obtain ⟨_,_,hf,_⟩:=jQ C.iH.taken;rw [h1] at hf;obtain ⟨n,st',t',SU,e1,e2,hv,mS,_,KR⟩:=C.stack.vm hf;have htw:=KR hw;subst htw;have SV:r.fO=n:=by unfold Rn.fO;rw [e1];rfl
 refine ⟨⟨dX H rfl rfl rfl rfl,by show 0<=r.br/\r.br<=3;rw [C.br];decide,fun _ _=>?_⟩,by rw [e1];simp,by rw [SV];exact hv⟩;refine go_straight E C hs rfl ?_ rfl (by rw [h3];exact C.hand) C.br C.done;unfold aT;rw [h1,h2];dsimp only;rw [if_neg ht,e2];show vd (f r.fO::r.stack.tail) (t::SU);rw [e1,SV];exact ⟨hn n hv,mS⟩
theorem vn (E:Env p c T) (C:ft p T r st) (H:eY (aw p c) p.vars.length s0 (s,r)) (hs:bT (ai p r.at_).op) {t w:Nat} (ht:t≠0) (h1:bO (ai p r.at_).op.toNat=[w,w]) (h2:aR (ai p r.at_).op.toNat=t)
 (h3:∀ha,be p (ai p r.at_) ha=ha) {f:Int->Int->Int} (hn:∀a b,-1073741824<=a/\a<=1073741824->-1073741824<=b/\b<=1073741824->pX t (f a b)):
 oR p T (aw p c) s0 (s,(bI r).pop.pop.push (f (bI r).pop.fO (bI r).fO))/\∃a b l,r.stack=b::a::l/\(-1073741824<=a/\a<=1073741824)/\(-1073741824<=b/\b<=1073741824):=by
 obtain ⟨_,_,hf,_⟩:=jQ C.iH.taken;rw [h1] at hf;obtain ⟨n,st1,t1,ty1,e1,e2,hv,mS,Jk,_⟩:=C.stack.vm hf;obtain ⟨m,st2,t2,SX,e3,e4,NK,Xd,_,_⟩:=mS.vm Jk;refine ⟨⟨dX H rfl rfl rfl rfl,by show 0<=r.br/\r.br<=3;rw [C.br];decide,fun _ _=>?_⟩,m,n,st2,by rw [e1,e3],NK.in,hv.in⟩;refine go_straight E C hs rfl ?_ rfl (by rw [h3];exact C.hand) C.br C.done;unfold aT;rw [h1,h2];dsimp only;rw [if_neg ht,e2,e4];show vd (f (r.stack.tail.headD 0) (r.stack.headD 0)::r.stack.tail.tail) (t::SX);rw [e1,e3];exact ⟨hn m n NK.in hv.in,Xd⟩
end
section
variable {p:aO} {c:Cp} {T:Map} {s0 s:St} {r:Rn} {st:Std}
theorem np (E:Env p c T) (C:ft p T r st):iP (ai p r.at_)=true/\gI p (ai p r.at_)=true:=(cK E.check).2 _ (ei C.lt)
theorem ed (E:Env p c T) (C:ft p T r st) {k:Nat} (h:(ai p r.at_).op=(k:Int)):
 aY p ((bY k).getD 0 0) (ai p r.at_).a=true/\aY p ((bY k).getD 1 0) (ai p r.at_).b=true/\aY p ((bY k).getD 2 0) (ai p r.at_).c=true/\aY p ((bY k).getD 3 0) (ai p r.at_).d=true:=
 dW (np E C).2 (by rw [h];rfl)
theorem DX (op:Int) {a b:Int} (ha: -1073741824<=a/\a<=1073741824) (hb: -1073741824<=b/\b<=1073741824):(op < 19->pX 1 (mL op a b))/\(¬op < 19->pX 2 (mL op a b)):=by
 unfold mL;constructor
 ·intro h;refine pX.num ?_;have t1:=lu (decide (a=b));have t2:=lu (decide (a < b));have t3:=lu (decide (a<=b));have c1:=ru (a*b);have c2:=ru (a+b);have c3:=ru (a - b);have c4:=OW a b;generalize kj (a*b)=k1 at*
  repeat' split
  all_goals omega
 ·intro h;refine pX.bool ?_;rw [if_neg (by omega),if_neg (by omega),if_neg (by omega),if_neg (by omega),if_neg (by omega),if_neg (by omega)];split
  ·exact lu _
  split
  ·exact lu _
  ·exact lu _
theorem cy (E:Env p c T) (C:ft p T r st) (hs:bT (ai p r.at_).op) {y:SR} (H:eY (aw p c) p.vars.length s0 y) (ht:y.2.br=0\/y.2.br=1\/y.2.br=2\/y.2.br=3) (h0:y.2.br=0->y.2.at_=r.at_+1)
 (h1:y.2.br=0->vd y.2.stack (aT (ai p r.at_) st.ty)) (h2:y.2.loops=r.loops) (h4:y.2.br=0->(be p (ai p r.at_) st.ha=0↔y.2.hand=none)) (h6:y.2.done=false):oR p T (aw p c) s0 y:=
 ⟨H,by omega,fun e1 e2=>go_straight E C hs (h0 e1) (h1 e1) h2 (h4 e1) e1 h6⟩
theorem du {x:Ins} {ty:List Nat} (h1:bO x.op.toNat=[]) (h2:aR x.op.toNat=0):aT x ty=ty:=by unfold aT;rw [h1,h2];rfl
theorem vo {S:Sys} {x:SR} {q e:Nat} {v:eW} (h0:x.2.br=0):((gW S x q e v).1.2.br=0\/(gW S x q e v).1.2.br=1)/\(gW S x q e v).1.2.at_=x.2.at_/\(gW S x q e v).1.2.stack=x.2.stack/\(gW S x q e v).1.2.loops=x.2.loops/\(gW S x q e v).1.2.done=x.2.done/\(gW S x q e v).1.2.hand=x.2.hand:=by
 unfold gW;split
 ·exact ⟨.inr rfl,rfl,rfl,rfl,rfl,rfl⟩
 ·exact ⟨.inl h0,rfl,rfl,rfl,rfl,rfl⟩
theorem abF {p:Prop} (h:p:=by
 exact gu E C H (by rw [hx];unfold bT;omega) (t:=1) (by decide) (by rw [hx,h];rfl) (by rw [hx,h];rfl) (by intro ha;unfold be;rw [hx,h];rfl) (pX.num (by omega))):p:=h
theorem DY (E:Env p c T) (C:ft p T r st) (H:eY (aw p c) p.vars.length s0 (s,r)) (cW:(ai p r.at_).op<=21):oR p T (aw p c) s0 (aC p c (ai p r.at_) (s,bI r)):=by
 have lO:=(np E C).1;unfold iP aF at lO;simp only [Bool.and_eq_true,decide_eq_true_eq] at lO;have gB:0<=(bI r).br/\(bI r).br<=3:=by show 0<=r.br/\r.br<=3;rw [C.br];decide
 have hinv:Inv (aw p c) s:=H.inv;generalize hx:ai p r.at_=x at*;have OY:x.op=0\/x.op=1\/x.op=2\/x.op=3\/x.op=4\/x.op=5\/x.op=6\/x.op=7\/x.op=8\/x.op=9\/x.op=10\/x.op=13\/x.op=14\/(x.op=11\/x.op=12\/x.op=15\/x.op=16\/x.op=17\/x.op=18\/x.op=20\/x.op=21)\/x.op=19:=by omega
 have qo:eY (aw p c) p.vars.length s0 (s,bI r):=dX H rfl rfl rfl rfl;rcases OY with h|h|h|h|h|h|h|h|h|h|h|h|h|h|h
 ·
  have e:aC p c x (s,bI r)=(s,{bI r with done:=true}):=by unfold aC;rw [h];rfl
  rw [e];exact ⟨dX H rfl rfl rfl rfl,gB,fun _ e2=>by simp at e2⟩
 ·have e:aC p c x (s,bI r)=(s,(bI r).push x.a):=by unfold aC;rw [h];rfl
  rw [e];have hf:=(ed E C (k:=1) (by rw [hx,h];rfl)).1;exact gu E C H (by rw [hx];unfold bT;omega) (t:=1) (by decide) (by rw [hx,h];rfl) (by rw [hx,h];rfl) (by intro ha;unfold be;rw [hx,h];rfl) (pX.num (by rw [hx] at hf;exact SP hf))
 ·have e:aC p c x (s,bI r)=(s,(bI r).push x.a):=by unfold aC;rw [h];rfl
  rw [e];have hf:=(ed E C (k:=2) (by rw [hx,h];rfl)).1;exact gu E C H (by rw [hx];unfold bT;omega) (t:=2) (by decide) (by rw [hx,h];rfl) (by rw [hx,h];rfl) (by intro ha;unfold be;rw [hx,h];rfl) (pX.bool (by rw [hx] at hf;exact SQ hf))
 ·have e:aC p c x (s,bI r)=(s,(bI r).push (s.vars (N x.a))):=by unfold aC;rw [h];rfl
  rw [e];exact gu E C H (by rw [hx];unfold bT;omega) (t:=1) (by decide) (by rw [hx,h];rfl) (by rw [hx,h];rfl) (by intro ha;unfold be;rw [hx,h];rfl) (pX.num (hinv.var _))
 ·have e:aC p c x (s,bI r)=(s,(bI r).push (s.a.ls (N x.a)).length):=by unfold aC;rw [h];rfl
  rw [e];have hf:=(ed E C (k:=4) (by rw [hx,h];rfl)).1;rw [hx] at hf;have hq:=(cX hf).2.2;have hl:=hinv.len _ hq;have hc:=E.gQ.q1 _ hq;have Hq:(aw p c).cq (N x.a)=(c.aI.getD (N x.a) 0).toNat:=rfl;exact abF
 ·have e:aC p c x (s,bI r)=(s,(bI r).push (c.aI.getD (N x.a) 0)):=by unfold aC;rw [h];rfl
  rw [e];have hf:=(ed E C (k:=5) (by rw [hx,h];rfl)).1;rw [hx] at hf;have hc:=E.gQ.q1 _ (cX hf).2.2;exact abF
 ·have e:aC p c x (s,bI r)=(s,(bI r).push c.size):=by unfold aC;rw [h];rfl
  rw [e];have h1:=E.gQ.s1;have h2:=E.gQ.s2;exact abF
 ·have e:aC p c x (s,bI r)=(s,(bI r).push s.total):=by unfold aC;rw [h];rfl
  rw [e];have h1:=E.gQ.s1;have h2:=E.gQ.s2;have h3:=hinv.Kd;have h4:=hinv.NJ;have h5:(aw p c).sz=c.size.toNat:=rfl;exact abF
 ·have e:aC p c x (s,bI r)=sx (aw p c) x (s,bI r):=by unfold aC;rw [h];rfl
  rw [e];unfold sx;exact gu E C H (by rw [hx];unfold bT;omega) (t:=2) (by decide) (by rw [hx,h];rfl) (by rw [hx,h];rfl) (by intro ha;unfold be;rw [hx,h];rfl) (pX.bool (lu _))
 ·have e:aC p c x (s,bI r)=tE x (s,bI r):=by unfold aC;rw [h];rfl
  rw [e];unfold tE;dsimp only;cases hf:s.f (bI r).key with
  |none=>dsimp only;exact ⟨dX H rfl rfl rfl rfl,by show 0<=(3:Int)/\(3:Int)<=3;decide,fun e1 _=>by simp [Rn.dG] at e1⟩
  |some n=>dsimp only;obtain ⟨q,hq,hm,_⟩:=(hinv.idx _ n).1 hf;have:=hinv.tag q n hq hm (N x.a);exact abF
 ·have e:aC p c x (s,bI r)=l_ x (s,bI r):=by unfold aC;rw [h];rfl
  rw [e];unfold l_;dsimp only;split
  ·exact ⟨dX H rfl rfl rfl rfl,by show 0<=(2:Int)/\(2:Int)<=3;decide,fun e1 _=>by simp [Rn.dG] at e1⟩
  ·next bz=>have hf:=(ed E C (k:=10) (by rw [hx,h];rfl)).1;rw [hx] at hf;have:=hinv.tag _ _ (cX hf).2.2 (fi (e:=N x.b) bz) (N x.c);exact abF
 ·have e:aC p c x (s,bI r)=(s,(bI r).pop.push (-(bI r).fO)):=by unfold aC;rw [h];rfl
  rw [e];exact (Ga (f:=fun n=> -n) E C H (by rw [hx];unfold bT;omega) (t:=1) (w:=1) (by decide) (by decide) (by rw [hx,h];rfl) (by rw [hx,h];rfl) (by intro ha;unfold be;rw [hx,h];rfl) (fun n hn=>pX.num (by have:=hn.in;omega))).1
 ·have e:aC p c x (s,bI r)=(s,(bI r).pop.push (1 - (bI r).fO)):=by unfold aC;rw [h];rfl
  rw [e];exact (Ga (f:=fun n=>1 - n) E C H (by rw [hx];unfold bT;omega) (t:=2) (w:=2) (by decide) (by decide) (by rw [hx,h];rfl) (by rw [hx,h];rfl) (by intro ha;unfold be;rw [hx,h];rfl) (fun n hn=>pX.bool (by unfold pX at hn;rw [if_pos rfl] at hn;omega))).1
 ·have e:aC p c x (s,bI r)=(s,(bI r).pop.pop.push (mL x.op (bI r).pop.fO (bI r).fO)):=by unfold aC;rcases h with h|h|h|h|h|h|h|h<;>rw [h]<;>rfl
  rw [e];by_cases sE:x.op < 19
  ·exact (vn (f:=mL x.op) E C H (by rw [hx];unfold bT;omega) (t:=1) (w:=1) (by decide) (by rw [hx];rcases h with h|h|h|h|h|h|h|h<;>rw [h]<;>rfl) (by rw [hx];rcases h with h|h|h|h|h|h|h|h<;>first|(rw [h];rfl)|omega)
    (by intro ha;unfold be;rw [hx];rcases h with h|h|h|h|h|h|h|h<;>rw [h]<;>rfl) (fun a b ha hb=>(DX x.op ha hb).1 sE)).1
  ·exact (vn (f:=mL x.op) E C H (by rw [hx];unfold bT;omega) (t:=2) (w:=1) (by decide) (by rw [hx];rcases h with h|h|h|h|h|h|h|h<;>rw [h]<;>rfl) (by rw [hx];rcases h with h|h|h|h|h|h|h|h<;>first|omega|(rw [h];rfl))
    (by intro ha;unfold be;rw [hx];rcases h with h|h|h|h|h|h|h|h<;>rw [h]<;>rfl) (fun a b ha hb=>(DX x.op ha hb).2 sE)).1
 ·have e:aC p c x (s,bI r)=(s,(bI r).pop.pop.push (mL x.op (bI r).pop.fO (bI r).fO)):=by unfold aC;rw [h];rfl
  rw [e];exact (vn (f:=mL x.op) E C H (by rw [hx];unfold bT;omega) (t:=2) (w:=3) (by decide) (by rw [hx,h];rfl) (by rw [hx,h];rfl) (by intro ha;unfold be;rw [hx,h];rfl) (fun a b ha hb=>(DX x.op ha hb).2 (by omega))).1
end
section
variable {p:aO} {c:Cp} {T:Map} {s0 s:St} {r:Rn} {st:Std}
theorem vp (C:ft p T r st) {w:Nat} (h1:bO (ai p r.at_).op.toNat=[w]) (h2:aR (ai p r.at_).op.toNat=0):
 ∃n l,r.stack=n::l/\vd l (aT (ai p r.at_) st.ty)/\(-1073741824<=n/\n<=1073741824):=by
 obtain ⟨_,_,hf,_⟩:=jQ C.iH.taken;rw [h1] at hf;obtain ⟨n,st',t',SU,e1,e2,hv,mS,_,KR⟩:=C.stack.vm hf;refine ⟨n,st',e1,?_,hv.in⟩;unfold aT;rw [h1,h2,e2];exact mS
theorem vq (hr:oQ p T r.at_ st) (h:(ai p r.at_).op=22\/(ai p r.at_).op=23\/(ai p r.at_).op=25\/(ai p r.at_).op=26):(r.at_:Int) < (ai p r.at_).a:=by
 have hj:=hr.jumps;unfold cC at hj;by_cases h':(ai p r.at_).a<=(r.at_:Int)
 ·rw [if_pos ⟨h,.inl h'⟩] at hj;simp at hj
 ·omega
theorem abW {p:Prop} (h:p:=by
 refine ⟨qo _ rfl rfl rfl rfl,gB,fun _ _=>?_⟩;exact ⟨_,go_on E C.iH (by rw [hx];omega) lB.1 (by show vd r.stack.tail _;rw [tZ];exact mS) hl ub (by rw [tF];exact gR) jR fJ⟩):p:=h
theorem Hr (E:Env p c T) (C:ft p T r st) (H:eY (aw p c) p.vars.length s0 (s,r)) (h1:22<=(ai p r.at_).op) (h2:(ai p r.at_).op<=27):oR p T (aw p c) s0 (aC p c (ai p r.at_) (s,bI r)):=by
 have gB:0<=r.br/\r.br<=3:=by rw [C.br];decide
 have hl:=C.loops;have dD:=C.iH.jumps;generalize hx:ai p r.at_=x at*;have hc:x.op=22\/x.op=23\/x.op=24\/x.op=25\/x.op=26\/x.op=27:=by omega
 have qo:∀r',r'.bm=r.bm->r'.hand=r.hand->r'.key=r.key->r'.told=r.told->eY (aw p c) p.vars.length s0 (s,r'):=fun r' a b d e=>dX H a b d e;have tF:be p x st.ha=st.ha:=by unfold be;rw [if_neg (by omega),if_neg (by omega),if_neg (by omega)]
 have ub:=C.Xc;have gR:=C.hand;have jR:=C.br;have fJ:=C.done;rcases hc with h|h|h|h|h|h
 ·have e:aC p c x (s,bI r)=(s,{bI r with at_:=N x.a}):=by unfold aC;rw [h];rfl
  rw [e];refine ⟨qo _ rfl rfl rfl rfl,gB,fun _ _=>?_⟩;rw [if_neg (by omega)] at hl;have ht:aT x st.ty=st.ty:=du (by rw [h];rfl) (by rw [h];rfl);refine ⟨_,go_on (st':=⟨aT x st.ty,st.lo,be p x st.ha⟩) E C.iH (by rw [hx];omega) ?_ (by rw [ht];exact C.stack) hl ub (by rw [tF];exact gR) jR fJ⟩;unfold fE cm;rw [hx,if_neg (by omega),if_pos h];simp [N]
 ·have e:aC p c x (s,bI r)=(s,if (bI r).fO=0 then {(bI r).pop with at_:=N x.a} else (bI r).pop):=by unfold aC;rw [h];rfl
  rw [e];rw [if_neg (by omega)] at hl;obtain ⟨n,l,e1,mS,_⟩:=vp C (w:=2) (by rw [hx,h];rfl) (by rw [hx,h];rfl);rw [hx] at mS;have tZ:r.stack.tail=l:=by rw [e1];rfl
  have Xe:∀a:Nat,eY (aw p c) p.vars.length s0 (s,{(bI r).pop with at_:=a}):=fun a=>qo _ rfl rfl rfl rfl;have lB:(r.at_+1,(⟨aT x st.ty,st.lo,be p x st.ha⟩:Std))∈fE p r.at_ st/\(N x.a,(⟨aT x st.ty,st.lo,be p x st.ha⟩:Std))∈fE p r.at_ st:=by unfold fE cm;rw [hx,if_neg (by omega),if_neg (by omega),if_pos h];simp [N]
  split
  ·refine ⟨Xe _,gB,fun _ _=>?_⟩;exact ⟨_,go_on E C.iH (by rw [hx];omega) lB.2 (by show vd r.stack.tail _;rw [tZ];exact mS) hl ub (by rw [tF];exact gR) jR fJ⟩
  ·exact abW
 ·have e:aC p c x (s,bI r)=(s,{bI r with loops:=x.a::(bI r).loops}):=by unfold aC;rw [h];rfl
  rw [e];refine ⟨qo _ rfl rfl rfl rfl,gB,fun _ _=>?_⟩;rw [if_neg (by omega)] at hl;have ht:aT x st.ty=st.ty:=du (by rw [h];rfl) (by rw [h];rfl);have hw:(r.at_+1,(⟨aT x st.ty,st.lo,be p x st.ha⟩:Std))∈fE p r.at_ st:=by unfold fE cm;rw [hx,if_neg (by omega),if_neg (by omega),if_neg (by omega),if_neg (by omega),if_neg (by omega)];simp
  obtain ⟨a,b⟩:=C.iH.ways _ hw;obtain ⟨s',hs⟩:=E.qn.all _ a;have:s'=⟨aT x st.ty,st.lo,be p x st.ha⟩:=by have:=hs.at_;rw [b] at this;exact (Option.some.inj this).symm
  subst this;have pW:(ai p (r.at_+1)).op=25:=by unfold cC at dD;rw [if_neg (by omega),if_pos h] at dD;simp at dD;exact dD.2
  have Θ:=ed E C (k:=24) (by rw [hx,h];rfl);rw [hx] at Θ;refine ⟨_,⟨a,hs,by show vd r.stack _;rw [ht];exact C.stack,by show (x.a::r.loops).length=_;rw [show (bI r).at_=r.at_+1 from rfl,if_pos pW];simp [hl],?_,by rw [tF];exact gR,jR,fJ⟩⟩;intro n hn;rcases List.mem_cons.1 hn with rfl|hn
  ·exact SS Θ.1
  ·exact ub n hn
 ·have e:aC p c x (s,bI r)=ql x (s,bI r):=by unfold aC;rw [h];rfl
  rw [e];rw [if_pos h] at hl;have ht:aT x st.ty=st.ty:=du (by rw [h];rfl) (by rw [h];rfl);have lB:(r.at_+1,(⟨aT x st.ty,r.at_::st.lo,be p x st.ha⟩:Std))∈fE p r.at_ st/\(N x.a,(⟨aT x st.ty,st.lo,be p x st.ha⟩:Std))∈fE p r.at_ st:=by unfold fE cm;rw [hx,if_neg (by omega),if_neg (by omega),if_neg (by omega),if_pos h];simp [N]
  cases iF:r.loops with
  |nil=>rw [iF] at hl;simp at hl
  |cons n l=>
   rw [iF] at hl ub;unfold ql;have e1:(bI r).loops=n::l:=iF;have hh:(s,bI r).2.loops.headD 0=n:=by show (bI r).loops.headD 0=n;rw [e1];rfl
   have Ov:=ub n (by simp);by_cases hz:n=0
   ·rw [if_pos (by rw [hh];exact hz)];refine ⟨qo _ rfl rfl rfl rfl,gB,fun _ _=>?_⟩;refine ⟨_,go_on E C.iH (by rw [hx];omega) lB.2 (by rw [ht];exact C.stack) ?_ ?_ (by rw [tF];exact gR) jR fJ⟩
    ·show (bI r).loops.tail.length=_;rw [e1];simp at hl ⊢;exact hl
    ·intro m hm;have:m∈(bI r).loops.tail:=hm;rw [e1] at this;exact ub m (by simp at this;simp [this])
   ·rw [if_neg (by rw [hh];exact hz)];refine ⟨qo _ rfl rfl rfl rfl,gB,fun _ _=>?_⟩;refine ⟨_,go_on E C.iH (by rw [hx];omega) lB.1 (by rw [ht];exact C.stack) ?_ ?_ (by rw [tF];exact gR) jR fJ⟩
    ·show (((bI r).loops.headD 0 - 1)::(bI r).loops.tail).length=_;rw [e1];simp at hl ⊢;exact hl
    ·intro m hm;have hm:m∈((bI r).loops.headD 0 - 1)::(bI r).loops.tail:=hm;rw [e1] at hm;have hm:m∈(n - 1)::l:=hm;rcases List.mem_cons.1 hm with rfl|hm
     ·omega
     ·exact ub m (by simp [hm])
 ·have e:aC p c x (s,bI r)=qm x (s,bI r):=by unfold aC;rw [h];rfl
  rw [e];rw [if_neg (by omega)] at hl;obtain ⟨n,l,e1,mS,_⟩:=vp C (w:=2) (by rw [hx,h];rfl) (by rw [hx,h];rfl);rw [hx] at mS;have tZ:r.stack.tail=l:=by rw [e1];rfl
  have lB:(r.at_+1,(⟨aT x st.ty,st.lo,be p x st.ha⟩:Std))∈fE p r.at_ st/\(N x.a,(⟨aT x st.ty,st.lo.tail,be p x st.ha⟩:Std))∈fE p r.at_ st:=by unfold fE cm;rw [hx,if_neg (by omega),if_neg (by omega),if_neg (by omega),if_neg (by omega),if_pos h];simp [N]
  unfold qm;dsimp only;split
  ·refine ⟨qo _ rfl rfl rfl rfl,gB,fun _ _=>?_⟩;refine ⟨_,go_on E C.iH (by rw [hx];omega) lB.2 (by show vd r.stack.tail _;rw [tZ];exact mS) (by show r.loops.tail.length=st.lo.tail.length;rw [List.length_tail,List.length_tail];omega) ?_ (by rw [tF];exact gR) jR fJ⟩;intro m hm;exact ub m (List.mem_of_mem_tail hm)
  ·exact abW
 ·have e:aC p c x (s,bI r)=(s,{bI r with at_:=N x.a}):=by unfold aC;rw [h];rfl
  rw [e];refine ⟨qo _ rfl rfl rfl rfl,gB,fun _ _=>?_⟩;rw [if_neg (by omega)] at hl;have ht:aT x st.ty=st.ty:=du (by rw [h];rfl) (by rw [h];rfl);unfold cC at dD;rw [if_neg (by omega),if_neg (by omega),if_neg (by omega),if_neg (by omega),if_pos h] at dD;cases iF:st.lo with
  |nil=>rw [iF] at dD;simp at dD
  |cons t l=>
   rw [iF] at dD hl;dsimp only at dD;have C_:=E.qn.loops _ _ C.iH.at_;rw [iF] at C_;obtain ⟨ht1,SY,s',Bl,KT⟩:=C_;rw [Bl] at dD;simp only [Bool.and_eq_true,decide_eq_true_eq] at dD;obtain ⟨ha,Vu,_⟩:=dD;have Hs:N x.a=t:=by unfold N;omega
   have a8:t < p.code.length:=by have:=C.lt;omega
   obtain ⟨Xf,SZ⟩:=E.qn.all t a8;have:Xf=s':=by have:=SZ.at_;rw [Bl] at this;exact (Option.some.inj this).symm
   subst this;have hh:=C.iH.ji;have hh':=SZ.ji;unfold dU at hh hh';rw [hx,if_neg (by omega),if_neg (by omega),if_neg (by omega),if_neg (by omega)] at hh;rw [if_neg (by omega),if_neg (by omega),if_neg (by omega),if_neg (by omega)] at hh';have k1:st.ha=0:=by simp only [Bool.or_eq_true,Bool.and_eq_true,decide_eq_true_eq,beq_iff_eq] at hh;omega
   have k2:Xf.ha=0:=by simp only [Bool.or_eq_true,Bool.and_eq_true,decide_eq_true_eq,beq_iff_eq] at hh';omega
   refine ⟨Xf,⟨by show N x.a < _;rw [Hs];exact a8,by show oQ p T (N x.a) Xf;rw [Hs];exact SZ,by rw [Vu,ht];exact C.stack,?_,ub,?_,jR,fJ⟩⟩
   ·show r.loops.length=Xf.lo.length+if (ai p (N x.a)).op=25 then 1 else 0;rw [Hs,if_pos SY,KT,hl];simp
   ·rw [k2];rw [k1] at gR;exact gR
end
end ak.Vm
