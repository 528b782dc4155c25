import Derived.Test.YtblkblclmbhjiaaGreatX0
import Derived.Test.YtblkblclmbhjiaaGreatRows
import Derived.BigQuiet
import Derived.BigRegion
import Derived.Deep.QuietTactic
import Derived.Outline
import Derived.Shelf.Small.Bits
import Derived.Shelf.Strconv.Itoa0
import Derived.Test.YtblkblclmbhjiaaGreatProg
import Derived.Shelf.SlGeneric
import Derived.Shelf.SlSortCmp.WholeK
import Derived.Shelf.SlicesE.Clone
import Derived.Ground.SlsfProg
import Derived.Ground.SlgnProg
import Derived.Deep.LoopGhost
set_option linter.all false
set_option maxHeartbeats 40000000
set_option maxRecDepth 100000
open Go.Proofs.Tryz
open Option renaming some->H,none->K7
open Go renaming Value->UL,World->UK
open Go.Value renaming slice->to
open Go.Obj renaming cells->QP
open Go.Ending renaming returned->C8
open Go.World renaming cell?->UJ
abbrev cU:=@Nat.le_trans
abbrev dK:=@Nat.le_add_right
abbrev pO:=@Bool.eq_iff_iff
abbrev ij:=@decide_eq_false_iff_not
abbrev rS:=@of_decide_eq_true
abbrev vV:=@Bool.eq_false_iff
abbrev xx:=@decide_eq_true
abbrev im:=@Option.some.injEq
abbrev qU:=@List.drop_eq_getElem_cons
abbrev oJ:=@Go.rounds_succ
abbrev bK:=@Go.bodyPost_ret
abbrev bu:=@congrArg
namespace aj.Vm
section
variable {p:aQ}{c:Cp}{T:Map}{s0 s:St}{r:Rn}{st:Std}
def EC(E:Env p c T){t:Nat}(h:t<p.aS.length):0<=p.aS.getD t 0/\p.aS.getD t 0<=255:=by have h1:=(cE E.check).1.aS (p.aS[t]) (jO h);rw[aY,fq h];show 0<=p.aS[t]/\p.aS[t]<=255;omega
def AS{S:Sys}{x:SR}{q e:Nat}:((bC S x q e).2=false->(bC S x q e).1.2=x.2.gd 2)/\(bC S x q e).1.2.at_=x.2.at_/\(bC S x q e).1.2.stack=x.2.stack/\(bC S x q e).1.2.loops=x.2.loops/\(bC S x q e).1.2.done=x.2.done/\
 ((bC S x q e).2=true->(bC S x q e).1.2.bY=x.2.bY/\(bC S x q e).1.2.hand≠none):=by
 unfold bC;split
 ·exact⟨λ_=>rfl,rfl,rfl,rfl,rfl,λh=>by simp at h⟩
 ·exact⟨λh=>by simp at h,rfl,rfl,rfl,rfl,λ_=>⟨rfl,ay⟩⟩
def Qi{S:Sys}{nv:Nat}{s0:St}{x:SR}(h:fJ S nv s0 x){q e:Nat}(hq:q<S.nq)(he:e<=1)(hh:x.2.hand≠none):
 fJ S nv s0 (dX S x q e).1/\(dX S x q e).1.2.hand=none:=by
 cases hx:x.2.hand with
 |none=>exact absurd hx hh
 |some v=>
  obtain⟨h1,h2,h3⟩:=h.hand v hx;have hv:rP x.2=v:=by unfold rP;rw[hx];rfl
  unfold dX;rw[hv];have H':fJ S nv s0 (x.1,{x.2 with hand:=none}):=fJ.same (s:=x.1) (r:=x.2) h rfl (.inr rfl) rfl rfl;obtain⟨a,b,_⟩:=yq H' hq he (v:=v) h1 h2 h3 rfl;exact⟨a,b⟩
def uR{S:Sys}{x:SR}{q e:Nat}(h0:x.2.bY=0):((dX S x q e).1.2.bY=0\/(dX S x q e).1.2.bY=1)/\(dX S x q e).1.2.at_=x.2.at_/\(dX S x q e).1.2.stack=x.2.stack/\(dX S x q e).1.2.loops=x.2.loops/\(dX S x q e).1.2.done=x.2.done:=by unfold dX;obtain⟨a,b,c,d,e',_⟩:=yx (S:=S) (x:=(x.1,{x.2 with hand:=none})) (q:=q) (e:=e) (v:=rP x.2) h0;exact⟨a,b,c,d,e'⟩
def sC{S:Sys}{nv:Nat}{s0:St}{x:SR}(h:fJ S nv s0 x)(hh:x.2.hand≠none):fJ S nv s0 (hZ x):=by
 refine⟨h.inv,h.zX,h.hand,h.key,λk hk=>?_⟩;have hk:k∈x.2.told++[(rP x.2).key]:=hk;rw[List.mem_append]at hk;rcases hk with hk|hk
 ·exact h.told k hk
 ·simp at hk;subst hk;cases hx:x.2.hand with
  |none=>exact absurd hx hh
  |some v=>
   have hv:rP x.2=v:=by unfold rP;rw[hx];rfl
   rw[hv];exact(h.hand v hx).2.2
def qP{S:Sys}{nv:Nat}{s0:St}{x:SR}(h:fJ S nv s0 x):fJ S nv s0 (il x):=fJ.same (s:=x.1) (r:=x.2) h rfl (.inr rfl) rfl rfl
def Cc{p:Prop}(h:p:=by
 rw[hx,js (by rw[h];rfl) (by rw[h];rfl)];exact Ys):p:=h
def Cd{p:Prop}(h:p:=by
 rw[hx];unfold bE;rw[aw O,aw O,aw O];exact jI):p:=h
def JA{p:Prop}(h:p:=by
 refine dF E C (by rw[hx];exact hs) H1 (.inl nj) (λ_=>rfl) (λ_=>?_) rfl (λ_=>?_) iz
 ·show AO r.stack.tail _;rw[e1,hx];exact pk
 ·exact Cd):p:=h
def JB{p:Prop}(h:p:=by
 refine dF E C (by rw[hx];exact hs) a1 (.inl (u1.trans tA)) (λ_=>t2) (λ_=>?_) t4 (λ_=>?_) (t5.trans iz)
 ·show AO y.2.stack _;exact tP
 ·rw[hx];unfold bE;rw[aw O,aw O,aw O];simp[k0,il]):p:=h
def JC{p:Prop}(h:p:=by
 refine dF E C (by rw[hx];exact hs) a (by rcases t1 with t1|t1;exact .inl t1;exact .inr (.inl t1)) (λ_=>t2) (λ_=>?_) t4 (λ_=>?_) (t5.trans iz)
 ·exact tP
 ·rw[hx,b];unfold bE;rw[aw O,aw O,aw O];simp[k0]):p:=h
def wT{p:Prop}(h:p:=by
 exact⟨fS hA rfl rfl rfl rfl,by show 0<=(3:Int)/\(3:Int)<=3;decide,λe1 _=>by simp[Rn.gd]at e1⟩):p:=h
def tP{p:Prop}(h:p:=by
 rw[t3,hx,js (by rw[h];rfl) (by rw[h];rfl)];exact Ys):p:=h
def JD{p:Prop}(h:p:=by
 exact⟨a,by rw[this];show 0<=(2:Int)/\(2:Int)<=3;decide,λe1 _=>by rw[this]at e1;simp[Rn.gd]at e1⟩):p:=h
def wU{p:Prop}(h:p:=by
 have:=t1 X;simp only[Bool.false_eq_true,if_false];exact JD):p:=h
def Hi(E:Env p c T)(C:gz p T r st)(a0f:fJ (aC p c) p.vars.length s0 (s,r))(h1:28<=(al p r.at_).op):qO p T (aC p c) s0 (aJ p c (al p r.at_) (s,cw r)):=by
 have yv:=(oV E C).1;have hs:db (al p r.at_).op:=by unfold db;omega
 have l_:=C.ke.l_;unfold jH aO at yv;simp only[fp,ft]at yv;have Ys:=C.stack;have jI:=C.hand;have nj:=C.bY;have iz:=C.done;have hinv:Inv (aC p c) s:=a0f.inv;generalize hx:al p r.at_=x at*;have hq0:(aC p c).nq=p.bw.length:=rfl;have hA:fJ (aC p c) p.vars.length s0 (s,cw r):=fS a0f rfl rfl rfl rfl;have hP:fJ (aC p c) p.vars.length s0 (s,(cw r).pop):=fS a0f rfl rfl rfl rfl;have tA:(cw r).bY=0:=nj;have empty:(x.op=31\/x.op=32\/x.op=33\/x.op=34\/x.op=38\/x.op=39\/x.op=40\/x.op=41)->st.ha=0/\r.hand=none:=by intro h;unfold fo at l_;rw[aw O,aw O,aw O,aw O]at l_;simp only[Bool.or_eq_true,fp,ft,beq_iff_eq]at l_;have:st.ha=0:=O;exact⟨this,jI.1 this⟩
 have full:(x.op=35\/x.op=36\/x.op=37)->r.hand≠none:=by
  intro h e;have:=jI.2 e;unfold fo at l_;rcases h with h|h|h
  ·rw[aw O,aw O,bk h]at l_;split at l_<;>simp[this]at l_
  ·rw[bk h]at l_;simp[this]at l_
  ·rw[aw O,bk h]at l_;simp[this]at l_
 have hc:x.op=28\/x.op=29\/x.op=30\/x.op=31\/x.op=32\/x.op=33\/x.op=34\/x.op=35\/x.op=36\/x.op=37\/x.op=38\/x.op=39\/x.op=40\/x.op=41:=O;rcases hc with h|h|h|h|h|h|h|h|h|h|h|h|h|h
 ·
  have e:aJ p c x (s,cw r)=BU p x (s,cw r):=by unfold aJ;rw[h];rfl
  rw[e];obtain⟨n,l,e1,pk,_⟩:=yy C (w:=1) (by rw[hx,h];rfl) (by rw[hx,h];rfl);rw[hx]at pk;have hf:=(eO E C (k:=28) (by rw[hx,h];rfl)).1;rw[hx]at hf;have hv:=(Hd hf).2.2;have fQ:p.vars.getD (N x.a) ⟨0,0,0⟩∈p.vars:=by rw[aY,fq hv];exact jO hv
  have VR:=(cE E.check).1.vars _ fQ;have fD:=uI (n:=(cw r).iX) (show(p.vars.getD (N x.a) ⟨0,0,0⟩).lo<=(p.vars.getD (N x.a) ⟨0,0,0⟩).hi by omega);have H1:=OL hA hv (v:=within (cw r).iX (p.vars.getD (N x.a) ⟨0,0,0⟩).lo (p.vars.getD (N x.a) ⟨0,0,0⟩).hi) O;refine dF E C (by rw[hx];exact hs) (y:=BU p x (s,cw r)) (fS H1 rfl rfl rfl rfl) (.inl nj) (λ_=>rfl) (λ_=>?_) rfl (λ_=>?_) iz
  ·show AO r.stack.tail _;rw[e1,hx];exact pk
  ·exact Cd
 ·
  have e:aJ p c x (s,cw r)=su p x (s,cw r):=by unfold aJ;rw[h];rfl
  rw[e];obtain⟨n,l,e1,pk,_⟩:=yy C (w:=1) (by rw[hx,h];rfl) (by rw[hx,h];rfl);rw[hx]at pk;have hf:=(eO E C (k:=29) (by rw[hx,h];rfl)).1;rw[hx]at hf;unfold su;dsimp only;cases hk:s.f (cw r).key with
  |none=>dsimp only;exact⟨fS hP rfl rfl rfl rfl,by show 0<=(3:Int)/\(3:Int)<=3;decide,λe1 _=>by simp[Rn.gd]at e1⟩
  |some m=>dsimp only;obtain⟨q,hq,hm,_⟩:=(hinv.idx _ m).1 hk;have H1:=AQ (p:=p) (tag:=N x.a) hP hq hm (cw r).iX (EC E (uP hf).2.2);exact JA
 ·
  have e:aJ p c x (s,cw r)=mU p x (s,cw r):=by unfold aJ;rw[h];rfl
  rw[e];obtain⟨n,l,e1,pk,_⟩:=yy C (w:=1) (by rw[hx,h];rfl) (by rw[hx,h];rfl);rw[hx]at pk;have hf:=eO E C (k:=30) (by rw[hx,h];rfl);rw[hx]at hf;unfold mU;dsimp only;split
  ·exact⟨fS hP rfl rfl rfl rfl,by show 0<=(2:Int)/\(2:Int)<=3;decide,λe1 _=>by simp[Rn.gd]at e1⟩
  ·next bm=>have H1:=AQ (p:=p) (tag:=N x.c) hP (ej hf.1).2.2 (gr (e:=N x.b) bm) (cw r).iX (EC E (uP hf.2.2.1).2.2);exact JA
 ·
  have e:aJ p c x (s,cw r)=pC (aC p c) x (s,cw r):=by unfold aJ;rw[h];rfl
  rw[e];have hf:=eO E C (k:=31) (by rw[hx,h];rfl);rw[hx]at hf;obtain⟨k0,k1⟩:=empty O;unfold pC;dsimp only;cases hk:s.f (cw r).key with
  |some m=>dsimp only;exact wT
  |none=>dsimp only;obtain⟨a,b,_⟩:=yq hA (ej hf.1).2.2 (gN hf.2.1).2.2 (v:=⟨(cw r).key,λ_=>0⟩) hk (λt=>by show(0:Int)<=0/\(0:Int)<=255;decide) a0f.key k1;obtain⟨t1,t2,t3,t4,t5,t6⟩:=yx (S:=aC p c) (x:=(s,cw r)) (q:=N x.a) (e:=N x.b) (v:=⟨(cw r).key,λ_=>0⟩) tA;exact JC
 ·
  have e:aJ p c x (s,cw r)=xV (aC p c) x (s,cw r):=by unfold aJ;rw[h];rfl
  rw[e];have hf:=eO E C (k:=32) (by rw[hx,h];rfl);rw[hx]at hf;obtain⟨k0,k1⟩:=empty O;unfold xV;dsimp only;cases hk:s.f (cw r).key with
  |none=>dsimp only;exact wT
  |some m=>dsimp only;obtain⟨q,hq,hm,_⟩:=(hinv.idx _ m).1 hk;rw[mT hinv.wf hq hm];obtain⟨o1,o2⟩:=Ez (x:=(s,cw r)) hA hq hm k1;obtain⟨a,b,_⟩:=yq o1 (ej hf.1).2.2 (gN hf.2.1).2.2 (v:=s.a.val m) o2 (hinv.tag q m hq hm) (hinv.key q m hq hm) k1;obtain⟨t1,t2,t3,t4,t5,t6⟩:=yx (S:=aC p c) (x:=uJ (aC p c) (s,cw r) m q) (q:=N x.a) (e:=N x.b) (v:=s.a.val m) tA;exact JC
 ·
  have e:aJ p c x (s,cw r)=pD (aC p c) (s,cw r):=by unfold aJ;rw[h];rfl
  rw[e];obtain⟨k0,k1⟩:=empty O;unfold pD;dsimp only;cases hk:s.f (cw r).key with
  |none=>dsimp only;exact wT
  |some m=>
   dsimp only;obtain⟨q,hq,hm,_⟩:=(hinv.idx _ m).1 hk;rw[mT hinv.wf hq hm];split
   ·obtain⟨o1,o2⟩:=Ez (x:=(s,cw r)) hA hq hm k1;refine dF E C (by rw[hx];exact hs) o1 (.inl nj) (λ_=>rfl) (λ_=>?_) rfl (λ_=>?_) iz
    ·exact Cc
    ·exact Cd
   ·exact wT
 ·
  have e:aJ p c x (s,cw r)=(bC (aC p c) (s,cw r) (N x.a) (N x.b)).1:=by unfold aJ;rw[h];rfl
  rw[e];have hf:=eO E C (k:=34) (by rw[hx,h];rfl);rw[hx]at hf;obtain⟨k0,k1⟩:=empty O;obtain⟨a,_,_⟩:=yr hA (ej hf.1).2.2 (gN hf.2.1).2.2 k1;obtain⟨t1,t2,t3,t4,t5,t6⟩:=AS (S:=aC p c) (x:=(s,cw r)) (q:=N x.a) (e:=N x.b);cases X:(bC (aC p c) (s,cw r) (N x.a) (N x.b)).2 with
  |false=>have:=t1 X;exact JD
  |true=>
   obtain⟨u1,u2⟩:=t6 X;refine dF E C (by rw[hx];exact hs) a (.inl (u1.trans tA)) (λ_=>t2) (λ_=>?_) t4 (λ_=>?_) (t5.trans iz)
   ·exact tP
   ·rw[hx];unfold bE;rw[aw O,aw O,bk O];constructor
    ·intro h';split at h'<;>simp at h'
    ·intro h';exact absurd h' u2
 ·
  have e:aJ p c x (s,cw r)=(dX (aC p c) (s,cw r) (N x.a) (N x.b)).1:=by unfold aJ;rw[h];rfl
  rw[e];have hf:=eO E C (k:=35) (by rw[hx,h];rfl);rw[hx]at hf;obtain⟨a,b⟩:=Qi hA (ej hf.1).2.2 (gN hf.2.1).2.2 (full O);obtain⟨t1,t2,t3,t4,t5⟩:=uR (S:=aC p c) (x:=(s,cw r)) (q:=N x.a) (e:=N x.b) tA;refine dF E C (by rw[hx];exact hs) a (by rcases t1 with t1|t1;exact .inl t1;exact .inr (.inl t1)) (λ_=>t2) (λ_=>?_) t4 (λ_=>?_) (t5.trans iz)
  ·exact tP
  ·rw[hx,b];unfold bE;rw[aw O,bk O];simp
 ·
  have e:aJ p c x (s,cw r)=hZ (s,cw r):=by unfold aJ;rw[h];rfl
  rw[e];refine dF E C (by rw[hx];exact hs) (sC hA (full O)) (.inl nj) (λ_=>rfl) (λ_=>?_) rfl (λ_=>?_) iz
  ·exact Cc
  ·rw[hx];unfold bE;rw[bk h];have:=full O;constructor
   ·intro h';simp at h'
   ·intro h';exact absurd h' this
 ·
  have e:aJ p c x (s,cw r)=il (s,cw r):=by unfold aJ;rw[h];rfl
  rw[e];refine dF E C (by rw[hx];exact hs) (qP hA) (.inl nj) (λ_=>rfl) (λ_=>?_) rfl (λ_=>?_) iz
  ·exact Cc
  ·rw[hx];unfold bE;rw[aw O,bk O];simp[il]
 all_goals
  obtain⟨k0,k1⟩:=empty O;have Rw:br p 1 x.a=true/\br p 4 x.b=true:=by
   rcases(show x.op=38\/x.op=39\/x.op=40\/x.op=41 by omega)with h'|h'|h'|h'
   ·have hf:=eO E C (k:=38) (by rw[hx,h'];rfl);rw[hx]at hf;exact⟨hf.1,hf.2.1⟩
   ·have hf:=eO E C (k:=39) (by rw[hx,h'];rfl);rw[hx]at hf;exact⟨hf.1,hf.2.1⟩
   ·have hf:=eO E C (k:=40) (by rw[hx,h'];rfl);rw[hx]at hf;exact⟨hf.1,hf.2.1⟩
   ·have hf:=eO E C (k:=41) (by rw[hx,h'];rfl);rw[hx]at hf;exact⟨hf.1,hf.2.1⟩
  obtain⟨a,_,_⟩:=yr hA (ej Rw.1).2.2 (gN Rw.2).2.2 k1;obtain⟨t1,t2,t3,t4,t5,t6⟩:=AS (S:=aC p c) (x:=(s,cw r)) (q:=N x.a) (e:=N x.b)
 ·have e:aJ p c x (s,cw r)=qD (aC p c) x (s,cw r):=by unfold aJ;rw[h];rfl
  rw[e];have hf:=eO E C (k:=38) (by rw[hx,h];rfl);rw[hx]at hf;unfold qD;dsimp only;cases X:(bC (aC p c) (s,cw r) (N x.a) (N x.b)).2 with
  |false=>exact wU
  |true=>
   obtain⟨u1,u2⟩:=t6 X;simp only[if_true];generalize(bC (aC p c) (s,cw r) (N x.a) (N x.b)).1=y at*;obtain⟨a2,b2⟩:=Qi a (ej hf.2.2.1).2.2 (gN hf.2.2.2).2.2 u2;obtain⟨v1,v2,v3,v4,v5⟩:=uR (S:=aC p c) (x:=y) (q:=N x.c) (e:=N x.d) (u1.trans tA);refine dF E C (by rw[hx];exact hs) a2 (by rcases v1 with v1|v1;exact .inl v1;exact .inr (.inl v1)) (λ_=>v2.trans t2) (λ_=>?_) (v4.trans t4) (λ_=>?_) (v5.trans (t5.trans iz))
   ·rw[v3,t3,hx,js (by rw[h];rfl) (by rw[h];rfl)];exact Ys
   ·rw[hx,b2];unfold bE;rw[aw O,aw O,aw O];simp[k0]
 ·have e:aJ p c x (s,cw r)=qE (aC p c) x (s,cw r):=by unfold aJ;rw[h];rfl
  rw[e];have hf:=eO E C (k:=39) (by rw[hx,h];rfl);rw[hx]at hf;unfold qE;dsimp only;cases X:(bC (aC p c) (s,cw r) (N x.a) (N x.b)).2 with
  |false=>exact wU
  |true=>
   obtain⟨u1,u2⟩:=t6 X;simp only[if_true];generalize(bC (aC p c) (s,cw r) (N x.a) (N x.b)).1=y at*;have a1:=sC a u2;obtain⟨a2,b2⟩:=Qi a1 (ej hf.2.2.1).2.2 (gN hf.2.2.2).2.2 u2;obtain⟨v1,v2,v3,v4,v5⟩:=uR (S:=aC p c) (x:=hZ y) (q:=N x.c) (e:=N x.d) (u1.trans tA);refine dF E C (by rw[hx];exact hs) a2 (by rcases v1 with v1|v1;exact .inl v1;exact .inr (.inl v1)) (λ_=>v2.trans t2) (λ_=>?_) (v4.trans t4) (λ_=>?_) (v5.trans (t5.trans iz))
   ·rw[v3];show AO y.2.stack _;exact tP
   ·rw[hx,b2];unfold bE;rw[aw O,aw O,aw O];simp[k0]
 ·have e:aJ p c x (s,cw r)=qF (aC p c) x (s,cw r):=by unfold aJ;rw[h];rfl
  rw[e];unfold qF;dsimp only;cases X:(bC (aC p c) (s,cw r) (N x.a) (N x.b)).2 with
  |false=>exact wU
  |true=>obtain⟨u1,u2⟩:=t6 X;simp only[if_true];generalize(bC (aC p c) (s,cw r) (N x.a) (N x.b)).1=y at*;have a1:=qP (sC a u2);exact JB
 ·have e:aJ p c x (s,cw r)=vM (aC p c) x (s,cw r):=by unfold aJ;rw[h];rfl
  rw[e];unfold vM;dsimp only;cases X:(bC (aC p c) (s,cw r) (N x.a) (N x.b)).2 with
  |false=>exact wU
  |true=>obtain⟨u1,u2⟩:=t6 X;simp only[if_true];generalize(bC (aC p c) (s,cw r) (N x.a) (N x.b)).1=y at*;have a1:=qP a;exact JB
def JE(E:Env p c T)(C:gz p T r st)(a0f:fJ (aC p c) p.vars.length s0 (s,r)):qO p T (aC p c) s0 (aJ p c (al p r.at_) (s,cw r)):=by
 by_cases h1:(al p r.at_).op<=21
 ·exact Hh E C a0f h1
 ·by_cases h2:(al p r.at_).op<=27
  ·exact Lt E C a0f O h2
  ·exact Hi E C a0f O
end
section
def iu(p:aQ)(g:Nat->Nat)(pc:Nat):Nat:=
 let x:=al p pc
 if x.op=0\/x.op=27 then 1
 else if x.op=22 then 1+g x.a.toNat
 else if x.op=23 then 1+max (g (pc+1)) (g x.a.toNat)
 else if x.op=24 then(1+x.a.toNat*(1+g (pc+2)))+(1+g (al p (pc+1)).a.toNat)
 else 1+g (pc+1)
def lQ(p:aQ):Nat->(Nat->Nat)
 |0=>λ_=>0
 |k+1=>let g:=lQ p k;aR g (p.code.length-1-k) (iu p g (p.code.length-1-k))
def iA(p:aQ):Nat->Nat:=lQ p p.code.length
def AT(a b:Nat):bG (min a MS) (min b MS)=min (a+b) MS:=by unfold bG MS;split<;>omega
def kH(b:Nat):bG 1 (min b MS)=min (1+b) MS:=by have:=AT 1 b;rwa[show min 1 MS=1 from by unfold MS;decide]at this
def Hj(a b:Nat):eM a (min b MS)=min (a*b) MS:=by
 unfold eM;by_cases X:b<=MS
 ·rw[Nat.min_eq_left X];split<;>omega
 ·rw[Nat.min_eq_right O];cases a with
  |zero=>simp
  |succ a=>have h1:MS<=(a+1)*MS:=Nat.le_mul_of_pos_left _ O;have h2:MS<=(a+1)*b:=cU O (Nat.le_mul_of_pos_left b (show 0<a+1 by omega));split<;>omega
def Hk(p:aQ)(g:Nat->Nat)(pc:Nat):lP p (λi=>min (g i) MS) pc=min (iu p g pc) MS:=by
 unfold lP iu;dsimp only;have h1:min 1 MS=1:=by unfold MS;decide
 split
 ·rw[h1]
 split
 ·exact kH _
 split
 ·rw[show max (min (g (pc+1)) MS) (min (g (al p pc).a.toNat) MS)=min (max (g (pc+1)) (g (al p pc).a.toNat)) MS by omega];exact kH _
 split
 ·rw[kH,kH,Hj,kH,AT]
 ·exact kH _
def Lw(p:aQ)(k:Nat):dQ p k=λi=>min (lQ p k i) MS:=by
 induction k with
 |zero=>funext i;simp[dQ,lQ]
 |succ k ih=>
  funext i;unfold dQ lQ;dsimp only;rw[ih];simp only[dq];split
  ·exact Hk p (lQ p k) _
  ·rfl
def Lx(p:aQ)(i:Nat):lB p i=min (iA p i) MS:=by unfold lB iA;rw[Lw]
def vR(p:aQ)(k j:Nat)(d:Nat)(h:p.code.length-k<=j)(hk:k+d<=p.code.length):lQ p (k+d) j=lQ p k j:=by
 induction d with
 |zero=>rfl
 |succ d ih=>show aR (lQ p (k+d)) (p.code.length-1 - (k+d)) (iu p (lQ p (k+d)) (p.code.length-1 - (k+d))) j=_;rw[ak _ _ O,ih O]
def ED{p:aQ}{pc:Nat}(oT:pc<p.code.length)(h1:(al p pc).op=22\/(al p pc).op=23->pc<(al p pc).a.toNat)(h2:(al p pc).op=24->pc<(al p (pc+1)).a.toNat):
 iA p pc=iu p (iA p) pc:=by
 have hk:∀j,pc<j->iA p j=lQ p (p.code.length-1-pc) j:=λj hj=>by have:=vR p (p.code.length-1-pc) j (pc+1) O O;rw[show p.code.length-1-pc+(pc+1)=p.code.length by omega]at this;exact this
 have h0:iA p pc=iu p (lQ p (p.code.length-1-pc)) pc:=by have:=vR p (p.code.length-1-pc+1) pc pc O O;rw[show p.code.length-1-pc+1+pc=p.code.length by omega]at this;refine this.trans ?_;show aR _ (p.code.length-1 - (p.code.length-1-pc)) _ pc=_;rw[show p.code.length-1 - (p.code.length-1-pc)=pc by omega,an]
 rw[h0];unfold iu;dsimp only;split
 ·rfl
 split
 ·next h=>rw[hk _ (h1 (.inl h))]
 split
 ·next h=>rw[hk _ (h1 (.inr h)),hk _ O]
 split
 ·next h=>rw[hk _ (h2 h),hk (pc+2) O]
 ·rw[hk _ O]
def kI(p:aQ)(t:Nat)(m:Int):Nat:=m.toNat*(1+iA p (t+1))+(1+iA p (al p t).a.toNat)
def outer(p:aQ):List Nat->List Int->Nat
 |t::lo,m::l=>kI p t m+outer p lo l
 |_,_=>0
def left(p:aQ)(r:Rn)(st:Std):Nat:=
 if(al p r.at_).op=25 then kI p r.at_ (r.loops.headD 0)+outer p st.lo r.loops.tail else iA p r.at_+outer p st.lo r.loops
def yC{S:Sys}{x:SR}{q e:Nat}{v:eU}:(iZ S x q e v).1.2.at_=x.2.at_/\(iZ S x q e v).1.2.loops=x.2.loops:=by unfold iZ;split<;>exact⟨rfl,rfl⟩
def fw{S:Sys}{x:SR}{q e:Nat}:(bC S x q e).1.2.at_=x.2.at_/\(bC S x q e).1.2.loops=x.2.loops:=by unfold bC;split<;>exact⟨rfl,rfl⟩
def np{S:Sys}{x:SR}{q e:Nat}:(dX S x q e).1.2.at_=x.2.at_/\(dX S x q e).1.2.loops=x.2.loops:=by unfold dX;exact yC
def a8{α:Type}{P:α->Prop}{c:Prop}[Decidable c]{a b:α}(h1:c->P a)(h2:¬c->P b):P (if c then a else b):=by
 by_cases h:c
 ·rw[bk h];exact h1 h
 ·rw[aw h];exact h2 h
def nh(x y:SR):Prop:=y.2.at_=x.2.at_/\y.2.loops=x.2.loops
def Ce{p:aQ}{c:Cp}{i:Ins}{x:SR}(h:db i.op):nh x (aJ p c i x):=by
 unfold db at h;unfold aJ;dsimp only;refine a8 (λ_=>⟨rfl,rfl⟩) (λ_=>?_);refine a8 (λ_=>⟨rfl,rfl⟩) (λ_=>?_);refine a8 (λ_=>⟨rfl,rfl⟩) (λ_=>?_);refine a8 (λ_=>⟨rfl,rfl⟩) (λ_=>?_);refine a8 (λ_=>⟨rfl,rfl⟩) (λ_=>?_);refine a8 (λ_=>⟨rfl,rfl⟩) (λ_=>?_);refine a8 (λ_=>⟨rfl,rfl⟩) (λ_=>?_);refine a8 (λ_=>⟨rfl,rfl⟩) (λ_=>?_);refine a8 (λ_=>?_) (λ_=>?_)
 ·unfold xW;split<;>exact⟨rfl,rfl⟩
 refine a8 (λ_=>?_) (λ_=>?_)
 ·unfold pE;split<;>exact⟨rfl,rfl⟩
 refine a8 (λ_=>⟨rfl,rfl⟩) (λ_=>?_);refine a8 (λ_=>⟨rfl,rfl⟩) (λ_=>?_);refine a8 (λ_=>⟨rfl,rfl⟩) (λ_=>?_);refine a8 (λ_=>by omega) (λ_=>?_);refine a8 (λ_=>by omega) (λ_=>?_);refine a8 (λ_=>by omega) (λ_=>?_);refine a8 (λ_=>by omega) (λ_=>?_);refine a8 (λ_=>by omega) (λ_=>?_);refine a8 (λ_=>⟨rfl,rfl⟩) (λ_=>?_);refine a8 (λ_=>?_) (λ_=>?_)
 ·unfold su;split<;>exact⟨rfl,rfl⟩
 refine a8 (λ_=>?_) (λ_=>?_)
 ·unfold mU;split<;>exact⟨rfl,rfl⟩
 refine a8 (λ_=>?_) (λ_=>?_)
 ·unfold pC;split
  ·exact⟨rfl,rfl⟩
  ·exact yC
 refine a8 (λ_=>?_) (λ_=>?_)
 ·unfold xV;split
  ·exact⟨rfl,rfl⟩
  ·exact yC (x:=uJ _ x _ _)
 refine a8 (λ_=>?_) (λ_=>?_)
 ·unfold pD;split
  ·exact⟨rfl,rfl⟩
  ·split<;>exact⟨rfl,rfl⟩
 refine a8 (λ_=>fw) (λ_=>?_);refine a8 (λ_=>np) (λ_=>?_);refine a8 (λ_=>⟨rfl,rfl⟩) (λ_=>?_);refine a8 (λ_=>⟨rfl,rfl⟩) (λ_=>?_);refine a8 (λ_=>?_) (λ_=>?_)
 ·unfold qD;dsimp only;split
  ·exact⟨np.1.trans fw.1,np.2.trans fw.2⟩
  ·exact fw
 refine a8 (λ_=>?_) (λ_=>?_)
 ·unfold qE;dsimp only;split
  ·exact⟨(np (x:=hZ _)).1.trans fw.1,(np (x:=hZ _)).2.trans fw.2⟩
  ·exact fw
 refine a8 (λ_=>?_) (λ_=>?_)
 ·unfold qF;dsimp only;split
  ·exact fw
  ·exact fw
 ·unfold vM;dsimp only;split
  ·exact fw
  ·exact fw
variable {p:aQ}{c:Cp}{T:Map}{s0 s:St}{r:Rn}{st:Std}
def kU{y:Rn}{st' a:Std}{n:Nat}(C:gz p T y st')(h:T n=some a)(e:y.at_=n):st'=a:=by have:=C.ke.at_;rw[e,h]at this;exact(sd this).symm
def eW{y:Rn}(h:(al p y.at_).op≠25):left p y st=iA p y.at_+outer p st.lo y.loops:=by unfold left;rw[aw h]
def Cf{y:Rn}(h:(al p y.at_).op=25):left p y st=kI p y.at_ (y.loops.headD 0)+outer p st.lo y.loops.tail:=by unfold left;rw[bk h]
def AU(E:Env p c T){t:Nat}{a:Std}(h:qN p T t a)(Pq:(al p t).op=25):(t:Int)<(al p t).a:=by
 have hj:=h.jumps;unfold cP at hj;split at hj
 ·simp at hj
 ·next h'=>
  by_cases be:(t:Int)<(al p t).a
  ·exact be
  ·exact absurd ⟨.inr (.inr (.inl Pq)),.inl O⟩ h'
def yD(E:Env p c T)(C:gz p T r st){st':Std}(C':gz p T (aJ p c (al p r.at_) (s,cw r)).2 st'):left p (aJ p c (al p r.at_) (s,cw r)).2 st'+1<=left p r st:=by
 have hl:=C.loops;have eD:=C.ke.jumps;have tQ:=C.ke.ways;have ON:=λ(Rt:(al p r.at_).op≠24) (w:Nat×Std) (hw:w∈gg p r.at_ st)=>EA E.rQ C.ke Rt hw;have hjh:=λh=>yz C.ke h;have be:=C.lt;have xu:=ED (p:=p) (pc:=r.at_) C.lt;have h0:(aJ p c (al p r.at_) (s,cw r)).2.done=false:=C'.done;generalize hy:(aJ p c (al p r.at_) (s,cw r)).2=y at*;by_cases hs:db (al p r.at_).op
 ·obtain⟨e1,e2⟩:=Ce (p:=p) (c:=c) (x:=(s,cw r)) hs;rw[hy]at e1 e2;have e1:y.at_=r.at_+1:=e1;have e2:y.loops=r.loops:=e2;have hw:=tN (st:=st) hs;have fL:=kU C' (tQ _ hw).2 e1;unfold db at hs;have hn:=ON O _ hw;rw[eW (y:=y) (by rw[e1];exact hn),eW O,fL,e1,e2,xu O O];unfold iu;dsimp only;rw[aw O,aw O,aw O,aw O];omega
 ·generalize hx:al p r.at_=x at*;have hc:x.op=0\/x.op=22\/x.op=23\/x.op=24\/x.op=25\/x.op=26\/x.op=27:=by unfold db at hs;omega
  rcases hc with h|h|h|h|h|h|h
  ·have e:aJ p c x (s,cw r)=(s,{cw r with done:=true}):=by unfold aJ;rw[h];rfl
   rw[e]at hy;rw[<-hy]at h0;simp at h0
  ·have e:aJ p c x (s,cw r)=(s,{cw r with at_:=N x.a}):=by unfold aJ;rw[h];rfl
   rw[e]at hy;have e1:y.at_=N x.a:=by rw[<-hy]
   have e2:y.loops=r.loops:=by rw[<-hy];rfl
   have hw:(N x.a,(⟨a_ x st.ty,st.lo,bE p x st.ha⟩:Std))∈gg p r.at_ st:=by unfold gg cH;rw[hx,aw O,bk h];simp[N]
   have fL:=kU C' (tQ _ hw).2 e1;have hn:=ON O _ hw;have hg:=hjh (.inl h);rw[eW (y:=y) (by rw[e1];exact hn),eW (y:=r) (by rw[hx];omega),fL,e1,e2,xu O O];unfold iu;dsimp only;rw[hx,aw O,bk h];unfold N;omega
  ·have e:aJ p c x (s,cw r)=(s,if(cw r).iX=0 then{(cw r).pop with at_:=N x.a}else(cw r).pop):=by unfold aJ;rw[h];rfl
   rw[e]at hy;have nJ:(r.at_+1,(⟨a_ x st.ty,st.lo,bE p x st.ha⟩:Std))∈gg p r.at_ st/\(N x.a,(⟨a_ x st.ty,st.lo,bE p x st.ha⟩:Std))∈gg p r.at_ st:=by unfold gg cH;rw[hx,aw O,aw O,bk h];simp[N]
   have hg:=hjh (.inr (.inl h));have hf:iA p r.at_=1+max (iA p (r.at_+1)) (iA p (N x.a)):=by rw[xu O O];unfold iu;dsimp only;rw[hx,aw O,aw O,bk h];rfl
   have e2:y.loops=r.loops:=by rw[<-hy];dsimp only;split<;>rfl
   by_cases ht:(cw r).iX=0
   ·have e1:y.at_=N x.a:=by rw[<-hy];dsimp only;rw[bk ht]
    rw[eW (y:=y) (by rw[e1];exact ON O _ nJ.2),eW (y:=r) (by rw[hx];omega),kU C' (tQ _ nJ.2).2 e1,e1,e2,hf];dsimp only;omega
   ·have e1:y.at_=r.at_+1:=by rw[<-hy];dsimp only;rw[aw ht];rfl
    rw[eW (y:=y) (by rw[e1];exact ON O _ nJ.1),eW (y:=r) (by rw[hx];omega),kU C' (tQ _ nJ.1).2 e1,e1,e2,hf];dsimp only;omega
  ·have e:aJ p c x (s,cw r)=(s,{cw r with loops:=x.a::(cw r).loops}):=by unfold aJ;rw[h];rfl
   rw[e]at hy;have e1:y.at_=r.at_+1:=by rw[<-hy];rfl
   have e2:y.loops=x.a::r.loops:=by rw[<-hy];rfl
   have hw:(r.at_+1,(⟨a_ x st.ty,st.lo,bE p x st.ha⟩:Std))∈gg p r.at_ st:=by unfold gg cH;rw[hx,aw O,aw O,aw O,aw O,aw O];simp
   have fL:=kU C' (tQ _ hw).2 e1;have Pq:(al p (r.at_+1)).op=25:=by unfold cP at eD;rw[aw O,bk h]at eD;simp at eD;exact eD.2
   have hg:=AU E (by have:=C'.ke;rw[e1]at this;exact this) Pq;have hf:iA p r.at_=(1+x.a.toNat*(1+iA p (r.at_+2)))+(1+iA p (al p (r.at_+1)).a.toNat):=by rw[xu O (λ_=>by omega)];unfold iu;dsimp only;rw[hx,aw O,aw O,aw O,bk h]
   rw[Cf (y:=y) (by rw[e1];exact Pq),eW (y:=r) (by rw[hx];omega),fL,e1,e2,hf];unfold kI;dsimp only[List.headD,List.tail];rw[show r.at_+1+1=r.at_+2 from rfl];omega
  ·have e:aJ p c x (s,cw r)=tG x (s,cw r):=by unfold aJ;rw[h];rfl
   rw[e]at hy;unfold tG at hy;rw[Cf (y:=r) (by rw[hx];exact h)];have nJ:(r.at_+1,(⟨a_ x st.ty,r.at_::st.lo,bE p x st.ha⟩:Std))∈gg p r.at_ st/\(N x.a,(⟨a_ x st.ty,st.lo,bE p x st.ha⟩:Std))∈gg p r.at_ st:=by unfold gg cH;rw[hx,aw O,aw O,aw O,bk h];simp[N]
   have yA:0<=r.loops.headD 0:=by
    cases jo:r.loops with
    |nil=>simp
    |cons n l=>exact(C.lin n (by rw[jo];simp)).1
   by_cases hz:(s,cw r).2.loops.headD 0=0
   ·rw[bk hz]at hy;have e1:y.at_=N x.a:=by rw[<-hy];rfl
    have e2:y.loops=r.loops.tail:=by rw[<-hy];rfl
    rw[eW (y:=y) (by rw[e1];exact ON O _ nJ.2),kU C' (tQ _ nJ.2).2 e1,e1,e2];unfold kI;rw[hx];unfold N;dsimp only;omega
   ·rw[aw hz]at hy;have e1:y.at_=r.at_+1:=by rw[<-hy];rfl
    have e2:y.loops=(r.loops.headD 0-1)::r.loops.tail:=by rw[<-hy];rfl
    rw[eW (y:=y) (by rw[e1];exact ON O _ nJ.1),kU C' (tQ _ nJ.1).2 e1,e1,e2];have hz':r.loops.headD 0≠0:=hz;generalize r.loops.headD 0=m at*;show iA p (r.at_+1)+(kI p r.at_ (m-1)+outer p st.lo r.loops.tail)+1<=kI p r.at_ m+outer p st.lo r.loops.tail;unfold kI;have:m.toNat=(m-1).toNat+1:=O;rw[this,Nat.add_mul];omega
  ·have e:aJ p c x (s,cw r)=tH x (s,cw r):=by unfold aJ;rw[h];rfl
   rw[e]at hy;unfold tH at hy;dsimp only at hy;rw[eW (y:=r) (by rw[hx];omega)];have nJ:(r.at_+1,(⟨a_ x st.ty,st.lo,bE p x st.ha⟩:Std))∈gg p r.at_ st/\(N x.a,(⟨a_ x st.ty,st.lo.tail,bE p x st.ha⟩:Std))∈gg p r.at_ st:=by unfold gg cH;rw[hx,aw O,aw O,aw O,aw O,bk h];simp[N]
   have hf:iA p r.at_=1+iA p (r.at_+1):=by rw[xu O O];unfold iu;dsimp only;rw[hx,aw O,aw O,aw O,aw O]
   by_cases ht:(cw r).iX=0
   ·rw[bk ht]at hy;have e1:y.at_=N x.a:=by rw[<-hy];rfl
    have e2:y.loops=r.loops.tail:=by rw[<-hy];rfl
    rw[eW (y:=y) (by rw[e1];exact ON O _ nJ.2),kU C' (tQ _ nJ.2).2 e1,e1,e2];rw[aw O]at hl;unfold cP at eD;split at eD
    ·simp at eD
    cases jo:st.lo with
    |nil=>rw[jo]at eD;simp[h]at eD
    |cons t lo=>
     rw[jo]at eD hl;rw[aw O,aw O]at eD;simp only[ft]at eD;cases uS:r.loops with
     |nil=>rw[uS]at hl;simp at hl
     |cons m l=>show iA p (N x.a)+outer p lo l+1<=iA p r.at_+(kI p t m+outer p lo l);unfold kI;rw[<-eD];unfold N;omega
   ·rw[aw ht]at hy;have e1:y.at_=r.at_+1:=by rw[<-hy];rfl
    have e2:y.loops=r.loops:=by rw[<-hy];rfl
    rw[eW (y:=y) (by rw[e1];exact ON O _ nJ.1),kU C' (tQ _ nJ.1).2 e1,e1,e2,hf];dsimp only;omega
  ·have e:aJ p c x (s,cw r)=(s,{cw r with at_:=N x.a}):=by unfold aJ;rw[h];rfl
   rw[e]at hy;have e2:y.loops=r.loops:=by rw[<-hy];rfl
   rw[eW (y:=r) (by rw[hx];omega)];rw[aw O]at hl;have hf:iA p r.at_=1:=by rw[xu O O];unfold iu;dsimp only;rw[hx,bk (.inr h)]
   unfold cP at eD;rw[aw O,aw O,aw O,aw O,bk h]at eD;cases jo:st.lo with
   |nil=>rw[jo]at eD;simp at eD
   |cons t lo=>
    rw[jo]at eD hl;dsimp only at eD;have EB:=E.rQ.loops _ _ C.ke.at_;rw[jo]at EB;obtain⟨ht1,Yq,s',Ea,rF⟩:=EB;simp only[fp,ft]at eD;have Lv:N x.a=t:=by unfold N;omega
    have e1:y.at_=t:=by rw[<-hy];exact Lv
    have fL:=kU C' Ea e1;cases uS:r.loops with
    |nil=>rw[uS]at hl;simp at hl
    |cons m l=>rw[Cf (y:=y) (by rw[e1];exact Yq),fL,e1,e2,uS,rF,hf];show kI p t m+outer p lo l+1<=1+(kI p t m+outer p lo l);omega
end
section
def fG(p:aQ)(c:Cp)(x:SR):SR:=aJ p c (al p x.2.at_) (x.1,cw x.2)
def xj(x:SR):Bool:=x.2.done|| !(decide (x.2.bY=0))
def lR(p:aQ)(c:Cp):Nat->SR->Nat×SR
 |0,x=>(0,x)
 |f+1,x=>if xj (fG p c x)then(1,fG p c x)else((lR p c f (fG p c x)).1+1,(lR p c f (fG p c x)).2)
structure Small(n:Nat)(r:Rn):Prop where
 stack:r.stack.length<=n
 loops:r.loops.length<=n
 told:r.told.length<=n
 bz:r.bz.length<=2*n
structure Ly(k:Nat)(x y:SR):Prop where
 stack:y.2.stack.length<=x.2.stack.length+1
 loops:y.2.loops.length<=x.2.loops.length+1
 told:y.2.told.length<=x.2.told.length+1
 bz:y.2.bz.length<=x.2.bz.length+k
 key:y.2.key=x.2.key
def Ly.more{k k':Nat}{x y:SR}(h:Ly k x y)(hk:k<=k'):Ly k' x y:=⟨h.stack,h.loops,h.told,by have:=h.bz;omega,h.key⟩
structure yE(k:Nat)(x y:SR):Prop where
 stack:y.2.stack=x.2.stack
 loops:y.2.loops=x.2.loops
 told:y.2.told=x.2.told
 bz:y.2.bz.length<=x.2.bz.length+k
 key:y.2.key=x.2.key
def yE.trans{k k':Nat}{x y z:SR}(h:yE k x y)(g:yE k' y z):yE (k+k') x z:=
 ⟨g.stack.trans h.stack,g.loops.trans h.loops,g.told.trans h.told,by have:=h.bz;have:=g.bz;omega,g.key.trans h.key⟩
def yE.grow{k k':Nat}{x y:SR}(h:yE k x y)(hk:k<=k'):Ly k' x y:=
 ⟨by rw[h.stack];omega,by rw[h.loops];omega,by rw[h.told];omega,by have:=h.bz;omega,h.key⟩
def uT{S:Sys}{x:SR}{q e:Nat}{v:eU}:yE 1 x (iZ S x q e v).1:=by
 unfold iZ;split
 ·exact⟨rfl,rfl,rfl,dK _ _,rfl⟩
 ·exact⟨rfl,rfl,rfl,aL _,rfl⟩
def fT{S:Sys}{x:SR}{q e:Nat}:yE 1 x (bC S x q e).1:=by
 unfold bC;split
 ·exact⟨rfl,rfl,rfl,dK _ _,rfl⟩
 ·exact⟨rfl,rfl,rfl,aL _,rfl⟩
def AV{S:Sys}{x:SR}{n q:Nat}:yE 1 x (uJ S x n q):=⟨rfl,rfl,rfl,aL _,rfl⟩
def qQ{S:Sys}{x:SR}{q e:Nat}:yE 1 x (dX S x q e).1:=by have h:=uT (S:=S) (x:=(x.1,{x.2 with hand:=none})) (q:=q) (e:=e) (v:=rP x.2);exact⟨h.stack,h.loops,h.told,h.bz,h.key⟩
def L8{p:Prop}(h:p:=by
 exact⟨by simp[Rn.pop,Rn.gd];omega,dK _ _,dK _ _,dK _ _,rfl⟩):p:=h
def S9{p:Prop}(h:p:=by
 exact⟨by simp[tF,Rn.pop,Rn.note];omega,dK _ _,dK _ _,by simp[tF,Rn.pop,Rn.note],rfl⟩):p:=h
def Lz{p:Prop}(h:p:=by
 exact S0 _ (dK _ _) rfl rfl rfl rfl):p:=h
def AW(p:aQ)(c:Cp)(i:Ins)(x:SR):Ly 2 x (aJ p c i x):=by
 have S0:∀y:SR,y.2.stack.length<=x.2.stack.length+1->y.2.loops=x.2.loops->y.2.told=x.2.told->y.2.bz=x.2.bz->y.2.key=x.2.key->Ly 2 x y:=λy h1 h2 h3 h4 h5=>
  ⟨h1,by rw[h2];omega,by rw[h3];omega,by rw[h4];omega,h5⟩
 have pu:∀(r:Rn) (n:Int),(r.push n).stack.length=r.stack.length+1:=λr n=>by simp[Rn.push]
 have po:∀(r:Rn),r.pop.stack.length<=r.stack.length:=λr=>by simp[Rn.pop]
 unfold aJ;dsimp only;refine a8 (λ_=>S0 _ (dK _ _) rfl rfl rfl rfl) (λ_=>?_);refine a8 (λ_=>S0 _ (by dsimp only;rw[pu];omega) rfl rfl rfl rfl) (λ_=>?_);refine a8 (λ_=>S0 _ (by dsimp only;rw[pu];omega) rfl rfl rfl rfl) (λ_=>?_);refine a8 (λ_=>S0 _ (by dsimp only;rw[pu];omega) rfl rfl rfl rfl) (λ_=>?_);refine a8 (λ_=>S0 _ (by dsimp only;rw[pu];omega) rfl rfl rfl rfl) (λ_=>?_);refine a8 (λ_=>S0 _ (by dsimp only;rw[pu];omega) rfl rfl rfl rfl) (λ_=>?_);refine a8 (λ_=>S0 _ (by dsimp only;rw[pu];omega) rfl rfl rfl rfl) (λ_=>?_);refine a8 (λ_=>S0 _ (by unfold uK;dsimp only;rw[pu];omega) rfl rfl rfl rfl) (λ_=>?_);refine a8 (λ_=>?_) (λ_=>?_)
 ·unfold xW;split
  ·exact Lz
  ·exact S0 _ (by dsimp only;rw[pu];omega) rfl rfl rfl rfl
 refine a8 (λ_=>?_) (λ_=>?_)
 ·unfold pE;split
  ·exact Lz
  ·exact S0 _ (by dsimp only;rw[pu];omega) rfl rfl rfl rfl
 refine a8 (λ_=>S0 _ (by dsimp only;rw[pu];have:=po x.2;omega) rfl rfl rfl rfl) (λ_=>?_);refine a8 (λ_=>S0 _ (by dsimp only;rw[pu];have:=po x.2;omega) rfl rfl rfl rfl) (λ_=>?_);refine a8 (λ_=>S0 _ (by dsimp only;rw[pu];have:=po x.2;have:=po x.2.pop;omega) rfl rfl rfl rfl) (λ_=>?_);refine a8 (λ_=>S0 _ (dK _ _) rfl rfl rfl rfl) (λ_=>?_);refine a8 (λ_=>?_) (λ_=>?_)
 ·have:=po x.2;split
  ·exact S0 _ (by dsimp only;omega) rfl rfl rfl rfl
  ·exact S0 _ (by dsimp only;omega) rfl rfl rfl rfl
 refine a8 (λ_=>⟨dK _ _,ay,dK _ _,dK _ _,rfl⟩) (λ_=>?_);refine a8 (λ_=>?_) (λ_=>?_)
 ·unfold tG;split
  ·exact⟨dK _ _,by simp[wO];omega,dK _ _,dK _ _,rfl⟩
  ·exact⟨dK _ _,ay,dK _ _,dK _ _,rfl⟩
 refine a8 (λ_=>?_) (λ_=>?_)
 ·unfold tH;split
  ·exact⟨by simp[wO,Rn.pop];omega,by simp[wO,Rn.pop];omega,dK _ _,dK _ _,rfl⟩
  ·exact⟨by simp[Rn.pop];omega,dK _ _,dK _ _,dK _ _,rfl⟩
 refine a8 (λ_=>⟨by simp[BU,Rn.pop,Rn.note];omega,dK _ _,dK _ _,by simp[BU,Rn.pop,Rn.note],rfl⟩) (λ_=>?_);refine a8 (λ_=>?_) (λ_=>?_)
 ·unfold su;split
  ·exact L8
  ·exact S9
 refine a8 (λ_=>?_) (λ_=>?_)
 ·unfold mU;split
  ·exact L8
  ·exact S9
 refine a8 (λ_=>?_) (λ_=>?_)
 ·unfold pC;split
  ·exact Lz
  ·exact uT.grow bd
 refine a8 (λ_=>?_) (λ_=>?_)
 ·unfold xV;split
  ·exact Lz
  ·exact(AV.trans uT).grow bd
 refine a8 (λ_=>?_) (λ_=>?_)
 ·unfold pD;split
  ·exact Lz
  ·split
   ·exact AV.grow bd
   ·exact Lz
 refine a8 (λ_=>fT.grow bd) (λ_=>?_);refine a8 (λ_=>qQ.grow bd) (λ_=>?_);refine a8 (λ_=>⟨dK _ _,dK _ _,by simp[hZ],dK _ _,rfl⟩) (λ_=>?_);refine a8 (λ_=>S0 _ (dK _ _) rfl rfl rfl rfl) (λ_=>?_);refine a8 (λ_=>?_) (λ_=>?_)
 ·unfold qD;dsimp only;split
  ·exact(fT.trans qQ).grow bd
  ·exact fT.grow bd
 refine a8 (λ_=>?_) (λ_=>?_)
 ·unfold qE;dsimp only;split
  ·have h1:=fT (S:=aC p c) (x:=x) (q:=N i.a) (e:=N i.b);have h2:=qQ (S:=aC p c) (x:=hZ (bC (aC p c) x (N i.a) (N i.b)).1) (q:=N i.c) (e:=N i.d);refine⟨?_,?_,?_,?_,?_⟩
   ·rw[h2.stack];show(bC (aC p c) x (N i.a) (N i.b)).1.2.stack.length<=_;rw[h1.stack];omega
   ·rw[h2.loops];show(bC (aC p c) x (N i.a) (N i.b)).1.2.loops.length<=_;rw[h1.loops];omega
   ·rw[h2.told];show((bC (aC p c) x (N i.a) (N i.b)).1.2.told++_).length<=_;rw[h1.told];simp
   ·have a:=h2.bz;have b:=h1.bz;have e:(hZ (bC (aC p c) x (N i.a) (N i.b)).1).2.bz=(bC (aC p c) x (N i.a) (N i.b)).1.2.bz:=rfl;rw[e]at a;omega
   ·rw[h2.key];exact h1.key
  ·exact fT.grow bd
 refine a8 (λ_=>?_) (λ_=>?_)
 ·unfold qF;dsimp only;split
  ·have h1:=fT (S:=aC p c) (x:=x) (q:=N i.a) (e:=N i.b);refine⟨?_,?_,?_,?_,h1.key⟩
   ·show(bC (aC p c) x (N i.a) (N i.b)).1.2.stack.length<=_;rw[h1.stack];omega
   ·show(bC (aC p c) x (N i.a) (N i.b)).1.2.loops.length<=_;rw[h1.loops];omega
   ·show((bC (aC p c) x (N i.a) (N i.b)).1.2.told++_).length<=_;rw[h1.told];simp
   ·show(bC (aC p c) x (N i.a) (N i.b)).1.2.bz.length<=_;have:=h1.bz;omega
  ·exact fT.grow bd
 ·unfold vM;dsimp only;split
  ·have h1:=fT (S:=aC p c) (x:=x) (q:=N i.a) (e:=N i.b);exact yE.grow (k:=1) ⟨h1.stack,h1.loops,h1.told,h1.bz,h1.key⟩ bd
  ·exact fT.grow bd
def yF{p:aQ}{c:Cp}{x:SR}{n:Nat}(h:Small n x.2):Small (n+1) (fG p c x).2:=by
 have g:=AW p c (al p x.2.at_) (x.1,cw x.2);have g1:=g.stack;have g2:=g.loops;have g3:=g.told;have g4:=g.bz;have k1:=h.stack;have k2:=h.loops;have k3:=h.told;have k4:=h.bz;refine⟨cU g1 ?_,cU g2 ?_,cU g3 ?_,cU g4 ?_⟩
 ·show x.2.stack.length+1<=_;omega
 ·show x.2.loops.length+1<=_;omega
 ·show x.2.told.length+1<=_;omega
 ·show x.2.bz.length+2<=_;omega
variable {p:aQ}{c:Cp}{T:Map}{s0 s:St}{r:Rn}{st:Std}
def EE(E:Env p c T)(C:gz p T r st):1<=left p r st:=by
 unfold left;split
 ·unfold kI;omega
 ·next Pq=>
  have h1:=λh=>yz C.ke h;have hj:=C.ke.jumps;rw[ED C.lt (λh=>by have:=h1 O;omega) (λh=>by
   unfold cP at hj;rw[aw O,bk h]at hj;simp at hj;obtain⟨st1,hr⟩:=E.rQ.all _ hj.1;have:=AU E hr hj.2;omega)]
  unfold iu;dsimp only;split
  ·omega
  split
  ·omega
  split
  ·omega
  split<;>omega
def vS{y:SR}(h:¬xj y=true):y.2.bY=0/\y.2.done=false:=by unfold xj at h;simp at h;exact⟨h.2,by simpa using h.1⟩
def Yt(E:Env p c T):∀(f n:Nat) (s:St) (r:Rn) (st:Std),gz p T r st->fJ (aC p c) p.vars.length s0 (s,r)->Small n r->left p r st<=f->
 let z:=lR p c f (s,r)
 fJ (aC p c) p.vars.length s0 z.2/\xj z.2=true/\1<=z.1/\z.1<=f/\0<=z.2.2.bY/\z.2.2.bY<=3/\Small (n+z.1) z.2.2/\z.2.2.key=r.key:=by
 intro f
 induction f with
 |zero=>intro n s r st C a0f Q hf;have:=EE E C;omega
 |succ f ih=>
  intro n s r st C a0f Q hf;have hs:=JE E C a0f;have hq:=yF (p:=p) (c:=c) (x:=(s,r)) Q;have hk:(fG p c (s,r)).2.key=r.key:=(AW p c (al p r.at_) (s,cw r)).key;unfold lR;by_cases h:xj (fG p c (s,r))=true
  ·rw[bk h];exact⟨hs.hold,h,aL _,ay,hs.tr.1,hs.tr.2,hq,hk⟩
  ·rw[aw h];obtain⟨h1,h2⟩:=vS h;obtain⟨st',C'⟩:=hs.next h1 h2;have hl:=yD E C C';have hz:=ih (n+1) (fG p c (s,r)).1 (fG p c (s,r)).2 st' C' hs.hold hq (cU (by show left p (fG p c (s,r)).2 st'<=left p r st-1;exact Nat.le_sub_of_add_le hl) O);change fJ _ _ _ (lR p c f (fG p c (s,r))).2/\xj (lR p c f (fG p c (s,r))).2=true/\1<=(lR p c f (fG p c (s,r))).1/\(lR p c f (fG p c (s,r))).1<=f/\0<=(lR p c f (fG p c (s,r))).2.2.bY/\(lR p c f (fG p c (s,r))).2.2.bY<=3/\Small (n+1+(lR p c f (fG p c (s,r))).1) (lR p c f (fG p c (s,r))).2.2/\(lR p c f (fG p c (s,r))).2.2.key=_ at hz;obtain⟨z1,z2,z3,z4,z5,z6,z7,z8⟩:=hz;refine⟨z1,z2,by dsimp only;omega,by dsimp only;omega,z5,z6,?_,z8.trans hk⟩;rw[show n+((lR p c f (fG p c (s,r))).1+1)=n+1+(lR p c f (fG p c (s,r))).1 by omega];exact z7
def OO(p:aQ)(c:Cp)(s:St)(key:Nat):Int:=match s.f key with|none=>p.aT|some n=>p.on.getD (Rs (aC p c) s.a n) 0
def rG(p:aQ)(c:Cp)(s:St)(key:Nat):Bool:=match s.f key with|none=>false|some n=> !(p.bw.getD (Rs (aC p c) s.a n) false)
def iB(key a:Nat):Rn:=⟨key,a,[],[],none,[],0,[],false⟩
def jC:Nat:=20000
def uz(p:aQ)(c:Cp)(s:St)(key:Nat):Nat×SR:=if OO p c s key<0 then(0,(s,iB key 0))else lR p c jC (s,iB key (OO p c s key).toNat)
def jc(p:aQ)(c:Cp)(s:St)(key:Nat):Int:=(uz p c s key).2.2.bY
def nr(p:aQ)(c:Cp)(s:St)(key:Nat):St:=if jc p c s key=0 then(uz p c s key).2.1 else s
def rR(p:aQ)(c:Cp)(s:St)(key:Nat):List Nat:=(uz p c s key).2.2.told
def nw(p:aQ):Prop:=∀n,n∈p.on++[p.aT]->bU p n<=jC
def Cg(E:Env p c T){a:Int}(ha:a∈p.on++[p.aT])(h0:0<=a)(key:Nat):gz p T (iB key a.toNat) ⟨[],[],0⟩:=by
 have hT:=E.rQ.B7 a ha h0;obtain⟨tb,-⟩:=cE E.check;have be:a.toNat<p.code.length:=by
  rcases List.mem_append.1 ha with h|h
  ·have:=tb.ons a h;omega
  ·simp at h;have:=tb.aT;omega
 obtain⟨st,hr⟩:=E.rQ.all _ be;have e:st=⟨[],[],0⟩:=by have:=hr.at_;rw[hT]at this;exact(sd this).symm
 subst e;refine⟨be,hr,trivial,?_,λn hn=>by simp[iB]at hn,⟨λ_=>rfl,λ_=>rfl⟩,rfl,rfl⟩;show 0=0+_;have Pq:(al p a.toNat).op≠25:=by
  intro Pq;have hj:=hr.jumps;unfold cP at hj;split at hj
  ·simp at hj
  rw[aw O]at hj;simp only[fp,ft,Bool.not_eq_true']at hj;rw[Int.toNat_of_nonneg h0]at hj;rcases List.mem_append.1 ha with h|h
  ·have:p.on.contains a=true:=by simpa using h
   rw[this]at hj;simp at hj
  ·simp at h;exact hj.1.2 h.symm
 show 0=0+(if(al p a.toNat).op=25 then 1 else 0);rw[aw Pq]
def at_mem(E:Env p c T)(hI:Inv (aC p c) s)(key:Nat):OO p c s key∈p.on++[p.aT]:=by
 unfold OO;cases hf:s.f key with
 |none=>simp
 |some n=>
  obtain⟨q,hq,hn,-⟩:=(hI.idx key n).1 hf;dsimp only;rw[mT hI.wf hq hn];obtain⟨tb,-⟩:=cE E.check;have Q_:q<p.on.length:=by rw[tb.on];exact hq
  rw[aY,fq Q_];simp[jO]
def yG{S:Sys}{nv:Nat}(hI:Inv S s){key:Nat}(hk:key<18446744073709551616)(a:Nat):fJ S nv s (s,iB key a):=
 ⟨hI,rfl,λx hx=>by simp[iB]at hx,hk,λk hk=>by simp[iB]at hk⟩
def EF(E:Env p c T)(hS:nw p){a:Int}(ha:a∈p.on++[p.aT])(h0:0<=a)(key:Nat):left p (iB key a.toNat) ⟨[],[],0⟩<=jC:=by
 have C:=Cg E ha h0 key;have Pq:(al p a.toNat).op≠25:=by intro h;have:=C.loops;rw[show(iB key a.toNat).at_=a.toNat from rfl,bk h]at this;simp[iB]at this
 have hv:=hS a ha;unfold bU at hv;rw[aw O,Lx]at hv;rw[eW (y:=iB key a.toNat) Pq];show iA p a.toNat+0<=_;unfold jC MS at*;omega
def QS(E:Env p c T)(hS:nw p)(hI:Inv (aC p c) s){key:Nat}(hk:key<18446744073709551616):
 let z:=uz p c s key
 fJ (aC p c) p.vars.length s z.2/\z.1<=jC/\0<=z.2.2.bY/\z.2.2.bY<=3/\Small z.1 z.2.2/\z.2.2.key=key:=by
 unfold uz;have ha:=at_mem E hI key;by_cases h:OO p c s key<0
 ·rw[bk h];exact⟨yG hI hk 0,Nat.zero_le _,Int.le_refl 0,show(0:Int)<=3 by decide,⟨aL _,aL _,aL _,aL _⟩,rfl⟩
 ·rw[aw h];obtain⟨z1,z2,z3,z4,z5,z6,z7,z8⟩:=Yt (s0:=s) E jC 0 s _ _ (Cg E ha O key) (yG hI hk _) ⟨aL _,aL _,aL _,aL _⟩ (EF E hS ha O key);exact⟨z1,z4,z5,z6,by simpa using z7,z8⟩
def oW(E:Env p c T)(hS:nw p)(hI:Inv (aC p c) s){key:Nat}(hk:key<18446744073709551616):Inv (aC p c) (nr p c s key):=by
 unfold nr;split
 ·exact(QS E hS hI hk).1.inv
 ·exact hI
def jJ(p:aQ)(c:Cp)(s:St)(key:Nat):St:=match s.f key with|none=>s|some n=>gB (aC p c) s (Rs (aC p c) s.a n) n
def jd(p:aQ)(c:Cp)(s:St)(key:Nat):Int:=match s.f key with|none=>0|some n=>if p.bw.getD (Rs (aC p c) s.a n) false then 2 else 1
end
structure mh where
 ty:List Nat
 loop:Int
 hand:Int
 kV:Bool
 deriving DecidableEq
def s0:mh:=⟨[],0,0,false⟩
structure lE where
 at_:Nat->mh
 up:Nat->Int
def fU(p:aQ)(n:Nat):Bool:=(p.on++[p.aT]).contains (n:Int)
def h_(p:aQ)(n:Int):Bool:=decide (0<=n)&&decide (n<p.code.length)&&decide ((al p n.toNat).op=25)
def eT(p:aQ)(x:Ins)(h:Int):Bool×Int:=
 if x.op=36 then(decide (h=2),3)
 else if x.op=37 then(decide (h=1)||decide (h=3),0)
 else if x.op=35 then(if bF p x.a then(decide (h=1)||decide (h=3),0)else(decide (h=2),0))
 else if x.op=34 then(if bF p x.a then(decide (h=0),1)else(decide (h=0),2))
 else if(1<=x.op/\x.op<=21)\/x.op=28\/x.op=29\/x.op=30 then(true,h)
 else(decide (h=0),0)
def cL(x:Ins)(ty:List Nat):Int×List Nat:=
 let t:=b_ x.op.toNat
 let g:=if cG x.op.toNat=0 then[]else[cG x.op.toNat]
 let left:=g++ty.drop t.length
 if ty.length<t.length\/(x.op=0/\t.length<ty.length)then(93,[])
 else if 256<left.length then(93,[])
 else if x.op=19 then(if ty.getD 0 0≠ty.getD 1 0 then(94,[])else(0,left))
 else if ty.take t.length≠t then(94,[])else(0,left)
def iC(p:aQ)(L:lE)(pc:Nat)(x:Ins)(ty:List Nat)(loop:Int):Bool:=
 if(x.op=22\/x.op=23\/x.op=25\/x.op=26)/\(x.a<=pc\/h_ p x.a=true)then false
 else if x.op=25 then decide (0<pc)&&decide ((al p (pc-1)).op=24)&& !fU p pc
 else if x.op=24 then h_ p ((pc:Int)+1)
 else if x.op=26 then decide (0<=loop)&&decide (x.a=(al p loop.toNat).a)
 else if x.op=27 then decide (0<=loop)&&decide (x.a=loop)&&decide (ty=(L.at_ loop.toNat).ty)
 else if x.op=0 then decide (loop<0)
 else true
def eH(L:lE)(pc:Nat)(x:Ins)(s:mh):List (Nat×mh):=
 if x.op=0\/x.op=27 then[]
 else if x.op=22 then[(x.a.toNat,s)]
 else if x.op=23 then[(pc+1,s),(x.a.toNat,s)]
 else if x.op=25 then[(pc+1,{s with loop:=pc}),(x.a.toNat,s)]
 else if x.op=26 then[(pc+1,s),(x.a.toNat,{s with loop:=L.up s.loop.toNat})]
 else[(pc+1,s)]
def gA(L:lE)(pc:Nat)(x:Ins)(loop:Int):lE:=if x.op=25 then{L with up:=aR L.up pc loop}else L
def uZ(L:lE)(l:List (Nat×mh)):Bool:=l.all λw=> !(L.at_ w.1).kV||decide (L.at_ w.1=w.2)
def eX(L:lE):List (Nat×mh)->Option lE
 |[]=>some L
 |w::l=>if(L.at_ w.1).kV then(if L.at_ w.1=w.2 then eX L l else none)else eX {L with at_:=aR L.at_ w.1 w.2} l
def cA(p:aQ)(L:lE)(pc:Nat):Int×lE:=
 let x:=al p pc
 let s:=L.at_ pc
 if s.kV=false then(99,L)
 else if(eT p x s.hand).1=false then(96,L)
 else if(cL x s.ty).1≠0 then((cL x s.ty).1,L)
 else if c_ p x=false then(92,L)
 else if iC p L pc x (cL x s.ty).2 s.loop=false then(95,L)
 else
  let L1:=gA L pc x s.loop
  let l:=eH L1 pc x ⟨(cL x s.ty).2,s.loop,(eT p x s.hand).2,true⟩
  if l.any (λw=>decide (w.1=p.code.length))then(98,L1)
  else if uZ L1 l=false then(94,L1)
  else match eX L1 l with
   |none=>(94,L1)
   |some L2=>(0,L2)
def fB(p:aQ):Nat->Nat->lE->(Int×Nat) ⊕ lE
 |0,_,L=> .inr L
 |k+1,pc,L=>if(cA p L pc).1=0 then fB p k (pc+1) (cA p L pc).2 else .inl ((cA p L pc).1,pc)
def gO(p:aQ):lE:=⟨λn=>if fU p n then⟨[],-1,0,true⟩else s0,λ_=>0⟩
def fK:List Nat->Int
 |[]=> -1
 |t::_=>t
structure L5(p:aQ)(T:Map)(L:lE)(pc:Nat):Prop where
 Tg:∀n s,T n=some s->L.at_ n=⟨s.ty,fK s.lo,s.ha,true⟩
 no:∀n,T n=none->(L.at_ n).kV=false
 up:∀n s,T n=some s->n<pc->(al p n).op=25->L.up n=fK s.lo
 loops:∀q s,T q=some s->dB p T q s.lo
 len:∀q s,T q=some s->s.ty.length<=256
 lt:∀q s,T q=some s->q<p.code.length
def head_eq{p:aQ}{T:Map}{q q':Nat}{a b:List Nat}(ha:dB p T q a)(X:dB p T q' b)(h:fK a=fK b):a=b:=by
 cases a with
 |nil=>cases b with
  |nil=>rfl
  |cons t l=>simp only[fK]at h;omega
 |cons t l=>cases b with
  |nil=>simp only[fK]at h;omega
  |cons t' a0o=>
   have e:t=t':=by simp only[fK]at h;omega
   subst e;obtain⟨_,_,s,h1,h2⟩:=ha;obtain⟨_,_,s',h3,h4⟩:=X;rw[h1]at h3;have:s=s':=sd h3;subst this;rw[<-h2,<-h4]
def LO(p:aQ)(x:Ins)(ha:Nat)(h0:0<=x.op)(h41:x.op<=41):(eT p x ha).1=fo p x ha/\(fo p x ha=true->(eT p x ha).2=(bE p x ha:Nat)):=by
 unfold eT fo bE;by_cases h36:x.op=36
 ·simp only[h36,bk rfl];exact⟨by rw[pO];simp;omega,λ_=>rfl⟩
 simp only[h36,if_false];by_cases h37:x.op=37
 ·simp only[h37];refine⟨?_,λ_=>by simp⟩;rw[pO];simp;omega
 simp only[h37,if_false];by_cases h35:x.op=35
 ·simp only[h35];cases bF p x.a
  ·exact⟨by rw[pO];simp;omega,λ_=>by simp⟩
  ·exact⟨by rw[pO];simp;omega,λ_=>by simp⟩
 simp only[h35,if_false];by_cases h34:x.op=34
 ·simp only[h34];cases bF p x.a
  ·exact⟨by rw[pO];simp,λ_=>by simp⟩
  ·exact⟨by rw[pO];simp,λ_=>by simp⟩
 simp only[h34,if_false];by_cases hs:x.op=28\/x.op=29\/x.op=30
 ·rw[bk (.inr hs),bk hs];simp[h35,h37]
 rw[aw hs];by_cases hr:1<=x.op/\x.op<=21
 ·rw[bk (.inl hr)];simp[h35,h37,hr.1,hr.2]
 ·rw[aw (by simp only[not_or];exact⟨hr,λh=>hs (.inl h),λh=>hs (.inr (.inl h)),λh=>hs (.inr (.inr h))⟩)];have e1:(decide (1<=x.op)&&decide (x.op<=21))=false:=by rw[vV];simp;omega
  rw[e1];refine⟨by rw[pO];simp,λh=>?_⟩;simp at h;simp[h35,h37,h]
def u_(n:Nat):b_ n=[]\/b_ n=[1]\/b_ n=[2]\/b_ n=[1,1]\/(n=19/\b_ n=[3,3]):=by unfold b_;split<;>simp
def L7(x:Ins)(ty:List Nat)(h0:0<=x.op)(hl:ty.length<=256):(cL x ty).1=bQ x ty/\(bQ x ty=0->(cL x ty).2=a_ x ty):=by
 have hz:x.op=0->b_ x.op.toNat=[]:=λh=>by rw[h];rfl
 have uQ:x.op.toNat=19↔x.op=19:=O;unfold cL bQ a_;dsimp only;have hg:(if cG x.op.toNat=0 then ty.drop (b_ x.op.toNat).length else cG x.op.toNat::ty.drop (b_ x.op.toNat).length)=(if cG x.op.toNat=0 then[]else[cG x.op.toNat])++ty.drop (b_ x.op.toNat).length:=by split<;>rfl
 rw[hg];have hlen:((if cG x.op.toNat=0 then[]else[cG x.op.toNat])++ty.drop (b_ x.op.toNat).length).length=(if cG x.op.toNat=0 then 0 else 1)+(ty.length - (b_ x.op.toNat).length):=by rw[List.length_append,List.length_drop];split<;>rfl
 rw[hlen];generalize(if cG x.op.toNat=0 then[]else[cG x.op.toNat])++ty.drop (b_ x.op.toNat).length=R;by_cases c1:ty.length<(b_ x.op.toNat).length\/(x.op=0/\0<ty.length)
 ·have c2:ty.length<(b_ x.op.toNat).length\/(x.op=0/\(b_ x.op.toNat).length<ty.length):=by
   rcases c1 with c1|⟨c1,c2⟩
   ·exact .inl c1
   ·exact .inr ⟨c1,by rw[hz c1];exact c2⟩
  rw[bk c2,bk (by rcases c1 with c|c;exact .inl c;exact .inr (.inl c))];exact⟨rfl,λh=>by simp at h⟩
 ·have c2:¬(ty.length<(b_ x.op.toNat).length\/(x.op=0/\(b_ x.op.toNat).length<ty.length)):=by
   intro c;apply c1;rcases c with c|⟨c,c'⟩
   ·exact .inl c
   ·rw[hz c]at c';exact .inr ⟨c,by simpa using c'⟩
  rw[aw c2];simp only[not_or]at c1;by_cases c3:cG x.op.toNat≠0/\256<ty.length - (b_ x.op.toNat).length+1
  ·rw[bk (show 256<_ by rw[aw c3.1];omega),bk (.inr (.inr c3))];exact⟨rfl,λh=>by simp at h⟩
  ·rw[aw (show¬256<_ by
    by_cases g:cG x.op.toNat=0
    ·rw[bk g];omega
    ·rw[aw g];intro h;exact c3 ⟨g,O⟩)]
   rw[aw (show¬(_\/_\/_)by simp only[not_or];exact⟨c1.1,c1.2,c3⟩)];have c4:=c1.1;rcases u_ x.op.toNat with e|e|e|e|⟨e0,e⟩
   ·rw[e];have h:x.op≠19:=by intro h;rw[h]at e;exact absurd e bd
    simp[iK,h]
   ·rw[e]at c4 ⊢;have h:x.op≠19:=by intro h;rw[h]at e;exact absurd e bd
    cases ty with
    |nil=>simp at c4
    |cons a l=>by_cases ha:a=1<;>simp[iK,h,ha]
   ·rw[e]at c4 ⊢;have h:x.op≠19:=by intro h;rw[h]at e;exact absurd e bd
    cases ty with
    |nil=>simp at c4
    |cons a l=>by_cases ha:a=2<;>simp[iK,h,ha]
   ·rw[e]at c4 ⊢;have h:x.op≠19:=by intro h;rw[h]at e;exact absurd e bd
    cases ty with
    |nil=>simp at c4
    |cons a l=>
     cases l with
     |nil=>simp at c4
     |cons b l=>by_cases ha:a=1<;>by_cases X:b=1<;>simp[iK,h,ha,X]
   ·have h:x.op=19:=uQ.1 e0;rw[e]at c4 ⊢;cases ty with
    |nil=>simp at c4
    |cons a l=>
     cases l with
     |nil=>simp at c4
     |cons b l=>by_cases X:a=b<;>simp[iK,h,X]
def jf(s:Std):mh:=⟨s.ty,fK s.lo,s.ha,true⟩
def m16(w:Nat×Std):Nat×mh:=(w.1,jf w.2)
def Bc{p:aQ}{T:Map}{q q':Nat}{a b:Std}(ha:dB p T q a.lo)(X:dB p T q' b.lo)(h:jf a=jf b):a=b:=by obtain⟨t1,l1,h1⟩:=a;obtain⟨t2,l2,h2⟩:=b;simp only[jf,mh.mk.injEq]at h;have e:=head_eq ha X h.2.1;simp only at e;rw[h.1,e,show h1=h2 by omega]
structure LA(T:Map)(at_:Nat->mh):Prop where
 Tg:∀n s,T n=some s->at_ n=jf s
 no:∀n,T n=none->(at_ n).kV=false
def LA.aR{T:Map}{at_:Nat->mh}(h:LA T at_)(n:Nat)(s:Std):LA (Vm.aR T n (some s)) (Vm.aR at_ n (jf s)):=by
 refine⟨λm t hm=>?_,λm hm=>?_⟩
 ·rw[dq]at hm ⊢;split
  ·next e=>rw[bk e]at hm;rw[sd hm]
  ·next e=>rw[aw e]at hm;exact h.Tg m t hm
 ·rw[dq]at hm ⊢;split
  ·next e=>rw[bk e]at hm;simp at hm
  ·next e=>rw[aw e]at hm;exact h.no m hm
def L_{T:Map}{L:lE}(A:LA T L.at_){l:List (Nat×Std)}(hq:∀w,w∈l->∀s,T w.1=some s->jf s=jf w.2->s=w.2):uZ L (l.map m16)=m_ T l:=by
 unfold uZ m_
 induction l with
 |nil=>rfl
 |cons w l ih=>
  simp only[List.map_cons,List.all_cons];rw[ih (λv hv=>hq v (by simp[hv]))];congr 1;show(!(L.at_ w.1).kV||decide (L.at_ w.1=jf w.2))=_;cases hT:T w.1 with
  |none=>rw[A.no _ hT];rfl
  |some s=>
   rw[A.Tg _ _ hT];show(!true||decide (jf s=jf w.2))=decide (s=w.2);by_cases e:s=w.2
   ·rw[e];simp
   ·rw[decide_eq_false e,decide_eq_false (λh=>e (hq w ay s hT h))];rfl
def wW{T:Map}{L:lE}(A:LA T L.at_){w:Nat×Std}{l:List (Nat×mh)}(hm:∀s,T w.1=some s->s=w.2):
 ∃Ic,eX L (m16 w::l)=eX {L with at_:=Ic} l/\LA (aR T w.1 (some w.2)) Ic:=by
 show∃Ic,(if(L.at_ w.1).kV then(if L.at_ w.1=jf w.2 then eX L l else none)else eX {L with at_:=aR L.at_ w.1 (jf w.2)} l)=_/\_;cases hT:T w.1 with
 |none=>rw[A.no _ hT];exact⟨_,rfl,A.aR _ _⟩
 |some s=>
  have:=hm s hT;subst this;have e:=A.Tg _ _ hT;rw[e];refine⟨L.at_,by show(if true=true then(if jf w.2=jf w.2 then eX L l else none)else _)=_;rw[bk rfl,bk rfl],?_⟩;have e2:aR T w.1 (some w.2)=T:=by
   funext n;rw[dq];split
   ·next e'=>rw[e',hT]
   ·rfl
  rw[e2];exact A
def yS{T:Map}{l:List (Nat×Std)}(h:m_ T l=true){w:Nat×Std}(hw:w∈l){s:Std}(hs:T w.1=some s):s=w.2:=by have:=(List.all_eq_true.1 h) w hw;rw[hs]at this;simpa using this
def Ph{T:Map}{L:lE}(A:LA T L.at_){l:List (Nat×Std)}(h2:l=[]\/(∃a,l=[a])\/∃a b,l=[a,b])(hm:m_ T l=true)(hq:∀v w,v∈l->w∈l->jf v.2=jf w.2->v.2=w.2):
 (kq l=true->∃Ic,eX L (l.map m16)=some {L with at_:=Ic}/\LA (qL T l) Ic)/\(kq l=false->eX L (l.map m16)=none):=by
 rcases h2 with rfl|⟨a,rfl⟩|⟨a,b,rfl⟩
 ·exact⟨λ_=>⟨L.at_,rfl,A⟩,λh=>by simp[kq]at h⟩
 ·obtain⟨Ic,e,A'⟩:=wW A (w:=a) (l:=[]) (λs hs=>yS hm ay hs);exact⟨λ_=>⟨Ic,e,A'⟩,λh=>by simp[kq]at h⟩
 ·obtain⟨Ic,e,A'⟩:=wW A (w:=a) (l:=[m16 b]) (λs hs=>yS hm ay hs);show(_->∃Ic,eX L [m16 a,m16 b]=_/\_)/\(_->eX L [m16 a,m16 b]=none);rw[e];have df:kq [a,b]=(decide (b.1=a.1)==false||decide (b.2=a.2)):=by simp[kq]
  rw[df];by_cases e1:b.1=a.1
  ·by_cases e2:b.2=a.2
   ·refine⟨λ_=>?_,λh=>by simp[e2]at h⟩;obtain⟨at2,e3,A2⟩:=wW (L:={L with at_:=Ic}) A' (w:=b) (l:=[]) (λs hs=>by rw[e1,an]at hs;rw[e2];exact(sd hs).symm);exact⟨at2,e3,A2⟩
   ·refine⟨λh=>by simp[e1,e2]at h,λ_=>?_⟩;show(if(Ic b.1).kV then(if Ic b.1=jf b.2 then _ else none)else _)=none;have:=A'.Tg a.1 a.2 (an _ _ _);rw[e1,this];show(if true=true then(if jf a.2=jf b.2 then _ else none)else _)=none;rw[bk rfl,aw (λh=>e2 ((hq a b ay ay h).symm))]
  ·refine⟨λ_=>?_,λh=>by simp[e1]at h⟩;obtain⟨at2,e3,A2⟩:=wW (L:={L with at_:=Ic}) A' (w:=b) (l:=[]) (λs hs=>by rw[ak _ _ e1]at hs;exact yS hm ay hs);exact⟨at2,e3,A2⟩
def yT(pc:Nat)(x:Ins)(s:Std):cH pc x s=[]\/(∃a,cH pc x s=[a])\/∃a b,cH pc x s=[a,b]:=by
 unfold cH;split
 ·exact .inl rfl
 split
 ·exact .inr (.inl ⟨_,rfl⟩)
 split
 ·exact .inr (.inr ⟨_,_,rfl⟩)
 split
 ·exact .inr (.inr ⟨_,_,rfl⟩)
 split
 ·exact .inr (.inr ⟨_,_,rfl⟩)
 ·exact .inr (.inl ⟨_,rfl⟩)
def JO{p:aQ}{n:Int}(h0:0<=n)(h1:n<p.code.length):h_ p n=true↔(al p n.toNat).op=25:=by unfold h_;simp[h0,h1]
def Ie{p:aQ}{T:Map}{L:lE}{pc:Nat}{x:Ins}{ty lo:List Nat}(K:L5 p T L pc)(jo:dB p T pc lo)(hx:(x.op=22\/x.op=23\/x.op=25\/x.op=26)->0<=x.a/\x.a<p.code.length):
 iC p L pc x ty (fK lo)=cP p T pc x ty lo:=by
 unfold iC cP;by_cases c1:(x.op=22\/x.op=23\/x.op=25\/x.op=26)/\(x.a<=pc\/(al p x.a.toNat).op=25)
 ·rw[bk c1,bk ⟨c1.1,by rcases c1.2 with h|h;exact .inl h;exact .inr ((JO (hx c1.1).1 (hx c1.1).2).2 h)⟩]
 ·rw[aw c1,aw (λc=>c1 ⟨c.1,by rcases c.2 with h|h;exact .inl h;exact .inr ((JO (hx c.1).1 (hx c.1).2).1 h)⟩)];by_cases Pq:x.op=25
  ·rw[bk Pq,aw O,bk Pq];rw[pO];unfold fU;simp;constructor
   ·rintro⟨⟨a,b⟩,c,d⟩;exact⟨⟨⟨a,b⟩,λh=>d h.symm⟩,c⟩
   ·rintro⟨⟨⟨a,b⟩,c⟩,d⟩;exact⟨⟨a,b⟩,d,λh=>c h.symm⟩
  rw[aw Pq];by_cases Rt:x.op=24
  ·rw[bk Rt,bk Rt];unfold h_;rw[pO];simp;intro _;omega
  rw[aw Rt,aw Rt,aw Pq];by_cases SG:x.op=26
  ·rw[bk SG,bk SG];cases lo with
   |nil=>simp[fK]
   |cons t l=>rw[pO,fp,ft,ft];exact⟨λh=>xx h.2,λh=>⟨by simp[fK],rS h⟩⟩
  rw[aw SG,aw SG];by_cases h27:x.op=27
  ·rw[bk h27,bk h27];cases lo with
   |nil=>simp[fK]
   |cons t l=>
    obtain⟨_,_,s',hs,hl⟩:=jo;dsimp only;rw[hs];have hy:(L.at_ (fK (t::l)).toNat).ty=s'.ty:=by rw[show(fK (t::l)).toNat=t from rfl,K.Tg t s' hs]
    rw[pO];simp only[fp,ft,hy];constructor
    ·rintro⟨⟨h1,h2⟩,h3⟩;exact⟨h2,h3.symm,hl⟩
    ·rintro⟨h2,h3,_⟩;exact⟨⟨by simp[fK],h2⟩,h3.symm⟩
  rw[aw h27,aw h27];split
  ·cases lo with
   |nil=>simp[fK]
   |cons t l=>show decide (((t:Nat):Int)<0)=false;rw[ij];omega
  ·rfl
def Mb{p:aQ}{T:Map}{L:lE}{pc:Nat}{x:Ins}{ty lo:List Nat}{ha:Nat}{h':Int}(K:L5 p T L pc)(jo:dB p T pc lo)(hj:cP p T pc x ty lo=true)(hh:h'=ha):
 eH (gA L pc x (fK lo)) pc x ⟨ty,fK lo,h',true⟩=(cH pc x ⟨ty,lo,ha⟩).map m16:=by
 subst hh;unfold eH cH;split
 ·rfl
 split
 ·rfl
 split
 ·rfl
 split
 ·rfl
 split
 ·next SG=>
  have Pq:¬x.op=25:=O;unfold gA;rw[aw Pq];unfold cP at hj;rw[bk SG]at hj;cases lo with
  |nil=>exfalso;rw[aw (show¬x.op=24 by omega),aw (show¬x.op=25 by omega)]at hj;simp at hj
  |cons t l=>obtain⟨h1,h2,s',hs,hl⟩:=jo;have:=K.up t s' hs h1 h2;simp only[List.map_cons,List.map_nil,m16,jf,fK,List.tail];rw[show((t:Nat):Int).toNat=t from rfl,this,hl];rfl
 ·rfl
def Th{p:aQ}{pc:Nat}{x:Ins}{s:Std}(oT:pc<p.code.length)(hx:(x.op=22\/x.op=23\/x.op=25\/x.op=26)->0<=x.a/\x.a<p.code.length){w:Nat×Std}(hw:w∈cH pc x s):w.1<=p.code.length:=by
 unfold cH at hw;split at hw
 ·simp at hw
 split at hw
 ·next h=>simp at hw;subst hw;have:=hx O;dsimp only;omega
 split at hw
 ·next h=>simp at hw;have:=hx O;rcases hw with rfl|rfl<;>dsimp only<;>omega
 split at hw
 ·next h=>simp at hw;have:=hx O;rcases hw with rfl|rfl<;>dsimp only<;>omega
 split at hw
 ·next h=>simp at hw;have:=hx O;rcases hw with rfl|rfl<;>dsimp only<;>omega
 ·simp at hw;subst hw;dsimp only;omega
def If{p:aQ}{T:Map}{pc:Nat}{x:Ins}{s:Std}{ty lo:List Nat}(hj:cP p T pc x ty lo=true){w:Nat×Std}(hw:w∈cH pc x s):pc<w.1:=by
 have key:(x.op=22\/x.op=23\/x.op=25\/x.op=26)->(pc:Int)<x.a:=by
  intro h;unfold cP at hj;by_cases c:x.a<=pc
  ·rw[bk ⟨h,.inl c⟩]at hj;simp at hj
  ·omega
 unfold cH at hw;split at hw
 ·simp at hw
 split at hw
 ·next h=>simp at hw;subst hw;have:=key O;dsimp only;omega
 split at hw
 ·next h=>simp at hw;have:=key O;rcases hw with rfl|rfl<;>dsimp only<;>omega
 split at hw
 ·next h=>simp at hw;have:=key O;rcases hw with rfl|rfl<;>dsimp only<;>omega
 split at hw
 ·next h=>simp at hw;have:=key O;rcases hw with rfl|rfl<;>dsimp only<;>omega
 ·simp at hw;subst hw;dsimp only;omega
def Bd{x:Ins}{ty:List Nat}(h:bQ x ty=0)(hl:ty.length<=256):(a_ x ty).length<=256:=by
 unfold bQ at h;dsimp only at h;split at h
 ·simp at h
 ·next h1=>
  unfold a_;dsimp only;split
  ·rw[List.length_drop];omega
  ·next hg=>
   rw[List.length_cons,List.length_drop];rcases Nat.lt_or_ge 256 (ty.length - (b_ x.op.toNat).length+1)with h2|h2
   ·exact absurd (.inr (.inr ⟨hg,h2⟩)) h1
   ·omega
def Ti(L:lE)(pc:Nat)(x:Ins)(n:Int):(gA L pc x n).at_=L.at_:=by unfold gA;split<;>rfl
def Ig{p:aQ}{T:Map}{L:lE}{pc:Nat}(K:L5 p T L pc)(oT:pc<p.code.length)(h0:0<=(al p pc).op)(h41:(al p pc).op<=41)
 (hx:((al p pc).op=22\/(al p pc).op=23\/(al p pc).op=25\/(al p pc).op=26)->0<=(al p pc).a/\(al p pc).a<p.code.length):
 (cA p L pc).1=dl p T pc/\(dl p T pc=0->L5 p (jp p T pc) (cA p L pc).2 (pc+1)):=by
 have hA:LA T L.at_:=⟨K.Tg,K.no⟩;cases hT:T pc with
 |none=>unfold cA dl;rw[hT];dsimp only;rw[bk (K.no pc hT)];exact⟨rfl,λh=>by simp at h⟩
 |some s=>
  have hs:=K.Tg pc s hT;have jo:=K.loops pc s hT;have hlen:=K.len pc s hT;have hL:jp p T pc=qL T (gg p pc s):=by unfold jp;rw[hT];rfl
  unfold cA dl;rw[hT,hs];dsimp only;obtain⟨a1,a2⟩:=LO p (al p pc) s.ha h0 h41;obtain⟨b1,b2⟩:=L7 (al p pc) s.ty h0 hlen;unfold gg at hL;rw[aw (show¬(true=false)by simp),a1,b1];cases c1:fo p (al p pc) s.ha with
  |false=>exact⟨rfl,λh=>by simp at h⟩
  |true=>
  rw[aw (show¬(true=false)by simp),aw (show¬((!true)=true)by simp)];by_cases c2:bQ (al p pc) s.ty≠0
  ·rw[bk c2,bk c2];exact⟨rfl,λh=>absurd h c2⟩
  have c2:bQ (al p pc) s.ty=0:=O;have c2':¬(bQ (al p pc) s.ty≠0):=O;rw[aw c2',aw c2',b2 c2];cases c3:c_ p (al p pc)with
  |false=>exact⟨rfl,λh=>by simp at h⟩
  |true=>
  rw[aw (show¬(true=false)by simp),aw (show¬((!true)=true)by simp),Ie K jo hx];cases c4:cP p T pc (al p pc) (a_ (al p pc) s.ty) s.lo with
  |false=>exact⟨rfl,λh=>by simp at h⟩
  |true=>
  rw[aw (show¬(true=false)by simp),aw (show¬((!true)=true)by simp),a2 c1,Mb K jo c4 rfl];have l7:((cH pc (al p pc) ⟨a_ (al p pc) s.ty,s.lo,bE p (al p pc) s.ha⟩).map m16).any (λw=>decide (w.1=p.code.length))=(cH pc (al p pc) ⟨a_ (al p pc) s.ty,s.lo,bE p (al p pc) s.ha⟩).any (λw=>decide (p.code.length<=w.1)):=by
   rw[List.any_map,pO,List.any_eq_true,List.any_eq_true];constructor
   ·rintro⟨w,h1,h2⟩;have h2:decide (w.1=p.code.length)=true:=h2;rw[ft]at h2;exact⟨w,h1,xx O⟩
   ·rintro⟨w,h1,h2⟩;have:=Th oT hx h1;rw[ft]at h2;exact⟨w,h1,xx (show w.1=p.code.length by omega)⟩
  rw[l7];have hwl:∀w,w∈cH pc (al p pc) ⟨a_ (al p pc) s.ty,s.lo,bE p (al p pc) s.ha⟩->dB p T w.1 w.2.lo:=λw hw=>uN hT K.loops c4 hw;have hA1:LA T (gA L pc (al p pc) (fK s.lo)).at_:=by rw[Ti];exact hA
  rw[L_ hA1 (λw hw s' Ea e=>Bc (K.loops _ _ Ea) (hwl w hw) e)];have Z4:=Ph (L:=gA L pc (al p pc) (fK s.lo)) hA1 (yT pc (al p pc) ⟨a_ (al p pc) s.ty,s.lo,bE p (al p pc) s.ha⟩);have YS:=λw (hw:w∈cH pc (al p pc) ⟨a_ (al p pc) s.ty,s.lo,bE p (al p pc) s.ha⟩)=>If c4 hw;have Wv:=λhm=>Z4 hm (λv w hv hw e=>Bc (hwl v hv) (hwl w hw) e);generalize hW:cH pc (al p pc) ⟨a_ (al p pc) s.ty,s.lo,bE p (al p pc) s.ha⟩=l at*;split
  ·exact⟨rfl,λh=>by simp at h⟩
  ·next c5=>
   cases c6:m_ T l with
   |false=>rw[bk rfl,bk ay];exact⟨rfl,λh=>by simp at h⟩
   |true=>
    rw[aw ay];cases c7:kq l with
    |false=>rw[(Wv c6).2 c7,bk ay];exact⟨rfl,λh=>by simp at h⟩
    |true=>
     obtain⟨Ic,e,A'⟩:=(Wv c6).1 c7;rw[e,aw ay];refine⟨rfl,λ_=>?_⟩;obtain⟨d1,d2,d3⟩:=B_ l T c7 c6;rw[hL];refine⟨A'.Tg,A'.no,λn s' hn be Pq=>?_,λq s' hq=>?_,λq s' hq=>?_,λq s' hq=>?_⟩
     ·show(gA L pc (al p pc) (fK s.lo)).up n=_;have hTn:T n=some s':=by
       rcases d3 n s' hn with h|h
       ·exact h
       ·have:=YS _ h;dsimp only at this;omega
      unfold gA;by_cases e':n=pc
      ·subst e';rw[bk Pq];show aR L.up n _ n=_;rw[an];rw[hT]at hTn;rw[sd hTn]
      ·split
       ·show aR L.up pc _ n=_;rw[ak _ _ e'];exact K.up n s' hTn O Pq
       ·exact K.up n s' hTn O Pq
     ·rcases d3 q s' hq with h|h
      ·exact(K.loops q s' h).sub d1
      ·exact(hwl _ h).sub d1
     ·rcases d3 q s' hq with h|h
      ·exact K.len q s' h
      ·have:s'.ty=a_ (al p pc) s.ty:=by
        rw[<-hW]at h;unfold cH at h;split at h
        ·simp at h
        split at h
        ·simp at h;rw[h.2]
        split at h
        ·simp at h;rcases h with h|h<;>rw[h.2]
        split at h
        ·simp at h;rcases h with h|h<;>rw[h.2]
        split at h
        ·simp at h;rcases h with h|h<;>rw[h.2]
        ·simp at h;rw[h.2]
       rw[this];exact Bd c2 hlen
     ·rcases d3 q s' hq with h|h
      ·exact K.lt q s' h
      ·simp only[Bool.not_eq_true,List.any_eq_false]at c5;have:=c5 _ h;simpa using this
def sH{p:aQ}(qT:∀i,i∈p.code->jH i=true/\ir p i=true):∀(k pc:Nat) (T:Map) (L:lE),L5 p T L pc->pc+k<=p.code.length->
 (∀e,looks p k pc T= .inl e->fB p k pc L= .inl e)/\(∀T',looks p k pc T= .inr T'->∃L',fB p k pc L= .inr L'):=by
 intro k
 induction k with
 |zero=>intro pc T L K hk;exact⟨λe h=>by simp[looks]at h,λT' h=>⟨L,rfl⟩⟩
 |succ k ih=>
  intro pc T L K hk;have oT:pc<p.code.length:=O;obtain⟨ho,hi⟩:=qT _ (gj oT);have ho:0<=(al p pc).op/\(al p pc).op<=41:=by unfold jH aO at ho;simpa using ho
  have hx:((al p pc).op=22\/(al p pc).op=23\/(al p pc).op=25\/(al p pc).op=26)->0<=(al p pc).a/\(al p pc).a<p.code.length:=by
   rintro(h|h|h|h)
   ·have:=kG (gV hi (k:=22) O).1;omega
   ·have:=kG (gV hi (k:=23) O).1;omega
   ·have:=kG (gV hi (k:=25) O).1;omega
   ·have:=kG (gV hi (k:=26) O).1;omega
  obtain⟨e,K'⟩:=Ig K oT ho.1 ho.2 hx;unfold looks fB;rw[e];by_cases h:dl p T pc=0
  ·rw[bk h,bk h];exact ih (pc+1) _ _ (K' h) O
  ·rw[aw h,aw h];exact⟨λe' he=>by rw[Sum.inl.inj he],λT' h'=>by simp at h'⟩
def pG{p:aQ}(tb:tM p):L5 p (dA p) (gO p) 0:=by
 refine⟨λn s h=>?_,λn h=>?_,λn s _ h=>O,uO p,λq s h=>?_,λq s h=>?_⟩
 ·unfold dA at h;show(if fU p n then _ else s0)=_;unfold fU;split at h
  ·next h'=>rw[bk h',<-sd h];rfl
  ·simp at h
 ·unfold dA at h;show(if fU p n then _ else s0).kV=_;unfold fU;split at h
  ·simp at h
  ·next h'=>rw[aw h'];rfl
 ·unfold dA at h;split at h
  ·rw[<-sd h];decide
  ·simp at h
 ·unfold dA at h;split at h
  ·next h'=>
   simp at h';have h1:=tb.aT;rcases h' with h'|h'
   ·have:=tb.ons _ h';omega
   ·omega
  ·simp at h
def yU(p:aQ):Int×Int:=
 if bq p≠0 then(bq p,0)
 else match fB p p.code.length 0 (gO p)with
  | .inl (e,at_)=>(e,at_)
  | .inr _=>match bt p (p.on++[p.aT])with
    |some n=>(97,n)
    |none=>(0,0)
def vW(p:aQ):yU p=aW p:=by
 unfold yU aW;by_cases h:bq p=0
 ·rw[aw (by simp[h]),aw (by simp[h])];obtain⟨tb,qT⟩:=cE h;obtain⟨h1,h2⟩:=sH qT p.code.length 0 _ _ (pG tb) O;cases hl:looks p p.code.length 0 (dA p)with
  |inl e=>rw[h1 e hl]
  |inr T=>obtain⟨L',e⟩:=h2 T hl;rw[e];dsimp only;cases bt p (p.on++[p.aT])<;>rfl
 ·rw[bk h,bk h]
def gE(ty:List Nat):ByteArray:=⟨(ty.reverse.map UInt8.ofNat).toArray⟩
def o_(ty:List Nat):(gE ty).size=ty.length:=by simp[gE,ByteArray.size]
def Pj(g:Nat)(ty:List Nat):gE ty++⟨#[UInt8.ofNat g]⟩=gE (g::ty):=by apply ByteArray.ext;simp[gE,ByteArray.data_append]
def YT(ty:List Nat)(i:Nat):(gE ty)[i]? =(ty.reverse[i]?).map UInt8.ofNat:=by
 show(gE ty)[i]? =_;by_cases h:i<ty.length
 ·have h1:i<(gE ty).size:=by rw[o_];exact h
  rw[getElem?_pos (gE ty) i h1];rw[fq (by simpa using h)];simp only[Option.map_some];congr 1;show(gE ty).data[i]=_;simp[gE]
 ·rw[getElem?_neg (gE ty) i (by rw[o_];omega),List.getElem?_eq_none jz];rfl
def Ih{ty:List Nat}{j:Nat}(h:j<ty.length):ty.reverse[ty.length-1-j]? =some (ty.getD j 0):=by rw[List.getElem?_reverse O];rw[show ty.length-1 - (ty.length-1-j)=j by omega,aY,fq h];rfl
def Pk(ty:List Nat)(k:Nat):(gE ty).extract 0 (ty.length-k)=gE (ty.drop k):=by apply ByteArray.ext;simp only[gE,ByteArray.data_extract,List.extract_toArray,List.extract_eq_take_drop,List.drop_zero,Nat.sub_zero];congr 1;rw[List.reverse_drop,List.map_take]
def fe(ty:List Nat):Prop:=∀t,t∈ty->t=1\/t=2
def fe.take{ty:List Nat}(h:fe ty)(k:Nat):fe (ty.take k):=λt ht=>h t (List.mem_of_mem_take ht)
def fe.drop{ty:List Nat}(h:fe ty)(k:Nat):fe (ty.drop k):=λt ht=>h t (List.mem_of_mem_drop ht)
def fe.at{ty:List Nat}(h:fe ty){j:Nat}(hj:j<ty.length):ty.getD j 0=1\/ty.getD j 0=2:=by rw[aY,fq hj];exact h _ (jO hj)
def Tj{a b:List Nat}(ha:fe a)(X:fe b)(h:gE a=gE b):a=b:=by
 have hl:a.length=b.length:=by rw[<-o_ a,h,o_]
 refine List.ext_getElem hl λj h1 h2=>?_;have e:=congrArg (λs:ByteArray=>s[a.length-1-j]?) h;simp only[YT]at e;rw[Ih h1]at e;rw[hl,Ih h2]at e;simp only[Option.map_some,im]at e;have x:=ha.at h1;have y:=X.at h2;have ea:a.getD j 0=a[j]:=by rw[aY,fq h1];rfl
 have eb:b.getD j 0=b[j]:=by rw[aY,fq h2];rfl
 rw[<-ea,<-eb];rcases x with x|x<;>rcases y with y|y<;>rw[x,y]at e ⊢
 ·exact absurd e bd
 ·exact absurd e bd
def bI(lo:List Nat)(i:Nat):Nat:=lo.reverse.getD i 0
def Tk{lo:List Nat}{i:Nat}(h:lo.length<=i):bI lo i=0:=by unfold bI;rw[aY,List.getElem?_eq_none (by simpa using h)];rfl
def yV(t:Nat)(lo:List Nat)(i:Nat):bI (t::lo) i=if i=lo.length then t else bI lo i:=by
 unfold bI;rw[List.reverse_cons,aY,aY];by_cases h:i<lo.length
 ·rw[List.getElem?_append_left (by simpa using h),aw O]
 ·rw[List.getElem?_append_right (by simpa using h)];by_cases h2:i=lo.length
  ·rw[bk h2];simp[h2]
  ·rw[aw h2,List.getElem?_eq_none jz,List.getElem?_eq_none jz]
def Pm(t:Nat)(lo:List Nat):bI (t::lo) lo.length=t:=by rw[yV,bk rfl]
def Pn(lo:List Nat)(i:Nat):bI lo.tail i=if i+1=lo.length then 0 else bI lo i:=by
 cases lo with
 |nil=>simp[bI]
 |cons t lo=>
  rw[List.tail_cons,yV];by_cases h:i=lo.length
  ·rw[bk (by simpa using h),Tk O]
  ·rw[aw (by simpa using h),aw h]
def Tl{a b:List Nat}(hl:a.length=b.length)(h:∀i,i<a.length->bI a i=bI b i):a=b:=by refine List.reverse_inj.1 ?_;refine List.ext_getElem (by simpa using hl) λi h1 h2=>?_;have e:=h i (by simpa using h1);unfold bI at e;rw[aY,aY,fq h1,fq h2]at e;exact e
def dw(S:Sys):Nat:=min (cT S.nq λq=>if S.gh q then 0 else S.cq q) S.sz+cT S.nq λq=>if S.gh q then S.cq q else 0
def EG{k:Nat}{f g:Nat->Nat}(h:∀j,j<k->f j<=g j){q:Nat}(hq:q<k)(be:f q<g q):cT k f<cT k g:=by
 induction k with
 |zero=>omega
 |succ k ih=>
  show cT k f+f k<cT k g+g k;have h2:=h k O;by_cases e:q=k
  ·subst e;have:=rZ (k:=q) (f:=f) (g:=g) λj hj=>h j O;omega
  ·have:=ih (λj hj=>h j O) O;omega
def LC{k:Nat}{f g h:Nat->Nat}(e:∀j,j<k->f j+g j=h j):cT k f+cT k g=cT k h:=by
 induction k with
 |zero=>rfl
 |succ k ih=>have h1:=ih λj hj=>e j O;have h2:=e k O;show(cT k f+f k)+(cT k g+g k)=cT k h+h k;omega
def LF(S:Sys)(a:Nd):gJ S a+cT S.nq (λq=>if S.gh q then(a.ls q).length else 0)=cT S.nq λq=>(a.ls q).length:=by unfold gJ;refine LC λj hj=>?_;by_cases h:S.gh j=true<;>simp[h]
def SI{p:Prop}(h:p:=by
 have:=h.len j hj;by_cases hg:S.gh j=true<;>simp[hg];omega):p:=h
def SJ{S:Sys}{s:St}(h:Inv S s){q:Nat}(hq:q<S.nq)(hl:(s.a.ls q).length<S.cq q)(ht:S.gh q=true\/s.total<S.sz):(cT S.nq λq=>(s.a.ls q).length)<dw S:=by
 rw[<-LF S s.a];unfold dw;have h1:gJ S s.a<=cT S.nq λq=>if S.gh q then 0 else S.cq q:=rZ λj hj=>by exact SI
 have h2:cT S.nq (λq=>if S.gh q then(s.a.ls q).length else 0)<=cT S.nq λq=>if S.gh q then S.cq q else 0:=rZ λj hj=>by exact SI
 have h3:=h.Rf;have h4:=h.Jf;by_cases hg:S.gh q=true
 ·have:cT S.nq (λq=>if S.gh q then(s.a.ls q).length else 0)<cT S.nq λq=>if S.gh q then S.cq q else 0:=by
   refine EG (λj hj=>?_) hq ?_
   ·exact SI
   ·simp[hg];exact hl
  omega
 ·have:gJ S s.a<cT S.nq λq=>if S.gh q then 0 else S.cq q:=by
   refine EG (λj hj=>?_) hq ?_
   ·exact SI
   ·simp[hg];exact hl
  have h5:s.total<S.sz:=by rcases ht with ht|ht;exact absurd ht hg;exact ht
  omega
def OP{p:aQ}{c:Cp}(h:ow p c)(hg:p.bw.length<=16):(aC p c).sz<=1048576/\∀q,q<p.bw.length->(aC p c).cq q<=1048576:=by
 refine⟨?_,λq hq=>?_⟩
 ·show c.size.toNat<=_;have:=h.s2;omega
 ·show(c.aK.getD q 0).toNat<=_;have:=h.q1 q hq;omega
def OQ{p:aQ}{c:Cp}{s:St}(h:Inv (aC p c) s)(hc:ow p c): -1073741824<=s.total/\s.total<=1048576:=by have h1:=h.Jf;have h2:=h.Rf;have h3:(aC p c).sz=c.size.toNat:=rfl;have:=hc.s2;omega
def AX{l:List Nat}{n:Nat}(h:n∈l):∃y,dir 0 l=y++n::cy l n:=by
 obtain⟨y,e,_⟩:=nP h;refine⟨y.reverse,?_⟩;unfold dir;rw[aw bd]
 conv=>lhs;rw[e]
 simp
def JF(l:List Nat):hd l=if 0<l.length then((l.getD 0 0:Nat):Int)else -1:=by
 cases l<;>simp[hd]
def EH{l:List Nat}{n:Nat}(rC:l.Nodup)(h:n∈l):mu (dir 0 l) n=if 0<(cy l n).length then(((cy l n).getD 0 0:Nat):Int)else -1:=by obtain⟨y,e⟩:=AX h;have hn:=(mJ (e:=0)).2 rC;rw[e]at hn ⊢;rw[kO (λhy=>(List.nodup_append.1 hn).2.2 n hy n ay rfl),JF]
def Hm{l:List Nat}{n k:Nat}(rC:l.Nodup)(h:n∈l)(hk:k<(cy l n).length):
 mu (dir 0 l) ((cy l n).getD k 0)=if k+1<(cy l n).length then(((cy l n).getD (k+1) 0:Nat):Int)else -1:=by
 obtain⟨y,e⟩:=AX h;have hn:=(mJ (e:=0)).2 rC;rw[e]at hn ⊢;generalize cy l n=A at*;have e2:y++n::A=(y++n::A.take k)++A.getD k 0::A.drop (k+1):=by
  have h1:A=A.take k++A.getD k 0::A.drop (k+1):=by have h3:=(List.take_append_drop k A).symm;rw[qU hk]at h3;rw[aY,fq hk];exact h3
  conv=>lhs;rw[h1]
  simp
 rw[e2]at hn ⊢;rw[kO (λhy=>(List.nodup_append.1 hn).2.2 _ hy _ ay rfl),JF,List.length_drop];by_cases h2:k+1<A.length
 ·rw[bk h2,bk O];congr 1;simp[List.getD]
 ·rw[aw h2,aw O]
def LG{l:List Nat}{n k:Nat}(h:n∈l)(hk:k<(cy l n).length):(cy l n).getD k 0∈l:=by
 obtain⟨y,e,_⟩:=nP h;have:(cy l n).getD k 0∈cy l n:=by rw[aY,fq hk];exact jO hk
 generalize(cy l n).getD k 0=m at*;rw[e];simp[this]
def LH(l:List Nat)(n:Nat):(cy l n).length<=l.length:=by unfold cy;rw[List.length_reverse];exact(List.takeWhile_sublist _).length_le
structure TOk(p:aQ)(T:Map):Prop where
 loops:∀q s,T q=some s->dB p T q s.lo
 ty:∀q s,T q=some s->fe s.ty
 len:∀q s,T q=some s->s.ty.length<=256
 ha:∀q s,T q=some s->s.ha<=3
 lt:∀q s,T q=some s->q<p.code.length
def af7:∀n,n<42->cG n<=2:=by decide
def Fe{x:Ins}{ty:List Nat}(h:x.op.toNat<42)(ht:fe ty):fe (a_ x ty):=by
 have hg:=af7 _ h;unfold a_;dsimp only;split
 ·exact ht.drop _
 ·next h0=>
  intro t hm;rcases List.mem_cons.1 hm with rfl|hm
  ·omega
  ·exact ht.drop _ t hm
def acZ{p:aQ}{x:Ins}{ha:Nat}(h:ha<=3):bE p x ha<=3:=by
 unfold bE;split
 ·omega
 split
 ·omega
 split
 ·split<;>omega
 ·exact h
def Zo{p:Prop}(h:p:=by
 simp at h;rcases h with rfl|rfl<;>exact⟨rfl,rfl⟩):p:=h
def CR{pc:Nat}{x:Ins}{s:Std}{w:Nat×Std}(h:w∈cH pc x s):w.2.ty=s.ty/\w.2.ha=s.ha:=by
 unfold cH at h;split at h
 ·simp at h
 split at h
 ·simp at h;subst h;exact⟨rfl,rfl⟩
 split at h
 ·exact Zo
 split at h
 ·exact Zo
 split at h
 ·exact Zo
 ·simp at h;subst h;exact⟨rfl,rfl⟩
def acY{p:aQ}{T:Map}{pc:Nat}(K:TOk p T)(h41:(al p pc).op<=41)(h:dl p T pc=0):TOk p (jp p T pc):=by
 obtain⟨s,hT,g1,g2,g3,g4,g5,g6,g7,g8⟩:=look_ok h;obtain⟨a1,a2,a3⟩:=B_ _ T g6 g7;rw[g8];have ht:=Fe (x:=al p pc) O (K.ty pc s hT);have hl:=Bd g2 (K.len pc s hT);have hh:=acZ (p:=p) (x:=al p pc) (K.ha pc s hT);refine⟨λq s' hq=>?_,λq s' hq=>?_,λq s' hq=>?_,λq s' hq=>?_,λq s' hq=>?_⟩
 ·rcases a3 q s' hq with h1|h1
  ·exact(K.loops q s' h1).sub a1
  ·exact(uN hT K.loops g4 h1).sub a1
 ·rcases a3 q s' hq with h1|h1
  ·exact K.ty q s' h1
  ·rw[(CR h1).1];exact ht
 ·rcases a3 q s' hq with h1|h1
  ·exact K.len q s' h1
  ·rw[(CR h1).1];exact hl
 ·rcases a3 q s' hq with h1|h1
  ·exact K.ha q s' h1
  ·rw[(CR h1).2];exact hh
 ·rcases a3 q s' hq with h1|h1
  ·exact K.lt q s' h1
  ·exact g5 _ h1
def acX{p:aQ}(tb:tM p):TOk p (dA p):=by
 have L:=pG tb;refine⟨L.loops,λq s h=>?_,L.len,λq s h=>?_,L.lt⟩
 ·unfold dA at h;split at h
  ·rw[<-sd h];intro t ht;simp at ht
  ·simp at h
 ·unfold dA at h;split at h
  ·rw[<-sd h];exact Nat.zero_le _
  ·simp at h
def CY(p:aQ):Prop:=∀j,j<p.code.length->0<=(al p j).op/\((al p j).op=22\/(al p j).op=23->0<=(al p j).a/\(al p j).a<p.code.length)/\
 ((al p j).op=24->0<=(al p j).a/\(al p j).a<=4194304/\j+2<p.code.length/\0<=(al p (j+1)).a/\(al p (j+1)).a<p.code.length)/\((al p j).op≠0->(al p j).op≠27->(al p j).op≠22->j+1<p.code.length)
def Bi{p:aQ}{T:Map}(hc:bq p=0)(hl:looks p p.code.length 0 (dA p)= .inr T):CY p:=by
 obtain⟨tb,qT⟩:=cE hc;obtain⟨-,-,f_⟩:=Ey _ _ _ _ hl (uO p);have dW:∀j,j<p.code.length->0<=(al p j).op/\(al p j).op<=41:=λj hj=>by have:=(qT _ (gj hj)).1;unfold jH aO at this;simpa using this
 have nx:∀j,j<p.code.length->(al p j).op≠0->(al p j).op≠27->(al p j).op≠22->j+1<p.code.length:=λj hj h0 h27 h22=>by
  obtain⟨s,R⟩:=f_ j (Nat.zero_le _) O;have hw:=R.ways;unfold gg cH at hw;rw[aw (by simp only[not_or];exact⟨h0,h27⟩),aw h22]at hw;split at hw
  ·exact(hw _ (List.mem_cons_self ..)).1
  split at hw
  ·exact(hw _ (List.mem_cons_self ..)).1
  split at hw
  ·exact(hw _ (List.mem_cons_self ..)).1
  ·exact(hw _ (List.mem_cons_self ..)).1
 intro j hj;have hi:=(qT _ (gj hj)).2;refine⟨(dW j hj).1,?_,?_,nx j hj⟩
 ·rintro(h|h)
  ·exact kG (gV hi (k:=22) (by rw[h];rfl)).1
  ·exact kG (gV hi (k:=23) (by rw[h];rfl)).1
 ·intro h;have h7:br p 7 (al p j).a=true:=(gV hi (k:=24) (by rw[h];rfl)).1;unfold br aO jA jB at h7;simp at h7;obtain⟨s,R⟩:=f_ j (Nat.zero_le _) O;have WJ:=R.jumps;unfold cP at WJ;simp[h]at WJ;have vG:=(qT _ (gj WJ.1)).2;have ha:=kG (gV vG (k:=25) (by rw[WJ.2];rfl)).1;exact⟨h7.1,h7.2,nx (j+1) WJ.1 (by rw[WJ.2];decide) (by rw[WJ.2];decide) (by rw[WJ.2];decide),ha.1,ha.2⟩
def gX:aQ:=⟨[false],[],[],[0],2,[⟨32,0,0,0,0⟩,⟨0,0,0,0,0⟩,⟨4,0,0,0,0⟩,⟨5,0,0,0,0⟩,⟨19,0,0,0,0⟩,⟨23,7,0,0,0⟩,⟨40,0,1,0,0⟩,⟨31,0,0,0,0⟩,⟨0,0,0,0,0⟩]⟩
def jP:Cp:=⟨2,[2]⟩
def zs(p:aQ):St:=⟨⟨λ_=>[],λ_=>eh,λi=>i⟩,λ_=>none,λi=>(p.vars.getD i ⟨0,0,0⟩).init,0⟩
def Bm:aW gX=(0,0):=by decide
def qY:nw gX:=by unfold nw;decide
def k1:St:=nr gX jP (zs gX) 7
def k2:St:=nr gX jP k1 8
def k3:St:=nr gX jP k2 7
def k4:St:=nr gX jP k3 9
def vj:rG gX jP k2 7=true/\(uz gX jP k2 7).1=2/\jc gX jP k2 7=0:=by decide
def nB:rG gX jP k3 9=false/\(uz gX jP k3 9).1=7/\jc gX jP k3 9=0/\rR gX jP k3 9=[8]:=by decide
def aco:k4.a.ls 0=[1,0]/\k4.f 7=some 0/\k4.f 9=some 1:=by decide
def Kl{p:aQ}(c:Cp)(tb:tM p):Inv (aC p c) (zs p):=by
 have h0:∀nq,cT nq (λq=>if(aC p c).gh q then 0 else((zs p).a.ls q).length)=0:=λnq=>by
  induction nq with
  |zero=>rfl
  |succ k ih=>unfold cT;rw[ih];dsimp only;split<;>rfl
 refine⟨⟨λ_ _=>List.nodup_nil,λ_ _ _ _ _ h=>(by cases h),λ_ _ _ h=>(by cases h),λ_ _ h=>h,λ_=>rfl⟩,λk n=>⟨λh=>(by cases h),?_⟩,λ_ _=>Nat.zero_le _,?_,?_,λ_ _ _ h=>(by cases h),λ_ _ _ h=>(by cases h),λi=>?_⟩
 ·rintro⟨q,-,h,-⟩;cases h
 ·show(0:Int)=((gJ _ _:Nat):Int);unfold gJ;rw[h0];rfl
 ·unfold gJ;rw[h0];exact Nat.zero_le _
 ·show -1073741824<=(p.vars.getD i ⟨0,0,0⟩).init/\(p.vars.getD i ⟨0,0,0⟩).init<=1073741824;by_cases hi:i<p.vars.length
  ·rw[aY,fq hi];have:=tb.vars _ (jO hi);simp only[Option.getD_some];omega
  ·rw[aY,List.getElem?_eq_none O];decide
def xi:∃T,Env gX jP T:=by
 obtain⟨hc,T,hT,-⟩:=tL Bm rfl;exact⟨T,hT,hc,bd,bd,bd,λq hq=>by
  have:q=0:=by have:gX.bw.length=1:=rfl;omega
  subst this;decide⟩
def acn:tM gX:=(cE (p:=gX) bd).1
def acm:Inv (aC gX jP) k1:=by obtain⟨T,E⟩:=xi;exact oW E qY (Kl _ acn) bd
def ack:Inv (aC gX jP) k2:=by obtain⟨T,E⟩:=xi;exact oW E qY acm bd
def acj:Inv (aC gX jP) k3:=by obtain⟨T,E⟩:=xi;exact oW E qY ack bd
def aci:Inv (aC gX jP) k4:=by obtain⟨T,E⟩:=xi;exact oW E qY acj bd
def ach(k n:Nat):k4.f k=some n↔(k=7/\n=0)\/(k=9/\n=1):=by
 obtain⟨h1,h2,h3⟩:=aco;constructor
 ·intro h;obtain⟨q,hq,hn,hk⟩:=(aci.idx k n).1 h;have:q=0:=by have:(aC gX jP).nq=1:=rfl;omega
  subst this;rw[h1]at hn;simp at hn;rcases hn with rfl|rfl
  ·right;exact⟨hk.symm.trans bd,rfl⟩
  ·left;exact⟨hk.symm.trans bd,rfl⟩
 ·rintro(⟨rfl,rfl⟩|⟨rfl,rfl⟩)
  ·exact h2
  ·exact h3
def noP:aQ:=⟨[],[],[],[],0,[⟨1,0,0,0,0⟩]⟩
def acg:aW noP=(98,0):=by decide
section
variable {σ:Nat->Nat}{S:Sys}{s s':St}{r r':Rn}{x y:SR}
variable {p:aQ}{c:Cp}{T:Map}{s0:St}{st:Std}
variable {k0:Nat}
variable {z:St}
end
structure n_(p:aQ)(s:mh):Prop where
 ty:fe s.ty
 len:s.ty.length<=256
 lp: -1<=s.loop/\s.loop<p.code.length
 ha:0<=s.hand/\s.hand<=3
structure mr(p:aQ)(L:lE):Prop where
 at_:∀n,n_ p (L.at_ n)
 up:∀n,-1<=L.up n/\L.up n<p.code.length
def aef{p:aQ}(h:0<p.code.length):n_ p s0:=⟨by intro t ht;simp[s0]at ht,bd,by unfold s0;dsimp only;omega,bd⟩
def abF{p:aQ}(h:0<p.code.length):mr p (gO p):=by
 refine⟨λn=>?_,λn=>by show -1<=(0:Int)/\(0:Int)<_;omega⟩;show n_ p (if fU p n then _ else s0);split
 ·exact⟨by intro t ht;simp at ht,bd,by dsimp only;omega,bd⟩
 ·exact aef h
def QV(p:aQ)(x:Ins){h:Int}(hh:0<=h/\h<=3):0<=(eT p x h).2/\(eT p x h).2<=3:=by
 unfold eT
 repeat' split
 all_goals first|exact hh|(dsimp only;omega)
def QW{x:Ins}{ty:List Nat}(h:fe ty)(h0:(cL x ty).1=0):fe (cL x ty).2/\(cL x ty).2.length<=256:=by
 have key:∀left:List Nat,left=(if cG x.op.toNat=0 then[]else[cG x.op.toNat])++ty.drop (b_ x.op.toNat).length->¬256<left.length->fe left/\left.length<=256:=by
  intro left e hl;refine⟨?_,O⟩;rw[e];intro t ht;rcases List.mem_append.1 ht with ht|ht
  ·have hg:∀n:Nat,cG n≠0->cG n=1\/cG n=2:=by
    intro n;unfold cG
    repeat' split
    all_goals simp
   split at ht
   ·simp at ht
   ·next h1=>simp at ht;subst ht;exact hg _ h1
  ·exact h t (List.mem_of_mem_drop ht)
 unfold cL at h0 ⊢;dsimp only at h0 ⊢;by_cases c1:ty.length<(b_ x.op.toNat).length\/(x.op=0/\(b_ x.op.toNat).length<ty.length)
 ·rw[bk c1]at h0;simp at h0
 rw[aw c1]at h0 ⊢;by_cases c2:256<((if cG x.op.toNat=0 then[]else[cG x.op.toNat])++ty.drop (b_ x.op.toNat).length).length
 ·rw[bk c2]at h0;simp at h0
 rw[aw c2]at h0 ⊢;by_cases c3:x.op=19
 ·rw[bk c3]at h0 ⊢;split at h0
  ·simp at h0
  ·next h4=>rw[aw h4];exact key _ rfl c2
 ·rw[aw c3]at h0 ⊢;split at h0
  ·simp at h0
  ·next h4=>rw[aw h4];exact key _ rfl c2
def I3{p:aQ}{L:lE}(K:mr p L)(pc:Nat)(x:Ins){loop:Int}(h: -1<=loop/\loop<p.code.length):mr p (gA L pc x loop):=by
 unfold gA;split
 ·refine⟨K.at_,λn=>?_⟩;show -1<=aR L.up pc loop n/\aR L.up pc loop n<p.code.length;rw[dq];split
  ·exact h
  ·exact K.up n
 ·exact K
def QX{p:aQ}{L:lE}(K:mr p L){pc:Nat}(oT:pc<p.code.length)(x:Ins){s:mh}(h:n_ p s){w:Nat×mh}(hw:w∈eH L pc x s):n_ p w.2:=by
 unfold eH at hw;split at hw
 ·simp at hw
 split at hw
 ·simp at hw;rw[hw];exact h
 split at hw
 ·simp at hw;rcases hw with rfl|rfl<;>exact h
 split at hw
 ·simp at hw;rcases hw with rfl|rfl
  ·exact⟨h.ty,h.len,by dsimp only;omega,h.ha⟩
  ·exact h
 split at hw
 ·simp at hw;rcases hw with rfl|rfl
  ·exact h
  ·exact⟨h.ty,h.len,K.up _,h.ha⟩
 ·simp at hw;rw[hw];exact h
def Kz{p:aQ}{L:lE}(K:mr p L)(z:Nat){s:mh}(h:n_ p s):mr p {L with at_:=aR L.at_ z s}:=
 ⟨λn=>by show n_ p (aR L.at_ z s n);rw[dq];split;exact h;exact K.at_ n,K.up⟩
def adM{p:aQ}:∀(l:List (Nat×mh)) (L L':lE),mr p L->(∀w,w∈l->n_ p w.2)->eX L l=some L'->mr p L':=by
 intro l
 induction l with
 |nil=>intro L L' K _ h;simp[eX]at h;subst h;exact K
 |cons w l ih=>
  intro L L' K hs h;unfold eX at h;split at h
  ·split at h
   ·exact ih _ _ K (λv hv=>hs v (by simp[hv])) h
   ·simp at h
  ·exact ih _ _ (Kz K _ (hs w ay)) (λv hv=>hs v (by simp[hv])) h
def afH{p:aQ}{L:lE}(K:mr p L){pc:Nat}(oT:pc<p.code.length)(h:(cA p L pc).1=0):mr p (cA p L pc).2:=by
 unfold cA at h ⊢;dsimp only at h ⊢;by_cases c0:(L.at_ pc).kV=false
 ·rw[bk c0]at h;simp at h
 rw[aw c0]at h ⊢;by_cases c1:(eT p (al p pc) (L.at_ pc).hand).1=false
 ·rw[bk c1]at h;simp at h
 rw[aw c1]at h ⊢;by_cases c2:(cL (al p pc) (L.at_ pc).ty).1≠0
 ·rw[bk c2]at h;exact absurd h c2
 rw[aw c2]at h ⊢;by_cases c3:c_ p (al p pc)=false
 ·rw[bk c3]at h;simp at h
 rw[aw c3]at h ⊢;by_cases c4:iC p L pc (al p pc) (cL (al p pc) (L.at_ pc).ty).2 (L.at_ pc).loop=false
 ·rw[bk c4]at h;simp at h
 rw[aw c4]at h ⊢;have hu:=I3 K pc (al p pc) (K.at_ pc).lp;have ho:=QW (x:=al p pc) (K.at_ pc).ty (Decidable.not_not.1 c2);have hs:n_ p ⟨(cL (al p pc) (L.at_ pc).ty).2,(L.at_ pc).loop,(eT p (al p pc) (L.at_ pc).hand).2,true⟩:=⟨ho.1,ho.2,(K.at_ pc).lp,QV p _ (K.at_ pc).ha⟩;split at h
 ·simp at h
 next c5=>
 rw[aw c5];split at h
 ·simp at h
 next c6=>
 rw[aw c6];cases e:eX (gA L pc (al p pc) (L.at_ pc).loop) (eH (gA L pc (al p pc) (L.at_ pc).loop) pc (al p pc) ⟨(cL (al p pc) (L.at_ pc).ty).2,(L.at_ pc).loop,(eT p (al p pc) (L.at_ pc).hand).2,true⟩)with
 |none=>rw[e]at h;simp at h
 |some L2=>exact adM _ _ _ hu (λw hw=>QX hu oT _ hs hw) e
open Go Go.RowKit
def eI(R:Raw)(o:Nat):UL:=
 if o % 8=0 then .int .u64 (R.val (o / 8)).key else if o % 8<5 then Y ((R.val (o / 8)).tg (o % 8-1))else if o % 8=5 then Y (R.own (o / 8))else Y (R.bP (o / 8) (o % 8-6))
def k6(R:Raw)(o:Nat):UL:=if o % 3<2 then Y (R.ends (o / 3) (o % 3))else Y (R.dr (o / 3))
def Ao(R:Raw)(n:Nat):eI R (n*8)= .int .u64 (R.val n).key:=by unfold eI;rw[bk O,show n*8 / 8=n by omega]
def jw(R:Raw)(n:Nat){t:Nat}(ht:t<4):eI R (n*8+(1+t))=Y ((R.val n).tg t):=by unfold eI;rw[aw O,bk O,show(n*8+(1+t)) / 8=n by omega,show(n*8+(1+t)) % 8-1=t by omega]
def uD(R:Raw)(n:Nat):eI R (n*8+5)=Y (R.own n):=by unfold eI;rw[aw O,aw O,bk O,show(n*8+5) / 8=n by omega]
def Ap(R:Raw)(n:Nat){e:Nat}(he:e<=1):eI R (n*8+(6+e))=Y (R.bP n e):=by unfold eI;rw[aw O,aw O,aw O,show(n*8+(6+e)) / 8=n by omega,show(n*8+(6+e)) % 8-6=e by omega]
def xF(R:Raw)(q:Nat){e:Nat}(he:e<=1):k6 R (q*3+e)=Y (R.ends q e):=by unfold k6;rw[bk O,show(q*3+e) / 3=q by omega,show(q*3+e) % 3=e by omega]
def Aq(R:Raw)(q:Nat):k6 R (q*3+2)=Y (R.dr q):=by unfold k6;rw[aw O,show(q*3+2) / 3=q by omega]
def BD(R:Raw)(n:Nat){e:Nat}(he:e<=1)(v:Int):(λo=>if o=n*8+(6+e)then Y v else eI R o)=eI {R with bP:=de R.bP n e v}:=by
 funext o;unfold eI;by_cases h:o=n*8+(6+e)
 ·rw[bk h,h,aw O,aw O,aw O,show(n*8+(6+e)) / 8=n by omega,show(n*8+(6+e)) % 8-6=e by omega];dsimp only;rw[Ak]
 ·rw[aw h];by_cases h8:o % 8<6
  ·by_cases a:o % 8=0
   ·rw[bk a,bk a]
   ·rw[aw a,aw a];by_cases b:o % 8<5
    ·rw[bk b,bk b]
    ·rw[aw b,aw b,bk O,bk O]
  ·rw[aw O,aw O,aw O,aw O,aw O,aw O];dsimp only;rw[dh,aw O]
def BE(R:Raw)(n:Nat)(v:Int):(λo=>if o=n*8+5 then Y v else eI R o)=eI {R with own:=aR R.own n v}:=by
 funext o;unfold eI;by_cases h:o=n*8+5
 ·rw[bk h,h,aw O,aw O,bk O,show(n*8+5) / 8=n by omega];dsimp only;rw[an]
 ·rw[aw h];by_cases a:o % 8=0
  ·rw[bk a,bk a]
  ·rw[aw a,aw a];by_cases b:o % 8<5
   ·rw[bk b,bk b]
   ·rw[aw b,aw b];by_cases c:o % 8=5
    ·rw[bk c,bk c];dsimp only;rw[ak _ _ O]
    ·rw[aw c,aw c]
def zR(R:Raw)(q:Nat){e:Nat}(he:e<=1)(v:Int):(λo=>if o=q*3+e then Y v else k6 R o)=k6 {R with ends:=de R.ends q e v}:=by
 funext o;unfold k6;by_cases h:o=q*3+e
 ·rw[bk h,h,bk O,show(q*3+e) / 3=q by omega,show(q*3+e) % 3=e by omega];dsimp only;rw[Ak]
 ·rw[aw h];by_cases a:o % 3<2
  ·rw[bk a,bk a];dsimp only;rw[dh,aw O]
  ·rw[aw a,aw a]
def BG(R:Raw)(q:Nat)(v:Nat):(λo=>if o=q*3+2 then Y v else k6 R o)=k6 {R with dr:=aR R.dr q v}:=by
 funext o;unfold k6;by_cases h:o=q*3+2
 ·rw[bk h,h,aw O,show(q*3+2) / 3=q by omega];dsimp only;rw[an]
 ·rw[aw h];by_cases a:o % 3<2
  ·rw[bk a,bk a]
  ·rw[aw a,aw a];dsimp only;rw[ak _ _ O]
structure rL(w:UK)(ab:Nat)(V L:UL)(aE nl:Nat)(R:Raw):Prop where
 head:aF w ab 191 #[Y aE,V,L,Y R.dm,Y R.used]
 nodes:Row w 202 8 V R.made (eI R)
 lists:Row w 194 3 L nl (k6 R)
def bp(ab:Nat)(V L:UL):List Nat:=ab::(V.ownBlock.toList++L.ownBlock.toList)
section
variable {w w':UK}{ab aE nl:Nat}{V L:UL}{R:Raw}
def rL.nb(h:rL w ab V L aE nl R):V.ownBlock≠H ab:=h.nodes.eZ h.head bd
def rL.lb(h:rL w ab V L aE nl R):L.ownBlock≠H ab:=h.lists.eZ h.head bd
def rL.vl(h:rL w ab V L aE nl R):V.ownBlock=K7\/V.ownBlock≠L.ownBlock:=h.nodes.ne h.lists bd
def rL.drewN(h:rL w ab V L aE nl R)(n:Nat):rL (w.drewN n) ab V L aE nl R:=⟨h.head,h.nodes.drewN n,h.lists.drewN n⟩
def rL.aG{S:List Nat}(h:rL w ab V L aE nl R)(f:aA S w w')(hs:∀b,b∈bp ab V L->b∉S):rL w' ab V L aE nl R:=
 ⟨h.head.aG f (hs _ (by simp[bp])),h.nodes.aG f λb X=>hs b (by simp[bp,X]),h.lists.aG f λb X=>hs b (by simp[bp,X])⟩
def rL.later{w w':UK}{ab aE nl:Nat}{V L:UL}{R:Raw}(h:rL w ab V L aE nl R)(b:Below w.heap.size w w'):rL w' ab V L aE nl R:=
 h.aG (aA.af (S:=[]) b) (λ_ _=>by simp)
structure eE(w:UK)(ab nb cn lb cl:Nat)(aE nl:Nat)(R:Raw):Prop where
 c:rL w ab (to (H (G nb 0)) R.made cn) (to (H (G lb 0)) nl cl) aE nl R
 pos:0<R.made
variable {nb cn lb cl:Nat}
def eE.ne(h:eE w ab nb cn lb cl aE nl R):nb≠ab/\lb≠ab/\nb≠lb:=by have a:=h.c.nb;have b:=h.c.lb;have c:=h.c.vl;simp[Value.ownBlock]at a b c;exact⟨a,b,c⟩
def Vx{p:Prop}(h:p:=by
 exact⟨⟨h.c.head.other (λe=>a e.symm) _ _,h1,h.c.lists.other (by simp[Value.ownBlock];exact λe=>c e.symm) _ _⟩,h.pos⟩):p:=h
def eE.iQ(h:eE w ab nb cn lb cl aE nl R){n e:Nat}(hn:n<R.made)(he:e<=1)(v:Int):eE (w.setCell (G nb (n*8+(6+e))) (Y v)) ab nb cn lb cl aE nl {R with bP:=de R.bP n e v}:=by obtain⟨a,b,c⟩:=h.ne;have h1:=h.c.nodes.set (o:=n*8+(6+e)) O (Y v);rw[BD R n he]at h1;exact Vx
def eE.xG(h:eE w ab nb cn lb cl aE nl R){n:Nat}(hn:n<R.made)(v:Int):eE (w.setCell (G nb (n*8+5)) (Y v)) ab nb cn lb cl aE nl {R with own:=aR R.own n v}:=by obtain⟨a,b,c⟩:=h.ne;have h1:=h.c.nodes.set (o:=n*8+5) O (Y v);rw[BE R n]at h1;exact Vx
def Vy{p:Prop}(h:p:=by
 exact⟨⟨h.c.head.other (λe=>b e.symm) _ _,h.c.nodes.other (by simp[Value.ownBlock];exact c) _ _,h1⟩,h.pos⟩):p:=h
def eE.kQ(h:eE w ab nb cn lb cl aE nl R){q e:Nat}(hq:q<nl)(he:e<=1)(v:Int):eE (w.setCell (G lb (q*3+e)) (Y v)) ab nb cn lb cl aE nl {R with ends:=de R.ends q e v}:=by obtain⟨a,b,c⟩:=h.ne;have h1:=h.c.lists.set (o:=q*3+e) O (Y v);rw[zR R q he]at h1;exact Vy
def eE.qx(h:eE w ab nb cn lb cl aE nl R){q:Nat}(hq:q<nl)(v:Nat):eE (w.setCell (G lb (q*3+2)) (Y v)) ab nb cn lb cl aE nl {R with dr:=aR R.dr q v}:=by obtain⟨a,b,c⟩:=h.ne;have h1:=h.c.lists.set (o:=q*3+2) O (Y v);rw[BG R q]at h1;exact Vy
def Vz{p:Prop}(h:p:=by
 exact⟨⟨h1,h.c.nodes.other (by simp[Value.ownBlock];exact a) _ _,h.c.lists.other (by simp[Value.ownBlock];exact b) _ _⟩,h.pos⟩):p:=h
def eE.D0(h:eE w ab nb cn lb cl aE nl R)(v:Int):eE (w.setCell (G ab 3) (Y v)) ab nb cn lb cl aE nl {R with dm:=v}:=by obtain⟨a,b,c⟩:=h.ne;have h1:=h.c.head.set 3 (Y v);exact Vz
def eE.BH(h:eE w ab nb cn lb cl aE nl R)(v:Nat):eE (w.setCell (G ab 4) (Y v)) ab nb cn lb cl aE nl {R with used:=v}:=by obtain⟨a,b,c⟩:=h.ne;have h1:=h.c.head.set 4 (Y v);exact Vz
def dL(w:UK)(b o:Nat)(x:eU):UK:=
 ((((w.setCell (G b o) (.int .u64 x.key)).setCell (G b (o+1)) (Y (x.tg 0))).setCell (G b (o+2)) (Y (x.tg 1))).setCell (G b (o+3)) (Y (x.tg 2))).setCell (G b (o+4)) (Y (x.tg 3))
def BI(R:Raw)(n:Nat)(x:eU):(λo=>if o=n*8+4 then Y (x.tg 3)else if o=n*8+3 then Y (x.tg 2)else if o=n*8+2 then Y (x.tg 1)else if o=n*8+1 then Y (x.tg 0)else if o=n*8 then .int .u64 x.key else eI R o)=eI {R with val:=aR R.val n x}:=by
 funext o;unfold eI;dsimp only;by_cases hn:o / 8=n
 ·have h8:o % 8=0\/o % 8=1\/o % 8=2\/o % 8=3\/o % 8=4\/5<=o % 8:=O;rw[hn,an];rcases h8 with h|h|h|h|h|h
  ·rw[aw O,aw O,aw O,aw O,bk O,bk h]
  ·rw[aw O,aw O,aw O,bk O,aw O,bk O,h]
  ·rw[aw O,aw O,bk O,aw O,bk O,h]
  ·rw[aw O,bk O,aw O,bk O,h]
  ·rw[bk O,aw O,bk O,h]
  ·have c0:¬o % 8=0:=O;have c1:¬o % 8<5:=O;rw[aw O,aw O,aw O,aw O,aw O];simp only[c0,c1,if_false]
 ·rw[aw O,aw O,aw O,aw O,aw O,ak _ _ hn]
def eE.BJ(h:eE w ab nb cn lb cl aE nl R){n:Nat}(hn:n<R.made)(x:eU):eE (dL w nb (n*8) x) ab nb cn lb cl aE nl {R with val:=aR R.val n x}:=by
 obtain⟨a,b,c⟩:=h.ne;have h1:=((((h.c.nodes.set (o:=n*8) O (.int .u64 x.key)).set (o:=n*8+1) O (Y (x.tg 0))).set (o:=n*8+2) O (Y (x.tg 1))).set (o:=n*8+3) O (Y (x.tg 2))).set (o:=n*8+4) O (Y (x.tg 3));rw[BI R n x]at h1;have ha:ab≠nb:=λe=>a e.symm;have hl:(Value.slice (H (G lb 0)) nl cl).ownBlock≠H nb:=by simp[Value.ownBlock];exact λe=>c e.symm
 exact⟨⟨((((h.c.head.other ha _ _).other ha _ _).other ha _ _).other ha _ _).other ha _ _,h1,((((h.c.lists.other hl _ _).other hl _ _).other hl _ _).other hl _ _).other hl _ _⟩,h.pos⟩
def fZ{S:List Nat}{a w:UK}{b:Nat}(h:aA S a w)(X:b∈S)(o:Nat)(x:eU):aA S a (dL w b o x):=
 ((((h.setCell X _).setCell X _).setCell X _).setCell X _).setCell X _
def eE.aS(h:eE w ab nb cn lb cl aE nl R){n:Nat}(hn:n<R.made):UJ w (G nb (n*8))=H (.int .u64 (R.val n).key)/\UJ w (G nb (n*8+1))=H (Y ((R.val n).tg 0))/\
 UJ w (G nb (n*8+2))=H (Y ((R.val n).tg 1))/\UJ w (G nb (n*8+3))=H (Y ((R.val n).tg 2))/\UJ w (G nb (n*8+4))=H (Y ((R.val n).tg 3)):=by
 refine⟨?_,?_,?_,?_,?_⟩
 ·rw[h.c.nodes.cell (o:=n*8) O,Ao]
 ·rw[h.c.nodes.cell (o:=n*8+1) O,show eI R (n*8+1)=_ from jw R n (t:=0) O]
 ·rw[h.c.nodes.cell (o:=n*8+2) O,show eI R (n*8+2)=_ from jw R n (t:=1) O]
 ·rw[h.c.nodes.cell (o:=n*8+3) O,show eI R (n*8+3)=_ from jw R n (t:=2) O]
 ·rw[h.c.nodes.cell (o:=n*8+4) O,show eI R (n*8+4)=_ from jw R n (t:=3) O]
def eE.h0(h:eE w ab nb cn lb cl aE nl R):UJ w (G ab 0)=H (Y aE):=h.c.head.cell 0
def eE.h1(h:eE w ab nb cn lb cl aE nl R):UJ w (G ab 1)=H (to (H (G nb 0)) R.made cn):=h.c.head.cell 1
def eE.h2(h:eE w ab nb cn lb cl aE nl R):UJ w (G ab 2)=H (to (H (G lb 0)) nl cl):=h.c.head.cell 2
def eE.h3(h:eE w ab nb cn lb cl aE nl R):UJ w (G ab 3)=H (Y R.dm):=h.c.head.cell 3
def eE.h4(h:eE w ab nb cn lb cl aE nl R):UJ w (G ab 4)=H (Y R.used):=h.c.head.cell 4
def eE.own(h:eE w ab nb cn lb cl aE nl R){n:Nat}(hn:n<R.made):UJ w (G nb (n*8+5))=H (Y (R.own n)):=by rw[h.c.nodes.cell (o:=n*8+5) O,uD]
def eE.bP(h:eE w ab nb cn lb cl aE nl R){n e:Nat}(hn:n<R.made)(he:e<=1):UJ w (G nb (n*8+(6+e)))=H (Y (R.bP n e)):=by rw[h.c.nodes.cell (o:=n*8+(6+e)) O,Ap R n he]
def eE.ends(h:eE w ab nb cn lb cl aE nl R){q e:Nat}(hq:q<nl)(he:e<=1):UJ w (G lb (q*3+e))=H (Y (R.ends q e)):=by rw[h.c.lists.cell (o:=q*3+e) O,xF R q he]
def eE.dr(h:eE w ab nb cn lb cl aE nl R){q:Nat}(hq:q<nl):UJ w (G lb (q*3+2))=H (Y (R.dr q)):=by rw[h.c.lists.cell (o:=q*3+2) O,Aq]
def eE.fa(h:eE w ab nb cn lb cl aE nl R)(o:Nat):w.frozen? (G ab o)=false:=h.c.head.frozen o
def eE.fn(h:eE w ab nb cn lb cl aE nl R)(o:Nat):w.frozen? (G nb o)=false:=h.c.nodes.frozen o
def eE.fl(h:eE w ab nb cn lb cl aE nl R)(o:Nat):w.frozen? (G lb o)=false:=h.c.lists.frozen o
def eE.drewN(h:eE w ab nb cn lb cl aE nl R)(n:Nat):eE (w.drewN n) ab nb cn lb cl aE nl R:=⟨h.c.drewN n,h.pos⟩
def eE.later(h:eE w ab nb cn lb cl aE nl R)(b:Below w.heap.size w w'):eE w' ab nb cn lb cl aE nl R:=⟨h.c.later b,h.pos⟩
def eE.aG{S:List Nat}(h:eE w ab nb cn lb cl aE nl R)(f:aA S w w')(hs:ab∉S/\nb∉S/\lb∉S):eE w' ab nb cn lb cl aE nl R:=
 ⟨h.c.aG f (by intro b X;simp[bp,Value.ownBlock]at X;rcases X with rfl|rfl|rfl;exact hs.1;exact hs.2.1;exact hs.2.2),h.pos⟩
def eE.apart(h:eE w ab nb cn lb cl aE nl R){b:Nat}{T:TypeId}{cs:Array UL}(k:aF w b T cs)(h1:191≠T:=by decide)(h2:202≠T:=by decide)(h3:194≠T:=by decide):b≠ab/\b≠nb/\b≠lb:=by have a:=h.c.head.ne k h1;have c:=h.c.nodes.eZ k h2;have d:=h.c.lists.eZ k h3;simp[Value.ownBlock]at c d;exact⟨λe=>a e.symm,λe=>c e.symm,λe=>d e.symm⟩
def eE.facts(h:eE w ab nb cn lb cl aE nl R){n:Nat}(hn:n<R.made):
 UJ w (G ab 1)=H (to (H (G nb 0)) R.made cn)/\UJ w (G ab 3)=H (Y R.dm)/\UJ w (G ab 4)=H (Y R.used)/\
 UJ w (G nb (n*8))=H (.int .u64 (R.val n).key)/\UJ w (G nb (n*8+1))=H (Y ((R.val n).tg 0))/\
 UJ w (G nb (n*8+2))=H (Y ((R.val n).tg 1))/\UJ w (G nb (n*8+3))=H (Y ((R.val n).tg 2))/\UJ w (G nb (n*8+4))=H (Y ((R.val n).tg 3))/\
 UJ w (G nb (n*8+5))=H (Y (R.own n))/\UJ w (G nb (n*8+6))=H (Y (R.bP n 0))/\UJ w (G nb (n*8+7))=H (Y (R.bP n 1))/\
 (∀o,w.frozen? (G nb o)=false)/\(∀o,w.frozen? (G ab o)=false):=by
 obtain⟨k0,k1,k2,k3,k4⟩:=h.aS hn;exact⟨h.h1,h.h3,h.h4,k0,k1,k2,k3,k4,h.own hn,h.bP (e:=0) hn O,h.bP (e:=1) hn O,h.fn,h.fa⟩
def jY{b:Nat}{v0 v1 v2 v3 v4:UL}(h:aF w b 118 #[v0,v1,v2,v3,v4]):UJ w (G b 0)=H v0/\UJ w (G b 1)=H v1/\UJ w (G b 2)=H v2/\UJ w (G b 3)=H v3/\UJ w (G b 4)=H v4/\∀o,w.frozen? (G b o)=false:=
 ⟨h.cell 0,h.cell 1,h.cell 2,h.cell 3,h.cell 4,h.frozen⟩
end
end aj.Vm
namespace Go.eB
open Go.RowKit aj.Vm
open aj hiding aR an ak
def R7{w:UK}{ab nb cn lb cl aE nl n l:Nat}{R:Raw}(h:eE w ab nb cn lb cl aE nl R)(hn:n<R.made)(hl:l<nl)(qw:R.ends l 0<0)(hc:R.dr l<=4194304)(hm:R.made<=4194304)(jT:nl<=256):
 Calls prog 309 #[UI ab,Y n,Y l,Y 0] w λe w'=>e=C8 (.tuple #[])/\aA [ab,nb,lb] w w'/\eE w' ab nb cn lb cl aE nl (fP R n l 0):=by
 obtain⟨d1,d2,d3⟩:=h.ne;have a1:=h.h1;have a2:=h.h2;have e0:UJ w (G lb (l*3))=H (Y (R.ends l 0)):=h.ends (e:=0) hl O;have e1:UJ w (G lb (l*3+1))=H (Y (R.ends l 1)):=h.ends (e:=1) hl O;have e2:=h.dr hl;have b5:=h.own hn;have b6:UJ w (G nb (n*8+6))=H (Y (R.bP n 0)):=h.bP (e:=0) hn O;have b7:UJ w (G nb (n*8+7))=H (Y (R.bP n 1)):=h.bP (e:=1) hn O;have fn:=h.fn;have fl:=h.fl;have HX:=Z h;clear h;generalize dU:R.ends l 0=last at*;generalize R.ends l 1=last1 at*;generalize jE:R.dr l=k at*;have HL:=Z dU;have HC:=Z jE;clear dU jE;go_enter func309,ntmps309;go_wp2;go_region;go_wp2;go_end0;have x1:=((((((HX.o.xG hn l).iQ (e:=0) hn O (-1)).iQ (e:=1) hn O last).kQ (e:=1) hl O n).kQ (e:=0) hl O n).qx hl (k+1)).drewN 1;refine⟨rfl,((((((((aA.refl _ w).setCell ay _).setCell ay _).setCell ay _).setCell ay _).setCell ay _).setCell ay _)).drew,?_⟩;have e:fP R n l 0={R with own:=aR R.own n l,bP:=de (de R.bP n 0 (-1)) n 1 last,ends:=de (de R.ends l 1 n) l 0 n,dr:=aR R.dr l (k+1)}:=by unfold fP;rw[HL.o,HC.o];dsimp only;rw[aw O,aw O]
 rw[e];exact x1
def VA{p:Prop}(h:p:=by
 unfold fP;rw[HL.o,HC.o];dsimp only;rw[bk O,bk O,Int.toNat_natCast]):p:=h
def R8{w:UK}{ab nb cn lb cl aE nl n l:Nat}{R:Raw}(h:eE w ab nb cn lb cl aE nl R)(hn:n<R.made)(hl:l<nl){m:Nat}(iY:R.ends l 0=(m:Int))(BK:m<R.made)(KK:m≠n)(hc:R.dr l<=4194304)(hm:R.made<=4194304)(jT:nl<=256):
 Calls prog 309 #[UI ab,Y n,Y l,Y 0] w λe w'=>e=C8 (.tuple #[])/\aA [ab,nb,lb] w w'/\eE w' ab nb cn lb cl aE nl (fP R n l 0):=by
 obtain⟨d1,d2,d3⟩:=h.ne;have a1:=h.h1;have a2:=h.h2;have e0:UJ w (G lb (l*3))=H (Y (R.ends l 0)):=h.ends (e:=0) hl O;have e1:UJ w (G lb (l*3+1))=H (Y (R.ends l 1)):=h.ends (e:=1) hl O;have e2:=h.dr hl;have b5:=h.own hn;have b6:UJ w (G nb (n*8+6))=H (Y (R.bP n 0)):=h.bP (e:=0) hn O;have b7:UJ w (G nb (n*8+7))=H (Y (R.bP n 1)):=h.bP (e:=1) hn O;have m6:UJ w (G nb (m*8+6))=H (Y (R.bP m 0)):=h.bP (e:=0) BK O;have m7:UJ w (G nb (m*8+7))=H (Y (R.bP m 1)):=h.bP (e:=1) BK O;have fn:=h.fn;have fl:=h.fl;have HX:=Z h;clear h;rw[iY]at e0;have dU:=iY;generalize R.ends l 1=last1 at e1;clear iY;generalize jE:R.dr l=k at*;have HL:=Z dU;have HC:=Z jE;clear dU jE;go_enter func309,ntmps309;go_wp2;go_region;go_wp2;go_end0;have x1:=((((((HX.o.xG hn l).iQ (e:=0) hn O (-1)).iQ (e:=1) hn O (m:Int)).iQ (e:=0) BK O n).kQ (e:=0) hl O n).qx hl (k+1)).drewN 1;refine⟨rfl,((((((((aA.refl _ w).setCell ay _).setCell ay _).setCell ay _).setCell ay _).setCell ay _).setCell ay _)).drew,?_⟩;have e:fP R n l 0={R with own:=aR R.own n l,bP:=de (de (de R.bP n 0 (-1)) n 1 (m:Int)) m 0 n,ends:=de R.ends l 0 n,dr:=aR R.dr l (k+1)}:=by exact VA
 rw[e];exact x1
def R_{w:UK}{ab nb cn lb cl aE nl n l:Nat}{R:Raw}(h:eE w ab nb cn lb cl aE nl R)(hn:n<R.made)(hl:l<nl)(qw:R.ends l 1<0)(hc:R.dr l<=4194304)(hm:R.made<=4194304)(jT:nl<=256):
 Calls prog 309 #[UI ab,Y n,Y l,Y 1] w λe w'=>e=C8 (.tuple #[])/\aA [ab,nb,lb] w w'/\eE w' ab nb cn lb cl aE nl (fP R n l 1):=by
 obtain⟨d1,d2,d3⟩:=h.ne;have a1:=h.h1;have a2:=h.h2;have e0:UJ w (G lb (l*3))=H (Y (R.ends l 0)):=h.ends (e:=0) hl O;have e1:UJ w (G lb (l*3+1))=H (Y (R.ends l 1)):=h.ends (e:=1) hl O;have e2:=h.dr hl;have b5:=h.own hn;have b6:UJ w (G nb (n*8+6))=H (Y (R.bP n 0)):=h.bP (e:=0) hn O;have b7:UJ w (G nb (n*8+7))=H (Y (R.bP n 1)):=h.bP (e:=1) hn O;have fn:=h.fn;have fl:=h.fl;have HX:=Z h;clear h;generalize dU:R.ends l 1=last at*;generalize R.ends l 0=last1 at*;generalize jE:R.dr l=k at*;have HL:=Z dU;have HC:=Z jE;clear dU jE;go_enter func309,ntmps309;go_wp2;go_region;go_wp2;go_end0;have x1:=((((((HX.o.xG hn l).iQ (e:=1) hn O (-1)).iQ (e:=0) hn O last).kQ (e:=0) hl O n).kQ (e:=1) hl O n).qx hl (k+1)).drewN 1;refine⟨rfl,((((((((aA.refl _ w).setCell ay _).setCell ay _).setCell ay _).setCell ay _).setCell ay _).setCell ay _)).drew,?_⟩;have e:fP R n l 1={R with own:=aR R.own n l,bP:=de (de R.bP n 1 (-1)) n 0 last,ends:=de (de R.ends l 0 n) l 1 n,dr:=aR R.dr l (k+1)}:=by unfold fP;rw[HL.o,HC.o];dsimp only;rw[aw O,aw O]
 rw[e];exact x1
def Sa{w:UK}{ab nb cn lb cl aE nl n l:Nat}{R:Raw}(h:eE w ab nb cn lb cl aE nl R)(hn:n<R.made)(hl:l<nl){m:Nat}(iY:R.ends l 1=(m:Int))(BK:m<R.made)(KK:m≠n)(hc:R.dr l<=4194304)(hm:R.made<=4194304)(jT:nl<=256):
 Calls prog 309 #[UI ab,Y n,Y l,Y 1] w λe w'=>e=C8 (.tuple #[])/\aA [ab,nb,lb] w w'/\eE w' ab nb cn lb cl aE nl (fP R n l 1):=by
 obtain⟨d1,d2,d3⟩:=h.ne;have a1:=h.h1;have a2:=h.h2;have e0:UJ w (G lb (l*3))=H (Y (R.ends l 0)):=h.ends (e:=0) hl O;have e1:UJ w (G lb (l*3+1))=H (Y (R.ends l 1)):=h.ends (e:=1) hl O;have e2:=h.dr hl;have b5:=h.own hn;have b6:UJ w (G nb (n*8+6))=H (Y (R.bP n 0)):=h.bP (e:=0) hn O;have b7:UJ w (G nb (n*8+7))=H (Y (R.bP n 1)):=h.bP (e:=1) hn O;have m6:UJ w (G nb (m*8+6))=H (Y (R.bP m 0)):=h.bP (e:=0) BK O;have m7:UJ w (G nb (m*8+7))=H (Y (R.bP m 1)):=h.bP (e:=1) BK O;have fn:=h.fn;have fl:=h.fl;have HX:=Z h;clear h;rw[iY]at e1;have dU:=iY;generalize R.ends l 0=last1 at e0;clear iY;generalize jE:R.dr l=k at*;have HL:=Z dU;have HC:=Z jE;clear dU jE;go_enter func309,ntmps309;go_wp2;go_region;go_wp2;go_end0;have x1:=((((((HX.o.xG hn l).iQ (e:=1) hn O (-1)).iQ (e:=0) hn O (m:Int)).iQ (e:=1) BK O n).kQ (e:=1) hl O n).qx hl (k+1)).drewN 1;refine⟨rfl,((((((((aA.refl _ w).setCell ay _).setCell ay _).setCell ay _).setCell ay _).setCell ay _).setCell ay _)).drew,?_⟩;have e:fP R n l 1={R with own:=aR R.own n l,bP:=de (de (de R.bP n 1 (-1)) n 0 (m:Int)) m 1 n,ends:=de R.ends l 1 n,dr:=aR R.dr l (k+1)}:=by exact VA
 rw[e];exact x1
def GG{w:UK}{ab nb cn lb cl aE nl n l e:Nat}{R:Raw}(h:eE w ab nb cn lb cl aE nl R)(hn:n<R.made)(hl:l<nl)(he:e<=1)(dU:R.ends l e<0\/∃m:Nat,R.ends l e=(m:Int)/\m<R.made/\m≠n)(hc:R.dr l<=4194304)(hm:R.made<=4194304)(jT:nl<=256):
 Calls prog 309 #[UI ab,Y n,Y l,Y e] w λe' w'=>e'=C8 (.tuple #[])/\aA [ab,nb,lb] w w'/\eE w' ab nb cn lb cl aE nl (fP R n l e):=by
 have:e=0\/e=1:=O;rcases this with rfl|rfl<;>rcases dU with XM|⟨m,h1,h2,h3⟩
 ·exact R7 h hn hl XM hc hm jT
 ·exact R8 h hn hl h1 h2 h3 hc hm jT
 ·exact R_ h hn hl XM hc hm jT
 ·exact Sa h hn hl h1 h2 h3 hc hm jT
def Sb(x y:UL)(w:UK):(Instr.index 192 (.agg #[x,y]) (Y 0)).run prog w= .ok x w:=by kernel_rfl
def Sc(x y:UL)(w:UK):(Instr.index 192 (.agg #[x,y]) (Y 1)).run prog w= .ok y w:=by kernel_rfl
def VB{p:Prop}(h:p:=by
 unfold dt lK;simp only[be,ep,fI,Rh,c0,c1,if_true,if_false,Nat.add_sub_cancel,Int.toNat_natCast,Nat.sub_zero,Nat.sub_self]):p:=h
def XN{w:UK}{ab nb cn lb cl aE nl n l:Nat}{R:Raw}(h:eE w ab nb cn lb cl aE nl R)(hn:n<R.made)(hl:l<nl)(ho:R.own n=(l:Int))(h0:R.bP n 0<0)(h1:R.bP n 1<0)(hc:R.dr l<=4194304)(xH:0<R.dr l)(hm:R.made<=4194304)(jT:nl<=256):
 Calls prog 230 #[UI ab,Y n] w λe w'=>e=C8 (.tuple #[])/\aA [ab,nb,lb] w w'/\eE w' ab nb cn lb cl aE nl (dt R n):=by
 obtain⟨d1,d2,d3⟩:=h.ne;have a1:=h.h1;have a2:=h.h2;have e0:UJ w (G lb (l*3))=H (Y (R.ends l 0)):=h.ends (e:=0) hl O;have e1:UJ w (G lb (l*3+1))=H (Y (R.ends l 1)):=h.ends (e:=1) hl O;have e2:=h.dr hl;have b5:=h.own hn;have b6:UJ w (G nb (n*8+6))=H (Y (R.bP n 0)):=h.bP (e:=0) hn O;have b7:UJ w (G nb (n*8+7))=H (Y (R.bP n 1)):=h.bP (e:=1) hn O;have fn:=h.fn;have fl:=h.fl;have HX:=Z h;rw[ho]at b5;have HO:=Z ho;clear h ho;generalize ep:R.bP n 0=b0 at*;generalize fI:R.bP n 1=b1 at*;obtain⟨k,jE⟩:∃k,R.dr l=k+1:=⟨R.dr l-1,O⟩;rw[jE]at e2 hc xH;have H0:=Z ep;have H1:=Z fI;have HC:=Z jE;clear ep fI jE;have i0:=Sb;have i1:=Sc;go_enter func230,ntmps230;go_wp2;go_region;go_wp2;refine wp_loop_rounds 3 ?_;rw[oJ];go_wp2;go_region;go_wp2;rw[oJ];go_wp2;go_region;go_wp2;rw[oJ];go_wp2;go_end0;refine⟨rfl,(((((aA.refl [ab,nb,lb] w).setCell ay _).setCell ay _).setCell ay _)).drew.drew.drew,?_⟩;have x1:=(((HX.o.kQ (e:=0) hl O b1).kQ (e:=1) hl O b0).qx hl k).drewN 3;have e:dt R n={R with bP:=R.bP,ends:=de (de R.ends l 0 b1) l 1 b0,dr:=aR R.dr l k}:=by
  have be:(R.own n).toNat=l:=by rw[HO.o];rfl
  have ep:=H0.o;have fI:=H1.o;have Rh:=HC.o;have c0:(b0<0)=True:=by simp[h0]
  have c1:(b1<0)=True:=by simp[h1]
  exact VB
 rw[e];exact x1
def XO{w:UK}{ab nb cn lb cl aE nl n l:Nat}{R:Raw}(h:eE w ab nb cn lb cl aE nl R)(hn:n<R.made)(hl:l<nl)(ho:R.own n=(l:Int))(h0:R.bP n 0<0){m1:Nat}(h1:R.bP n 1=(m1:Int))(k1:m1<R.made)(j1:m1≠n)(hc:R.dr l<=4194304)(xH:0<R.dr l)(hm:R.made<=4194304)(jT:nl<=256):
 Calls prog 230 #[UI ab,Y n] w λe w'=>e=C8 (.tuple #[])/\aA [ab,nb,lb] w w'/\eE w' ab nb cn lb cl aE nl (dt R n):=by
 obtain⟨d1,d2,d3⟩:=h.ne;have a1:=h.h1;have a2:=h.h2;have e0:UJ w (G lb (l*3))=H (Y (R.ends l 0)):=h.ends (e:=0) hl O;have e1:UJ w (G lb (l*3+1))=H (Y (R.ends l 1)):=h.ends (e:=1) hl O;have e2:=h.dr hl;have b5:=h.own hn;have b6:UJ w (G nb (n*8+6))=H (Y (R.bP n 0)):=h.bP (e:=0) hn O;have b7:UJ w (G nb (n*8+7))=H (Y (R.bP n 1)):=h.bP (e:=1) hn O;have q6:UJ w (G nb (m1*8+6))=H (Y (R.bP m1 0)):=h.bP (e:=0) k1 O;have q7:UJ w (G nb (m1*8+7))=H (Y (R.bP m1 1)):=h.bP (e:=1) k1 O;have fn:=h.fn;have fl:=h.fl;have HX:=Z h;rw[ho]at b5;have HO:=Z ho;clear h ho;generalize ep:R.bP n 0=b0 at*;rw[h1]at b7;have fI:=h1;clear h1;obtain⟨k,jE⟩:∃k,R.dr l=k+1:=⟨R.dr l-1,O⟩;rw[jE]at e2 hc xH;have H0:=Z ep;have H1:=Z fI;have HC:=Z jE;clear ep fI jE;have i0:=Sb;have i1:=Sc;go_enter func230,ntmps230;go_wp2;go_region;go_wp2;refine wp_loop_rounds 3 ?_;rw[oJ];go_wp2;go_region;go_wp2;rw[oJ];go_wp2;go_region;go_wp2;rw[oJ];go_wp2;go_end0;refine⟨rfl,(((((aA.refl [ab,nb,lb] w).setCell ay _).setCell ay _).setCell ay _)).drew.drew.drew,?_⟩;have x1:=(((HX.o.kQ (e:=0) hl O (m1:Int)).iQ (e:=0) k1 O b0).qx hl k).drewN 3;have e:dt R n={R with bP:=de R.bP m1 0 b0,ends:=de R.ends l 0 (m1:Int),dr:=aR R.dr l k}:=by
  have be:(R.own n).toNat=l:=by rw[HO.o];rfl
  have ep:=H0.o;have fI:=H1.o;have Rh:=HC.o;have c0:(b0<0)=True:=by simp[h0]
  have c1:((m1:Int)<0)=False:=by simp
  exact VB
 rw[e];exact x1
def VC{p:Prop}(h:p:=by
 unfold dt lK;simp only[be,ep,fI,Rh,c0,c1,if_true,if_false,Nat.add_sub_cancel,Int.toNat_natCast,Nat.sub_zero,Nat.sub_self,hq]):p:=h
def XP{w:UK}{ab nb cn lb cl aE nl n l:Nat}{R:Raw}(h:eE w ab nb cn lb cl aE nl R)(hn:n<R.made)(hl:l<nl)(ho:R.own n=(l:Int)){m0:Nat}(h0:R.bP n 0=(m0:Int))(k0:m0<R.made)(j0:m0≠n)(h1:R.bP n 1<0)(hc:R.dr l<=4194304)(xH:0<R.dr l)(hm:R.made<=4194304)(jT:nl<=256):
 Calls prog 230 #[UI ab,Y n] w λe w'=>e=C8 (.tuple #[])/\aA [ab,nb,lb] w w'/\eE w' ab nb cn lb cl aE nl (dt R n):=by
 obtain⟨d1,d2,d3⟩:=h.ne;have a1:=h.h1;have a2:=h.h2;have e0:UJ w (G lb (l*3))=H (Y (R.ends l 0)):=h.ends (e:=0) hl O;have e1:UJ w (G lb (l*3+1))=H (Y (R.ends l 1)):=h.ends (e:=1) hl O;have e2:=h.dr hl;have b5:=h.own hn;have b6:UJ w (G nb (n*8+6))=H (Y (R.bP n 0)):=h.bP (e:=0) hn O;have b7:UJ w (G nb (n*8+7))=H (Y (R.bP n 1)):=h.bP (e:=1) hn O;have p6:UJ w (G nb (m0*8+6))=H (Y (R.bP m0 0)):=h.bP (e:=0) k0 O;have p7:UJ w (G nb (m0*8+7))=H (Y (R.bP m0 1)):=h.bP (e:=1) k0 O;have fn:=h.fn;have fl:=h.fl;have HX:=Z h;rw[ho]at b5;have HO:=Z ho;clear h ho;rw[h0]at b6;have ep:=h0;clear h0;generalize fI:R.bP n 1=b1 at*;obtain⟨k,jE⟩:∃k,R.dr l=k+1:=⟨R.dr l-1,O⟩;rw[jE]at e2 hc xH;have H0:=Z ep;have H1:=Z fI;have HC:=Z jE;clear ep fI jE;have i0:=Sb;have i1:=Sc;go_enter func230,ntmps230;go_wp2;go_region;go_wp2;refine wp_loop_rounds 3 ?_;rw[oJ];go_wp2;go_region;go_wp2;rw[oJ];go_wp2;go_region;go_wp2;rw[oJ];go_wp2;go_end0;refine⟨rfl,(((((aA.refl [ab,nb,lb] w).setCell ay _).setCell ay _).setCell ay _)).drew.drew.drew,?_⟩;have x1:=(((HX.o.iQ (e:=1) k0 O b1).kQ (e:=1) hl O (m0:Int)).qx hl k).drewN 3;have e:dt R n={R with bP:=de R.bP m0 1 b1,ends:=de R.ends l 1 (m0:Int),dr:=aR R.dr l k}:=by
  have be:(R.own n).toNat=l:=by rw[HO.o];rfl
  have ep:=H0.o;have fI:=H1.o;have Rh:=HC.o;have c0:((m0:Int)<0)=False:=by simp
  have hq:de R.bP m0 1 b1 n 0=(m0:Int):=by rw[dh,aw O];exact ep
  have c1:(b1<0)=True:=by simp[h1]
  exact VC
 rw[e];exact x1
def XQ{w:UK}{ab nb cn lb cl aE nl n l:Nat}{R:Raw}(h:eE w ab nb cn lb cl aE nl R)(hn:n<R.made)(hl:l<nl)(ho:R.own n=(l:Int)){m0:Nat}(h0:R.bP n 0=(m0:Int))(k0:m0<R.made)(j0:m0≠n){m1:Nat}(h1:R.bP n 1=(m1:Int))(k1:m1<R.made)(j1:m1≠n)(hc:R.dr l<=4194304)(xH:0<R.dr l)(hm:R.made<=4194304)(jT:nl<=256):
 Calls prog 230 #[UI ab,Y n] w λe w'=>e=C8 (.tuple #[])/\aA [ab,nb,lb] w w'/\eE w' ab nb cn lb cl aE nl (dt R n):=by
 obtain⟨d1,d2,d3⟩:=h.ne;have a1:=h.h1;have a2:=h.h2;have e0:UJ w (G lb (l*3))=H (Y (R.ends l 0)):=h.ends (e:=0) hl O;have e1:UJ w (G lb (l*3+1))=H (Y (R.ends l 1)):=h.ends (e:=1) hl O;have e2:=h.dr hl;have b5:=h.own hn;have b6:UJ w (G nb (n*8+6))=H (Y (R.bP n 0)):=h.bP (e:=0) hn O;have b7:UJ w (G nb (n*8+7))=H (Y (R.bP n 1)):=h.bP (e:=1) hn O;have p6:UJ w (G nb (m0*8+6))=H (Y (R.bP m0 0)):=h.bP (e:=0) k0 O;have p7:UJ w (G nb (m0*8+7))=H (Y (R.bP m0 1)):=h.bP (e:=1) k0 O;have q6:UJ w (G nb (m1*8+6))=H (Y (R.bP m1 0)):=h.bP (e:=0) k1 O;have q7:UJ w (G nb (m1*8+7))=H (Y (R.bP m1 1)):=h.bP (e:=1) k1 O;have fn:=h.fn;have fl:=h.fl;have HX:=Z h;rw[ho]at b5;have HO:=Z ho;clear h ho;rw[h0]at b6;have ep:=h0;clear h0;rw[h1]at b7;have fI:=h1;clear h1;obtain⟨k,jE⟩:∃k,R.dr l=k+1:=⟨R.dr l-1,O⟩;rw[jE]at e2 hc xH;have H0:=Z ep;have H1:=Z fI;have HC:=Z jE;clear ep fI jE;have i0:=Sb;have i1:=Sc;go_enter func230,ntmps230;go_wp2;go_region;go_wp2;refine wp_loop_rounds 3 ?_;rw[oJ];go_wp2;go_region;go_wp2;rw[oJ];go_wp2;go_region;go_wp2;rw[oJ];go_wp2;go_end0;refine⟨rfl,(((((aA.refl [ab,nb,lb] w).setCell ay _).setCell ay _).setCell ay _)).drew.drew.drew,?_⟩;have x1:=(((HX.o.iQ (e:=1) k0 O (m1:Int)).iQ (e:=0) k1 O (m0:Int)).qx hl k).drewN 3;have e:dt R n={R with bP:=de (de R.bP m0 1 (m1:Int)) m1 0 (m0:Int),ends:=R.ends,dr:=aR R.dr l k}:=by
  have be:(R.own n).toNat=l:=by rw[HO.o];rfl
  have ep:=H0.o;have fI:=H1.o;have Rh:=HC.o;have c0:((m0:Int)<0)=False:=by simp
  have hq:de R.bP m0 1 (m1:Int) n 0=(m0:Int):=by rw[dh,aw O];exact ep
  have c1:((m1:Int)<0)=False:=by simp
  exact VC
 rw[e];exact x1
def qy(R:Raw)(n e:Nat):Prop:=R.bP n e<0\/∃m:Nat,R.bP n e=(m:Int)/\m<R.made/\m≠n
def VD{w:UK}{ab nb cn lb cl aE nl n l:Nat}{R:Raw}(h:eE w ab nb cn lb cl aE nl R)(hn:n<R.made)(hl:l<nl)(ho:R.own n=(l:Int))(h0:qy R n 0)(h1:qy R n 1)(hc:R.dr l<=4194304)(xH:0<R.dr l)(hm:R.made<=4194304)(jT:nl<=256):
 Calls prog 230 #[UI ab,Y n] w λe w'=>e=C8 (.tuple #[])/\aA [ab,nb,lb] w w'/\eE w' ab nb cn lb cl aE nl (dt R n):=by
 rcases h0 with a0|⟨m0,a0,b0,c0⟩<;>rcases h1 with a1|⟨m1,a1,b1,c1⟩
 ·exact XN h hn hl ho a0 a1 hc xH hm jT
 ·exact XO h hn hl ho a0 a1 b1 c1 hc xH hm jT
 ·exact XP h hn hl ho a0 b0 c0 a1 hc xH hm jT
 ·exact XQ h hn hl ho a0 b0 c0 a1 b1 c1 hc xH hm jT
def bL(x:eU):UL:= .agg #[.int .u64 x.key,Y (x.tg 0),Y (x.tg 1),Y (x.tg 2),Y (x.tg 3)]
section
variable {w:UK}{ab aE nl:Nat}{V L:UL}{R:Raw}
def qz(h:rL w ab V L aE nl R){q:Nat}(hq:q<nl):∃lb cl,L=to (H (G lb 0)) nl cl:=by obtain⟨b,cap,hv,_⟩:=h.lists.some O;exact⟨b,cap,hv⟩
def qA(h:rL w ab V L aE nl R){n:Nat}(hn:n<R.made):∃nb cn,V=to (H (G nb 0)) R.made cn:=by obtain⟨b,cap,hv,_⟩:=h.nodes.some O;exact⟨b,cap,hv⟩
def Jg{e:Nat}(he:e<=1)(w:UK):Calls prog 226 #[Y e] w λr w'=>r=C8 (.bool true)/\w=w':=by
 have:e=0\/e=1:=O;rcases this with rfl|rfl
 all_goals
  go_enter func226,ntmps226;go_wp2;exact Tw
def KR(h:rL w ab V L aE nl R){q e:Nat}(hq:q<nl)(he:e<=1):Calls prog 224 #[UI ab,Y q,Y e] w λr w'=>r=C8 (.bool true)/\w=w':=by
 obtain⟨lb,cl,rfl⟩:=qz h hq;have h2:UJ w (G ab 2)=H (to (H (G lb 0)) nl cl):=h.head.cell 2;have HE:=Z (Jg he);clear h he;have t1:decide ((0:Int)<=(q:Int))=true:=by simp
 have t2:decide ((q:Int)<(nl:Int))=true:=by simp;omega
 go_enter func224,ntmps224;go_wp2_with (go_at_call 226;refine(HE.o _).mono ?_;rintro r w' ⟨rfl,rfl⟩);exact Tw
def rl(h:rL w ab V L aE nl R){n:Nat}(hn:n<R.made)(ho:0<=R.own n)(hm:R.made<=aE):Calls prog 133 #[UI ab,Y n] w λr w'=>r=C8 (Y 0)/\w=w':=by
 obtain⟨nb,cn,rfl⟩:=qA h hn;obtain⟨h0,h1⟩:=h.head.c2;have h5:=h.nodes.cell (o:=n*8+5) O;rw[uD]at h5;generalize R.own n=o at*;generalize R.made=k at*;have t1:decide ((n:Int)<0)=false:=by simp
 have t2:decide ((aE:Int)<=(n:Int))=false:=by simp;omega
 have t3:decide ((k:Int)<=(n:Int))=false:=by simp;omega
 have t4:decide (o<0)=false:=by simp;omega
 clear h;go_enter func133,ntmps133;go_wp2;exact Tw
def Sd(n:Int)(h:0<=n)(w:UK):Calls prog 225 #[Y n] w λr w'=>r=C8 (.tuple #[Y n,.bool true])/\w=w':=by have hm:max n 0=n:=O;go_enter func225,ntmps225;go_wp2;go_ret2;exact⟨rfl,rfl⟩
def Se(n:Int)(h:n<0)(w:UK):Calls prog 225 #[Y n] w λr w'=>r=C8 (.tuple #[Y 0,.bool false])/\w=w':=by
 have t1:decide (0<=n)=false:=by simp;omega
 have hm:max n 0=0:=O;go_enter func225,ntmps225;go_wp2;go_ret2;exact⟨rfl,rfl⟩
def XR(h:rL w ab V L aE nl R){n:Nat}(hn:n<R.made)(ho:0<=R.own n)(hm:R.made<=aE):Calls prog 60 #[UI ab,Y n] w λr w'=>r=C8 (.tuple #[Y (R.own n),.bool true])/\w=w':=by have HH:=Z (rl h hn ho hm);obtain⟨nb,cn,rfl⟩:=qA h hn;have h1:UJ w (G ab 1)=H (to (H (G nb 0)) R.made cn):=h.head.cell 1;have h5:=h.nodes.cell (o:=n*8+5) O;rw[uD]at h5;generalize R.own n=o at*;generalize R.made=k at*;clear h;go_enter func60,ntmps60;go_wp2_with (go_at_call 133;refine HH.o.mono ?_;rintro r w' ⟨rfl,rfl⟩);go_ret2;exact⟨rfl,rfl⟩
def As(h:rL w ab V L aE nl R){n:Nat}(hn:n<R.made)(ho:0<=R.own n)(hm:R.made<=aE):Calls prog 208 #[UI ab,Y n] w λr w'=>r=C8 (.tuple #[bL (R.val n),Y 0])/\Below w.heap.size w w':=by have HH:=Z (rl (h.later ((aB _ w).alloc (aL _) (QP #[.int .u64 0,Y 0,Y 0,Y 0,Y 0] 118))) hn ho hm);obtain⟨nb,cn,rfl⟩:=qA h hn;have h1:UJ w (G ab 1)=H (to (H (G nb 0)) R.made cn):=h.head.cell 1;have k0:=h.nodes.cell (o:=n*8) O;have k1:=h.nodes.cell (o:=n*8+1) O;have k2:=h.nodes.cell (o:=n*8+2) O;have k3:=h.nodes.cell (o:=n*8+3) O;have k4:=h.nodes.cell (o:=n*8+4) O;rw[Ao]at k0;rw[show eI R (n*8+1)=_ from jw R n (t:=0) O]at k1;rw[show eI R (n*8+2)=_ from jw R n (t:=1) O]at k2;rw[show eI R (n*8+3)=_ from jw R n (t:=2) O]at k3;rw[show eI R (n*8+4)=_ from jw R n (t:=3) O]at k4;have lab:=h.head.lt;have lnb:=aH k0;unfold bL;generalize R.val n=x at*;generalize R.made=k at*;clear h;go_enter func208,ntmps208;go_wp2_with (go_at_call 133;refine HH.o.mono ?_;rintro r w' ⟨rfl,rfl⟩);refine bK (v:= .tuple #[.agg #[.int .u64 x.key,Y (x.tg 0),Y (x.tg 1),Y (x.tg 2),Y (x.tg 3)],Y 0]) (by simp[results,results208,go_sem]) rfl ⟨rfl,(aB _ _).alloc (aL _) _⟩
def NW{nb cn lb cl:Nat}(h:eE w ab nb cn lb cl aE nl R){n:Nat}(hn:n<R.made)(ho:0<=R.own n)(hm:R.made<=aE)(x:eU):Calls prog 268 #[UI ab,Y n,bL x] w λr w'=>r=C8 (Y 0)/\aA [ab,nb,lb] w w'/\eE w' ab nb cn lb cl aE nl {R with val:=aR R.val n x}:=by
 have HH:=Z (rl (h.c.later ((aB _ w).alloc (aL _) (QP #[.int .u64 x.key,Y (x.tg 0),Y (x.tg 1),Y (x.tg 2),Y (x.tg 3)] 118))) hn ho hm);have HX:=Z h;have h1:=h.h1;obtain⟨k0,k1,k2,k3,k4⟩:=h.aS hn;have lab:=h.c.head.lt;have lnb:=aH k0;have fn:=h.fn;unfold bL;generalize R.val n=y at*;clear h;go_enter func268,ntmps268;go_wp2_with (go_at_call 133;refine HH.o.mono ?_;rintro r w' ⟨rfl,rfl⟩);obtain⟨w1,jF⟩:∃w1,w1=w.alloc (QP #[.int .u64 x.key,Y (x.tg 0),Y (x.tg 1),Y (x.tg 2),Y (x.tg 3)] 118):=⟨_,rfl⟩;rw[<-jF];have X:aF w1 w.heap.size 118 #[.int .u64 x.key,Y (x.tg 0),Y (x.tg 1),Y (x.tg 2),Y (x.tg 3)]:=by rw[jF];exact aF.new _ _ _
 have hB:Below w.heap.size w w1:=by rw[jF];exact(aB _ w).alloc (aL _) _
 have xI:Hid (eE w1 ab nb cn lb cl aE nl R):=Z ⟨HX.o.c.later hB,HX.o.pos⟩;obtain⟨g0,g1,g2,g3,g4⟩:=X.c5;have h1':=xI.o.h1;obtain⟨j0,j1,j2,j3,j4⟩:=xI.o.aS hn;have fn':=xI.o.fn;have HBF:=Z (aA.af (S:=[ab,nb,lb]) hB);clear jF X hB h1 k0 k1 k2 k3 k4 fn HX HH;generalize w.heap.size=bx at*;generalize hy':R.val n=y' at*;clear hy';have bm:bx≠nb:=O;go_region;go_wp2;go_ret;exact⟨rfl,(fZ HBF.o ay (n*8) x).drew,(xI.o.BJ hn x).drewN 1⟩
def YA(h:rL w ab V L aE nl R){q:Nat}(hq:q<nl):Calls prog 204 #[UI ab,Y q] w λr w'=>r=C8 (Y (R.dr q))/\w=w':=by have HI:=Z (KR h hq (e:=0) O);obtain⟨lb,cl,rfl⟩:=qz h hq;have h2:UJ w (G ab 2)=H (to (H (G lb 0)) nl cl):=h.head.cell 2;have h5:=h.lists.cell (o:=q*3+2) O;rw[Aq]at h5;generalize R.dr q=k at*;clear h;go_enter func204,ntmps204;go_wp2_with (go_at_call 224;refine HI.o.mono ?_;rintro r w' ⟨rfl,rfl⟩);exact Tw
def eN(n:Int):UL:= .tuple #[Y (if 0<=n then n else 0),.bool (decide (0<=n))]
def Au(n:Int)(w:UK):Calls prog 225 #[Y n] w λr w'=>r=C8 (.tuple #[Y (if 0<=n then n else 0),.bool (decide (0<=n))])/\w=w':=by
 by_cases h:0<=n
 ·rw[bk h,decide_eq_true h];exact Sd n h w
 ·rw[aw h,decide_eq_false h];exact Se n O w
def NY(h:rL w ab V L aE nl R){q e:Nat}(hq:q<nl)(he:e<=1):Calls prog 134 #[UI ab,Y q,Y e] w λr w'=>r=C8 (eN (R.ends q e))/\w=w':=by
 have HI:=Z (KR h hq he);obtain⟨lb,cl,rfl⟩:=qz h hq;have h2:UJ w (G ab 2)=H (to (H (G lb 0)) nl cl):=h.head.cell 2;have h5:=h.lists.cell (o:=q*3+e) O;rw[xF R q he]at h5;have HT:=Z (Au (R.ends q e));unfold eN;generalize R.ends q e=k at*;clear h;have Ja:e=0\/e=1:=O;rcases Ja with rfl|rfl
 all_goals
  try simp only[Nat.add_zero]at h5
  go_enter func134,ntmps134;go_wp2_with (first|(go_at_call 224;refine HI.o.mono ?_;rintro r w' ⟨rfl,rfl⟩)|(go_at_call 225;refine(HT.o _).mono ?_;rintro r w' ⟨rfl,rfl⟩))
  all_goals (go_ret2;exact⟨rfl,rfl⟩)
def XS(h:rL w ab V L aE nl R){n e:Nat}(hn:n<R.made)(ho:0<=R.own n)(hm:R.made<=aE)(he:e<=1):Calls prog 135 #[UI ab,Y n,Y e] w λr w'=>r=C8 (eN (R.bP n e))/\w=w':=by
 have HH:=Z (rl h hn ho hm);have HE:=Z (Jg he w);obtain⟨nb,cn,rfl⟩:=qA h hn;have h1:UJ w (G ab 1)=H (to (H (G nb 0)) R.made cn):=h.head.cell 1;have h5:=h.nodes.cell (o:=n*8+(6+e)) O;rw[Ap R n he]at h5;have HT:=Z (Au (R.bP n e));unfold eN;generalize R.bP n e=k at*;generalize R.made=m at*;clear h;have Ja:e=0\/e=1:=O;rcases Ja with rfl|rfl
 all_goals
  try simp only[Nat.add_zero]at h5
  go_enter func135,ntmps135;go_wp2_with (first|(go_at_call 133;refine HH.o.mono ?_;rintro r w' ⟨rfl,rfl⟩)|(go_at_call 226;refine HE.o.mono ?_;rintro r w' ⟨rfl,rfl⟩)|(go_at_call 225;refine(HT.o _).mono ?_;rintro r w' ⟨rfl,rfl⟩))
  all_goals (go_ret2;exact⟨rfl,rfl⟩)
def Av{k:Int}{m:Nat}(h:k=(m:Int)):eN k= .tuple #[Y m,.bool true]:=by unfold eN;rw[bk O,decide_eq_true O,h]
def Aw{k:Int}(h:k<0):eN k= .tuple #[Y 0,.bool false]:=by unfold eN;rw[aw O,decide_eq_false O]
def k_(R:Raw)(n:Nat):(dt R n).own=R.own/\(dt R n).made=R.made/\(dt R n).val=R.val/\(dt R n).dm=R.dm/\(dt R n).used=R.used:=by obtain⟨o1,o2,o3,o4,o5,o6⟩:=ti R n (R.own n).toNat 0 (R.bP n 0);obtain⟨p1,p2,p3,p4,p5,p6⟩:=ti (lK R n (R.own n).toNat 0 (R.bP n 0)) n (R.own n).toNat 1 (R.bP n 1);exact⟨p1.trans o1,p2.trans o2,p3.trans o3,p4.trans o4,p5.trans o5⟩
variable {nb cn lb cl:Nat}
def D6(w:UK)(ab nb n:Nat)(NZ:Int)(k:Nat):UK:=
 (((((dL w nb (n*8) eh).setCell (G nb (n*8+5)) (Y (-1))).setCell (G nb (n*8+6)) (Y NZ)).setCell (G nb (n*8+7)) (Y (-1))).setCell (G ab 3) (Y n)).setCell (G ab 4) (Y k)
def N0(h:eE w ab nb cn lb cl aE nl R){n:Nat}(hn:n<R.made)(k:Nat):eE (D6 w ab nb n R.dm k) ab nb cn lb cl aE nl
 {R with val:=aR R.val n eh,own:=aR R.own n (-1),bP:=de (de R.bP n 0 R.dm) n 1 (-1),dm:=n,used:=k}:=
 (((((h.BJ hn eh).xG hn (-1)).iQ (e:=0) hn O R.dm).iQ (e:=1) hn O (-1)).D0 n).BH k
def Ax(w:UK)(ab nb lb n:Nat)(NZ:Int)(k:Nat):aA [ab,nb,lb] w (D6 w ab nb n NZ k):=by unfold D6;exact((((((fZ (aA.refl _ w) ay _ _).setCell ay _).setCell ay _).setCell ay _).setCell ay _).setCell ay _)
def kD{b:Nat}{v0 v1 v2 v3 v4:UL}(h:aF w b 118 #[v0,v1,v2,v3,v4])(x:eU):aF (dL w b 0 x) b 118 #[.int .u64 x.key,Y (x.tg 0),Y (x.tg 1),Y (x.tg 2),Y (x.tg 3)]:=
 ((((h.set 0 _).set 1 _).set 2 _).set 3 _).set 4 _
def xJ{S:List Nat}{a:UK}{b:Nat}(h:aA S a w)(X:a.heap.size<=b)(o:Nat)(x:eU):aA S a (dL w b o x):=
 ((((h.rY X _).rY X _).rY X _).rY X _).rY X _
def XT(h:eE w ab nb cn lb cl aE nl R){n l:Nat}(hn:n<R.made)(hl:l<nl)(ho:R.own n=(l:Int))(h0:qy R n 0)(h1:qy R n 1)(hc:R.dr l<=4194304)(xH:0<R.dr l)(hm:R.made<=4194304)(jT:nl<=256)(hu:0<R.used)(xK:R.used<=4194304):
 Calls prog 143 #[UI ab,Y n] w λr w'=>r=C8 (bL (R.val n))/\aA [ab,nb,lb] w w'/\eE w' ab nb cn lb cl aE nl (kP R n):=by
 have wQ:Below w.heap.size w (w.alloc (QP #[.int .u64 0,Y 0,Y 0,Y 0,Y 0] 118)):=(aB _ w).alloc (aL _) _;have Dj:=aF.new w 118 #[.int .u64 0,Y 0,Y 0,Y 0,Y 0];have vI:eE _ ab nb cn lb cl aE nl R:=⟨h.c.later wQ,h.pos⟩;have HC:=Z (VD vI hn hl ho h0 h1 hc xH hm jT);have jn:=vI.apart Dj;have eV:=Z wQ;have vJ:=Z Dj;clear wQ Dj vI;obtain⟨f1,f2,f3,f4,f5⟩:=k_ R n;have HF:=Z (show kP R n={dt R n with val:=aR (dt R n).val n eh,own:=aR (dt R n).own n (-1),bP:=de (de (dt R n).bP n 0 (dt R n).dm) n 1 (-1),dm:=n,used:=R.used-1}by unfold kP ND;rw[f5]);have hv:R.val n=(dt R n).val n:=by rw[f3]
 rw[hv];rw[<-f2]at hn;have hU:R.used=(dt R n).used:=f5.symm;rw[hU]at hu xK HF;clear h0 h1 hc xH hm jT ho hl hv f1 f2 f3 f4 f5 h hU;generalize dt R n=R1 at*;obtain⟨k,hk⟩:∃k,R1.used=k+1:=⟨R1.used-1,O⟩;unfold bL;generalize hy:R1.val n=y;have HY:=Z hy;clear hy;go_enter func143,ntmps143;have HK:=Z hk;rw[hk]at hu xK;clear hk;go_wp2_with fail;refine HC.o.mono ?_;rintro r w1 ⟨rfl,F1,X1⟩;have XF:aF w1 w.heap.size 118 #[.int .u64 0,Y 0,Y 0,Y 0,Y 0]:=vJ.o.aG F1 jz;have hF0:aA [ab,nb,lb] w w1:=(aA.af eV.o).trans F1;obtain⟨d1,d2,d3⟩:=X1.ne;obtain⟨a1,a3,a4,k0,k1,k2,k3,k4,b5,b6,b7,fn,fa⟩:=X1.facts hn;rw[HY.o]at k0 k1 k2 k3 k4;have HX:=Z X1;have Dk:=Z XF;have XU:=Z hF0;have hz:w.heap.size≠ab/\w.heap.size≠nb/\w.heap.size≠lb/\w.heap.size<w1.heap.size:=⟨O,O,O,XF.lt⟩;have BL:Hid (w.heap.size<=w.heap.size):=Z (aL _);clear XF hF0 vJ eV HC X1 F1 jn;generalize gu:w.heap.size=bx at*;have kE:Hid (w.heap.size<=bx):=Z O;clear gu BL;go_wp2;obtain⟨w2,r_⟩:∃w2,w2=w1.alloc (QP #[.int .u64 y.key,Y (y.tg 0),Y (y.tg 1),Y (y.tg 2),Y (y.tg 3)] 118):=⟨_,rfl⟩;rw[<-r_];have hB2:Below w1.heap.size w1 w2:=by rw[r_];exact(aB _ w1).alloc (aL _) _
 have D7:aF w2 w1.heap.size 118 #[.int .u64 y.key,Y (y.tg 0),Y (y.tg 1),Y (y.tg 2),Y (y.tg 3)]:=by rw[r_];exact aF.new _ _ _
 have lF:=Z (HX.o.later hB2);have sR:=Z (Dk.o.of (hB2.block _ hz.2.2.2));have Ay:=Z (XU.o.trans (aA.af hB2));have hv:w1.heap.size≠ab/\w1.heap.size≠nb/\w1.heap.size≠lb:=by have:=lF.o.apart D7;omega
 clear r_ a1 a3 a4 k0 k1 k2 k3 k4 b5 b6 b7 fn fa HX Dk XU hB2;obtain⟨a1,a3,a4,k0,k1,k2,k3,k4,b5,b6,b7,fn,fa⟩:=lF.o.facts hn;rw[HY.o]at k0 k1 k2 k3 k4;rw[HK.o]at a4;obtain⟨g0,g1,g2,g3,g4,gf⟩:=jY sR.o;obtain⟨v0,v1,v2,v3,v4,a0n⟩:=jY D7;generalize tp:R1.dm=NZ at*;have sg:=Z tp;clear tp D7;generalize w1.heap.size=vx at*;go_region;go_wp2;have x3:=N0 lF.o hn k;rw[sg.o]at x3;have r4:=kD (sR.o.aG (Ax w2 ab nb lb n NZ k) jz) y;have x4:=(x3.aG (fZ (b:=bx) (aA.refl [bx] _) ay 0 y) ⟨by simp;omega,by simp;omega,by simp;omega⟩).drewN 1;have f4:=(xJ (Ay.o.trans (Ax w2 ab nb lb n NZ k)) kE.o 0 y).drewN 1;have r5:=r4.drewN 1;change bodyPost _ _ _ _ _ ((dL (D6 w2 ab nb n NZ k) bx 0 y).drewN 1);generalize(dL (D6 w2 ab nb n NZ k) bx 0 y).drewN 1=w5 at*;obtain⟨e0,e1,e2,e3,e4,_⟩:=jY r5;have hF:=HF.o;rw[HK.o]at hF;have hF':kP R n={R1 with val:=aR R1.val n eh,own:=aR R1.own n (-1),bP:=de (de R1.bP n 0 NZ) n 1 (-1),dm:=n,used:=k}:=hF;exact bK (v:= .agg #[.int .u64 y.key,Y (y.tg 0),Y (y.tg 1),Y (y.tg 2),Y (y.tg 3)]) (by simp[results,results143,go_sem,e0,e1,e2,e3,e4]) rfl ⟨rfl,f4,by rw[hF'];exact x4⟩
structure Rm(R:Raw)(nl n l:Nat):Prop where
 hn:n<R.made
 hl:l<nl
 ho:R.own n=(l:Int)
 h0:qy R n 0
 h1:qy R n 1
 hc:R.dr l<=4194304
 xH:0<R.dr l
 hm:R.made<=4194304
 jT:nl<=256
 hu:0<R.used
 xK:R.used<=4194304
def N5(h:eE w ab nb cn lb cl aE nl R){n l:Nat}(r:Rm R nl n l):Calls prog 143 #[UI ab,Y n] w λe w'=>e=C8 (bL (R.val n))/\aA [ab,nb,lb] w w'/\eE w' ab nb cn lb cl aE nl (kP R n):=
 XT h r.hn r.hl r.ho r.h0 r.h1 r.hc r.xH r.hm r.jT r.hu r.xK
def Jh(w:UK):Below w.heap.size w (w.alloc (QP #[.int .u64 0,Y 0,Y 0,Y 0,Y 0] 118))/\aF (w.alloc (QP #[.int .u64 0,Y 0,Y 0,Y 0,Y 0] 118)) w.heap.size 118 #[.int .u64 0,Y 0,Y 0,Y 0,Y 0]:=
 ⟨(aB _ w).alloc (aL _) _,aF.new w _ _⟩
def Ji{w2:UK}{R':Raw}{bx:Nat}{v0 v1 v2 v3 v4:UL}(X2:eE w2 ab nb cn lb cl aE nl R')(F:aA [ab,nb,lb] w w2)(X:w.heap.size<=bx)(hz:bx≠ab/\bx≠nb/\bx≠lb)(r:aF w2 bx 118 #[v0,v1,v2,v3,v4])(y:eU):
 aA [ab,nb,lb] w (dL w2 bx 0 y)/\eE (dL w2 bx 0 y) ab nb cn lb cl aE nl R'/\aF (dL w2 bx 0 y) bx 118 #[.int .u64 y.key,Y (y.tg 0),Y (y.tg 1),Y (y.tg 2),Y (y.tg 3)]:=
 ⟨xJ F X 0 y,X2.aG (fZ (b:=bx) (aA.refl [bx] _) ay 0 y) ⟨by simp;omega,by simp;omega,by simp;omega⟩,kD r y⟩
def N6(h:eE w ab nb cn lb cl aE nl R){n l:Nat}(r:Rm R nl n l)(BK:R.made<=aE):
 Calls prog 67 #[UI ab,Y n] w λe w'=>e=C8 (.tuple #[bL (R.val n),Y 0])/\aA [ab,nb,lb] w w'/\eE w' ab nb cn lb cl aE nl (kP R n):=by
 obtain⟨wQ,Dj⟩:=Jh w;have vI:=h.later wQ;have HH:=Z (rl vI.c r.hn (by rw[r.ho];omega) BK);have HFr:=Z (λwx (hx:eE wx ab nb cn lb cl aE nl R)=>N5 hx r);have GH:=Z vI;have eV:=Z wQ;have vJ:=Z Dj;have hz:=vI.apart Dj;have gu:w.heap.size<=w.heap.size:=aL _;clear h r vI wQ Dj BK;unfold bL at HFr ⊢;generalize R.val n=y at*;obtain⟨w1,jF⟩:∃w1,w1=w.alloc (QP #[.int .u64 0,Y 0,Y 0,Y 0,Y 0] 118):=⟨_,rfl⟩;rw[<-jF]at HH GH eV vJ;go_enter func67,ntmps67;go_wp2_with fail;rw[<-jF];clear jF;obtain⟨bx,X⟩:∃bx,bx=w.heap.size:=⟨_,rfl⟩;have kE:=Z X;rw[<-X]at vJ hz ⊢;clear X gu;go_wp2_with (first|(go_at_call 133;refine HH.o.mono ?_;rintro r w' ⟨rfl,rfl⟩)|(go_at_call 143;refine(HFr.o _ GH.o).mono ?_;rintro r w2 ⟨rfl,F2,X2⟩;have lF:=Z X2;have Ay:=Z (aA.trans (aA.af eV.o) F2);have sR:=Z (aF.aG vJ.o F2 jz);obtain⟨g0,g1,g2,g3,g4,gf⟩:=jY sR.o;clear X2 F2));obtain⟨f5,x5,r5⟩:=Ji lF.o Ay.o (Nat.le_of_eq kE.o.symm) hz sR.o y;change bodyPost _ _ _ _ _ (dL w2 bx 0 y);generalize dL w2 bx 0 y=w5 at*;obtain⟨e0,e1,e2,e3,e4,_⟩:=jY r5;exact bK (v:= .tuple #[.agg #[.int .u64 y.key,Y (y.tg 0),Y (y.tg 1),Y (y.tg 2),Y (y.tg 3)],Y 0]) (by simp[results,results67,go_sem,e0,e1,e2,e3,e4]) rfl ⟨rfl,f5,x5⟩
def xL(h:eE w ab nb cn lb cl aE nl R){n q e:Nat}(r:Rm R nl n q)(he:e<=1)(hn:R.ends q e=(n:Int)):
 Calls prog 308 #[UI ab,Y q,Y e] w λe w'=>e=C8 (.tuple #[bL (R.val n),Y 0])/\aA [ab,nb,lb] w w'/\eE w' ab nb cn lb cl aE nl (kP R n):=by
 obtain⟨wQ,Dj⟩:=Jh w;have vI:=h.later wQ;have HI:=Z (KR vI.c r.hl he);have HFr:=Z (λwx (hx:eE wx ab nb cn lb cl aE nl R)=>N5 hx r);have a2:=vI.h2;have h5:=vI.ends r.hl he;rw[hn]at h5;have GH:=Z vI;have eV:=Z wQ;have vJ:=Z Dj;have hz:=vI.apart Dj;have hq:=r.hl;have jT:=r.jT;clear h r vI wQ Dj hn;unfold bL at HFr ⊢;generalize R.val n=y at*;obtain⟨w1,jF⟩:∃w1,w1=w.alloc (QP #[.int .u64 0,Y 0,Y 0,Y 0,Y 0] 118):=⟨_,rfl⟩;rw[<-jF]at HI GH eV vJ a2 h5;have Ja:e=0\/e=1:=O;rcases Ja with rfl|rfl
 all_goals
  try simp only[Nat.add_zero]at h5
  go_enter func308,ntmps308;go_wp2_with fail;rw[<-jF];clear jF;obtain⟨bx,X⟩:∃bx,bx=w.heap.size:=⟨_,rfl⟩;have kE:=Z X;rw[<-X]at vJ hz ⊢;clear X;go_wp2_with (first|(go_at_call 224;refine HI.o.mono ?_;rintro r w' ⟨rfl,rfl⟩)|(go_at_call 143;refine(HFr.o _ GH.o).mono ?_;rintro r w2 ⟨rfl,F2,X2⟩;have lF:=Z X2;have Ay:=Z (aA.trans (aA.af eV.o) F2);have sR:=Z (aF.aG vJ.o F2 jz);obtain⟨g0,g1,g2,g3,g4,gf⟩:=jY sR.o;clear X2 F2));obtain⟨f5,x5,r5⟩:=Ji lF.o Ay.o (Nat.le_of_eq kE.o.symm) hz sR.o y;change bodyPost _ _ _ _ _ (dL w2 bx 0 y);generalize dL w2 bx 0 y=w5 at*;obtain⟨e0,e1,e2,e3,e4,_⟩:=jY r5;exact bK (v:= .tuple #[.agg #[.int .u64 y.key,Y (y.tg 0),Y (y.tg 1),Y (y.tg 2),Y (y.tg 3)],Y 0]) (by simp[results,results308,go_sem,e0,e1,e2,e3,e4]) rfl ⟨rfl,f5,x5⟩
def XV(h:eE w ab nb cn lb cl aE nl R){n l q e:Nat}(r:Rm R nl n l)(BK:R.made<=aE)(hq:q<nl)(he:e<=1)(dU:(dt R n).ends q e<0\/∃m:Nat,(dt R n).ends q e=(m:Int)/\m<R.made/\m≠n)(hc:(dt R n).dr q<=4194304):
 Calls prog 274 #[UI ab,Y n,Y q,Y e] w λr w'=>r=C8 (Y 0)/\aA [ab,nb,lb] w w'/\eE w' ab nb cn lb cl aE nl (rk R n q e):=by
 have HH:=Z (rl h.c r.hn (by rw[r.ho];omega) BK);have HI:=Z (KR h.c hq he);have HC:=Z (VD h r.hn r.hl r.ho r.h0 r.h1 r.hc r.xH r.hm r.jT);obtain⟨f1,f2,f3,f4,f5⟩:=k_ R n;have HL:=Z (λwx (hx:eE wx ab nb cn lb cl aE nl (dt R n))=>GG hx (by rw[f2];exact r.hn) hq he (by rw[f2];exact dU) hc (by rw[f2];exact r.hm) r.jT);clear h r BK dU hc f1 f2 f3 f4 f5;unfold rk;generalize dt R n=R1 at*;go_enter func274,ntmps274;go_wp2_with (first|(go_at_call 133;refine HH.o.mono ?_;rintro r w' ⟨rfl,rfl⟩)|(go_at_call 224;refine HI.o.mono ?_;rintro r w' ⟨rfl,rfl⟩)|(go_at_call 230;refine HC.o.mono ?_;rintro r w2 ⟨rfl,F2,X2⟩;have lF:=Z X2;have Ay:=Z F2;clear X2 F2)|(go_at_call 309;refine(HL.o _ lF.o).mono ?_;rintro r w3 ⟨rfl,F3,X3⟩;have GI:=Z X3;have Dl:=Z F3;clear X3 F3));go_ret;exact⟨rfl,Ay.o.trans Dl.o,GI.o⟩
end
end Go.eB
namespace Go.Proofs
open Go.Shelf
def Tryz.D8:Go.Shelf.Ren:=⟨λ|125=>228|128=>284|129=>285|n=>n,λ|46=>256|3=>3|51=>296|53=>46|4=>4|5=>5|9=>9|n=>n,λ|n=>n⟩
def Tryz.Sf:Go.Proofs.Lays.n125 prog Tryz.D8:={
 mixed:=by kernel_rfl
 f125:=func228.trans (congrArg some (by kernel_rfl))
 f128:=func284.trans (congrArg some (by kernel_rfl))
 f129:=func285.trans (congrArg some (by kernel_rfl))
 t3:=underlying3
 a3:=isAgg3
 z3:=sizeOf3
 v3:=zeroValue3
 t4:=underlying4
 a4:=isAgg4
 z4:=sizeOf4
 v4:=zeroValue4
 t5:=underlying5
 a5:=isAgg5
 z5:=sizeOf5
 v5:=zeroValue5
 t9:=underlying9
 a9:=isAgg9
 z9:=sizeOf9
 v9:=zeroValue9
 t46:=underlying256
 a46:=isAgg256
 z46:=sizeOf256
 v46:=zeroValue256
 t51:=underlying296
 a51:=isAgg296
 z51:=sizeOf296
 v51:=zeroValue296
 t53:=underlying46
 a53:=isAgg46
 z53:=sizeOf46
 v53:=zeroValue46}
def Tryz.bits_Len(x:Int)(w:World)(h0:0<=x)(h1:x<=18446744073709551615):
 Calls prog 228 #[.int .u64 x] w λe w'=>e= .returned (.int .i64 (Lib.bitLen x.toNat))/\w'=w:=Any.bits_Len Tryz.Sf x w h0 h1
def Tryz.KT:Go.Shelf.Ren:=⟨λ|6=>137|15=>228|14=>227|28=>284|29=>285|20=>276|21=>277|22=>278|23=>279|24=>280|25=>281|26=>282|27=>283|46=>310|47=>311|48=>312|49=>313|50=>314|57=>322|n=>n,λ|22=>195|24=>199|25=>210|3=>3|39=>256|0=>0|53=>296|55=>46|4=>4|46=>290|45=>289|50=>70|5=>5|9=>9|66=>329|70=>249|76=>337|77=>148|n=>n,λ|n=>n⟩
def Tryz.EP:Go.Proofs.SlLaysF0.n6 prog Tryz.KT:={
 mixed:=by kernel_rfl
 f6:=⟨Tryz.f137.name,bd,func137.trans (bu some (by kernel_rfl))⟩
 f14:=⟨Tryz.f227.name,bd,func227.trans (bu some (by kernel_rfl))⟩
 f15:=func228.trans (bu some (by kernel_rfl))
 f20:=⟨Tryz.f276.name,bd,func276.trans (bu some (by kernel_rfl))⟩
 f21:=⟨Tryz.f277.name,bd,func277.trans (bu some (by kernel_rfl))⟩
 f22:=⟨Tryz.f278.name,bd,func278.trans (bu some (by kernel_rfl))⟩
 f23:=⟨Tryz.f279.name,bd,func279.trans (bu some (by kernel_rfl))⟩
 f24:=⟨Tryz.f280.name,bd,func280.trans (bu some (by kernel_rfl))⟩
 f25:=⟨Tryz.f281.name,bd,func281.trans (bu some (by kernel_rfl))⟩
 f26:=⟨Tryz.f282.name,bd,func282.trans (bu some (by kernel_rfl))⟩
 f27:=⟨Tryz.f283.name,bd,func283.trans (bu some (by kernel_rfl))⟩
 f28:=func284.trans (bu some (by kernel_rfl))
 f29:=func285.trans (bu some (by kernel_rfl))
 f46:=⟨Tryz.f310.name,bd,func310.trans (bu some (by kernel_rfl))⟩
 f47:=func311.trans (bu some (by kernel_rfl))
 f48:=func312.trans (bu some (by kernel_rfl))
 f49:=⟨Tryz.f313.name,bd,func313.trans (bu some (by kernel_rfl))⟩
 f50:=⟨Tryz.f314.name,bd,func314.trans (bu some (by kernel_rfl))⟩
 f57:=⟨Tryz.f322.name,bd,func322.trans (bu some (by kernel_rfl))⟩
 t0:=underlying0
 a0:=isAgg0
 z0:=sizeOf0
 v0:=zeroValue0
 t3:=underlying3
 a3:=isAgg3
 z3:=sizeOf3
 v3:=zeroValue3
 t4:=underlying4
 a4:=isAgg4
 z4:=sizeOf4
 v4:=zeroValue4
 t5:=underlying5
 a5:=isAgg5
 z5:=sizeOf5
 v5:=zeroValue5
 t9:=underlying9
 a9:=isAgg9
 z9:=sizeOf9
 v9:=zeroValue9
 t22:=underlying195
 a22:=isAgg195
 z22:=sizeOf195
 v22:=zeroValue195
 t25:=underlying210
 a25:=isAgg210
 z25:=sizeOf210
 v25:=zeroValue210
 t39:=underlying256
 a39:=isAgg256
 z39:=sizeOf256
 v39:=zeroValue256
 t45:=underlying289
 a45:=isAgg289
 z45:=sizeOf289
 v45:=zeroValue289
 t46:=underlying290
 a46:=isAgg290
 z46:=sizeOf290
 v46:=zeroValue290
 t50:=underlying70
 a50:=isAgg70
 z50:=sizeOf70
 v50:=zeroValue70
 t53:=underlying296
 a53:=isAgg296
 z53:=sizeOf296
 v53:=zeroValue296
 t55:=underlying46
 a55:=isAgg46
 z55:=sizeOf46
 v55:=zeroValue46
 t66:=underlying329
 a66:=isAgg329
 z66:=sizeOf329
 v66:=zeroValue329
 t70:=underlying249
 a70:=isAgg249
 z70:=sizeOf249
 v70:=zeroValue249
 t76:=underlying337
 a76:=isAgg337
 z76:=sizeOf337
 v76:=zeroValue337
 t77:=underlying148
 a77:=isAgg148
 z77:=sizeOf148
 v77:=zeroValue148}
end Go.Proofs
namespace Go.gR
open Go.RowKit aj
def Sg{k:IntKind}{a b:Int}(h:a=b):Ending.returned (.int k a)=C8 (.int k b):=by rw[h]
def GJ{n e:Nat}(g:zN n e)(w:UK):Calls prog 228 #[.int .u64 n] w λr w'=>r=C8 (Y ((e:Int)+1))/\w=w':=by have hs:=g.small;refine(Proofs.Tryz.bits_Len (n:Int) w O O).mono ?_;rintro r w' ⟨rfl,rfl⟩;refine⟨?_,rfl⟩;rw[Int.toNat_natCast,g.n,Gy e g.ge];rfl
def N7{w:UK}{b s n e cp:Nat}(h1:UJ w (G b 2)=H (to (H (G s 0)) n cp))(g:zN n e)(key:Nat):
 Calls prog 142 #[UI b,.int .u64 key] w λr w'=>r=C8 (Y (home n key))/\w=w':=by
 have hs:=g.small;have hp:=g.pos;have Rb:=g.ge;have hle:=g.le;have hh:=kN g.pos key;have hlen:=GJ g w;have hsh:IntKind.u64.wrap ((key:Int)*11400714819323198485) / 2 ^ (64-e)=((home n key:Nat):Int):=by rw[<-Gz g,IntKind.wrap_u64,Int.natCast_ediv,Int.natCast_emod,Int.natCast_mul,Int.natCast_pow];rfl
 have HS:=Z hsh;have a0f:=Z hlen;generalize home n key=hm at HS hh ⊢;clear g hlen hsh;go_enter func142,ntmps142;go_wp2_with (go_at_call 228;refine a0f.o.mono ?_;rintro e w' ⟨rfl,rfl⟩);go_ret;refine⟨Sg ?_,rfl⟩;rw[HS.o];exact IntWalk.wrap64_in _ ⟨O,O⟩
def D9{w:UK}{b s n e cp:Nat}(h1:UJ w (G b 2)=H (to (H (G s 0)) n cp))(g:zN n e){i:Nat}(hi:i<n):
 Calls prog 141 #[UI b,Y i] w λr w'=>r=C8 (Y (nx n i))/\w=w':=by
 have hs:=g.small;have hp:=g.pos;have ha:=Xz g hi;generalize nx n i=q at ha ⊢;clear g;go_enter func141,ntmps141;go_wp2;exact Tw
def D_(D:Nat->Bool×Nat×UL)(key a:Nat):Bool:= !(D a).1||(D a).2.1==key
def GK(z:UL)(S:Tb UL)(key a:Nat):D_ (du z S) key a=fX S key a:=by
 unfold D_ du fX;cases S a with
 |none=>rfl
 |some x=>simp
def N8{p:Prop}(h:p:=by
 go_wp2;go_quiet (fail);go_wp2;go_ret2;refine⟨?_,_,rfl⟩;rw[ht];rfl):p:=h
def BM{w:UK}{b s aE count n e:Nat}{z:UL}{S:Tb UL}(h:dI w b s aE count n (du z S))(g:zN n e){em:Nat}(qB:em<n)(iR:S em=K7)(key:Nat):
 Calls prog 132 #[UI b,.int .u64 key] w λr w'=>r=C8 (.tuple #[Y (find n S key),.bool (du z S (find n S key)).1])/\∃m,w'=w.drewN m:=by
 obtain⟨cp,h1⟩:=h.c2;have hs:=g.small;have hp:=g.pos;have hh:=kN g.pos key;have N9:=(rh qB iR key).1;have hq:=jD g.pos S key;have H1:=Z (N7 h1 g key);have H2:=Z (λi (hi:i<n)=>D9 h1 g hi);have Hf:Hid (find n S key=gG n S key n (home n key)):=rfl;generalize find n S key=q at N9 hq Hf ⊢;have HQ:=Z N9;clear N9;generalize home n key=h0 at H1 Hf hh;go_enter func132,ntmps132;go_wp2_with (go_at_call 142;refine H1.o.mono ?_;rintro e w' ⟨rfl,rfl⟩);clear H1
 go_loopg [6] n (λg s6 wr=>w=wr/\∃a:Nat,s6=Y a/\a<n/\Hid (q=gG n S key g a))
 case atStart=>exact⟨rfl,h0,rfl,hh,Hf⟩
 case round=>
  clear Hf;obtain⟨rfl,a,rfl,ha,hg⟩:=hrel;have d0:=h.k0 a ha;have d1:=h.k1 a ha;have e0:=h.k0 q hq;have fL:=GK z S key a;have HD:=Z h;have N_:fX S key a=false->∃k,k<gk/\q=gG n S key k (nx n a):=by
   intro Ea;cases gk with
   |zero=>exfalso;have:=hg.o;simp only[gG]at this;have h':=HQ.o;rw[this,Ea]at h';exact absurd h' bd
   |succ k=>exact⟨k,O,by have:=hg.o;rw[Ah Ea]at this;exact this⟩
  have Sh:fX S key a=true->q=a:=λEa=>by have:=hg.o;rw[vE Ea]at this;exact this
  have G1:=Z N_;have G2:=Z Sh;have Hst:=Z fL;clear fL N_ Sh h hg;cases ht:(du z S a).1
  ·have hqa:q=a:=G2.o (by rw[<-Hst.o];simp[D_,ht]);subst hqa;rw[ht]at d0 e0;clear G1 G2 Hst;exact N8
  ·rw[ht]at d0;by_cases hk:(du z S a).2.1=key
   ·have hqa:q=a:=G2.o (by rw[<-Hst.o];simp[D_,ht,hk]);subst hqa;rw[ht]at e0;have xE:(((du z S q).2.1:Int)!=(key:Int))=false:=by simp[hk]
    clear G1 G2 Hst hk;exact N8
   ·have xE:(((du z S a).2.1:Int)!=(key:Int))=true:=by simp;omega
    have VE:fX S key a=false:=by rw[<-Hst.o];simp[D_,ht,hk]
    obtain⟨k',gm,jZ⟩:=G1.o VE;have HK:=Z jZ;have HB:=Z (H2.o a ha);have XW:=km ha;clear G1 G2 Hst hk VE jZ H2 e0;go_wp2_with (go_at_call 141;refine HB.o.mono ?_;rintro e w' ⟨rfl,rfl⟩)
    go_roundg k'
    case measure=>exact gm
    case rel=>exact⟨rfl,nx n a,rfl,XW,HK⟩
def Ss{w:UK}{b s aE count n e:Nat}{z:UL}{S:Tb UL}(h:dI w b s aE count n (du z S))(g:zN n e){em:Nat}(qB:em<n)(iR:S em=K7)(key:Nat)(v:Int)
 (hm:count<aE) (KK:aE<=n) (ht:S (find n S key)=K7):
 Calls prog 307 #[UI b,.int .u64 key,Y v] w λr w'=>r=C8 (Y 0)/\aA [b,s] w w'/\dI w' b s aE (count+1) n (du z (putAt n S key (Y v))):=by
 have hs:=g.small;have hp:=g.pos;have hq:=jD g.pos S key;have DZ:∀m,aA [b,s] w (((((w.drewN m).setCell (G b 1) (Y ((count:Int)+1))).setCell (G s (find n S key*3)) (.bool true)).setCell (G s (find n S key*3+1)) (.int .u64 key)).setCell (G s (find n S key*3+2)) (Y v))/\
  dI (((((w.drewN m).setCell (G b 1) (Y ((count:Int)+1))).setCell (G s (find n S key*3)) (.bool true)).setCell (G s (find n S key*3+1)) (.int .u64 key)).setCell (G s (find n S key*3+2)) (Y v)) b s aE (count+1) n (du z (putAt n S key (Y v))):=by
  intro m;refine⟨(((aA.refl _ w).drewN m).setCell ay _).pq ay _ _ _,?_⟩;unfold putAt;rw[Ny];exact((h.drewN m).DK (count+1)).pq hq true key (Y v)
 have F_:(du z S (find n S key)).1=false:=by unfold du;rw[ht]
 have H1:=Z (BM h g qB iR key);rw[F_]at H1;have HR:=Z DZ;clear DZ F_ ht;generalize find n S key=q at hq H1 HR ⊢;generalize putAt n S key (Y v)=S' at HR ⊢;have d0:=h.k0 q hq;have d1:=h.k1 q hq;have d2:=h.k2 q hq;have h0:=h.c0;have h1:=h.c1;obtain⟨cp,h2⟩:=h.c2;have bm:=h.ne;have fs:∀o,w.frozen? (G s o)=false:=h.fs;have fb:∀o,w.frozen? (G b o)=false:=h.fb;have iY:((aE:Int)==0)=false:=by simp;omega
 have ae0:((count:Int)==(aE:Int))=false:=by simp;omega
 clear h g iR;go_enter func307,ntmps307;go_wp2_with (go_at_call 132;refine H1.o.mono ?_;rintro e w' ⟨rfl,m,rfl⟩);go_quiet (fail);go_wp2;go_ret;exact⟨rfl,HR.o _⟩
def As{w:UK}{b s aE count n e:Nat}{z:UL}{S:Tb UL}(h:dI w b s aE count n (du z S))(g:zN n e){em:Nat}(qB:em<n)(iR:S em=K7)(key:Nat):
 Calls prog 59 #[UI b,.int .u64 key] w λr w'=>
  r=C8 (.tuple #[(du z S (find n S key)).2.2,.bool (du z S (find n S key)).1])/\∃m,w'=w.drewN m:=by
 obtain⟨cp,h1⟩:=h.c2;have hs:=g.small;have hp:=g.pos;have hq:=jD g.pos S key;have H1:=Z (BM h g qB iR key);generalize find n S key=q at hq H1 ⊢;have d2:=h.k2 q hq;generalize du z S q=cq at*;clear h g;go_enter func59,ntmps59;go_wp2_with (go_at_call 132;refine H1.o.mono ?_;rintro e w' ⟨rfl,m,rfl⟩);go_ret2;exact⟨rfl,_,rfl⟩
def DR(w0:UK)(b s aE count n:Nat)(z:UL)(F:Tb UL)(em:Nat)(f:Nat)(s6 s7:UL)(wr:UK):Prop:=
 ∃(i k:Nat) (S:Tb UL) (st:Bool×Nat×UL) (sv:Int),s6=Y i/\s7=Y k/\i<n/\k<n/\Ai n S i k em/\cO n k em<=f/\gH n f S i k=F/\st.2.2=Y sv/\(∀j k u,S j=H (k,u)->∃x,u=Y x)/\
  dI wr b s aE count n (aR (du z S) i st)/\aA [b,s] w0 wr
def DR.move{w0:UK}{b s aE count n:Nat}{z:UL}{F S:Tb UL}{em f:Nat}{i k y:Nat}{v:Int}{st:Bool×Nat×UL}{wr:UK}(D:Ai n S i k em)(hd:cO n k em<=f+1)(hF:gH n (f+1) S i k=F)
 (hi:∀j k u,S j=H (k,u)->∃x,u=Y x) (hI:dI wr b s aE count n (aR (du z S) i st)) (hR:aA [b,s] w0 wr) (hk:S k=H (y,Y v)) (hh:cO n i k<=cO n (home n y) k) (m:Nat):
 DR w0 b s aE count n z F em f (Y k) (Y (nx n k)) ((((wr.drewN m).setCell ⟨s,i*3,K7⟩ (.bool true)).setCell ⟨s,i*3+1,K7⟩ (.int .u64 y)).setCell ⟨s,i*3+2,K7⟩ (Y v)):=by
 have Dh:k≠em:=λh=>by rw[h,D.zK]at hk;simp at hk
 refine⟨k,nx n k,aR (aR S i (S k)) k K7,(true,y,Y v),v,rfl,rfl,D.lk,km D.lk,D.move hk hh,?_,?_,rfl,?_,?_,(hR.drewN m).pq ay _ _ _⟩
 ·rw[jj D.lk D.le Dh]at hd;omega
 ·rw[<-hF];conv=>rhs;unfold gH
  rw[hk];simp only[hh,if_true]
 ·intro j x u hj;unfold aR at hj;split at hj
  ·simp at hj
  ·split at hj
   ·exact hi k x u hj
   ·exact hi j x u hj
 ·have h1:=(hI.drewN m).pq D.li true y (Y v);have e:aR (du z (aR (aR S i (S k)) k K7)) k (true,y,Y v)=aR (aR (du z S) i st) i (true,y,Y v):=by
   funext j;by_cases hj:j=k
   ·subst hj;rw[an,ak _ _ (λe=>D.ik e.symm),ak _ _ (λe=>D.ik e.symm)];unfold du;rw[hk]
   ·rw[ak _ _ hj];by_cases hi:j=i
    ·subst hi;rw[an];unfold du;rw[ak _ _ hj,an,hk]
    ·rw[ak _ _ hi,ak _ _ hi];unfold du;rw[ak _ _ hj,ak _ _ hi]
  rw[e];exact h1
def DR.stay{w0:UK}{b s aE count n:Nat}{z:UL}{F S:Tb UL}{em f:Nat}{i k y:Nat}{v:UL}{st:Bool×Nat×UL}{sv:Int}{wr:UK}(D:Ai n S i k em)(hd:cO n k em<=f+1)(hF:gH n (f+1) S i k=F)
 (fL:st.2.2=Y sv) (hi:∀j k u,S j=H (k,u)->∃x,u=Y x) (hI:dI wr b s aE count n (aR (du z S) i st)) (hR:aA [b,s] w0 wr) (hk:S k=H (y,v)) (hh:¬cO n i k<=cO n (home n y) k) (m:Nat):
 DR w0 b s aE count n z F em f (Y i) (Y (nx n k)) (wr.drewN m):=by
 have Dh:k≠em:=λh=>by rw[h,D.zK]at hk;simp at hk
 refine⟨i,nx n k,S,st,sv,rfl,rfl,D.li,km D.lk,D.stay hk hh,?_,?_,fL,hi,hI.drewN m,hR.drewN m⟩
 ·rw[jj D.lk D.le Dh]at hd;omega
 ·rw[<-hF];conv=>rhs;unfold gH
  rw[hk];simp only[hh,if_false]
def Ou{p:Prop}(h:p:=by
 go_wp2_with (go_at_call 141;refine(Hbe.o _ k cp' (by go_simp) hk).mono ?_;rintro e w' ⟨rfl,rfl⟩)
 go_roundg f
 case measure=>omega
 case rel=>exact HM.o _):p:=h
def Lh{w:UK}{b s aE count n e:Nat}{S:Tb UL}(h:dI w b s aE (count+1) n (du (Y 0) S))(g:zN n e)(I:Inv n S)(hc:count<n){em:Nat}(qB:em<n)(iR:S em=K7)(key:Nat)
 {v:Int} (ht:S (find n S key)=H (key,Y v)) (hint:∀i k u,S i=H (k,u)->∃x,u=Y x):
 Calls prog 66 #[UI b,.int .u64 key] w λr w'=>r=C8 (.tuple #[Y v,.bool true])/\
  aA [b,s] w w'/\dI w' b s aE count n (du (Y 0) (lJ n S (find n S key))):=by
 have hs:=g.small;have hp:=g.pos;have hq:=jD g.pos S key;have F_:du (Y 0) S (find n S key)=(true,key,Y v):=by unfold du;rw[ht]
 have H1:=Z (BM h g qB iR key);rw[F_]at H1;have hqe:find n S key≠em:=λe'=>by rw[e',iR]at ht;simp at ht
 have hD:=Ai.start I hq qB iR hqe;generalize find n S key=q at*;have d2:=h.k2 q hq;rw[F_]at d2;have h1:=h.c1;obtain⟨cp,h2⟩:=h.c2;have fb:∀o,w.frozen? ⟨b,o,K7⟩=false:=h.fb;have hDR:∀m,DR w b s aE count n (Y 0) (lJ n S q) em n (Y q) (Y (nx n q)) ((w.drewN m).setCell ⟨b,1,K7⟩ (Y count)):=by
  intro m;refine⟨q,nx n q,aR S q K7,(true,key,Y v),v,rfl,rfl,hq,km hq,hD,Nat.le_of_lt (sW (km hq) qB),rfl,rfl,?_,?_,((aA.refl _ w).drewN m).setCell ay _⟩
  ·intro j x u hj;unfold aR at hj;split at hj
   ·simp at hj
   ·exact hint j x u hj
  have h':=(h.drewN m).DK count;have e:du (Y 0) S=aR (du (Y 0) (aR S q K7)) q (true,key,Y v):=by
   funext j;by_cases hj:j=q
   ·rw[hj,an,F_]
   ·rw[ak _ _ hj];unfold du;rw[ak _ _ hj]
  rw[<-e];exact h'
 have HDR:=Z hDR;have Hbe:=Z (λ(wx:UK) (i:Nat) (cp:Nat) (hx:UJ wx ⟨b,2,K7⟩=H (to (H ⟨s,0,K7⟩) n cp)) (hi:i<n)=>D9 hx g hi);have Hho:=Z (λ(wx:UK) (y:Nat) (cp:Nat) (hx:UJ wx ⟨b,2,K7⟩=H (to (H ⟨s,0,K7⟩) n cp))=>N7 hx g y);clear hDR hD h I ht F_ hqe;go_enter func66,ntmps66;go_wp2_with (first|(go_at_call 132;refine H1.o.mono ?_;rintro e w' ⟨rfl,m,rfl⟩)|(go_at_call 141;refine(Hbe.o _ q cp (by go_simp) hq).mono ?_;rintro e w' ⟨rfl,rfl⟩));clear H1
 go_loopg [6,7] n (λf s6 s7 wr=>DR w b s aE count n (Y 0) (lJ n S q) em f s6 s7 wr)
 case atStart=>exact HDR.o m
 case round=>
  clear HDR h1 h2 d2;obtain⟨i,k,S',st,sv,rfl,rfl,hi,hk,D,hd,hF,fL,fD,hI,hR⟩:=hrel;have hik:=D.ik;have bm:=hI.ne;obtain⟨cp',c2⟩:=hI.c2;have k0:=hI.k0 k hk;have k1:=hI.k1 k hk;have i0:=hI.k0 i hi;have i1:=hI.k1 i hi;have i2:=hI.k2 i hi;have fs:∀o,wr.frozen? ⟨s,o,K7⟩=false:=hI.fs;have k2:=hI.k2 k hk;rw[ak _ _ (λe=>hik e.symm)]at k0 k1 k2;rw[an]at i0 i1 i2;rw[fL]at i2;cases hS:S' k with
  |none=>
   have sr:du (Y 0) S' k=(false,0,Y 0):=by unfold du;rw[hS]
   rw[sr]at k0;have Ov:aA [b,s] w (((wr.setCell ⟨s,i*3,K7⟩ (.bool false)).setCell ⟨s,i*3+1,K7⟩ (.int .u64 0)).setCell ⟨s,i*3+2,K7⟩ (Y 0))/\
    dI (((wr.setCell ⟨s,i*3,K7⟩ (.bool false)).setCell ⟨s,i*3+1,K7⟩ (.int .u64 0)).setCell ⟨s,i*3+2,K7⟩ (Y 0)) b s aE count n (du (Y 0) (lJ n S q)):=by
    refine⟨hR.pq ay _ _ _,?_⟩;have h':=hI.pq hi false 0 (Y 0);have e:aR (aR (du (Y 0) S') i st) i (false,0,Y 0)=du (Y 0) (lJ n S q):=by
     have:gH n gk S' i k=S':=by cases gk<;>simp[gH,hS]
     rw[<-hF,this];funext j;by_cases hj:j=i
     ·rw[hj,an];unfold du;rw[D.ww]
     ·rw[ak _ _ hj,ak _ _ hj]
    rw[e]at h';exact h'
   have HF:=Z Ov;clear Ov hI hR hF D hd fD hS sr k1 k2 fL Hbe Hho hint;go_wp2;go_ret2;exact⟨rfl,HF.o⟩
  |some x=>
   obtain⟨y,u⟩:=x;obtain⟨x,rfl⟩:=fD k y u hS;have sr:du (Y 0) S' k=(true,y,Y x):=by unfold du;rw[hS]
   rw[sr]at k0 k1 k2;obtain⟨f,rfl⟩:∃f,gk=f+1:=by
    cases gk with
    |zero=>exfalso;have:=D.le;have:k=em:=by have:=dc n k em;omega
           rw[this,D.zK]at hS;simp at hS
    |succ f=>exact⟨f,rfl⟩
   have hhl:=kN g.pos y;have a1:=DL g hhl hk;have a2:=DL g hi hk;by_cases hh:cO n i k<=cO n (home n y) k
   ·have HM:=Z (λm=>DR.move D hd hF fD hI hR hS hh m);clear hI hR hF D hd fD hS sr fL hint;generalize cO n (home n y) k=dy at*;generalize cO n i k=di at*;have HH:=Z (Hho.o wr y cp' c2);clear Hho;generalize home n y=hy at*;go_wp2_with (first|(go_at_call 142;refine HH.o.mono ?_;rintro e w' ⟨rfl,rfl⟩));go_quiet (fail);go_wp2;go_region;exact Ou
   ·have HM:=Z (λm=>DR.stay D hd hF fL fD hI hR hS hh m);clear hI hR hF D hd fD hS sr fL hint;generalize cO n (home n y) k=dy at*;generalize cO n i k=di at*;have HH:=Z (Hho.o wr y cp' c2);clear Hho;generalize home n y=hy at*;go_wp2_with (first|(go_at_call 142;refine HH.o.mono ?_;rintro e w' ⟨rfl,rfl⟩));go_quiet (fail);exact Ou
end Go.gR
