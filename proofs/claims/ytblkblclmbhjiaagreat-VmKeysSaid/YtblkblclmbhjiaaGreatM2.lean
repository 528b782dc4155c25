import Derived.Test.YtblkblclmbhjiaaGreatM1
set_option linter.unusedVariables false
set_option linter.unusedSimpArgs false
set_option maxHeartbeats 40000000
set_option maxRecDepth 100000
abbrev afS:=@List.getD_eq_getElem?_getD
abbrev afP:=@List.getElem?_eq_getElem
abbrev afX:=@decide_eq_true_eq
abbrev af6:=@List.getElem_mem
abbrev afM:=@Nat.le_trans
abbrev afY:=@Nat.le_add_right
namespace ak.Vm
def pX (t:Nat) (n:Int):Prop:=if t=2 then n=0\/n=1 else -1073741824<=n/\n<=1073741824
def vd:List Int->List Nat->Prop
 |[],[]=>True
 |n::st,t::ty=>pX t n/\vd st ty
 |_,_=>False
theorem pX.num {n:Int} (h: -1073741824<=n/\n<=1073741824):pX 1 n:=by unfold pX;rw [abH dee];exact h
theorem pX.bool {n:Int} (h:n=0\/n=1):pX 2 n:=by unfold pX;rw [afE rfl];exact h
theorem pX.in {t:Nat} {n:Int} (h:pX t n): -1073741824<=n/\n<=1073741824:=by
 unfold pX at h;split at h
 ·omega
 ·exact h
def Safe (S:Sys) (nv:Nat) (s:St):sm->Prop
 | .var i oE=>i < nv
 | .mark oE=>∃q n,q < S.nq/\n∈s.a.ls q/\s.f oE.key=some n
 | .cut q e=>q < S.nq/\e<=1/\s.a.ls q≠[]
 | .put q e x=>q < S.nq/\e<=1/\s.f x.key=none/\(s.a.ls q).length < S.cq q/\(S.gh q=true\/s.total < S.sz)
 | .out q x ahead=>q < S.nq/\s.f x.key=none/\(s.a.ls q).length < S.cq q/\(S.gh q=true\/s.total < S.sz)/\∀m,m∈ahead->m∈s.a.ls q
def Good (S:Sys) (nv:Nat) (s0:St):List sm->St->Prop
 |[],s=>s=s0
 |u::l,s=>Safe S nv s u/\Inv S (k_ S u s)/\Good S nv s0 l (k_ S u s)
def SO (s:St) (h:Option eW):Prop:=∀x,h=some x->s.f x.key=none/\(∀t,0<=x.tg t/\x.tg t<=255)/\x.key < 18446744073709551616
structure eY (S:Sys) (nv:Nat) (s0:St) (x:SR):Prop where
 inv:Inv S x.1
 Nl:Good S nv s0 x.2.bm x.1
 hand:SO x.1 x.2.hand
 key:x.2.key < 18446744073709551616
 told:∀k,k∈x.2.told->k < 18446744073709551616
theorem vg {S:Sys} {nv:Nat} {s0:St} {x:SR} (h:eY S nv s0 x) {q e:Nat} (hq:q < S.nq) (he:e<=1) {v:eW} (hk:x.1.f v.key=none) (hv:∀t,0<=v.tg t/\v.tg t<=255) (si:v.key < 18446744073709551616) (hh:x.2.hand=none):
 eY S nv s0 (gW S x q e v).1/\(gW S x q e v).1.2.hand=none/\((gW S x q e v).2=true->(gW S x q e v).1.2=x.2.note (.cut q e))/\((gW S x q e v).2=false->(gW S x q e v).1.2=x.2.dG 1):=by
 unfold gW;split
 ·exact ⟨⟨h.inv,h.Nl,h.hand,h.key,h.told⟩,hh,fun e'=>by simp at e',fun _=>rfl⟩
 ·next hn=>
  have hl:(x.1.a.ls q).length < S.cq q:=by have:=h.inv.len q hq;omega
  have ht:S.gh q=true\/x.1.total < S.sz:=by
   have h1:=h.inv.Kd;have h2:=h.inv.NJ;by_cases hg:S.gh q=true
   ·exact .inl hg
   ·right;have:¬x.1.total=S.sz:=fun e'=>hn (.inr ⟨by simpa using hg,e'⟩);omega
  have hu:=Kf h.inv hq he hk;refine ⟨⟨OB h.inv hq hk hl ht hv si,⟨⟨hq,he,?_⟩,?_⟩,?_,h.key,h.told⟩,hh,fun _=>rfl,fun e'=>by simp at e'⟩
  ·intro e';have:x.1.a.fs 0∈(ja S x.1 q e v).a.ls q:=jL.2 (.inl ⟨rfl,rfl⟩);rw [e'] at this;simp at this
  ·show Inv S (k_ S (.cut q e) (ja S x.1 q e v))/\Good S nv s0 x.2.bm (k_ S (.cut q e) (ja S x.1 q e v));rw [hu];exact ⟨h.inv,h.Nl⟩
  ·intro y hy;have:x.2.hand=some y:=hy;rw [hh] at this;simp at this
theorem xW {S:Sys} {s:St} (h:Inv S s) {q n:Nat} (hq:q < S.nq) (hn:n∈s.a.ls q):
 ((fR S s q n).a.ls q).length < S.cq q/\(S.gh q=true\/(fR S s q n).total < S.sz)/\(fR S s q n).f (s.a.val n).key=none:=by
 have h1:=h.len q hq;have h2:=agw hn;refine ⟨?_,?_,an _ _ _⟩
 ·show (aL s.a.ls q _ q).length < _;rw [an,agr hn];omega
 ·have h3:=h.Kd;have h4:=h.NJ;by_cases hg:S.gh q=true
  ·exact .inl hg
  ·right;show (if S.gh q then s.total else s.total - 1) < _;simp [hg];omega
theorem Bw {S:Sys} {nv:Nat} {s0:St} {x:SR} (h:eY S nv s0 x) {n q:Nat} (hq:q < S.nq) (hn:n∈x.1.a.ls q) (hh:x.2.hand=none):
 eY S nv s0 (ry S x n q)/\(ry S x n q).1.f (x.1.a.val n).key=none:=by
 obtain ⟨r1,r2,r3⟩:=xW h.inv hq hn;have hu:=Kh h.inv hq hn;refine ⟨⟨jM h.inv hq hn,⟨⟨hq,r3,r1,r2,fun m hm=>?_⟩,?_⟩,?_,h.key,h.told⟩,r3⟩
 ·obtain ⟨y,h1,h2⟩:=lV hn;refine (Bd h.inv.wf hq hq hn).2 ⟨?_,fun e=>by subst e;exact h2 hm⟩;rw [h1];simp [hm]
 ·show Inv S (k_ S _ (fR S x.1 q n))/\Good S nv s0 x.2.bm (k_ S _ (fR S x.1 q n));rw [hu];exact ⟨h.inv,h.Nl⟩
 ·intro y hy;have:x.2.hand=some y:=hy;rw [hh] at this;simp at this
theorem vh {S:Sys} {nv:Nat} {s0:St} {x:SR} (h:eY S nv s0 x) {q e:Nat} (hq:q < S.nq) (he:e<=1) (hh:x.2.hand=none):
 eY S nv s0 (bi S x q e).1/\((bi S x q e).2=false->(bi S x q e).1.2=x.2.dG 2)/\
 ((bi S x q e).2=true->∃v,(bi S x q e).1.2={x.2.note (.put q e v) with hand:=some v}):=by
 unfold bi;split
 ·exact ⟨⟨h.inv,h.Nl,h.hand,h.key,h.told⟩,fun _=>rfl,fun e'=>by simp at e'⟩
 ·next bz=>
  have hm:=fi (e:=e) bz;obtain ⟨r1,r2,r3⟩:=xW h.inv hq hm;have hu:=Kg h.inv hq he bz;refine ⟨⟨jM h.inv hq hm,⟨⟨hq,he,r3,r1,r2⟩,?_⟩,?_,h.key,h.told⟩,fun e'=>by simp at e',fun _=>⟨_,rfl⟩⟩
  ·show Inv S (k_ S (.put q e _) (jn S x.1 q e))/\Good S nv s0 x.2.bm (k_ S (.put q e _) (jn S x.1 q e));rw [hu];exact ⟨h.inv,h.Nl⟩
  ·intro y hy;have:y=x.1.a.val (ck x.1.a q e):=(af0 hy).symm;subst this;exact ⟨r3,h.inv.tag q _ hq hm,h.inv.key q _ hq hm⟩
theorem xX {S:Sys} {nv:Nat} {s0:St} {p:aO} {x:SR} (h:eY S nv s0 x) {q n tag:Nat} (hq:q < S.nq) (hn:n∈x.1.a.ls q) (v:Int) (hm:0<=p.aW.getD tag 0/\p.aW.getD tag 0<=255):
 eY S nv s0 (oB p x n tag v):=by
 have dK:=sw (n:=v) hm.1;have hx:∀t,0<=(lY (x.1.a.val n) tag v (p.aW.getD tag 0)).tg t/\(lY (x.1.a.val n) tag v (p.aW.getD tag 0)).tg t<=255:=by
  intro t;show 0<=aL _ _ _ _/\aL _ _ _ _<=_;rw [cG];split
  ·omega
  ·exact h.inv.tag q n hq hn t
 have hu:=G7 (x:=lY (x.1.a.val n) tag v (p.aW.getD tag 0)) h.inv hq hn rfl;refine ⟨Ke h.inv hq hn rfl hx,⟨⟨q,n,hq,hn,(h.inv.idx _ _).2 ⟨q,hq,hn,rfl⟩⟩,?_⟩,h.hand,h.key,h.told⟩;show Inv S (k_ S _ (kD x.1 n _))/\Good S nv s0 x.2.bm (k_ S _ (kD x.1 n _));rw [hu];exact ⟨h.inv,h.Nl⟩
theorem KN {S:Sys} {nv:Nat} {s0:St} {x:SR} (h:eY S nv s0 x) {i:Nat} (hi:i < nv) {v:Int} (hv: -1073741824<=v/\v<=1073741824):
 eY S nv s0 ({x.1 with vars:=aL x.1.vars i v},x.2.note (.var i (x.1.vars i))):=by
 have hu:=Ki S x.1 i v;refine ⟨⟨h.inv.wf,h.inv.idx,h.inv.len,h.inv.Kd,h.inv.NJ,h.inv.tag,h.inv.key,fun j=>?_⟩,⟨hi,?_⟩,h.hand,h.key,h.told⟩
 ·show _<=aL _ _ _ _/\aL _ _ _ _<=_;rw [cG];split
  ·exact hv
  ·exact h.inv.var j
 ·show Inv S (k_ S _ {x.1 with vars:=aL x.1.vars i v})/\Good S nv s0 x.2.bm (k_ S _ {x.1 with vars:=aL x.1.vars i v});rw [hu];exact ⟨h.inv,h.Nl⟩
theorem eY.same {S:Sys} {nv:Nat} {s0:St} {s:St} {r r':Rn} (h:eY S nv s0 (s,r)) (h1:r'.bm=r.bm) (h2:r'.hand=r.hand\/r'.hand=none) (h3:r'.key=r.key) (h4:r'.told=r.told):eY S nv s0 (s,r'):=
 ⟨h.inv,by show Good S nv s0 r'.bm s;rw [h1];exact h.Nl,by
   intro x hx;rcases h2 with h2|h2
   ·exact h.hand x (by rw [<-h2];exact hx)
   ·have:r'.hand=some x:=hx;rw [h2] at this;simp at this,by show r'.key < _;rw [h3];exact h.key,by show ∀k,k∈r'.told->_;rw [h4];exact h.told⟩
section
structure sC (p:aO) (c:Cp):Prop where
 s1:1<=c.size
 s2:c.size<=1048576
 len:c.aI.length=p.ap.length
 q1:∀q,q < p.ap.length->1<=c.aI.getD q 0/\c.aI.getD q 0<=1048576
structure Env (p:aO) (c:Cp) (T:Map):Prop where
 FY:Typed p T
 check:bo p=0
 gQ:sC p c
theorem DV {p:aO}:∀(l:List Ins),dp p l=0->∀i,i∈l->iP i=true/\gI p i=true:=by
 intro l
 induction l with
 |nil=>intro _ i hi;simp at hi
 |cons a l ih=>
  intro h i hi;unfold dp at h;split at h
  ·next h1=>
   split at h
   ·next h2=>
    rcases List.mem_cons.1 hi with rfl|hi
    ·exact ⟨h1,h2⟩
    ·exact ih h i hi
   ·simp at h
  ·simp at h
structure vj (p:aO):Prop where
 g:p.ap.length<=16
 v:p.vars.length<=16
 t:p.aW.length<=4
 on:p.on.length=p.ap.length
 code:p.code.length<=262144
 vars:∀v,v∈p.vars->v.lo<=v.init/\v.init<=v.hi/\-1073741824<=v.lo/\v.hi<=1073741824
 aW:∀t,t∈p.aW->1<=t/\t<=255
 Xb:∀n,n∈p.on->-1<=n/\n<=(p.code.length:Int) - 1
 aJ: -1<=p.aJ/\p.aJ<=(p.code.length:Int) - 1
theorem Hp {p:aO} (h:bS p=true):vj p:=by
 unfold bS at h;simp only [afW,afX,agb] at h;obtain ⟨⟨⟨⟨⟨⟨⟨⟨h1,h2⟩,h3⟩,h4⟩,h5⟩,h6⟩,h7⟩,h8⟩,h9⟩:=h;refine ⟨h1,h2,h3,h4,h5,fun v hv=>?_,fun t ht=>?_,fun n hn=>?_,?_⟩
 ·have:=h6 v hv;unfold me at this;simp only [afW,afX] at this;omega
 ·have:=h7 t ht;unfold aF at this;simpa only [afW,afX] using this
 ·have:=h8 n hn;unfold aF at this;simpa only [afW,afX] using this
 ·unfold aF at h9;simpa only [afW,afX] using h9
theorem cK {p:aO} (h:bo p=0):vj p/\∀i,i∈p.code->iP i=true/\gI p i=true:=by
 unfold bo at h;split at h
 ·next h1=>exact ⟨Hp h1,DV _ h⟩
 ·simp at h
theorem ei {p:aO} {pc:Nat} (h:pc < p.code.length):ai p pc∈p.code:=by unfold ai;rw [afS,afP h];exact af6 h
theorem dW {p:aO} {i:Ins} (h:gI p i=true) {k:Nat} (cW:i.op.toNat=k):
 aY p ((bY k).getD 0 0) i.a=true/\aY p ((bY k).getD 1 0) i.b=true/\aY p ((bY k).getD 2 0) i.c=true/\aY p ((bY k).getD 3 0) i.d=true:=by
 unfold gI at h;rw [cW] at h;simp only [afW] at h;exact ⟨h.1.1.1,h.1.1.2,h.1.2,h.2⟩
theorem abL {p:Prop} (h:p:=by
 unfold aY aF dM dN N at*;simp at h ⊢;omega):p:=h
theorem cX {p:aO} {n:Int} (h:aY p 1 n=true):0<=n/\n < p.ap.length/\N n < p.ap.length:=by exact abL
theorem DW {p:aO} {n:Int} (h:aY p 2 n=true):0<=n/\n < p.vars.length/\N n < p.vars.length:=by exact abL
theorem sD {p:aO} {n:Int} (h:aY p 3 n=true):0<=n/\n < p.aW.length/\N n < p.aW.length:=by exact abL
theorem fZ {p:aO} {n:Int} (h:aY p 4 n=true):0<=n/\n<=1/\N n<=1:=by exact abL
theorem abM {p:Prop} (h:p:=by
 unfold aY aF dM dN at*;simp at h;omega):p:=h
theorem SP {p:aO} {n:Int} (h:aY p 5 n=true): -1073741824<=n/\n<=1073741824:=by exact abM
theorem SQ {p:aO} {n:Int} (h:aY p 6 n=true):n=0\/n=1:=by exact abM
theorem ae2 {p:aO} {n:Int} (h:aY p 7 n=true):0<=n/\n<=4194304:=by exact abM
theorem js {p:aO} {n:Int} (h:aY p 8 n=true):0<=n/\n < p.code.length:=by exact abM
structure ft (p:aO) (T:Map) (r:Rn) (st:Std):Prop where
 lt:r.at_ < p.code.length
 iH:oQ p T r.at_ st
 stack:vd r.stack st.ty
 loops:r.loops.length=st.lo.length+if (ai p r.at_).op=25 then 1 else 0
 Xc:∀n,n∈r.loops->0<=n/\n<=4194304
 hand:st.ha=0↔r.hand=none
 br:r.br=0
 done:r.done=false
theorem abU {p:Prop} (h:p:=by
 simp at hw;rcases hw with rfl|rfl
 ·exact F_ rfl
 ·exact dD omm pW):p:=h
theorem aaU {p:aO} {T:Map} (hT:Typed p T) {pc:Nat} {st:Std} (hr:oQ p T pc st) (NQ:(ai p pc).op≠24) {w:Nat×Std} (hw:w∈fE p pc st):(ai p w.1).op≠25:=by
 have a8:=(hr.ways w hw).1;obtain ⟨s',Θ⟩:=hT.all w.1 a8;have hj:=hr.jumps;have KQ:=Θ.jumps;intro pW;have F_:w.1=pc+1->False:=by
  intro e;unfold cC at KQ;rw [pW] at KQ;split at KQ
  ·simp at KQ
  ·simp at KQ;rw [e] at KQ;simp at KQ;exact NQ KQ.1.1
 unfold fE cm at hw;generalize hx:ai p pc=x at*;have dD:(x.op=22\/x.op=23\/x.op=25\/x.op=26)->(ai p x.a.toNat).op≠25:=by intro ho h;unfold cC at hj;rw [afE ⟨ho,.inr h⟩] at hj;simp at hj
 split at hw
 ·simp at hw
 split at hw
 ·next h=>simp at hw;subst hw;exact dD omm pW
 split at hw
 ·next h=>exact abU
 split at hw
 ·next h=>exact abU
 split at hw
 ·next h=>exact abU
 ·simp at hw;subst hw;exact F_ rfl
theorem go_on {p:aO} {c:Cp} {T:Map} (E:Env p c T) {pc:Nat} {st:Std} (hr:oQ p T pc st) (NQ:(ai p pc).op≠24) {r':Rn} {st':Std} (hw:(r'.at_,st')∈fE p pc st) (h1:vd r'.stack st'.ty) (h2:r'.loops.length=st'.lo.length)
 (h3:∀n,n∈r'.loops->0<=n/\n<=4194304) (h4:st'.ha=0↔r'.hand=none) (h5:r'.br=0) (h6:r'.done=false):ft p T r' st':=by
 have pW:=aaU E.FY hr NQ hw;obtain ⟨a,b⟩:=hr.ways _ hw;obtain ⟨s,hs⟩:=E.FY.all r'.at_ a;have:s=st':=by have:=hs.at_;rw [b] at this;exact (af0 this).symm
 subst this;exact ⟨a,hs,h1,by rw [abH pW];exact h2,h3,h4,h5,h6⟩
theorem jQ {x:Ins} {ty:List Nat} (h:bM x ty=0):(bO x.op.toNat).length<=ty.length/\(x.op=0->ty=[])/\hZ (bO x.op.toNat) ty=true/\(x.op=19->ty.getD 0 0=ty.getD 1 0):=by
 unfold bM at h;dsimp only at h;split at h
 ·simp at h
 ·next h1=>
  split at h
  ·simp at h
  ·next h2=>simp at h2;have h3:¬ty.length < (bO x.op.toNat).length:=fun h'=>h1 (.inl h');refine ⟨omm,fun h0=>?_,h2.1,h2.2⟩;have h4:¬(x.op=0/\0 < ty.length):=fun h'=>h1 (.inr (.inl h'));exact List.length_eq_zero_iff.1 omm
def bI (r:Rn):Rn:={r with at_:=r.at_+1}
def bT (op:Int):Prop:=op≠0/\op≠22/\op≠23/\op≠24/\op≠25/\op≠26/\op≠27
theorem rB {p:aO} {pc:Nat} {st:Std} (h:bT (ai p pc).op):(pc+1,(⟨aT (ai p pc) st.ty,st.lo,be p (ai p pc) st.ha⟩:Std))∈fE p pc st:=by unfold bT at h;unfold fE cm;rw [abH omm,abH omm,abH omm,abH omm,abH omm];simp
theorem go_straight {p:aO} {c:Cp} {T:Map} (E:Env p c T) {r:Rn} {st:Std} (C:ft p T r st) (h:bT (ai p r.at_).op) {r':Rn} (h0:r'.at_=r.at_+1) (h1:vd r'.stack (aT (ai p r.at_) st.ty))
 (h2:r'.loops=r.loops) (h4:be p (ai p r.at_) st.ha=0↔r'.hand=none) (h5:r'.br=0) (h6:r'.done=false):∃st',ft p T r' st':=by
 have hw:=rB (st:=st) h;rw [<-h0] at hw;have hl:=C.loops;unfold bT at h;rw [abH omm] at hl;exact ⟨_,go_on E C.iH omm hw h1 (by rw [h2];exact hl) (by rw [h2];exact C.Xc) h4 h5 h6⟩
structure oR (p:aO) (T:Map) (S:Sys) (s0:St) (y:SR):Prop where
 hold:eY S p.vars.length s0 y
 tr:0<=y.2.br/\y.2.br<=3
 next:y.2.br=0->y.2.done=false->∃st',ft p T y.2 st'
theorem vd.vm {st:List Int} {ty:List Nat} {w:Nat} {ws:List Nat} (h:vd st ty) (hf:hZ (w::ws) ty=true):∃n st' t SU,st=n::st'/\ty=t::SU/\pX t n/\vd st' SU/\hZ ws SU=true/\(w≠3->t=w):=by
 cases ty with
 |nil=>simp [hZ] at hf
 |cons t ty=>
  cases st with
  |nil=>exact absurd h (by simp [vd])
  |cons n st=>
   unfold hZ at hf;simp at hf;refine ⟨n,st,t,ty,rfl,rfl,h.1,h.2,hf.2,fun hw=>?_⟩;rcases hf.1 with h'|h'
   ·exact absurd h' hw
   ·exact h'
variable {p:aO} {c:Cp} {T:Map} {s0 s:St} {r:Rn} {st:Std}
theorem dX {S:Sys} {nv:Nat} {r':Rn} (H:eY S nv s0 (s,r)) (h1:r'.bm=r.bm) (h2:r'.hand=r.hand) (h3:r'.key=r.key) (h4:r'.told=r.told):eY S nv s0 (s,r'):=H.same h1 (.inl h2) h3 h4
theorem gu (E:Env p c T) (C:ft p T r st) (H:eY (aw p c) p.vars.length s0 (s,r)) (hs:bT (ai p r.at_).op) {t:Nat} (ht:t≠0) (h1:bO (ai p r.at_).op.toNat=[]) (h2:aR (ai p r.at_).op.toNat=t)
 (h3:∀ha,be p (ai p r.at_) ha=ha) {n:Int} (hn:pX t n):oR p T (aw p c) s0 (s,(bI r).push n):=by
 refine ⟨dX H rfl rfl rfl rfl,by show 0<=r.br/\r.br<=3;rw [C.br];decide,fun _ _=>?_⟩;refine go_straight E C hs rfl ?_ rfl (by rw [h3];exact C.hand) C.br C.done;unfold aT;rw [h1,h2];dsimp only;rw [abH ht];exact ⟨hn,C.stack⟩
theorem Ga (E:Env p c T) (C:ft p T r st) (H:eY (aw p c) p.vars.length s0 (s,r)) (hs:bT (ai p r.at_).op) {t w:Nat} (ht:t≠0) (hw:w≠3) (h1:bO (ai p r.at_).op.toNat=[w]) (h2:aR (ai p r.at_).op.toNat=t)
 (h3:∀ha,be p (ai p r.at_) ha=ha) {f:Int->Int} (hn:∀n,pX w n->pX t (f n)):oR p T (aw p c) s0 (s,(bI r).pop.push (f (bI r).fO))/\r.stack≠[]/\pX w r.fO:=by
 obtain ⟨_,_,hf,_⟩:=jQ C.iH.taken;rw [h1] at hf;obtain ⟨n,st',t',SU,e1,e2,hv,mS,_,KR⟩:=C.stack.vm hf;have htw:=KR hw;subst htw;have SV:r.fO=n:=by unfold Rn.fO;rw [e1];rfl
 refine ⟨⟨dX H rfl rfl rfl rfl,by show 0<=r.br/\r.br<=3;rw [C.br];decide,fun _ _=>?_⟩,by rw [e1];simp,by rw [SV];exact hv⟩;refine go_straight E C hs rfl ?_ rfl (by rw [h3];exact C.hand) C.br C.done;unfold aT;rw [h1,h2];dsimp only;rw [abH ht,e2];show vd (f r.fO::r.stack.tail) (t::SU);rw [e1,SV];exact ⟨hn n hv,mS⟩
theorem Qw (E:Env p c T) (C:ft p T r st) (H:eY (aw p c) p.vars.length s0 (s,r)) (hs:bT (ai p r.at_).op) {t w:Nat} (ht:t≠0) (h1:bO (ai p r.at_).op.toNat=[w,w]) (h2:aR (ai p r.at_).op.toNat=t)
 (h3:∀ha,be p (ai p r.at_) ha=ha) {f:Int->Int->Int} (hn:∀a b,-1073741824<=a/\a<=1073741824->-1073741824<=b/\b<=1073741824->pX t (f a b)):
 oR p T (aw p c) s0 (s,(bI r).pop.pop.push (f (bI r).pop.fO (bI r).fO))/\∃a b l,r.stack=b::a::l/\(-1073741824<=a/\a<=1073741824)/\(-1073741824<=b/\b<=1073741824):=by
 obtain ⟨_,_,hf,_⟩:=jQ C.iH.taken;rw [h1] at hf;obtain ⟨n,st1,t1,ty1,e1,e2,hv,mS,Jk,_⟩:=C.stack.vm hf;obtain ⟨m,st2,t2,SX,e3,e4,NK,Xd,_,_⟩:=mS.vm Jk;refine ⟨⟨dX H rfl rfl rfl rfl,by show 0<=r.br/\r.br<=3;rw [C.br];decide,fun _ _=>?_⟩,m,n,st2,by rw [e1,e3],NK.in,hv.in⟩;refine go_straight E C hs rfl ?_ rfl (by rw [h3];exact C.hand) C.br C.done;unfold aT;rw [h1,h2];dsimp only;rw [abH ht,e2,e4];show vd (f (r.stack.tail.headD 0) (r.stack.headD 0)::r.stack.tail.tail) (t::SX);rw [e1,e3];exact ⟨hn m n NK.in hv.in,Xd⟩
end
section
variable {p:aO} {c:Cp} {T:Map} {s0 s:St} {r:Rn} {st:Std}
theorem np (E:Env p c T) (C:ft p T r st):iP (ai p r.at_)=true/\gI p (ai p r.at_)=true:=(cK E.check).2 _ (ei C.lt)
theorem ed (E:Env p c T) (C:ft p T r st) {k:Nat} (h:(ai p r.at_).op=(k:Int)):
 aY p ((bY k).getD 0 0) (ai p r.at_).a=true/\aY p ((bY k).getD 1 0) (ai p r.at_).b=true/\aY p ((bY k).getD 2 0) (ai p r.at_).c=true/\aY p ((bY k).getD 3 0) (ai p r.at_).d=true:=
 dW (np E C).2 (by rw [h];rfl)
theorem DX (op:Int) {a b:Int} (ha: -1073741824<=a/\a<=1073741824) (hb: -1073741824<=b/\b<=1073741824):(op < 19->pX 1 (mL op a b))/\(¬op < 19->pX 2 (mL op a b)):=by
 unfold mL;constructor
 ·intro h;refine pX.num ?_;have t1:=lu (decide (a=b));have t2:=lu (decide (a < b));have t3:=lu (decide (a<=b));have c1:=ru (a*b);have c2:=ru (a+b);have c3:=ru (a - b);have c4:=OW a b;generalize kj (a*b)=k1 at*
  repeat' split
  all_goals omega
 ·intro h;refine pX.bool ?_;rw [abH omm,abH omm,abH omm,abH omm,abH omm,abH omm];split
  ·exact lu _
  split
  ·exact lu _
  ·exact lu _
theorem cy (E:Env p c T) (C:ft p T r st) (hs:bT (ai p r.at_).op) {y:SR} (H:eY (aw p c) p.vars.length s0 y) (ht:y.2.br=0\/y.2.br=1\/y.2.br=2\/y.2.br=3) (h0:y.2.br=0->y.2.at_=r.at_+1)
 (h1:y.2.br=0->vd y.2.stack (aT (ai p r.at_) st.ty)) (h2:y.2.loops=r.loops) (h4:y.2.br=0->(be p (ai p r.at_) st.ha=0↔y.2.hand=none)) (h6:y.2.done=false):oR p T (aw p c) s0 y:=
 ⟨H,omm,fun e1 e2=>go_straight E C hs (h0 e1) (h1 e1) h2 (h4 e1) e1 h6⟩
theorem du {x:Ins} {ty:List Nat} (h1:bO x.op.toNat=[]) (h2:aR x.op.toNat=0):aT x ty=ty:=by unfold aT;rw [h1,h2];rfl
theorem vo {S:Sys} {x:SR} {q e:Nat} {v:eW} (h0:x.2.br=0):((gW S x q e v).1.2.br=0\/(gW S x q e v).1.2.br=1)/\(gW S x q e v).1.2.at_=x.2.at_/\(gW S x q e v).1.2.stack=x.2.stack/\(gW S x q e v).1.2.loops=x.2.loops/\(gW S x q e v).1.2.done=x.2.done/\(gW S x q e v).1.2.hand=x.2.hand:=by
 unfold gW;split
 ·exact ⟨.inr rfl,rfl,rfl,rfl,rfl,rfl⟩
 ·exact ⟨.inl h0,rfl,rfl,rfl,rfl,rfl⟩
theorem abF {p:Prop} (h:p:=by
 exact gu E C H (by rw [hx];unfold bT;omega) (t:=1) dee (by rw [hx,h];rfl) (by rw [hx,h];rfl) (by intro ha;unfold be;rw [hx,h];rfl) (pX.num omm)):p:=h
theorem DY (E:Env p c T) (C:ft p T r st) (H:eY (aw p c) p.vars.length s0 (s,r)) (cW:(ai p r.at_).op<=21):oR p T (aw p c) s0 (aC p c (ai p r.at_) (s,bI r)):=by
 have lO:=(np E C).1;unfold iP aF at lO;simp only [afW,afX] at lO;have gB:0<=(bI r).br/\(bI r).br<=3:=by show 0<=r.br/\r.br<=3;rw [C.br];decide
 have hinv:Inv (aw p c) s:=H.inv;generalize hx:ai p r.at_=x at*;have OY:x.op=0\/x.op=1\/x.op=2\/x.op=3\/x.op=4\/x.op=5\/x.op=6\/x.op=7\/x.op=8\/x.op=9\/x.op=10\/x.op=13\/x.op=14\/(x.op=11\/x.op=12\/x.op=15\/x.op=16\/x.op=17\/x.op=18\/x.op=20\/x.op=21)\/x.op=19:=omm;have qo:eY (aw p c) p.vars.length s0 (s,bI r):=dX H rfl rfl rfl rfl;rcases OY with h|h|h|h|h|h|h|h|h|h|h|h|h|h|h
 ·
  have e:aC p c x (s,bI r)=(s,{bI r with done:=true}):=by unfold aC;rw [h];rfl
  rw [e];exact ⟨dX H rfl rfl rfl rfl,gB,fun _ e2=>by simp at e2⟩
 ·have e:aC p c x (s,bI r)=(s,(bI r).push x.a):=by unfold aC;rw [h];rfl
  rw [e];have hf:=(ed E C (k:=1) (by rw [hx,h];rfl)).1;exact gu E C H (by rw [hx];unfold bT;omega) (t:=1) dee (by rw [hx,h];rfl) (by rw [hx,h];rfl) (by intro ha;unfold be;rw [hx,h];rfl) (pX.num (by rw [hx] at hf;exact SP hf))
 ·have e:aC p c x (s,bI r)=(s,(bI r).push x.a):=by unfold aC;rw [h];rfl
  rw [e];have hf:=(ed E C (k:=2) (by rw [hx,h];rfl)).1;exact gu E C H (by rw [hx];unfold bT;omega) (t:=2) dee (by rw [hx,h];rfl) (by rw [hx,h];rfl) (by intro ha;unfold be;rw [hx,h];rfl) (pX.bool (by rw [hx] at hf;exact SQ hf))
 ·have e:aC p c x (s,bI r)=(s,(bI r).push (s.vars (N x.a))):=by unfold aC;rw [h];rfl
  rw [e];exact gu E C H (by rw [hx];unfold bT;omega) (t:=1) dee (by rw [hx,h];rfl) (by rw [hx,h];rfl) (by intro ha;unfold be;rw [hx,h];rfl) (pX.num (hinv.var _))
 ·have e:aC p c x (s,bI r)=(s,(bI r).push (s.a.ls (N x.a)).length):=by unfold aC;rw [h];rfl
  rw [e];have hf:=(ed E C (k:=4) (by rw [hx,h];rfl)).1;rw [hx] at hf;have hq:=(cX hf).2.2;have hl:=hinv.len _ hq;have hc:=E.gQ.q1 _ hq;have Hq:(aw p c).cq (N x.a)=(c.aI.getD (N x.a) 0).toNat:=rfl;exact abF
 ·have e:aC p c x (s,bI r)=(s,(bI r).push (c.aI.getD (N x.a) 0)):=by unfold aC;rw [h];rfl
  rw [e];have hf:=(ed E C (k:=5) (by rw [hx,h];rfl)).1;rw [hx] at hf;have hc:=E.gQ.q1 _ (cX hf).2.2;exact abF
 ·have e:aC p c x (s,bI r)=(s,(bI r).push c.size):=by unfold aC;rw [h];rfl
  rw [e];have h1:=E.gQ.s1;have h2:=E.gQ.s2;exact abF
 ·have e:aC p c x (s,bI r)=(s,(bI r).push s.total):=by unfold aC;rw [h];rfl
  rw [e];have h1:=E.gQ.s1;have h2:=E.gQ.s2;have h3:=hinv.Kd;have h4:=hinv.NJ;have h5:(aw p c).sz=c.size.toNat:=rfl;exact abF
 ·have e:aC p c x (s,bI r)=sx (aw p c) x (s,bI r):=by unfold aC;rw [h];rfl
  rw [e];unfold sx;exact gu E C H (by rw [hx];unfold bT;omega) (t:=2) dee (by rw [hx,h];rfl) (by rw [hx,h];rfl) (by intro ha;unfold be;rw [hx,h];rfl) (pX.bool (lu _))
 ·have e:aC p c x (s,bI r)=tE x (s,bI r):=by unfold aC;rw [h];rfl
  rw [e];unfold tE;dsimp only;cases hf:s.f (bI r).key with
  |none=>dsimp only;exact ⟨dX H rfl rfl rfl rfl,by show 0<=(3:Int)/\(3:Int)<=3;decide,fun e1 _=>by simp [Rn.dG] at e1⟩
  |some n=>dsimp only;obtain ⟨q,hq,hm,_⟩:=(hinv.idx _ n).1 hf;have:=hinv.tag q n hq hm (N x.a);exact abF
 ·have e:aC p c x (s,bI r)=l_ x (s,bI r):=by unfold aC;rw [h];rfl
  rw [e];unfold l_;dsimp only;split
  ·exact ⟨dX H rfl rfl rfl rfl,by show 0<=(2:Int)/\(2:Int)<=3;decide,fun e1 _=>by simp [Rn.dG] at e1⟩
  ·next bz=>have hf:=(ed E C (k:=10) (by rw [hx,h];rfl)).1;rw [hx] at hf;have:=hinv.tag _ _ (cX hf).2.2 (fi (e:=N x.b) bz) (N x.c);exact abF
 ·have e:aC p c x (s,bI r)=(s,(bI r).pop.push (-(bI r).fO)):=by unfold aC;rw [h];rfl
  rw [e];exact (Ga (f:=fun n=> -n) E C H (by rw [hx];unfold bT;omega) (t:=1) (w:=1) dee dee (by rw [hx,h];rfl) (by rw [hx,h];rfl) (by intro ha;unfold be;rw [hx,h];rfl) (fun n hn=>pX.num (by have:=hn.in;omega))).1
 ·have e:aC p c x (s,bI r)=(s,(bI r).pop.push (1 - (bI r).fO)):=by unfold aC;rw [h];rfl
  rw [e];exact (Ga (f:=fun n=>1 - n) E C H (by rw [hx];unfold bT;omega) (t:=2) (w:=2) dee dee (by rw [hx,h];rfl) (by rw [hx,h];rfl) (by intro ha;unfold be;rw [hx,h];rfl) (fun n hn=>pX.bool (by unfold pX at hn;rw [afE rfl] at hn;omega))).1
 ·have e:aC p c x (s,bI r)=(s,(bI r).pop.pop.push (mL x.op (bI r).pop.fO (bI r).fO)):=by unfold aC;rcases h with h|h|h|h|h|h|h|h<;>rw [h]<;>rfl
  rw [e];by_cases sE:x.op < 19
  ·exact (Qw (f:=mL x.op) E C H (by rw [hx];unfold bT;omega) (t:=1) (w:=1) dee (by rw [hx];rcases h with h|h|h|h|h|h|h|h<;>rw [h]<;>rfl) (by rw [hx];rcases h with h|h|h|h|h|h|h|h<;>first|(rw [h];rfl)|omega)
    (by intro ha;unfold be;rw [hx];rcases h with h|h|h|h|h|h|h|h<;>rw [h]<;>rfl) (fun a b ha hb=>(DX x.op ha hb).1 sE)).1
  ·exact (Qw (f:=mL x.op) E C H (by rw [hx];unfold bT;omega) (t:=2) (w:=1) dee (by rw [hx];rcases h with h|h|h|h|h|h|h|h<;>rw [h]<;>rfl) (by rw [hx];rcases h with h|h|h|h|h|h|h|h<;>first|omega|(rw [h];rfl))
    (by intro ha;unfold be;rw [hx];rcases h with h|h|h|h|h|h|h|h<;>rw [h]<;>rfl) (fun a b ha hb=>(DX x.op ha hb).2 sE)).1
 ·have e:aC p c x (s,bI r)=(s,(bI r).pop.pop.push (mL x.op (bI r).pop.fO (bI r).fO)):=by unfold aC;rw [h];rfl
  rw [e];exact (Qw (f:=mL x.op) E C H (by rw [hx];unfold bT;omega) (t:=2) (w:=3) dee (by rw [hx,h];rfl) (by rw [hx,h];rfl) (by intro ha;unfold be;rw [hx,h];rfl) (fun a b ha hb=>(DX x.op ha hb).2 omm)).1
end
section
variable {p:aO} {c:Cp} {T:Map} {s0 s:St} {r:Rn} {st:Std}
theorem vp (C:ft p T r st) {w:Nat} (h1:bO (ai p r.at_).op.toNat=[w]) (h2:aR (ai p r.at_).op.toNat=0):
 ∃n l,r.stack=n::l/\vd l (aT (ai p r.at_) st.ty)/\(-1073741824<=n/\n<=1073741824):=by
 obtain ⟨_,_,hf,_⟩:=jQ C.iH.taken;rw [h1] at hf;obtain ⟨n,st',t',SU,e1,e2,hv,mS,_,KR⟩:=C.stack.vm hf;refine ⟨n,st',e1,?_,hv.in⟩;unfold aT;rw [h1,h2,e2];exact mS
theorem vq (hr:oQ p T r.at_ st) (h:(ai p r.at_).op=22\/(ai p r.at_).op=23\/(ai p r.at_).op=25\/(ai p r.at_).op=26):(r.at_:Int) < (ai p r.at_).a:=by
 have hj:=hr.jumps;unfold cC at hj;by_cases h':(ai p r.at_).a<=(r.at_:Int)
 ·rw [afE ⟨h,.inl h'⟩] at hj;simp at hj
 ·omega
theorem abW {p:Prop} (h:p:=by
 refine ⟨qo _ rfl rfl rfl rfl,gB,fun _ _=>?_⟩;exact ⟨_,go_on E C.iH (by rw [hx];omega) Av.1 (by show vd r.stack.tail _;rw [tZ];exact mS) hl ub (by rw [tF];exact gR) jR fJ⟩):p:=h
theorem Hr (E:Env p c T) (C:ft p T r st) (H:eY (aw p c) p.vars.length s0 (s,r)) (h1:22<=(ai p r.at_).op) (h2:(ai p r.at_).op<=27):oR p T (aw p c) s0 (aC p c (ai p r.at_) (s,bI r)):=by
 have gB:0<=r.br/\r.br<=3:=by rw [C.br];decide
 have hl:=C.loops;have dD:=C.iH.jumps;generalize hx:ai p r.at_=x at*;have hc:x.op=22\/x.op=23\/x.op=24\/x.op=25\/x.op=26\/x.op=27:=omm;have qo:∀r',r'.bm=r.bm->r'.hand=r.hand->r'.key=r.key->r'.told=r.told->eY (aw p c) p.vars.length s0 (s,r'):=fun r' a b d e=>dX H a b d e;have tF:be p x st.ha=st.ha:=by unfold be;rw [abH omm,abH omm,abH omm]
 have ub:=C.Xc;have gR:=C.hand;have jR:=C.br;have fJ:=C.done;rcases hc with h|h|h|h|h|h
 ·have e:aC p c x (s,bI r)=(s,{bI r with at_:=N x.a}):=by unfold aC;rw [h];rfl
  rw [e];refine ⟨qo _ rfl rfl rfl rfl,gB,fun _ _=>?_⟩;rw [abH omm] at hl;have ht:aT x st.ty=st.ty:=du (by rw [h];rfl) (by rw [h];rfl);refine ⟨_,go_on (st':=⟨aT x st.ty,st.lo,be p x st.ha⟩) E C.iH (by rw [hx];omega) ?_ (by rw [ht];exact C.stack) hl ub (by rw [tF];exact gR) jR fJ⟩;unfold fE cm;rw [hx,abH omm,afE h];simp [N]
 ·have e:aC p c x (s,bI r)=(s,if (bI r).fO=0 then {(bI r).pop with at_:=N x.a} else (bI r).pop):=by unfold aC;rw [h];rfl
  rw [e];rw [abH omm] at hl;obtain ⟨n,l,e1,mS,_⟩:=vp C (w:=2) (by rw [hx,h];rfl) (by rw [hx,h];rfl);rw [hx] at mS;have tZ:r.stack.tail=l:=by rw [e1];rfl
  have Xe:∀a:Nat,eY (aw p c) p.vars.length s0 (s,{(bI r).pop with at_:=a}):=fun a=>qo _ rfl rfl rfl rfl;have Av:(r.at_+1,(⟨aT x st.ty,st.lo,be p x st.ha⟩:Std))∈fE p r.at_ st/\(N x.a,(⟨aT x st.ty,st.lo,be p x st.ha⟩:Std))∈fE p r.at_ st:=by unfold fE cm;rw [hx,abH omm,abH omm,afE h];simp [N]
  split
  ·refine ⟨Xe _,gB,fun _ _=>?_⟩;exact ⟨_,go_on E C.iH (by rw [hx];omega) Av.2 (by show vd r.stack.tail _;rw [tZ];exact mS) hl ub (by rw [tF];exact gR) jR fJ⟩
  ·exact abW
 ·have e:aC p c x (s,bI r)=(s,{bI r with loops:=x.a::(bI r).loops}):=by unfold aC;rw [h];rfl
  rw [e];refine ⟨qo _ rfl rfl rfl rfl,gB,fun _ _=>?_⟩;rw [abH omm] at hl;have ht:aT x st.ty=st.ty:=du (by rw [h];rfl) (by rw [h];rfl);have hw:(r.at_+1,(⟨aT x st.ty,st.lo,be p x st.ha⟩:Std))∈fE p r.at_ st:=by unfold fE cm;rw [hx,abH omm,abH omm,abH omm,abH omm,abH omm];simp
  obtain ⟨a,b⟩:=C.iH.ways _ hw;obtain ⟨s',hs⟩:=E.FY.all _ a;have:s'=⟨aT x st.ty,st.lo,be p x st.ha⟩:=by have:=hs.at_;rw [b] at this;exact (af0 this).symm
  subst this;have pW:(ai p (r.at_+1)).op=25:=by unfold cC at dD;rw [abH omm,afE h] at dD;simp at dD;exact dD.2
  have Θ:=ed E C (k:=24) (by rw [hx,h];rfl);rw [hx] at Θ;refine ⟨_,⟨a,hs,by show vd r.stack _;rw [ht];exact C.stack,by show (x.a::r.loops).length=_;rw [show (bI r).at_=r.at_+1 from rfl,afE pW];simp [hl],?_,by rw [tF];exact gR,jR,fJ⟩⟩;intro n hn;rcases List.mem_cons.1 hn with rfl|hn
  ·exact ae2 Θ.1
  ·exact ub n hn
 ·have e:aC p c x (s,bI r)=ql x (s,bI r):=by unfold aC;rw [h];rfl
  rw [e];rw [afE h] at hl;have ht:aT x st.ty=st.ty:=du (by rw [h];rfl) (by rw [h];rfl);have Av:(r.at_+1,(⟨aT x st.ty,r.at_::st.lo,be p x st.ha⟩:Std))∈fE p r.at_ st/\(N x.a,(⟨aT x st.ty,st.lo,be p x st.ha⟩:Std))∈fE p r.at_ st:=by unfold fE cm;rw [hx,abH omm,abH omm,abH omm,afE h];simp [N]
  cases iF:r.loops with
  |nil=>rw [iF] at hl;simp at hl
  |cons n l=>
   rw [iF] at hl ub;unfold ql;have e1:(bI r).loops=n::l:=iF;have hh:(s,bI r).2.loops.headD 0=n:=by show (bI r).loops.headD 0=n;rw [e1];rfl
   have Ov:=ub n smm;by_cases hz:n=0
   ·rw [afE (by rw [hh];exact hz)];refine ⟨qo _ rfl rfl rfl rfl,gB,fun _ _=>?_⟩;refine ⟨_,go_on E C.iH (by rw [hx];omega) Av.2 (by rw [ht];exact C.stack) ?_ ?_ (by rw [tF];exact gR) jR fJ⟩
    ·show (bI r).loops.tail.length=_;rw [e1];simp at hl ⊢;exact hl
    ·intro m hm;have:m∈(bI r).loops.tail:=hm;rw [e1] at this;exact ub m (by simp at this;simp [this])
   ·rw [abH (by rw [hh];exact hz)];refine ⟨qo _ rfl rfl rfl rfl,gB,fun _ _=>?_⟩;refine ⟨_,go_on E C.iH (by rw [hx];omega) Av.1 (by rw [ht];exact C.stack) ?_ ?_ (by rw [tF];exact gR) jR fJ⟩
    ·show (((bI r).loops.headD 0 - 1)::(bI r).loops.tail).length=_;rw [e1];simp at hl ⊢;exact hl
    ·intro m hm;have hm:m∈((bI r).loops.headD 0 - 1)::(bI r).loops.tail:=hm;rw [e1] at hm;have hm:m∈(n - 1)::l:=hm;rcases List.mem_cons.1 hm with rfl|hm
     ·omega
     ·exact ub m (by simp [hm])
 ·have e:aC p c x (s,bI r)=qm x (s,bI r):=by unfold aC;rw [h];rfl
  rw [e];rw [abH omm] at hl;obtain ⟨n,l,e1,mS,_⟩:=vp C (w:=2) (by rw [hx,h];rfl) (by rw [hx,h];rfl);rw [hx] at mS;have tZ:r.stack.tail=l:=by rw [e1];rfl
  have Av:(r.at_+1,(⟨aT x st.ty,st.lo,be p x st.ha⟩:Std))∈fE p r.at_ st/\(N x.a,(⟨aT x st.ty,st.lo.tail,be p x st.ha⟩:Std))∈fE p r.at_ st:=by unfold fE cm;rw [hx,abH omm,abH omm,abH omm,abH omm,afE h];simp [N]
  unfold qm;dsimp only;split
  ·refine ⟨qo _ rfl rfl rfl rfl,gB,fun _ _=>?_⟩;refine ⟨_,go_on E C.iH (by rw [hx];omega) Av.2 (by show vd r.stack.tail _;rw [tZ];exact mS) (by show r.loops.tail.length=st.lo.tail.length;rw [List.length_tail,List.length_tail];omega) ?_ (by rw [tF];exact gR) jR fJ⟩;intro m hm;exact ub m (List.mem_of_mem_tail hm)
  ·exact abW
 ·have e:aC p c x (s,bI r)=(s,{bI r with at_:=N x.a}):=by unfold aC;rw [h];rfl
  rw [e];refine ⟨qo _ rfl rfl rfl rfl,gB,fun _ _=>?_⟩;rw [abH omm] at hl;have ht:aT x st.ty=st.ty:=du (by rw [h];rfl) (by rw [h];rfl);unfold cC at dD;rw [abH omm,abH omm,abH omm,abH omm,afE h] at dD;cases iF:st.lo with
  |nil=>rw [iF] at dD;simp at dD
  |cons t l=>
   rw [iF] at dD hl;dsimp only at dD;have C_:=E.FY.loops _ _ C.iH.at_;rw [iF] at C_;obtain ⟨ht1,SY,s',Bl,KT⟩:=C_;rw [Bl] at dD;simp only [afW,afX] at dD;obtain ⟨ha,Vu,_⟩:=dD;have Hs:N x.a=t:=by unfold N;omega
   have a8:t < p.code.length:=by have:=C.lt;omega
   obtain ⟨Xf,SZ⟩:=E.FY.all t a8;have:Xf=s':=by have:=SZ.at_;rw [Bl] at this;exact (af0 this).symm
   subst this;have hh:=C.iH.ji;have hh':=SZ.ji;unfold dU at hh hh';rw [hx,abH omm,abH omm,abH omm,abH omm] at hh;rw [abH omm,abH omm,abH omm,abH omm] at hh';have k1:st.ha=0:=by simp only [Bool.or_eq_true,afW,afX,beq_iff_eq] at hh;omega
   have k2:Xf.ha=0:=by simp only [Bool.or_eq_true,afW,afX,beq_iff_eq] at hh';omega
   refine ⟨Xf,⟨by show N x.a < _;rw [Hs];exact a8,by show oQ p T (N x.a) Xf;rw [Hs];exact SZ,by rw [Vu,ht];exact C.stack,?_,ub,?_,jR,fJ⟩⟩
   ·show r.loops.length=Xf.lo.length+if (ai p (N x.a)).op=25 then 1 else 0;rw [Hs,afE SY,KT,hl];simp
   ·rw [k2];rw [k1] at gR;exact gR
end
section
variable {p:aO} {c:Cp} {T:Map} {s0 s:St} {r:Rn} {st:Std}
theorem aaV (E:Env p c T) {t:Nat} (h:t < p.aW.length):0<=p.aW.getD t 0/\p.aW.getD t 0<=255:=by have h1:=(cK E.check).1.aW (p.aW[t]) (af6 h);rw [afS,afP h];show 0<=p.aW[t]/\p.aW[t]<=255;omega
theorem xY {S:Sys} {x:SR} {q e:Nat}:((bi S x q e).2=false->(bi S x q e).1.2=x.2.dG 2)/\(bi S x q e).1.2.at_=x.2.at_/\(bi S x q e).1.2.stack=x.2.stack/\(bi S x q e).1.2.loops=x.2.loops/\(bi S x q e).1.2.done=x.2.done/\
 ((bi S x q e).2=true->(bi S x q e).1.2.br=x.2.br/\(bi S x q e).1.2.hand≠none):=by
 unfold bi;split
 ·exact ⟨fun _=>rfl,rfl,rfl,rfl,rfl,fun h=>by simp at h⟩
 ·exact ⟨fun h=>by simp at h,rfl,rfl,rfl,rfl,fun _=>⟨rfl,smm⟩⟩
theorem qF {S:Sys} {nv:Nat} {s0:St} {x:SR} (h:eY S nv s0 x) {q e:Nat} (hq:q < S.nq) (he:e<=1) (hh:x.2.hand≠none):
 eY S nv s0 (dt S x q e).1/\(dt S x q e).1.2.hand=none:=by
 cases hx:x.2.hand with
 |none=>exact absurd hx hh
 |some v=>
  obtain ⟨h1,h2,h3⟩:=h.hand v hx;have hv:oA x.2=v:=by unfold oA;rw [hx];rfl
  unfold dt;rw [hv];have H':eY S nv s0 (x.1,{x.2 with hand:=none}):=eY.same (s:=x.1) (r:=x.2) h rfl (.inr rfl) rfl rfl;obtain ⟨a,b,_⟩:=vg H' hq he (v:=v) h1 h2 h3 rfl;exact ⟨a,b⟩
theorem sF {S:Sys} {x:SR} {q e:Nat} (h0:x.2.br=0):((dt S x q e).1.2.br=0\/(dt S x q e).1.2.br=1)/\(dt S x q e).1.2.at_=x.2.at_/\(dt S x q e).1.2.stack=x.2.stack/\(dt S x q e).1.2.loops=x.2.loops/\(dt S x q e).1.2.done=x.2.done:=by unfold dt;obtain ⟨a,b,c,d,e',_⟩:=vo (S:=S) (x:=(x.1,{x.2 with hand:=none})) (q:=q) (e:=e) (v:=oA x.2) h0;exact ⟨a,b,c,d,e'⟩
theorem qG {S:Sys} {nv:Nat} {s0:St} {x:SR} (h:eY S nv s0 x) (hh:x.2.hand≠none):eY S nv s0 (fY x):=by
 refine ⟨h.inv,h.Nl,h.hand,h.key,fun k hk=>?_⟩;have hk:k∈x.2.told++[(oA x.2).key]:=hk;rw [List.mem_append] at hk;rcases hk with hk|hk
 ·exact h.told k hk
 ·simp at hk;subst hk;cases hx:x.2.hand with
  |none=>exact absurd hx hh
  |some v=>
   have hv:oA x.2=v:=by unfold oA;rw [hx];rfl
   rw [hv];exact (h.hand v hx).2.2
theorem Fb {S:Sys} {nv:Nat} {s0:St} {x:SR} (h:eY S nv s0 x):eY S nv s0 (fG x):=eY.same (s:=x.1) (r:=x.2) h rfl (.inr rfl) rfl rfl
theorem aeq {p:Prop} (h:p:=by
 rw [hx,du (by rw [h];rfl) (by rw [h];rfl)];exact vt):p:=h
theorem abN {p:Prop} (h:p:=by
 rw [hx];unfold be;rw [abH omm,abH omm,abH omm];exact gR):p:=h
theorem abZ {p:Prop} (h:p:=by
 refine cy E C (by rw [hx];exact hs) H1 (.inl jR) (fun _=>rfl) (fun _=>?_) rfl (fun _=>?_) fJ
 ·show vd r.stack.tail _;rw [e1,hx];exact mS
 ·exact abN):p:=h
theorem abY {p:Prop} (h:p:=by
 refine cy E C (by rw [hx];exact hs) a1 (.inl (u1.trans tA)) (fun _=>t2) (fun _=>?_) t4 (fun _=>?_) (t5.trans fJ)
 ·show vd y.2.stack _;exact abG
 ·rw [hx];unfold be;rw [abH omm,abH omm,abH omm];simp [k0,fG]):p:=h
theorem abX {p:Prop} (h:p:=by
 refine cy E C (by rw [hx];exact hs) a (by rcases t1 with t1|t1;exact .inl t1;exact .inr (.inl t1)) (fun _=>t2) (fun _=>?_) t4 (fun _=>?_) (t5.trans fJ)
 ·exact abG
 ·rw [hx,b];unfold be;rw [abH omm,abH omm,abH omm];simp [k0]):p:=h
theorem abJ {p:Prop} (h:p:=by
 exact ⟨dX hA rfl rfl rfl rfl,by show 0<=(3:Int)/\(3:Int)<=3;decide,fun e1 _=>by simp [Rn.dG] at e1⟩):p:=h
theorem abG {p:Prop} (h:p:=by
 rw [t3,hx,du (by rw [h];rfl) (by rw [h];rfl)];exact vt):p:=h
theorem aer {p:Prop} (h:p:=by
 exact ⟨a,by rw [this];show 0<=(2:Int)/\(2:Int)<=3;decide,fun e1 _=>by rw [this] at e1;simp [Rn.dG] at e1⟩):p:=h
theorem abI {p:Prop} (h:p:=by
 have:=t1 hb;simp only [Bool.false_eq_true,if_false];exact aer):p:=h
theorem DZ (E:Env p c T) (C:ft p T r st) (H:eY (aw p c) p.vars.length s0 (s,r)) (h1:28<=(ai p r.at_).op):oR p T (aw p c) s0 (aC p c (ai p r.at_) (s,bI r)):=by
 have lO:=(np E C).1;have hs:bT (ai p r.at_).op:=by unfold bT;omega
 have ji:=C.iH.ji;unfold iP aF at lO;simp only [afW,afX] at lO;have vt:=C.stack;have gR:=C.hand;have jR:=C.br;have fJ:=C.done;have hinv:Inv (aw p c) s:=H.inv;generalize hx:ai p r.at_=x at*;have hq0:(aw p c).nq=p.ap.length:=rfl;have hA:eY (aw p c) p.vars.length s0 (s,bI r):=dX H rfl rfl rfl rfl;have hP:eY (aw p c) p.vars.length s0 (s,(bI r).pop):=dX H rfl rfl rfl rfl;have tA:(bI r).br=0:=jR;have empty:(x.op=31\/x.op=32\/x.op=33\/x.op=34\/x.op=38\/x.op=39\/x.op=40\/x.op=41)->st.ha=0/\r.hand=none:=by intro h;unfold dU at ji;rw [abH omm,abH omm,abH omm,abH omm] at ji;simp only [Bool.or_eq_true,afW,afX,beq_iff_eq] at ji;have:st.ha=0:=omm;exact ⟨this,gR.1 this⟩
 have full:(x.op=35\/x.op=36\/x.op=37)->r.hand≠none:=by
  intro h e;have:=gR.2 e;unfold dU at ji;rcases h with h|h|h
  ·rw [abH omm,abH omm,afE h] at ji;split at ji<;>simp [this] at ji
  ·rw [afE h] at ji;simp [this] at ji
  ·rw [abH omm,afE h] at ji;simp [this] at ji
 have hc:x.op=28\/x.op=29\/x.op=30\/x.op=31\/x.op=32\/x.op=33\/x.op=34\/x.op=35\/x.op=36\/x.op=37\/x.op=38\/x.op=39\/x.op=40\/x.op=41:=omm;rcases hc with h|h|h|h|h|h|h|h|h|h|h|h|h|h
 ·
  have e:aC p c x (s,bI r)=zp p x (s,bI r):=by unfold aC;rw [h];rfl
  rw [e];obtain ⟨n,l,e1,mS,_⟩:=vp C (w:=1) (by rw [hx,h];rfl) (by rw [hx,h];rfl);rw [hx] at mS;have hf:=(ed E C (k:=28) (by rw [hx,h];rfl)).1;rw [hx] at hf;have hv:=(DW hf).2.2;have eG:p.vars.getD (N x.a) ⟨0,0,0⟩∈p.vars:=by rw [afS,afP hv];exact af6 hv
  have Rf:=(cK E.check).1.vars _ eG;have dK:=sw (n:=(bI r).fO) (show (p.vars.getD (N x.a) ⟨0,0,0⟩).lo<=(p.vars.getD (N x.a) ⟨0,0,0⟩).hi by omega);have H1:=KN hA hv (v:=within (bI r).fO (p.vars.getD (N x.a) ⟨0,0,0⟩).lo (p.vars.getD (N x.a) ⟨0,0,0⟩).hi) omm;refine cy E C (by rw [hx];exact hs) (y:=zp p x (s,bI r)) (dX H1 rfl rfl rfl rfl) (.inl jR) (fun _=>rfl) (fun _=>?_) rfl (fun _=>?_) fJ
  ·show vd r.stack.tail _;rw [e1,hx];exact mS
  ·exact abN
 ·
  have e:aC p c x (s,bI r)=oO p x (s,bI r):=by unfold aC;rw [h];rfl
  rw [e];obtain ⟨n,l,e1,mS,_⟩:=vp C (w:=1) (by rw [hx,h];rfl) (by rw [hx,h];rfl);rw [hx] at mS;have hf:=(ed E C (k:=29) (by rw [hx,h];rfl)).1;rw [hx] at hf;unfold oO;dsimp only;cases hk:s.f (bI r).key with
  |none=>dsimp only;exact ⟨dX hP rfl rfl rfl rfl,by show 0<=(3:Int)/\(3:Int)<=3;decide,fun e1 _=>by simp [Rn.dG] at e1⟩
  |some m=>dsimp only;obtain ⟨q,hq,hm,_⟩:=(hinv.idx _ m).1 hk;have H1:=xX (p:=p) (tag:=N x.a) hP hq hm (bI r).fO (aaV E (sD hf).2.2);exact abZ
 ·
  have e:aC p c x (s,bI r)=jO p x (s,bI r):=by unfold aC;rw [h];rfl
  rw [e];obtain ⟨n,l,e1,mS,_⟩:=vp C (w:=1) (by rw [hx,h];rfl) (by rw [hx,h];rfl);rw [hx] at mS;have hf:=ed E C (k:=30) (by rw [hx,h];rfl);rw [hx] at hf;unfold jO;dsimp only;split
  ·exact ⟨dX hP rfl rfl rfl rfl,by show 0<=(2:Int)/\(2:Int)<=3;decide,fun e1 _=>by simp [Rn.dG] at e1⟩
  ·next bz=>have H1:=xX (p:=p) (tag:=N x.c) hP (cX hf.1).2.2 (fi (e:=N x.b) bz) (bI r).fO (aaV E (sD hf.2.2.1).2.2);exact abZ
 ·
  have e:aC p c x (s,bI r)=lZ (aw p c) x (s,bI r):=by unfold aC;rw [h];rfl
  rw [e];have hf:=ed E C (k:=31) (by rw [hx,h];rfl);rw [hx] at hf;obtain ⟨k0,k1⟩:=empty omm;unfold lZ;dsimp only;cases hk:s.f (bI r).key with
  |some m=>dsimp only;exact abJ
  |none=>dsimp only;obtain ⟨a,b,_⟩:=vg hA (cX hf.1).2.2 (fZ hf.2.1).2.2 (v:=⟨(bI r).key,fun _=>0⟩) hk (fun t=>by show (0:Int)<=0/\(0:Int)<=255;decide) H.key k1;obtain ⟨t1,t2,t3,t4,t5,t6⟩:=vo (S:=aw p c) (x:=(s,bI r)) (q:=N x.a) (e:=N x.b) (v:=⟨(bI r).key,fun _=>0⟩) tA;exact abX
 ·
  have e:aC p c x (s,bI r)=tD (aw p c) x (s,bI r):=by unfold aC;rw [h];rfl
  rw [e];have hf:=ed E C (k:=32) (by rw [hx,h];rfl);rw [hx] at hf;obtain ⟨k0,k1⟩:=empty omm;unfold tD;dsimp only;cases hk:s.f (bI r).key with
  |none=>dsimp only;exact abJ
  |some m=>dsimp only;obtain ⟨q,hq,hm,_⟩:=(hinv.idx _ m).1 hk;rw [jq hinv.wf hq hm];obtain ⟨o1,o2⟩:=Bw (x:=(s,bI r)) hA hq hm k1;obtain ⟨a,b,_⟩:=vg o1 (cX hf.1).2.2 (fZ hf.2.1).2.2 (v:=s.a.val m) o2 (hinv.tag q m hq hm) (hinv.key q m hq hm) k1;obtain ⟨t1,t2,t3,t4,t5,t6⟩:=vo (S:=aw p c) (x:=ry (aw p c) (s,bI r) m q) (q:=N x.a) (e:=N x.b) (v:=s.a.val m) tA;exact abX
 ·
  have e:aC p c x (s,bI r)=l8 (aw p c) (s,bI r):=by unfold aC;rw [h];rfl
  rw [e];obtain ⟨k0,k1⟩:=empty omm;unfold l8;dsimp only;cases hk:s.f (bI r).key with
  |none=>dsimp only;exact abJ
  |some m=>
   dsimp only;obtain ⟨q,hq,hm,_⟩:=(hinv.idx _ m).1 hk;rw [jq hinv.wf hq hm];split
   ·obtain ⟨o1,o2⟩:=Bw (x:=(s,bI r)) hA hq hm k1;refine cy E C (by rw [hx];exact hs) o1 (.inl jR) (fun _=>rfl) (fun _=>?_) rfl (fun _=>?_) fJ
    ·exact aeq
    ·exact abN
   ·exact abJ
 ·
  have e:aC p c x (s,bI r)=(bi (aw p c) (s,bI r) (N x.a) (N x.b)).1:=by unfold aC;rw [h];rfl
  rw [e];have hf:=ed E C (k:=34) (by rw [hx,h];rfl);rw [hx] at hf;obtain ⟨k0,k1⟩:=empty omm;obtain ⟨a,_,_⟩:=vh hA (cX hf.1).2.2 (fZ hf.2.1).2.2 k1;obtain ⟨t1,t2,t3,t4,t5,t6⟩:=xY (S:=aw p c) (x:=(s,bI r)) (q:=N x.a) (e:=N x.b);cases hb:(bi (aw p c) (s,bI r) (N x.a) (N x.b)).2 with
  |false=>have:=t1 hb;exact aer
  |true=>
   obtain ⟨u1,u2⟩:=t6 hb;refine cy E C (by rw [hx];exact hs) a (.inl (u1.trans tA)) (fun _=>t2) (fun _=>?_) t4 (fun _=>?_) (t5.trans fJ)
   ·exact abG
   ·rw [hx];unfold be;rw [abH omm,abH omm,afE omm];constructor
    ·intro h';split at h'<;>simp at h'
    ·intro h';exact absurd h' u2
 ·
  have e:aC p c x (s,bI r)=(dt (aw p c) (s,bI r) (N x.a) (N x.b)).1:=by unfold aC;rw [h];rfl
  rw [e];have hf:=ed E C (k:=35) (by rw [hx,h];rfl);rw [hx] at hf;obtain ⟨a,b⟩:=qF hA (cX hf.1).2.2 (fZ hf.2.1).2.2 (full omm);obtain ⟨t1,t2,t3,t4,t5⟩:=sF (S:=aw p c) (x:=(s,bI r)) (q:=N x.a) (e:=N x.b) tA;refine cy E C (by rw [hx];exact hs) a (by rcases t1 with t1|t1;exact .inl t1;exact .inr (.inl t1)) (fun _=>t2) (fun _=>?_) t4 (fun _=>?_) (t5.trans fJ)
  ·exact abG
  ·rw [hx,b];unfold be;rw [abH omm,afE omm];simp
 ·
  have e:aC p c x (s,bI r)=fY (s,bI r):=by unfold aC;rw [h];rfl
  rw [e];refine cy E C (by rw [hx];exact hs) (qG hA (full omm)) (.inl jR) (fun _=>rfl) (fun _=>?_) rfl (fun _=>?_) fJ
  ·exact aeq
  ·rw [hx];unfold be;rw [afE h];have:=full omm;constructor
   ·intro h';simp at h'
   ·intro h';exact absurd h' this
 ·
  have e:aC p c x (s,bI r)=fG (s,bI r):=by unfold aC;rw [h];rfl
  rw [e];refine cy E C (by rw [hx];exact hs) (Fb hA) (.inl jR) (fun _=>rfl) (fun _=>?_) rfl (fun _=>?_) fJ
  ·exact aeq
  ·rw [hx];unfold be;rw [abH omm,afE omm];simp [fG]
 all_goals
  obtain ⟨k0,k1⟩:=empty omm;have NR:aY p 1 x.a=true/\aY p 4 x.b=true:=by
   rcases (show x.op=38\/x.op=39\/x.op=40\/x.op=41 by omega) with h'|h'|h'|h'
   ·have hf:=ed E C (k:=38) (by rw [hx,h'];rfl);rw [hx] at hf;exact ⟨hf.1,hf.2.1⟩
   ·have hf:=ed E C (k:=39) (by rw [hx,h'];rfl);rw [hx] at hf;exact ⟨hf.1,hf.2.1⟩
   ·have hf:=ed E C (k:=40) (by rw [hx,h'];rfl);rw [hx] at hf;exact ⟨hf.1,hf.2.1⟩
   ·have hf:=ed E C (k:=41) (by rw [hx,h'];rfl);rw [hx] at hf;exact ⟨hf.1,hf.2.1⟩
  obtain ⟨a,_,_⟩:=vh hA (cX NR.1).2.2 (fZ NR.2).2.2 k1;obtain ⟨t1,t2,t3,t4,t5,t6⟩:=xY (S:=aw p c) (x:=(s,bI r)) (q:=N x.a) (e:=N x.b)
 ·have e:aC p c x (s,bI r)=nX (aw p c) x (s,bI r):=by unfold aC;rw [h];rfl
  rw [e];have hf:=ed E C (k:=38) (by rw [hx,h];rfl);rw [hx] at hf;unfold nX;dsimp only;cases hb:(bi (aw p c) (s,bI r) (N x.a) (N x.b)).2 with
  |false=>exact abI
  |true=>
   obtain ⟨u1,u2⟩:=t6 hb;simp only [if_true];generalize (bi (aw p c) (s,bI r) (N x.a) (N x.b)).1=y at*;obtain ⟨a2,b2⟩:=qF a (cX hf.2.2.1).2.2 (fZ hf.2.2.2).2.2 u2;obtain ⟨v1,v2,v3,v4,v5⟩:=sF (S:=aw p c) (x:=y) (q:=N x.c) (e:=N x.d) (u1.trans tA);refine cy E C (by rw [hx];exact hs) a2 (by rcases v1 with v1|v1;exact .inl v1;exact .inr (.inl v1)) (fun _=>v2.trans t2) (fun _=>?_) (v4.trans t4) (fun _=>?_) (v5.trans (t5.trans fJ))
   ·rw [v3,t3,hx,du (by rw [h];rfl) (by rw [h];rfl)];exact vt
   ·rw [hx,b2];unfold be;rw [abH omm,abH omm,abH omm];simp [k0]
 ·have e:aC p c x (s,bI r)=nY (aw p c) x (s,bI r):=by unfold aC;rw [h];rfl
  rw [e];have hf:=ed E C (k:=39) (by rw [hx,h];rfl);rw [hx] at hf;unfold nY;dsimp only;cases hb:(bi (aw p c) (s,bI r) (N x.a) (N x.b)).2 with
  |false=>exact abI
  |true=>
   obtain ⟨u1,u2⟩:=t6 hb;simp only [if_true];generalize (bi (aw p c) (s,bI r) (N x.a) (N x.b)).1=y at*;have a1:=qG a u2;obtain ⟨a2,b2⟩:=qF a1 (cX hf.2.2.1).2.2 (fZ hf.2.2.2).2.2 u2;obtain ⟨v1,v2,v3,v4,v5⟩:=sF (S:=aw p c) (x:=fY y) (q:=N x.c) (e:=N x.d) (u1.trans tA);refine cy E C (by rw [hx];exact hs) a2 (by rcases v1 with v1|v1;exact .inl v1;exact .inr (.inl v1)) (fun _=>v2.trans t2) (fun _=>?_) (v4.trans t4) (fun _=>?_) (v5.trans (t5.trans fJ))
   ·rw [v3];show vd y.2.stack _;exact abG
   ·rw [hx,b2];unfold be;rw [abH omm,abH omm,abH omm];simp [k0]
 ·have e:aC p c x (s,bI r)=nZ (aw p c) x (s,bI r):=by unfold aC;rw [h];rfl
  rw [e];unfold nZ;dsimp only;cases hb:(bi (aw p c) (s,bI r) (N x.a) (N x.b)).2 with
  |false=>exact abI
  |true=>obtain ⟨u1,u2⟩:=t6 hb;simp only [if_true];generalize (bi (aw p c) (s,bI r) (N x.a) (N x.b)).1=y at*;have a1:=Fb (qG a u2);exact abY
 ·have e:aC p c x (s,bI r)=rz (aw p c) x (s,bI r):=by unfold aC;rw [h];rfl
  rw [e];unfold rz;dsimp only;cases hb:(bi (aw p c) (s,bI r) (N x.a) (N x.b)).2 with
  |false=>exact abI
  |true=>obtain ⟨u1,u2⟩:=t6 hb;simp only [if_true];generalize (bi (aw p c) (s,bI r) (N x.a) (N x.b)).1=y at*;have a1:=Fb a;exact abY
theorem zs (E:Env p c T) (C:ft p T r st) (H:eY (aw p c) p.vars.length s0 (s,r)):oR p T (aw p c) s0 (aC p c (ai p r.at_) (s,bI r)):=by
 by_cases h1:(ai p r.at_).op<=21
 ·exact DY E C H h1
 ·by_cases h2:(ai p r.at_).op<=27
  ·exact Hr E C H omm h2
  ·exact DZ E C H omm
end
section
def gJ (p:aO) (g:Nat->Nat) (pc:Nat):Nat:=
 let x:=ai p pc
 if x.op=0\/x.op=27 then 1
 else if x.op=22 then 1+g x.a.toNat
 else if x.op=23 then 1+max (g (pc+1)) (g x.a.toNat)
 else if x.op=24 then (1+x.a.toNat*(1+g (pc+2)))+(1+g (ai p (pc+1)).a.toNat)
 else 1+g (pc+1)
def kq (p:aO):Nat->(Nat->Nat)
 |0=>fun _=>0
 |k+1=>let g:=kq p k;aL g (p.code.length - 1 - k) (gJ p g (p.code.length - 1 - k))
def gS (p:aO):Nat->Nat:=kq p p.code.length
theorem xZ (a b:Nat):bC (min a MS) (min b MS)=min (a+b) MS:=by unfold bC MS;split<;>omega
theorem jt (b:Nat):bC 1 (min b MS)=min (1+b) MS:=by have:=xZ 1 b;rwa [show min 1 MS=1 from by unfold MS;decide] at this
theorem D0 (a b:Nat):dV a (min b MS)=min (a*b) MS:=by
 unfold dV;by_cases hb:b<=MS
 ·rw [Nat.min_eq_left hb];split<;>omega
 ·rw [Nat.min_eq_right omm];cases a with
  |zero=>simp
  |succ a=>have h1:MS<=(a+1)*MS:=Nat.le_mul_of_pos_left _ omm;have h2:MS<=(a+1)*b:=afM omm (Nat.le_mul_of_pos_left b (show 0 < a+1 by omega));split<;>omega
theorem D1 (p:aO) (g:Nat->Nat) (pc:Nat):km p (fun i=>min (g i) MS) pc=min (gJ p g pc) MS:=by
 unfold km gJ;dsimp only;have h1:min 1 MS=1:=by unfold MS;decide
 split
 ·rw [h1]
 split
 ·exact jt _
 split
 ·rw [show max (min (g (pc+1)) MS) (min (g (ai p pc).a.toNat) MS)=min (max (g (pc+1)) (g (ai p pc).a.toNat)) MS by omega];exact jt _
 split
 ·rw [jt,jt,D0,jt,xZ]
 ·exact jt _
theorem Ht (p:aO) (k:Nat):dw p k=fun i=>min (kq p k i) MS:=by
 induction k with
 |zero=>funext i;simp [dw,kq]
 |succ k ih=>
  funext i;unfold dw kq;dsimp only;rw [ih];simp only [cG];split
  ·exact D1 p (kq p k) _
  ·rfl
theorem Hu (p:aO) (i:Nat):jP p i=min (gS p i) MS:=by unfold jP gS;rw [Ht]
theorem tG (p:aO) (k j:Nat) (d:Nat) (h:p.code.length - k<=j) (hk:k+d<=p.code.length):kq p (k+d) j=kq p k j:=by
 induction d with
 |zero=>rfl
 |succ d ih=>show aL (kq p (k+d)) (p.code.length - 1 - (k+d)) (gJ p (kq p (k+d)) (p.code.length - 1 - (k+d))) j=_;rw [aj _ _ omm,ih omm]
theorem Bz {p:aO} {pc:Nat} (nj:pc < p.code.length) (h1:(ai p pc).op=22\/(ai p pc).op=23->pc < (ai p pc).a.toNat) (h2:(ai p pc).op=24->pc < (ai p (pc+1)).a.toNat):
 gS p pc=gJ p (gS p) pc:=by
 have hk:∀j,pc < j->gS p j=kq p (p.code.length - 1 - pc) j:=fun j hj=>by have:=tG p (p.code.length - 1 - pc) j (pc+1) omm omm;rw [show p.code.length - 1 - pc+(pc+1)=p.code.length by omega] at this;exact this
 have h0:gS p pc=gJ p (kq p (p.code.length - 1 - pc)) pc:=by have:=tG p (p.code.length - 1 - pc+1) pc pc omm omm;rw [show p.code.length - 1 - pc+1+pc=p.code.length by omega] at this;refine this.trans ?_;show aL _ (p.code.length - 1 - (p.code.length - 1 - pc)) _ pc=_;rw [show p.code.length - 1 - (p.code.length - 1 - pc)=pc by omega,an]
 rw [h0];unfold gJ;dsimp only;split
 ·rfl
 split
 ·next h=>rw [hk _ (h1 (.inl h))]
 split
 ·next h=>rw [hk _ (h1 (.inr h)),hk _ omm]
 split
 ·next h=>rw [hk _ (h2 h),hk (pc+2) omm]
 ·rw [hk _ omm]
def ju (p:aO) (t:Nat) (m:Int):Nat:=m.toNat*(1+gS p (t+1))+(1+gS p (ai p t).a.toNat)
def outer (p:aO):List Nat->List Int->Nat
 |t::lo,m::l=>ju p t m+outer p lo l
 |_,_=>0
def left (p:aO) (r:Rn) (st:Std):Nat:=
 if (ai p r.at_).op=25 then ju p r.at_ (r.loops.headD 0)+outer p st.lo r.loops.tail else gS p r.at_+outer p st.lo r.loops
theorem vu {S:Sys} {x:SR} {q e:Nat} {v:eW}:(gW S x q e v).1.2.at_=x.2.at_/\(gW S x q e v).1.2.loops=x.2.loops:=by unfold gW;split<;>exact ⟨rfl,rfl⟩
theorem eQ {S:Sys} {x:SR} {q e:Nat}:(bi S x q e).1.2.at_=x.2.at_/\(bi S x q e).1.2.loops=x.2.loops:=by unfold bi;split<;>exact ⟨rfl,rfl⟩
theorem lC {S:Sys} {x:SR} {q e:Nat}:(dt S x q e).1.2.at_=x.2.at_/\(dt S x q e).1.2.loops=x.2.loops:=by unfold dt;exact vu
theorem aG {α:Type} {P:α->Prop} {c:Prop} [Decidable c] {a b:α} (h1:c->P a) (h2:¬c->P b):P (if c then a else b):=by
 by_cases h:c
 ·rw [afE h];exact h1 h
 ·rw [abH h];exact h2 h
def Xg (x y:SR):Prop:=y.2.at_=x.2.at_/\y.2.loops=x.2.loops
theorem zt {p:aO} {c:Cp} {i:Ins} {x:SR} (h:bT i.op):Xg x (aC p c i x):=by
 unfold bT at h;unfold aC;dsimp only;refine aG (fun _=>⟨rfl,rfl⟩) (fun _=>?_);refine aG (fun _=>⟨rfl,rfl⟩) (fun _=>?_);refine aG (fun _=>⟨rfl,rfl⟩) (fun _=>?_);refine aG (fun _=>⟨rfl,rfl⟩) (fun _=>?_);refine aG (fun _=>⟨rfl,rfl⟩) (fun _=>?_);refine aG (fun _=>⟨rfl,rfl⟩) (fun _=>?_);refine aG (fun _=>⟨rfl,rfl⟩) (fun _=>?_);refine aG (fun _=>⟨rfl,rfl⟩) (fun _=>?_);refine aG (fun _=>?_) (fun _=>?_)
 ·unfold tE;split<;>exact ⟨rfl,rfl⟩
 refine aG (fun _=>?_) (fun _=>?_)
 ·unfold l_;split<;>exact ⟨rfl,rfl⟩
 refine aG (fun _=>⟨rfl,rfl⟩) (fun _=>?_);refine aG (fun _=>⟨rfl,rfl⟩) (fun _=>?_);refine aG (fun _=>⟨rfl,rfl⟩) (fun _=>?_);refine aG (fun _=>by omega) (fun _=>?_);refine aG (fun _=>by omega) (fun _=>?_);refine aG (fun _=>by omega) (fun _=>?_);refine aG (fun _=>by omega) (fun _=>?_);refine aG (fun _=>by omega) (fun _=>?_);refine aG (fun _=>⟨rfl,rfl⟩) (fun _=>?_);refine aG (fun _=>?_) (fun _=>?_)
 ·unfold oO;split<;>exact ⟨rfl,rfl⟩
 refine aG (fun _=>?_) (fun _=>?_)
 ·unfold jO;split<;>exact ⟨rfl,rfl⟩
 refine aG (fun _=>?_) (fun _=>?_)
 ·unfold lZ;split
  ·exact ⟨rfl,rfl⟩
  ·exact vu
 refine aG (fun _=>?_) (fun _=>?_)
 ·unfold tD;split
  ·exact ⟨rfl,rfl⟩
  ·exact vu (x:=ry _ x _ _)
 refine aG (fun _=>?_) (fun _=>?_)
 ·unfold l8;split
  ·exact ⟨rfl,rfl⟩
  ·split<;>exact ⟨rfl,rfl⟩
 refine aG (fun _=>eQ) (fun _=>?_);refine aG (fun _=>lC) (fun _=>?_);refine aG (fun _=>⟨rfl,rfl⟩) (fun _=>?_);refine aG (fun _=>⟨rfl,rfl⟩) (fun _=>?_);refine aG (fun _=>?_) (fun _=>?_)
 ·unfold nX;dsimp only;split
  ·exact ⟨lC.1.trans eQ.1,lC.2.trans eQ.2⟩
  ·exact eQ
 refine aG (fun _=>?_) (fun _=>?_)
 ·unfold nY;dsimp only;split
  ·exact ⟨(lC (x:=fY _)).1.trans eQ.1,(lC (x:=fY _)).2.trans eQ.2⟩
  ·exact eQ
 refine aG (fun _=>?_) (fun _=>?_)
 ·unfold nZ;dsimp only;split
  ·exact eQ
  ·exact eQ
 ·unfold rz;dsimp only;split
  ·exact eQ
  ·exact eQ
variable {p:aO} {c:Cp} {T:Map} {s0 s:St} {r:Rn} {st:Std}
theorem jG {y:Rn} {st' a:Std} {n:Nat} (C:ft p T y st') (h:T n=some a) (e:y.at_=n):st'=a:=by have:=C.iH.at_;rw [e,h] at this;exact (af0 this).symm
theorem eB {y:Rn} (h:(ai p y.at_).op≠25):left p y st=gS p y.at_+outer p st.lo y.loops:=by unfold left;rw [abH h]
theorem zu {y:Rn} (h:(ai p y.at_).op=25):left p y st=ju p y.at_ (y.loops.headD 0)+outer p st.lo y.loops.tail:=by unfold left;rw [afE h]
theorem x_ (E:Env p c T) {t:Nat} {a:Std} (h:oQ p T t a) (pW:(ai p t).op=25):(t:Int) < (ai p t).a:=by
 have hj:=h.jumps;unfold cC at hj;split at hj
 ·simp at hj
 ·next h'=>
  by_cases a8:(t:Int) < (ai p t).a
  ·exact a8
  ·exact absurd ⟨.inr (.inr (.inl pW)),.inl omm⟩ h'
theorem qH (E:Env p c T) (C:ft p T r st) {st':Std} (C':ft p T (aC p c (ai p r.at_) (s,bI r)).2 st'):left p (aC p c (ai p r.at_) (s,bI r)).2 st'+1<=left p r st:=by
 have hl:=C.loops;have dD:=C.iH.jumps;have rC:=C.iH.ways;have KR:=fun (NQ:(ai p r.at_).op≠24) (w:Nat×Std) (hw:w∈fE p r.at_ st)=>aaU E.FY C.iH NQ hw;have hjh:=fun h=>vq C.iH h;have a8:=C.lt;have uF:=Bz (p:=p) (pc:=r.at_) C.lt;have h0:(aC p c (ai p r.at_) (s,bI r)).2.done=false:=C'.done;generalize hy:(aC p c (ai p r.at_) (s,bI r)).2=y at*;by_cases hs:bT (ai p r.at_).op
 ·obtain ⟨e1,e2⟩:=zt (p:=p) (c:=c) (x:=(s,bI r)) hs;rw [hy] at e1 e2;have e1:y.at_=r.at_+1:=e1;have e2:y.loops=r.loops:=e2;have hw:=rB (st:=st) hs;have fj:=jG C' (rC _ hw).2 e1;unfold bT at hs;have hn:=KR omm _ hw;rw [eB (y:=y) (by rw [e1];exact hn),eB omm,fj,e1,e2,uF omm omm];unfold gJ;dsimp only;rw [abH omm,abH omm,abH omm,abH omm];omega
 ·generalize hx:ai p r.at_=x at*;have hc:x.op=0\/x.op=22\/x.op=23\/x.op=24\/x.op=25\/x.op=26\/x.op=27:=by unfold bT at hs;omega
  rcases hc with h|h|h|h|h|h|h
  ·have e:aC p c x (s,bI r)=(s,{bI r with done:=true}):=by unfold aC;rw [h];rfl
   rw [e] at hy;rw [<-hy] at h0;simp at h0
  ·have e:aC p c x (s,bI r)=(s,{bI r with at_:=N x.a}):=by unfold aC;rw [h];rfl
   rw [e] at hy;have e1:y.at_=N x.a:=by rw [<-hy]
   have e2:y.loops=r.loops:=by rw [<-hy];rfl
   have hw:(N x.a,(⟨aT x st.ty,st.lo,be p x st.ha⟩:Std))∈fE p r.at_ st:=by unfold fE cm;rw [hx,abH omm,afE h];simp [N]
   have fj:=jG C' (rC _ hw).2 e1;have hn:=KR omm _ hw;have hg:=hjh (.inl h);rw [eB (y:=y) (by rw [e1];exact hn),eB (y:=r) (by rw [hx];omega),fj,e1,e2,uF omm omm];unfold gJ;dsimp only;rw [hx,abH omm,afE h];unfold N;omega
  ·have e:aC p c x (s,bI r)=(s,if (bI r).fO=0 then {(bI r).pop with at_:=N x.a} else (bI r).pop):=by unfold aC;rw [h];rfl
   rw [e] at hy;have Av:(r.at_+1,(⟨aT x st.ty,st.lo,be p x st.ha⟩:Std))∈fE p r.at_ st/\(N x.a,(⟨aT x st.ty,st.lo,be p x st.ha⟩:Std))∈fE p r.at_ st:=by unfold fE cm;rw [hx,abH omm,abH omm,afE h];simp [N]
   have hg:=hjh (.inr (.inl h));have hf:gS p r.at_=1+max (gS p (r.at_+1)) (gS p (N x.a)):=by rw [uF omm omm];unfold gJ;dsimp only;rw [hx,abH omm,abH omm,afE h];rfl
   have e2:y.loops=r.loops:=by rw [<-hy];dsimp only;split<;>rfl
   by_cases ht:(bI r).fO=0
   ·have e1:y.at_=N x.a:=by rw [<-hy];dsimp only;rw [afE ht]
    rw [eB (y:=y) (by rw [e1];exact KR omm _ Av.2),eB (y:=r) (by rw [hx];omega),jG C' (rC _ Av.2).2 e1,e1,e2,hf];dsimp only;omega
   ·have e1:y.at_=r.at_+1:=by rw [<-hy];dsimp only;rw [abH ht];rfl
    rw [eB (y:=y) (by rw [e1];exact KR omm _ Av.1),eB (y:=r) (by rw [hx];omega),jG C' (rC _ Av.1).2 e1,e1,e2,hf];dsimp only;omega
  ·have e:aC p c x (s,bI r)=(s,{bI r with loops:=x.a::(bI r).loops}):=by unfold aC;rw [h];rfl
   rw [e] at hy;have e1:y.at_=r.at_+1:=by rw [<-hy];rfl
   have e2:y.loops=x.a::r.loops:=by rw [<-hy];rfl
   have hw:(r.at_+1,(⟨aT x st.ty,st.lo,be p x st.ha⟩:Std))∈fE p r.at_ st:=by unfold fE cm;rw [hx,abH omm,abH omm,abH omm,abH omm,abH omm];simp
   have fj:=jG C' (rC _ hw).2 e1;have pW:(ai p (r.at_+1)).op=25:=by unfold cC at dD;rw [abH omm,afE h] at dD;simp at dD;exact dD.2
   have hg:=x_ E (by have:=C'.iH;rw [e1] at this;exact this) pW;have hf:gS p r.at_=(1+x.a.toNat*(1+gS p (r.at_+2)))+(1+gS p (ai p (r.at_+1)).a.toNat):=by rw [uF omm (fun _=>by omega)];unfold gJ;dsimp only;rw [hx,abH omm,abH omm,abH omm,afE h]
   rw [zu (y:=y) (by rw [e1];exact pW),eB (y:=r) (by rw [hx];omega),fj,e1,e2,hf];unfold ju;dsimp only [List.headD,List.tail];rw [show r.at_+1+1=r.at_+2 from rfl];omega
  ·have e:aC p c x (s,bI r)=ql x (s,bI r):=by unfold aC;rw [h];rfl
   rw [e] at hy;unfold ql at hy;rw [zu (y:=r) (by rw [hx];exact h)];have Av:(r.at_+1,(⟨aT x st.ty,r.at_::st.lo,be p x st.ha⟩:Std))∈fE p r.at_ st/\(N x.a,(⟨aT x st.ty,st.lo,be p x st.ha⟩:Std))∈fE p r.at_ st:=by unfold fE cm;rw [hx,abH omm,abH omm,abH omm,afE h];simp [N]
   have ub:0<=r.loops.headD 0:=by
    cases iF:r.loops with
    |nil=>simp
    |cons n l=>exact (C.Xc n (by rw [iF];simp)).1
   by_cases hz:(s,bI r).2.loops.headD 0=0
   ·rw [afE hz] at hy;have e1:y.at_=N x.a:=by rw [<-hy];rfl
    have e2:y.loops=r.loops.tail:=by rw [<-hy];rfl
    rw [eB (y:=y) (by rw [e1];exact KR omm _ Av.2),jG C' (rC _ Av.2).2 e1,e1,e2];unfold ju;rw [hx];unfold N;dsimp only;omega
   ·rw [abH hz] at hy;have e1:y.at_=r.at_+1:=by rw [<-hy];rfl
    have e2:y.loops=(r.loops.headD 0 - 1)::r.loops.tail:=by rw [<-hy];rfl
    rw [eB (y:=y) (by rw [e1];exact KR omm _ Av.1),jG C' (rC _ Av.1).2 e1,e1,e2];have hz':r.loops.headD 0≠0:=hz;generalize r.loops.headD 0=m at*;show gS p (r.at_+1)+(ju p r.at_ (m - 1)+outer p st.lo r.loops.tail)+1<=ju p r.at_ m+outer p st.lo r.loops.tail;unfold ju;have:m.toNat=(m - 1).toNat+1:=omm;rw [this,Nat.add_mul];omega
  ·have e:aC p c x (s,bI r)=qm x (s,bI r):=by unfold aC;rw [h];rfl
   rw [e] at hy;unfold qm at hy;dsimp only at hy;rw [eB (y:=r) (by rw [hx];omega)];have Av:(r.at_+1,(⟨aT x st.ty,st.lo,be p x st.ha⟩:Std))∈fE p r.at_ st/\(N x.a,(⟨aT x st.ty,st.lo.tail,be p x st.ha⟩:Std))∈fE p r.at_ st:=by unfold fE cm;rw [hx,abH omm,abH omm,abH omm,abH omm,afE h];simp [N]
   have hf:gS p r.at_=1+gS p (r.at_+1):=by rw [uF omm omm];unfold gJ;dsimp only;rw [hx,abH omm,abH omm,abH omm,abH omm]
   by_cases ht:(bI r).fO=0
   ·rw [afE ht] at hy;have e1:y.at_=N x.a:=by rw [<-hy];rfl
    have e2:y.loops=r.loops.tail:=by rw [<-hy];rfl
    rw [eB (y:=y) (by rw [e1];exact KR omm _ Av.2),jG C' (rC _ Av.2).2 e1,e1,e2];rw [abH omm] at hl;unfold cC at dD;split at dD
    ·simp at dD
    cases iF:st.lo with
    |nil=>rw [iF] at dD;simp [h] at dD
    |cons t lo=>
     rw [iF] at dD hl;rw [abH omm,abH omm] at dD;simp only [afX] at dD;cases AG:r.loops with
     |nil=>rw [AG] at hl;simp at hl
     |cons m l=>show gS p (N x.a)+outer p lo l+1<=gS p r.at_+(ju p t m+outer p lo l);unfold ju;rw [<-dD];unfold N;omega
   ·rw [abH ht] at hy;have e1:y.at_=r.at_+1:=by rw [<-hy];rfl
    have e2:y.loops=r.loops:=by rw [<-hy];rfl
    rw [eB (y:=y) (by rw [e1];exact KR omm _ Av.1),jG C' (rC _ Av.1).2 e1,e1,e2,hf];dsimp only;omega
  ·have e:aC p c x (s,bI r)=(s,{bI r with at_:=N x.a}):=by unfold aC;rw [h];rfl
   rw [e] at hy;have e2:y.loops=r.loops:=by rw [<-hy];rfl
   rw [eB (y:=r) (by rw [hx];omega)];rw [abH omm] at hl;have hf:gS p r.at_=1:=by rw [uF omm omm];unfold gJ;dsimp only;rw [hx,afE (.inr h)]
   unfold cC at dD;rw [abH omm,abH omm,abH omm,abH omm,afE h] at dD;cases iF:st.lo with
   |nil=>rw [iF] at dD;simp at dD
   |cons t lo=>
    rw [iF] at dD hl;dsimp only at dD;have C_:=E.FY.loops _ _ C.iH.at_;rw [iF] at C_;obtain ⟨ht1,SY,s',Bl,KT⟩:=C_;simp only [afW,afX] at dD;have Hs:N x.a=t:=by unfold N;omega
    have e1:y.at_=t:=by rw [<-hy];exact Hs
    have fj:=jG C' Bl e1;cases AG:r.loops with
    |nil=>rw [AG] at hl;simp at hl
    |cons m l=>rw [zu (y:=y) (by rw [e1];exact SY),fj,e1,e2,AG,KT,hf];show ju p t m+outer p lo l+1<=1+(ju p t m+outer p lo l);omega
end
section
def dY (p:aO) (c:Cp) (x:SR):SR:=aC p c (ai p x.2.at_) (x.1,bI x.2)
def jH (x:SR):Bool:=x.2.done|| !(decide (x.2.br=0))
def iU (p:aO) (c:Cp):Nat->SR->Nat×SR
 |0,x=>(0,x)
 |f+1,x=>if jH (dY p c x) then (1,dY p c x) else ((iU p c f (dY p c x)).1+1,(iU p c f (dY p c x)).2)
structure Small (n:Nat) (r:Rn):Prop where
 stack:r.stack.length<=n
 loops:r.loops.length<=n
 told:r.told.length<=n
 bm:r.bm.length<=2*n
structure Hv (k:Nat) (x y:SR):Prop where
 stack:y.2.stack.length<=x.2.stack.length+1
 loops:y.2.loops.length<=x.2.loops.length+1
 told:y.2.told.length<=x.2.told.length+1
 bm:y.2.bm.length<=x.2.bm.length+k
 key:y.2.key=x.2.key
theorem Hv.more {k k':Nat} {x y:SR} (h:Hv k x y) (hk:k<=k'):Hv k' x y:=⟨h.stack,h.loops,h.told,by have:=h.bm;omega,h.key⟩
structure vw (k:Nat) (x y:SR):Prop where
 stack:y.2.stack=x.2.stack
 loops:y.2.loops=x.2.loops
 told:y.2.told=x.2.told
 bm:y.2.bm.length<=x.2.bm.length+k
 key:y.2.key=x.2.key
theorem vw.trans {k k':Nat} {x y z:SR} (h:vw k x y) (g:vw k' y z):vw (k+k') x z:=
 ⟨g.stack.trans h.stack,g.loops.trans h.loops,g.told.trans h.told,by have:=h.bm;have:=g.bm;omega,g.key.trans h.key⟩
theorem vw.grow {k k':Nat} {x y:SR} (h:vw k x y) (hk:k<=k'):Hv k' x y:=
 ⟨by rw [h.stack];omega,by rw [h.loops];omega,by rw [h.told];omega,by have:=h.bm;omega,h.key⟩
theorem sG {S:Sys} {x:SR} {q e:Nat} {v:eW}:vw 1 x (gW S x q e v).1:=by
 unfold gW;split
 ·exact ⟨rfl,rfl,rfl,afY _ _,rfl⟩
 ·exact ⟨rfl,rfl,rfl,afF _,rfl⟩
theorem fw {S:Sys} {x:SR} {q e:Nat}:vw 1 x (bi S x q e).1:=by
 unfold bi;split
 ·exact ⟨rfl,rfl,rfl,afY _ _,rfl⟩
 ·exact ⟨rfl,rfl,rfl,afF _,rfl⟩
theorem yf {S:Sys} {x:SR} {n q:Nat}:vw 1 x (ry S x n q):=⟨rfl,rfl,rfl,afF _,rfl⟩
theorem oT {S:Sys} {x:SR} {q e:Nat}:vw 1 x (dt S x q e).1:=by have h:=sG (S:=S) (x:=(x.1,{x.2 with hand:=none})) (q:=q) (e:=e) (v:=oA x.2);exact ⟨h.stack,h.loops,h.told,h.bm,h.key⟩
theorem ade {p:Prop} (h:p:=by
 exact ⟨by simp [Rn.pop,Rn.dG];omega,afY _ _,afY _ _,afY _ _,rfl⟩):p:=h
theorem adb {p:Prop} (h:p:=by
 exact ⟨by simp [oB,Rn.pop,Rn.note];omega,afY _ _,afY _ _,by simp [oB,Rn.pop,Rn.note],rfl⟩):p:=h
theorem ab3 {p:Prop} (h:p:=by
 exact S0 _ (afY _ _) rfl rfl rfl rfl):p:=h
theorem yh (p:aO) (c:Cp) (i:Ins) (x:SR):Hv 2 x (aC p c i x):=by
 have S0:∀y:SR,y.2.stack.length<=x.2.stack.length+1->y.2.loops=x.2.loops->y.2.told=x.2.told->y.2.bm=x.2.bm->y.2.key=x.2.key->Hv 2 x y:=fun y h1 h2 h3 h4 h5=>
  ⟨h1,by rw [h2];omega,by rw [h3];omega,by rw [h4];omega,h5⟩
 have pu:∀(r:Rn) (n:Int),(r.push n).stack.length=r.stack.length+1:=fun r n=>by simp [Rn.push]
 have po:∀(r:Rn),r.pop.stack.length<=r.stack.length:=fun r=>by simp [Rn.pop]
 unfold aC;dsimp only;refine aG (fun _=>S0 _ (afY _ _) rfl rfl rfl rfl) (fun _=>?_);refine aG (fun _=>S0 _ (by dsimp only;rw [pu];omega) rfl rfl rfl rfl) (fun _=>?_);refine aG (fun _=>S0 _ (by dsimp only;rw [pu];omega) rfl rfl rfl rfl) (fun _=>?_);refine aG (fun _=>S0 _ (by dsimp only;rw [pu];omega) rfl rfl rfl rfl) (fun _=>?_);refine aG (fun _=>S0 _ (by dsimp only;rw [pu];omega) rfl rfl rfl rfl) (fun _=>?_);refine aG (fun _=>S0 _ (by dsimp only;rw [pu];omega) rfl rfl rfl rfl) (fun _=>?_);refine aG (fun _=>S0 _ (by dsimp only;rw [pu];omega) rfl rfl rfl rfl) (fun _=>?_);refine aG (fun _=>S0 _ (by unfold sx;dsimp only;rw [pu];omega) rfl rfl rfl rfl) (fun _=>?_);refine aG (fun _=>?_) (fun _=>?_)
 ·unfold tE;split
  ·exact ab3
  ·exact S0 _ (by dsimp only;rw [pu];omega) rfl rfl rfl rfl
 refine aG (fun _=>?_) (fun _=>?_)
 ·unfold l_;split
  ·exact ab3
  ·exact S0 _ (by dsimp only;rw [pu];omega) rfl rfl rfl rfl
 refine aG (fun _=>S0 _ (by dsimp only;rw [pu];have:=po x.2;omega) rfl rfl rfl rfl) (fun _=>?_);refine aG (fun _=>S0 _ (by dsimp only;rw [pu];have:=po x.2;omega) rfl rfl rfl rfl) (fun _=>?_);refine aG (fun _=>S0 _ (by dsimp only;rw [pu];have:=po x.2;have:=po x.2.pop;omega) rfl rfl rfl rfl) (fun _=>?_);refine aG (fun _=>S0 _ (afY _ _) rfl rfl rfl rfl) (fun _=>?_);refine aG (fun _=>?_) (fun _=>?_)
 ·have:=po x.2;split
  ·exact S0 _ (by dsimp only;omega) rfl rfl rfl rfl
  ·exact S0 _ (by dsimp only;omega) rfl rfl rfl rfl
 refine aG (fun _=>⟨afY _ _,smm,afY _ _,afY _ _,rfl⟩) (fun _=>?_);refine aG (fun _=>?_) (fun _=>?_)
 ·unfold ql;split
  ·exact ⟨afY _ _,by simp [jr];omega,afY _ _,afY _ _,rfl⟩
  ·exact ⟨afY _ _,smm,afY _ _,afY _ _,rfl⟩
 refine aG (fun _=>?_) (fun _=>?_)
 ·unfold qm;split
  ·exact ⟨by simp [jr,Rn.pop];omega,by simp [jr,Rn.pop];omega,afY _ _,afY _ _,rfl⟩
  ·exact ⟨by simp [Rn.pop];omega,afY _ _,afY _ _,afY _ _,rfl⟩
 refine aG (fun _=>⟨by simp [zp,Rn.pop,Rn.note];omega,afY _ _,afY _ _,by simp [zp,Rn.pop,Rn.note],rfl⟩) (fun _=>?_);refine aG (fun _=>?_) (fun _=>?_)
 ·unfold oO;split
  ·exact ade
  ·exact adb
 refine aG (fun _=>?_) (fun _=>?_)
 ·unfold jO;split
  ·exact ade
  ·exact adb
 refine aG (fun _=>?_) (fun _=>?_)
 ·unfold lZ;split
  ·exact ab3
  ·exact sG.grow dee
 refine aG (fun _=>?_) (fun _=>?_)
 ·unfold tD;split
  ·exact ab3
  ·exact (yf.trans sG).grow dee
 refine aG (fun _=>?_) (fun _=>?_)
 ·unfold l8;split
  ·exact ab3
  ·split
   ·exact yf.grow dee
   ·exact ab3
 refine aG (fun _=>fw.grow dee) (fun _=>?_);refine aG (fun _=>oT.grow dee) (fun _=>?_);refine aG (fun _=>⟨afY _ _,afY _ _,by simp [fY],afY _ _,rfl⟩) (fun _=>?_);refine aG (fun _=>S0 _ (afY _ _) rfl rfl rfl rfl) (fun _=>?_);refine aG (fun _=>?_) (fun _=>?_)
 ·unfold nX;dsimp only;split
  ·exact (fw.trans oT).grow dee
  ·exact fw.grow dee
 refine aG (fun _=>?_) (fun _=>?_)
 ·unfold nY;dsimp only;split
  ·have h1:=fw (S:=aw p c) (x:=x) (q:=N i.a) (e:=N i.b);have h2:=oT (S:=aw p c) (x:=fY (bi (aw p c) x (N i.a) (N i.b)).1) (q:=N i.c) (e:=N i.d);refine ⟨?_,?_,?_,?_,?_⟩
   ·rw [h2.stack];show (bi (aw p c) x (N i.a) (N i.b)).1.2.stack.length<=_;rw [h1.stack];omega
   ·rw [h2.loops];show (bi (aw p c) x (N i.a) (N i.b)).1.2.loops.length<=_;rw [h1.loops];omega
   ·rw [h2.told];show ((bi (aw p c) x (N i.a) (N i.b)).1.2.told++_).length<=_;rw [h1.told];simp
   ·have a:=h2.bm;have b:=h1.bm;have e:(fY (bi (aw p c) x (N i.a) (N i.b)).1).2.bm=(bi (aw p c) x (N i.a) (N i.b)).1.2.bm:=rfl;rw [e] at a;omega
   ·rw [h2.key];exact h1.key
  ·exact fw.grow dee
 refine aG (fun _=>?_) (fun _=>?_)
 ·unfold nZ;dsimp only;split
  ·have h1:=fw (S:=aw p c) (x:=x) (q:=N i.a) (e:=N i.b);refine ⟨?_,?_,?_,?_,h1.key⟩
   ·show (bi (aw p c) x (N i.a) (N i.b)).1.2.stack.length<=_;rw [h1.stack];omega
   ·show (bi (aw p c) x (N i.a) (N i.b)).1.2.loops.length<=_;rw [h1.loops];omega
   ·show ((bi (aw p c) x (N i.a) (N i.b)).1.2.told++_).length<=_;rw [h1.told];simp
   ·show (bi (aw p c) x (N i.a) (N i.b)).1.2.bm.length<=_;have:=h1.bm;omega
  ·exact fw.grow dee
 ·unfold rz;dsimp only;split
  ·have h1:=fw (S:=aw p c) (x:=x) (q:=N i.a) (e:=N i.b);exact vw.grow (k:=1) ⟨h1.stack,h1.loops,h1.told,h1.bm,h1.key⟩ dee
  ·exact fw.grow dee
theorem vy {p:aO} {c:Cp} {x:SR} {n:Nat} (h:Small n x.2):Small (n+1) (dY p c x).2:=by
 have g:=yh p c (ai p x.2.at_) (x.1,bI x.2);have g1:=g.stack;have g2:=g.loops;have g3:=g.told;have g4:=g.bm;have k1:=h.stack;have k2:=h.loops;have k3:=h.told;have k4:=h.bm;refine ⟨afM g1 ?_,afM g2 ?_,afM g3 ?_,afM g4 ?_⟩
 ·show x.2.stack.length+1<=_;omega
 ·show x.2.loops.length+1<=_;omega
 ·show x.2.told.length+1<=_;omega
 ·show x.2.bm.length+2<=_;omega
variable {p:aO} {c:Cp} {T:Map} {s0 s:St} {r:Rn} {st:Std}
theorem BA (E:Env p c T) (C:ft p T r st):1<=left p r st:=by
 unfold left;split
 ·unfold ju;omega
 ·next pW=>
  have h1:=fun h=>vq C.iH h;have hj:=C.iH.jumps;rw [Bz C.lt (fun h=>by have:=h1 omm;omega) (fun h=>by
   unfold cC at hj;rw [abH omm,afE h] at hj;simp at hj;obtain ⟨st1,hr⟩:=E.FY.all _ hj.1;have:=x_ E hr hj.2;omega)]
  unfold gJ;dsimp only;split
  ·omega
  split
  ·omega
  split
  ·omega
  split<;>omega
theorem oU {y:SR} (h:¬jH y=true):y.2.br=0/\y.2.done=false:=by unfold jH at h;simp at h;exact ⟨h.2,by simpa using h.1⟩
theorem S2 (E:Env p c T):∀(f n:Nat) (s:St) (r:Rn) (st:Std),ft p T r st->eY (aw p c) p.vars.length s0 (s,r)->Small n r->left p r st<=f->
 let z:=iU p c f (s,r)
 eY (aw p c) p.vars.length s0 z.2/\jH z.2=true/\1<=z.1/\z.1<=f/\0<=z.2.2.br/\z.2.2.br<=3/\Small (n+z.1) z.2.2/\z.2.2.key=r.key:=by
 intro f
 induction f with
 |zero=>intro n s r st C H Q hf;have:=BA E C;omega
 |succ f ih=>
  intro n s r st C H Q hf;have hs:=zs E C H;have hq:=vy (p:=p) (c:=c) (x:=(s,r)) Q;have hk:(dY p c (s,r)).2.key=r.key:=(yh p c (ai p r.at_) (s,bI r)).key;unfold iU;by_cases h:jH (dY p c (s,r))=true
  ·rw [afE h];exact ⟨hs.hold,h,afF _,smm,hs.tr.1,hs.tr.2,hq,hk⟩
  ·rw [abH h];obtain ⟨h1,h2⟩:=oU h;obtain ⟨st',C'⟩:=hs.next h1 h2;have hl:=qH E C C';have hz:=ih (n+1) (dY p c (s,r)).1 (dY p c (s,r)).2 st' C' hs.hold hq (afM (by show left p (dY p c (s,r)).2 st'<=left p r st - 1;exact Nat.le_sub_of_add_le hl) omm);change eY _ _ _ (iU p c f (dY p c (s,r))).2/\jH (iU p c f (dY p c (s,r))).2=true/\1<=(iU p c f (dY p c (s,r))).1/\(iU p c f (dY p c (s,r))).1<=f/\0<=(iU p c f (dY p c (s,r))).2.2.br/\(iU p c f (dY p c (s,r))).2.2.br<=3/\Small (n+1+(iU p c f (dY p c (s,r))).1) (iU p c f (dY p c (s,r))).2.2/\(iU p c f (dY p c (s,r))).2.2.key=_ at hz;obtain ⟨z1,z2,z3,z4,z5,z6,z7,z8⟩:=hz;refine ⟨z1,z2,by dsimp only;omega,by dsimp only;omega,z5,z6,?_,z8.trans hk⟩;rw [show n+((iU p c f (dY p c (s,r))).1+1)=n+1+(iU p c f (dY p c (s,r))).1 by omega];exact z7
def KU (p:aO) (c:Cp) (s:St) (key:Nat):Int:=match s.f key with|none=>p.aJ|some n=>p.on.getD (NP (aw p c) s.a n) 0
def sH (p:aO) (c:Cp) (s:St) (key:Nat):Bool:=match s.f key with|none=>false|some n=> !(p.ap.getD (NP (aw p c) s.a n) false)
def eR (key a:Nat):Rn:=⟨key,a,[],[],none,[],0,[],false⟩
def gD:Nat:=20000
def lD (p:aO) (c:Cp) (s:St) (key:Nat):Nat×SR:=if KU p c s key < 0 then (0,(s,eR key 0)) else iU p c gD (s,eR key (KU p c s key).toNat)
def dE (p:aO) (c:Cp) (s:St) (key:Nat):Int:=(lD p c s key).2.2.br
def dF (p:aO) (c:Cp) (s:St) (key:Nat):St:=if dE p c s key=0 then (lD p c s key).2.1 else s
def gK (p:aO) (c:Cp) (s:St) (key:Nat):List Nat:=(lD p c s key).2.2.told
def mh (p:aO):Prop:=∀n,n∈p.on++[p.aJ]->bN p n<=gD
theorem pH (E:Env p c T) {a:Int} (ha:a∈p.on++[p.aJ]) (h0:0<=a) (key:Nat):ft p T (eR key a.toNat) ⟨[],[],0⟩:=by
 have hT:=E.FY.u_ a ha h0;obtain ⟨tb,-⟩:=cK E.check;have a8:a.toNat < p.code.length:=by
  rcases List.mem_append.1 ha with h|h
  ·have:=tb.Xb a h;omega
  ·simp at h;have:=tb.aJ;omega
 obtain ⟨st,hr⟩:=E.FY.all _ a8;have e:st=⟨[],[],0⟩:=by have:=hr.at_;rw [hT] at this;exact (af0 this).symm
 subst e;refine ⟨a8,hr,trivial,?_,fun n hn=>by simp [eR] at hn,⟨fun _=>rfl,fun _=>rfl⟩,rfl,rfl⟩;show 0=0+_;have pW:(ai p a.toNat).op≠25:=by
  intro pW;have hj:=hr.jumps;unfold cC at hj;split at hj
  ·simp at hj
  rw [abH omm] at hj;simp only [afW,afX,Bool.not_eq_true'] at hj;rw [Int.toNat_of_nonneg h0] at hj;rcases List.mem_append.1 ha with h|h
  ·have:p.on.contains a=true:=by simpa using h
   rw [this] at hj;simp at hj
  ·simp at h;exact hj.1.2 h.symm
 show 0=0+(if (ai p a.toNat).op=25 then 1 else 0);rw [abH pW]
theorem at_mem (E:Env p c T) (hI:Inv (aw p c) s) (key:Nat):KU p c s key∈p.on++[p.aJ]:=by
 unfold KU;cases hf:s.f key with
 |none=>simp
 |some n=>
  obtain ⟨q,hq,hn,-⟩:=(hI.idx key n).1 hf;dsimp only;rw [jq hI.wf hq hn];obtain ⟨tb,-⟩:=cK E.check;have Sh:q < p.on.length:=by rw [tb.on];exact hq
  rw [afS,afP Sh];simp [af6]
theorem nr {S:Sys} {nv:Nat} (hI:Inv S s) {key:Nat} (hk:key < 18446744073709551616) (a:Nat):eY S nv s (s,eR key a):=
 ⟨hI,rfl,fun x hx=>by simp [eR] at hx,hk,fun k hk=>by simp [eR] at hk⟩
theorem oV (E:Env p c T) (hS:mh p) {a:Int} (ha:a∈p.on++[p.aJ]) (h0:0<=a) (key:Nat):left p (eR key a.toNat) ⟨[],[],0⟩<=gD:=by
 have C:=pH E ha h0 key;have pW:(ai p a.toNat).op≠25:=by intro h;have:=C.loops;rw [show (eR key a.toNat).at_=a.toNat from rfl,afE h] at this;simp [eR] at this
 have hv:=hS a ha;unfold bN at hv;rw [abH omm,Hu] at hv;rw [eB (y:=eR key a.toNat) pW];show gS p a.toNat+0<=_;unfold gD MS at*;omega
theorem Gb (E:Env p c T) (hS:mh p) (hI:Inv (aw p c) s) {key:Nat} (hk:key < 18446744073709551616):
 let z:=lD p c s key
 eY (aw p c) p.vars.length s z.2/\z.1<=gD/\0<=z.2.2.br/\z.2.2.br<=3/\Small z.1 z.2.2/\z.2.2.key=key:=by
 unfold lD;have ha:=at_mem E hI key;by_cases h:KU p c s key < 0
 ·rw [afE h];exact ⟨nr hI hk 0,Nat.zero_le _,Int.le_refl 0,show (0:Int)<=3 by decide,⟨afF _,afF _,afF _,afF _⟩,rfl⟩
 ·rw [abH h];obtain ⟨z1,z2,z3,z4,z5,z6,z7,z8⟩:=S2 (s0:=s) E gD 0 s _ _ (pH E ha omm key) (nr hI hk _) ⟨afF _,afF _,afF _,afF _⟩ (oV E hS ha omm key);exact ⟨z1,z4,z5,z6,by simpa using z7,z8⟩
theorem oW (E:Env p c T) (hS:mh p) (hI:Inv (aw p c) s) {key:Nat} (hk:key < 18446744073709551616):Inv (aw p c) (dF p c s key):=by
 unfold dF;split
 ·exact (Gb E hS hI hk).1.inv
 ·exact hI
def gX (p:aO) (c:Cp) (s:St) (key:Nat):St:=match s.f key with|none=>s|some n=>fR (aw p c) s (NP (aw p c) s.a n) n
def gT (p:aO) (c:Cp) (s:St) (key:Nat):Int:=match s.f key with|none=>0|some n=>if p.ap.getD (NP (aw p c) s.a n) false then 2 else 1
theorem D2 {p:aO} {c:Cp} (hI:Inv (aw p c) s) (key:Nat):Inv (aw p c) (gX p c s key):=by
 unfold gX;cases hf:s.f key with
 |none=>exact hI
 |some n=>obtain ⟨q,hq,hn,-⟩:=(hI.idx key n).1 hf;dsimp only;rw [jq hI.wf hq hn];exact jM hI hq hn
end
end ak.Vm
