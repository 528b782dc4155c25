import Derived.Test.YtblkblclmbhjiaaGreatX7
import Derived.Maps.OwnSet
import Derived.Maps.OwnIn
import Derived.RangeFuncOwn
set_option linter.all false
set_option maxHeartbeats 40000000
set_option maxRecDepth 100000
open Go.Proofs.Tryz
open Option renaming some->H,none->K7
open Go renaming Value->UL,World->UK
open Go.Value renaming slice->to
open Go.Obj renaming cells->QP
open Go.Ending renaming returned->C8
open Go.World renaming cell?->UJ
namespace Go.Ma
open Go.RowKit aj.Vm
open aj hiding aR an ak
def at_told{w:UK}{p:aQ}{c:Cp}{x:MR}(h:x.at_ w p c){key:Nat}(hk:key<18446744073709551616):Calls prog 17 #[UI x.C.mb,.int .u64 key] w (λe w'=>∃tv C',e=C8 (.agg #[.bool (UM p c x.s key),tv,Y (jc p c x.s key)])/\bT w w' x.C C'/\
 (MR.mk C' x.R (nr p c x.s key) (if jc p c x.s key=0 then tX x.t (rG p c x.s key) (rR p c x.s key)else x.t) ((uz p c x.s key).1:Nat)).at_ w' p c/\yP w' tv (Tr p c x.s key)/\∀b,b∈vb tv->b∉C'.l/\b∉Ma.rest w x.C):=by
 obtain⟨K,T,h1,M,V,hS,hI⟩:=h;have IX:Calls prog 17 #[UI x.C.mb,.int .u64 key] w (je w x.C x.R K p c x.t x.s key):=by
  cases hf:x.s.f key with
  |none=>exact wm M V hS h1 hI hk hf
  |some n=>obtain⟨q,hq,hn,-⟩:=(hI.idx key n).1 hf;exact Bn M V hS h1 hI hk hf hq hn rfl
 refine IX.mono ?_;rintro e w' ⟨tv,C',rfl,k,m,ht,X⟩;exact⟨tv,C',rfl,k,⟨K,T,m,by rw[k.mb];exact M,V,hS,oW V hS hI hk⟩,ht,X⟩
def TX(w:UK)(lo:Nat)(p:aQ)(c:Cp)(n:Nat)(M:Nat->Nat)(a0b:Nat->St×dZ×Int)(Bx:List Nat):Prop:=∃F,(∀j,j<n->(F j).C.mb=M j/\(F j).z=a0b j)/\IQ w lo p c n F/\∀b,b∈Bx->b<w.heap.size/\∀j,j<n->b∉(F j).C.l
section
variable {w w':UK}{lo n i:Nat}{p:aQ}{c:Cp}{M M':Nat->Nat}{a0b Z':Nat->St×dZ×Int}{Bx:List Nat}
def TG.tx(h:TG w lo p c n M a0b):TX w lo p c n M a0b []:=by obtain⟨F,h1,h2⟩:=h;exact⟨F,h1,h2,λb X=>by cases X⟩
def TX.tg(h:TX w lo p c n M a0b Bx):TG w lo p c n M a0b:=by obtain⟨F,h1,h2,-⟩:=h;exact⟨F,h1,h2⟩
def TX.later(h:TX w lo p c n M a0b Bx)(b:Below w.heap.size w w'):TX w' lo p c n M a0b Bx:=by obtain⟨F,h1,h2,h3⟩:=h;exact⟨F,h1,h2.later b,λx hx=>⟨eJ (h3 x hx).1 b.size,(h3 x hx).2⟩⟩
def TX.box(h:TX w lo p c n M a0b Bx)(o:Obj):TX (w.alloc o) lo p c n M a0b (w.heap.size::Bx):=by
 obtain⟨F,h1,h2,h3⟩:=h;have X:Below w.heap.size w (w.alloc o):=(aB _ w).alloc (aL _) o;refine⟨F,h1,h2.later X,λx hx=>?_⟩;rcases List.mem_cons.1 hx with rfl|hx
 ·exact⟨ay,λj hj hc=>absurd ((h2.m j hj).lt (b:=w.heap.size) (by simp[hc])) (Nat.lt_irrefl _)⟩
 ·exact⟨eJ (h3 x hx).1 X.size,(h3 x hx).2⟩
def TG.off{S:List Nat}(h:TG w lo p c n M a0b)(f:aA S w w')(hs:∀b,b∈S->b<lo):TG w' lo p c n M a0b:=by obtain⟨F,h1,h2⟩:=h;refine⟨F,h1,⟨λj hj=>?_,h2.ap,h2.low,cU h2.sz f.size⟩⟩;obtain⟨K,T,k1,k2⟩:=h2.m j hj;exact⟨K,T,k1.aG f (λb X hc=>by have:=h2.low j hj b (by simp[X]);have:=hs b hc;omega) (λb X hc=>by have:=h2.low j hj b (by simp[X]);have:=hs b hc;omega),k2⟩
def TX.acc(h:TX w lo p c n M a0b Bx)(hi:i<n){key:Nat}(hk:key<18446744073709551616):Calls prog 17 #[UI (M i),.int .u64 key] w
 (λe w'=>∃tv,e=C8 (.agg #[.bool (UM p c (a0b i).1 key),tv,Y (jc p c (a0b i).1 key)])/\Below lo w w'/\TX w' lo p c n M (wo a0b i (DF p c 0 key (a0b i))) (vb tv++Bx)/\TK w' tv (Tr p c (a0b i).1 key).length (λj=>(Tr p c (a0b i).1 key).getD j 0)/\∀b,b∈Bx->w'.heap[b]? =w.heap[b]?):=by
 obtain⟨F,h1,h2,h3⟩:=h;rw[<-(h1 i hi).1,<-(h1 i hi).2];refine(at_told (h2.m i hi) hk).mono ?_;rintro e w' ⟨tv,C',rfl,k,m,ht,X⟩;obtain⟨g1,g2⟩:=h2.ou hi k m;refine⟨tv,rfl,g2,⟨_,λj hj=>?_,g1,λb jV=>?_⟩,TK.of ht,λb jV=>k.f.block b (h3 b jV).1 ((h3 b jV).2 i hi)⟩
 ·unfold vq wo;split
  ·next e=>subst e;exact⟨k.mb.trans (h1 j hj).1,rfl⟩
  ·exact h1 j hj
 rcases List.mem_append.1 jV with jV|jV
 ·obtain⟨q1,q2⟩:=X b jV;refine⟨?_,λj hj=>?_⟩
  ·rcases ht with⟨h,-⟩|⟨b',cs,h,hblk,-⟩
   ·rw[h]at jV;simp[vb,Value.ownBlock]at jV
   ·rw[h]at jV;simp[vb,Value.ownBlock]at jV;subst jV;exact hblk.lt
  ·unfold vq;split
   ·exact q1
   ·next ne=>
    intro hc;by_cases hm:b∈(F i).C.l
    ·exact h2.ap i j hi hj (λe=>ne e.symm) b hm (by simp[hc])
    ·exact q2 (oZ.2 ⟨(h2.m j hj).lt (by simp[hc]),hm⟩)
 ·refine⟨eJ (h3 b jV).1 k.f.size,λj hj=>?_⟩;unfold vq;split
  ·intro hc;rcases k.c b hc with h5|h5
   ·exact(h3 b jV).2 i hi h5
   ·have:=(h3 b jV).1;omega
  ·exact(h3 b jV).2 j hj
def WZ{α:Type}(a b:α):Nat->α
 |0=>a
 |_=>b
def TG.two{w w':UK}{lo:Nat}{p:aQ}{c:Cp}{CA CB:Co}{s s':St}{t t':dZ}{u u':Int}(hA:iI w CA lo p c s t u)(hl:lo<=w.heap.size)(b:Below w.heap.size w w')(hB:iI w' CB w.heap.size p c s' t' u'):TG w' lo p c 2 (WZ CA.mb CB.mb) (WZ (s,t,u) (s',t',u')):=by
 obtain⟨RA,KA,abf,a1,a2,a3,a4,a5,a6⟩:=hA;obtain⟨RB,KB,TB,b1,b2,b3,b4,b5,b6⟩:=hB;have be:∀x,x∈CA.l++RA->x<w.heap.size:=λx hx=>by
  rcases List.mem_append.1 hx with hx|hx
  ·exact a1.sep.lt x hx
  ·exact a1.sep.dO x hx
 refine⟨WZ ⟨CA,RA,s,t,u⟩ ⟨CB,RB,s',t',u'⟩,λj hj=>?_,⟨λj hj=>?_,λi j hi hj bm x hx=>?_,λj hj x hx=>?_,cU hl b.size⟩⟩
 ·rcases(by omega:j=0\/j=1)with rfl|rfl<;>exact⟨rfl,rfl⟩
 ·rcases(by omega:j=0\/j=1)with rfl|rfl
  ·exact⟨KA,abf,a1.later b,a2,a3,a4,a5⟩
  ·exact⟨KB,TB,b1,b2,b3,b4,b5⟩
 ·rcases(by omega:i=0/\j=1\/i=1/\j=0)with⟨rfl,rfl⟩|⟨rfl,rfl⟩
  ·intro hc;have h1:=be x (List.mem_append.2 (.inl hx));have h2:=b6 x hc;omega
  ·intro hc;have h1:=be x hc;have h2:=b6 x (List.mem_append.2 (.inl hx));omega
 ·rcases(by omega:j=0\/j=1)with rfl|rfl
  ·exact a6 x hx
  ·exact cU hl (b6 x hx)
end
end Go.Ma
section
def qX7{p:Prop}(h:p:=by
 rcases h with h|⟨b,cap,cs,rfl,h1,h2,h3,h4⟩
 ·exact .inl h
 ·by_cases e:b=xb
  ·subst e;exact .inr ⟨b,cap,_,rfl,h1,h2,h3.set o x,by simpa using h4⟩
  ·exact .inr ⟨b,cap,cs,rfl,h1,h2,h3.other e o x,h4⟩):p:=h
namespace Go.Ma
open Go.RowKit aj.Vm Go.Shelf
open aj hiding aR an ak
def Fx(lo hi:Nat):List Nat:=(List.range hi).filter λb=>decide (lo<=b)
def ed{lo hi b:Nat}:b∈Fx lo hi↔lo<=b/\b<hi:=by simp[Fx];omega
def Fp{l u b:Nat}{v:UL}(h:vu l u v)(X:b<l\/u<=b):v.ownBlock≠H b:=λe=>by have:=h b e;omega
def Us(i:Nat)(h:i<9223372036854775807):IntKind.i64.wrap ((i:Int)+1)=((i+1:Nat):Int):=by rw[bJ _ lI];omega
def I6(f:Nat->Int)(i:Nat):UL:=Y (f i)
def U6(f:Nat->Nat)(i:Nat):UL:= .int .u64 (f i:Nat)
structure mD(w:UK)(lo h1 h2 hi:Nat)(a b c d:UL)(n nf nk nn:Nat)(ln:Nat->Nat)(a0d:Nat->Nat->Int)(fF:Nat->Int)(kF:Nat->Nat)(nF:Nat->Int)(lv:Nat->UL):Prop where
 row:Row w 24 1 a n lv
 UC:vu lo h1 a
 q:∀q,q<n->Row w 3 1 (lv q) (ln q) (I6 (a0d q))
 i_:∀q,q<n->vu lo h1 (lv q)
 sep:∀q q',q<n->q'<n->q≠q'->(lv q).ownBlock=K7\/(lv q).ownBlock≠(lv q').ownBlock
 fr:Row w 3 1 b nf (I6 fF)
 fi:vu h1 h2 b
 ks:Row w 46 1 c nk (U6 kF)
 ki:vu h2 hi c
 ns:Row w 3 1 d nn (I6 nF)
 ni:vu h2 hi d
 le:lo<=h1/\h1<=h2/\h2<=hi
def mj.toF{w:UK}{lo h1 h2 hi:Nat}{a b c d:UL}{L:PL}{lv:Nat->UL}(h:mj w lo h1 h2 hi a b c d L lv):
 mD w lo h1 h2 hi a b c d L.lists.length L.free.length L.keys.length L.nodes.length (λq=>(L.lists.getD q []).length) (λq i=>(iH (L.lists.getD q [])).getD i 0) (λi=>(iH L.free).getD i 0) (λi=>L.keys.getD i 0) (λi=>L.nodes.getD i 0) lv:=by
 refine⟨h.ls.row,h.ls.i_,λq hq=>?_,λq hq=>(h.ls.q q hq).i_,h.ls.sep,?_,h.fr.i_,h.ks.row,h.ks.i_,h.ns.row,h.ns.i_,h.le⟩
 ·have:=(h.ls.q q hq).row;rw[fV]at this;exact this
 ·have:=h.fr.row;rw[fV]at this;exact this
section
variable {w w':UK}{lo h1 h2 hi n nf nk nn:Nat}{a b c d:UL}{ln:Nat->Nat}{a0d G':Nat->Nat->Int}{fF fF':Nat->Int}{kF kF':Nat->Nat}{nF nF':Nat->Int}{lv:Nat->UL}
def mD.aG{S:List Nat}(h:mD w lo h1 h2 hi a b c d n nf nk nn ln a0d fF kF nF lv)(f:aA S w w')(k:∀b,b∈S->b<lo\/hi<=b):mD w' lo h1 h2 hi a b c d n nf nk nn ln a0d fF kF nF lv:=by
 obtain⟨e1,e2,e3⟩:=h.le;have key:∀{l u:Nat} {v:UL},vu l u v->lo<=l->u<=hi->∀b,v.ownBlock=H b->b∉S:=λhi' k1 k2 b X hm=>by have:=hi' b X;have:=k b hm;omega
 exact⟨h.row.aG f (key h.UC O O),h.UC,λq hq=>(h.q q hq).aG f (key (h.i_ q hq) O O),h.i_,h.sep,h.fr.aG f (key h.fi O O),h.fi,h.ks.aG f (key h.ki O O),h.ki,h.ns.aG f (key h.ni O O),h.ni,h.le⟩
def mD.later(h:mD w lo h1 h2 hi a b c d n nf nk nn ln a0d fF kF nF lv)(b':Below w.heap.size w w'):mD w' lo h1 h2 hi a b c d n nf nk nn ln a0d fF kF nF lv:=h.aG (aA.af (S:=[]) b') ay
def mD.congr(h:mD w lo h1 h2 hi a b c d n nf nk nn ln a0d fF kF nF lv)(e1:∀q,q<n->∀i,i<ln q->a0d q i=G' q i)(e2:∀i,i<nf->fF i=fF' i)(e3:∀i,i<nk->kF i=kF' i)(e4:∀i,i<nn->nF i=nF' i):mD w lo h1 h2 hi a b c d n nf nk nn ln G' fF' kF' nF' lv:=
 ⟨h.row,h.UC,λq hq=>(h.q q hq).congr λo ho=>by unfold I6;rw[e1 q hq o O],h.i_,h.sep,h.fr.congr λo ho=>by unfold I6;rw[e2 o O],h.fi,h.ks.congr λo ho=>by unfold U6;rw[e3 o O],h.ki,h.ns.congr λo ho=>by unfold I6;rw[e4 o O],h.ni,h.le⟩
def Im{p:Prop}(h:p:=by
 rcases h.sep q' q Q_ hq e with h1|h1
 ·rw[h1];simp
 ·rw[hv]at h1;simpa[Value.ownBlock]using h1):p:=h
def mD.agO(h:mD w lo h1 h2 hi a b c d n nf nk nn ln a0d fF kF nF lv){q i xb cap:Nat}(hq:q<n)(hi':i<ln q)(hv:lv q=to (H (G xb 0)) (ln q) cap)(x:Int):
 mD (w.setCell (G xb i) (Y x)) lo h1 h2 hi a b c d n nf nk nn ln (λq' i'=>if q'=q/\i'=i then x else a0d q' i') fF kF nF lv:=by
 obtain⟨e1,e2,e3⟩:=h.le;have he:=h.q q hq;have hx:lo<=xb/\xb<h1:=h.i_ q hq xb (by rw[hv];rfl);rw[hv]at he;obtain⟨cs,X⟩:=he.dS;refine⟨h.row.other (h.row.eZ X bd) _ _,h.UC,λq' Q_=>?_,h.i_,h.sep,h.fr.other (Fp h.fi O) _ _,h.fi,h.ks.other (Fp h.ki O) _ _,h.ki,h.ns.other (Fp h.ni O) _ _,h.ni,h.le⟩;by_cases e:q'=q
 ·subst e;have r:=he.set (o:=i) O (Y x);rw[hv];refine r.congr λo ho=>?_;unfold I6
  (try dsimp only)
  by_cases e1:o=i
  ·rw[bk e1,bk ⟨rfl,e1⟩]
  ·rw[aw e1,aw (λh=>e1 h.2)]
 ·have hs:(lv q').ownBlock≠H xb:=by exact Im
  refine((h.q q' Q_).other hs _ _).congr λo ho=>?_;unfold I6;dsimp only;rw[aw (λh=>e h.1)]
def mD.agP{fb m cap:Nat}(h:mD w lo h1 h2 hi a (to (H (G fb 0)) m cap) c d n nf nk nn ln a0d fF kF nF lv){i:Nat}(hi':i<nf)(x:Int):
 mD (w.setCell (G fb i) (Y x)) lo h1 h2 hi a (to (H (G fb 0)) m cap) c d n nf nk nn ln a0d (λi'=>if i'=i then x else fF i') kF nF lv:=by
 obtain⟨e1,e2,e3⟩:=h.le;have hx:h1<=fb/\fb<h2:=h.fi fb rfl;refine⟨h.row.other (Fp h.UC O) _ _,h.UC,λq hq=>(h.q q hq).other (Fp (h.i_ q hq) O) _ _,h.i_,h.sep,(h.fr.set (o:=i) O _).congr λo ho=>?_,h.fi,h.ks.other (Fp h.ki O) _ _,h.ki,h.ns.other (Fp h.ni O) _ _,h.ni,h.le⟩;unfold I6;dsimp only;split<;>rfl
def mD.QR{kb m cap:Nat}(h:mD w lo h1 h2 hi a b (to (H (G kb 0)) m cap) d n nf nk nn ln a0d fF kF nF lv){i:Nat}(hi':i<nk)(x:Nat):
 mD (w.setCell (G kb i) (.int .u64 (x:Nat))) lo h1 h2 hi a b (to (H (G kb 0)) m cap) d n nf nk nn ln a0d fF (λi'=>if i'=i then x else kF i') nF lv:=by
 obtain⟨e1,e2,e3⟩:=h.le;have hx:h2<=kb/\kb<hi:=h.ki kb rfl;obtain⟨cs,X⟩:=h.ks.dS;refine⟨h.row.other (Fp h.UC O) _ _,h.UC,λq hq=>(h.q q hq).other (Fp (h.i_ q hq) O) _ _,h.i_,h.sep,h.fr.other (Fp h.fi O) _ _,h.fi,(h.ks.set (o:=i) O _).congr λo ho=>?_,h.ki,h.ns.other (h.ns.eZ X bd) _ _,h.ni,h.le⟩;unfold U6;dsimp only;split<;>rfl
def mD.agQ{xb m cap:Nat}(h:mD w lo h1 h2 hi a b c (to (H (G xb 0)) m cap) n nf nk nn ln a0d fF kF nF lv){i:Nat}(hi':i<nn)(x:Int):
 mD (w.setCell (G xb i) (Y x)) lo h1 h2 hi a b c (to (H (G xb 0)) m cap) n nf nk nn ln a0d fF kF (λi'=>if i'=i then x else nF i') lv:=by
 obtain⟨e1,e2,e3⟩:=h.le;have hx:h2<=xb/\xb<hi:=h.ni xb rfl;obtain⟨cs,X⟩:=h.ns.dS;refine⟨h.row.other (Fp h.UC O) _ _,h.UC,λq hq=>(h.q q hq).other (Fp (h.i_ q hq) O) _ _,h.i_,h.sep,h.fr.other (Fp h.fi O) _ _,h.fi,h.ks.other (h.ks.eZ X bd) _ _,h.ki,(h.ns.set (o:=i) O _).congr λo ho=>?_,h.ni,h.le⟩;unfold I6;dsimp only;split<;>rfl
end
def QH(w:UK)(v:UL)(n:Nat):Prop:=(v=Pl/\n=0)\/∃b cap cs,v=to (H (G b 0)) n cap/\n<=cap/\cap<=maxLen/\aF w b 3 cs/\n<=cs.size
def QH.of{w:UK}{v:UL}{n:Nat}{g:Nat->UL}(h:Row w 3 1 v n g):QH w v n:=by
 rcases h.val with⟨h1,h2⟩|⟨b,cap,rfl,h1,h2,h3⟩
 ·exact .inl ⟨h1,h2⟩
 ·obtain⟨cs,X⟩:=h.dS;refine .inr ⟨b,cap,cs,rfl,h1,h2,X,?_⟩;by_cases hn:n=0
  ·omega
  ·have:=h.cell (o:=n-1) O;rw[X.cell]at this;have:=(Array.getElem?_eq_some_iff.1 this).1;omega
def QH.set{w:UK}{v:UL}{n:Nat}(h:QH w v n)(xb o:Nat)(x:UL):QH (w.setCell (G xb o) x) v n:=by exact qX7
structure wK(w:UK)(lo hi:Nat)(qv vv:UL)(n nv:Nat)(ln:Nat->Nat)(tn:Nat->Nat->Nat)(lv:Nat->UL)(tv:Nat->Nat->UL):Prop where
 row:Row w 60 1 qv n lv
 i_:vu lo hi qv
 Vg:∀q,q<n->∃κ,Row w 62 2 (lv q) (ln q) (peK κ (tv q))
 QQ:∀q,q<n->vu lo hi (lv q)
 aS:∀q,q<n->∀i,i<ln q->QH w (tv q i) (tn q i)/\vu lo hi (tv q i)
 sep:∀q q',q<n->q'<n->q≠q'->(lv q).ownBlock=K7\/(lv q).ownBlock≠(lv q').ownBlock
 vs:QH w vv nv
 vi:vu lo hi vv
def jM.toZ{w:UK}{lo hi:Nat}{qv vv:UL}{S:PS}{lv:Nat->UL}{tv:Nat->Nat->UL}(h:jM w lo hi qv vv S lv tv):
 wK w lo hi qv vv S.aK.length S.vars.length (λq=>(S.aK.getD q []).length) (λq i=>((S.aK.getD q []).getD i ⟨0,[]⟩).aS.length) lv tv:=
 ⟨h.qs.row,h.qs.i_,λq hq=>⟨λi=>((S.aK.getD q []).getD i ⟨0,[]⟩).key,(h.qs.q q hq).row⟩,λq hq=>(h.qs.q q hq).i_,λq hq i hi=>⟨.of ((h.qs.q q hq).aS i hi).row,((h.qs.q q hq).aS i hi).i_⟩,h.qs.sep,.of h.vs.row,h.vs.i_⟩
section
variable {w w':UK}{lo hi n nv:Nat}{qv vv:UL}{ln:Nat->Nat}{tn:Nat->Nat->Nat}{lv:Nat->UL}{tv:Nat->Nat->UL}
def wK.agR(h:wK w lo hi qv vv n nv ln tn lv tv){xb o:Nat}{cs:Array UL}(X:aF w xb 3 cs)(x:UL):wK (w.setCell (G xb o) x) lo hi qv vv n nv ln tn lv tv:=by refine⟨h.row.other (h.row.eZ X bd) _ _,h.i_,λq hq=>?_,h.QQ,λq hq i hi=>⟨(h.aS q hq i hi).1.set _ _ _,(h.aS q hq i hi).2⟩,h.sep,h.vs.set _ _ _,h.vi⟩;obtain⟨κ,r⟩:=h.Vg q hq;exact⟨κ,r.other (r.eZ X bd) _ _⟩
def wK.QR(h:wK w lo hi qv vv n nv ln tn lv tv){q i b cap:Nat}(hq:q<n)(hi':i<ln q)(hv:lv q=to (H (G b 0)) (ln q) cap)(x:Nat):
 wK (w.setCell (G b (i*2)) (.int .u64 x)) lo hi qv vv n nv ln tn lv tv:=by
 obtain⟨κ,he⟩:=h.Vg q hq;rw[hv]at he;obtain⟨cs,X⟩:=he.dS;refine⟨h.row.other (h.row.eZ X bd) _ _,h.i_,λq' Q_=>?_,h.QQ,λq' Q_ i' YV=>⟨(h.aS q' Q_ i' YV).1.set _ _ _,(h.aS q' Q_ i' YV).2⟩,h.sep,h.vs.set _ _ _,h.vi⟩;by_cases e:q'=q
 ·subst e;refine⟨λj=>if j=i then x else κ j,?_⟩;have r:=he.set (o:=i*2) O (.int .u64 x);rw[hv];refine r.congr λo ho=>?_;unfold peK;dsimp only;by_cases e1:o % 2=0
  ·rw[bk e1,bk e1];by_cases e2:o / 2=i
   ·rw[bk O,bk e2]
   ·rw[aw O,aw e2]
  ·rw[aw e1,aw e1,aw O]
 ·obtain⟨Pw,r⟩:=h.Vg q' Q_;have hs:(lv q').ownBlock≠H b:=by exact Im
  exact⟨Pw,r.other hs _ _⟩
end
end Go.Ma
end
namespace Go.Ma
open Go.RowKit aj.Vm
open aj hiding aR an ak
def IR(J:Nat->UL):Act:={tmps:=#[J 0,J 1,J 2,J 3,J 4,J 5,J 6,J 7,J 8,J 9,J 10,J 11,J 12,J 13,J 14,J 15,J 16,J 17,J 18,J 19,J 20,J 21,J 22,J 23,J 24,J 25,J 26,J 27,J 28,J 29,J 30,J 31,J 32,J 33,J 34,J 35,J 36,J 37,J 38,J 39,J 40,J 41,J 42,J 43,J 44,J 45,J 46,J 47,J 48,J 49,J 50,J 51,J 52,J 53,J 54,J 55,J 56,J 57,J 58,J 59,J 60,J 61,J 62,J 63,J 64,J 65,J 66,J 67,J 68,J 69,J 70,J 71,J 72,J 73,J 74,J 75,J 76,J 77,J 78,J 79],defers:=[]}
def IR.of(A:Array UL)(h:A=(IR λk=>A.getD k undef).tmps):({tmps:=A,defers:=[]}:Act)=IR λk=>A.getD k undef:=by rw[h];rfl
noncomputable def wrO:Code:=Mk.iS Proofs.Tryz.f21.body 0
noncomputable def wrI:Code:=Mk.iS (H wrO) 0
noncomputable def wr1:Code:=Mk.iS Proofs.Tryz.f21.body 1
noncomputable def wr2:Code:=Mk.iS Proofs.Tryz.f21.body 2
noncomputable def wr3:Code:=Mk.iS Proofs.Tryz.f21.body 3
def WR(mk:Nat)(bb:Nat)(more:(Nat->UL)->Prop)(ix n m:Nat)(R:Nat->UK->Prop)(a:Act)(W:UK):Prop:=∃(J:Nat->UL) (i:Nat),a=IR J/\J 1=Y mk/\J 2=UI bb/\more J/\J ix=Y i/\i<=n/\m+i=n+1/\Hid (R i W)
section
variable {Q:Exit->Act->UK->Prop}{W0:UK}{mk bb lo h1 h2 hi n nf nk nn:Nat}{a b c d:UL}{ln:Nat->Nat}{a0d:Nat->Nat->Int}{fF:Nat->Int}{kF:Nat->Nat}{nF:Nat->Int}{lv:Nat->UL}
def UW{p:Prop}(h:p:=by
 rintro a' W ⟨J,i,-,-,-,-,-,h1,h2,-⟩;omega):p:=h
def TE{p:Prop}(h:p:=by
 rw[aw e1];by_cases e2:j<i
 ·rw[bk e2,bk O]
 ·rw[aw e2,aw O]):p:=h
def agS(HK:Hid (aF W0 bb 52 #[a,b,c,d]/\hi<=bb))(Zx:mk<=9)(hn:nf<=maxLen)
 (d_:∀(J:Nat->UL) W,J 1=Y mk->J 2=UI bb->aA (Fx lo hi) W0 W->mD W lo h1 h2 hi a b c d n nf nk nn ln (λq i=>1000*mk+100*q+i) (λ_=> -mk) (kF) (nF) lv->Q (.exit 4) (IR J) W)
 {a0:Act} {W1:UK} (h:WR mk bb (λ_=>True) 6 nf (nf+1) (λi W=>aA (Fx lo hi) W0 W/\mD W lo h1 h2 hi a b c d n nf nk nn ln (λq i=>1000*mk+100*q+i) (λj=>if j<i then(-mk:Int)else fF j) (kF) (nF) lv) a0 W1):(Code.loop wr1).wp prog Q a0 W1:=by
 refine Mk.aN (λm a' W=>WR mk bb (λ_=>True) 6 nf m (λi W=>aA (Fx lo hi) W0 W/\mD W lo h1 h2 hi a b c d n nf nk nn ln (λq i=>1000*mk+100*q+i) (λj=>if j<i then(-mk:Int)else fF j) (kF) (nF) lv) a' W) (nf+1) h ?_ ?_
 ·exact UW
 rintro m a0 W ⟨J,i,rfl,j1,j2,-,j3,hi',hm,HW⟩;unfold IR
 conv=>arg 2;whnf
 rw[j1,j2,j3];clear j1 j2 j3;have gu:=HK.o.1.aG HW.o.1 (λhc=>by have:=ed.1 hc;have:=HK.o.2;omega);have q0:UJ W (G bb 1)=H b:=gu.cell 1;by_cases be:i<nf
 ·obtain⟨xb,xc,e,x1,x2,lx⟩:=HW.o.2.fr.some O;subst e;obtain⟨cs,M_⟩:=HW.o.2.fr.dS;have c0:UJ W (G xb i)=H _:=HW.o.2.fr.cell (o:=i) O;have fz:=HW.o.2.fr.frozen i;have HX:=Z (show xb∈Fx lo hi from ed.2 (by have:=HW.o.2.fi xb rfl;have:=HW.o.2.le;omega));have w2:=UU i (by unfold maxLen at hn;omega);have dE:=Z be;have HM:=Z hm;clear M_ hm gu;go_wp2;refine⟨_,i+1,IR.of _ rfl,rfl,rfl,trivial,?_,dE.o,by have:=HM.o;omega,Z ⟨HW.o.1.setCell (p:=(G xb i)) HX.o _,?_⟩⟩
  ·exact QC
  ·refine(HW.o.2.agP dE.o (-mk:Int)).congr (λ_ _ _ _=>rfl) (λj hj=>?_) (λ_ _=>rfl) (λ_ _=>rfl)
   (try dsimp only)
   by_cases e1:j=i
   ·subst e1;rw[bk rfl,bk (Nat.lt_succ_self _)]
   ·exact TE
 ·have e0:i=nf:=O;subst i;have HH:=Z (show mD W lo h1 h2 hi a b c d n nf nk nn ln (λq i=>1000*mk+100*q+i) (λ_=> -mk) (kF) (nF) lv from HW.o.2.congr (λ_ _ _ _=>rfl) (λj hj=>bk hj) (λ_ _=>rfl) (λ_ _=>rfl));obtain⟨xa,xc,e⟩:∃xa xc,b=to xa nf xc:=by
   rcases HW.o.2.fr.val with⟨e,e0⟩|⟨xb,cap,e,-⟩
   ·exact⟨K7,0,by rw[e,e0]⟩
   ·exact⟨_,_,e⟩
  rw[e]at q0;have HF:=Z HW.o.1;clear gu be HW;have lb:=aH q0;go_wp2;exact Eq.mpr (bu (λa=>Q (.exit 4) a W) (IR.of _ rfl)) (d_ _ W rfl rfl HF.o HH.o)
def agT(HK:Hid (aF W0 bb 52 #[a,b,c,d]/\hi<=bb))(Zx:mk<=9)(hn:nk<=maxLen)
 (d_:∀(J:Nat->UL) W,J 1=Y mk->J 2=UI bb->aA (Fx lo hi) W0 W->mD W lo h1 h2 hi a b c d n nf nk nn ln (λq i=>1000*mk+100*q+i) (λ_=> -mk) (λ_=>mk) (nF) lv->Q (.exit 6) (IR J) W)
 {a0:Act} {W1:UK} (h:WR mk bb (λ_=>True) 7 nk (nk+1) (λi W=>aA (Fx lo hi) W0 W/\mD W lo h1 h2 hi a b c d n nf nk nn ln (λq i=>1000*mk+100*q+i) (λ_=> -mk) (λj=>if j<i then mk else kF j) (nF) lv) a0 W1):(Code.loop wr2).wp prog Q a0 W1:=by
 refine Mk.aN (λm a' W=>WR mk bb (λ_=>True) 7 nk m (λi W=>aA (Fx lo hi) W0 W/\mD W lo h1 h2 hi a b c d n nf nk nn ln (λq i=>1000*mk+100*q+i) (λ_=> -mk) (λj=>if j<i then mk else kF j) (nF) lv) a' W) (nk+1) h ?_ ?_
 ·exact UW
 rintro m a0 W ⟨J,i,rfl,j1,j2,-,j3,hi',hm,HW⟩;unfold IR
 conv=>arg 2;whnf
 rw[j1,j2,j3];clear j1 j2 j3;have gu:=HK.o.1.aG HW.o.1 (λhc=>by have:=ed.1 hc;have:=HK.o.2;omega);have q0:UJ W (G bb 2)=H c:=gu.cell 2;by_cases be:i<nk
 ·obtain⟨xb,xc,e,x1,x2,lx⟩:=HW.o.2.ks.some O;subst e;obtain⟨cs,M_⟩:=HW.o.2.ks.dS;have c0:UJ W (G xb i)=H _:=HW.o.2.ks.cell (o:=i) O;have fz:=HW.o.2.ks.frozen i;have HX:=Z (show xb∈Fx lo hi from ed.2 (by have:=HW.o.2.ki xb rfl;have:=HW.o.2.le;omega));have w2:=UU i (by unfold maxLen at hn;omega);have dE:=Z be;have HM:=Z hm;clear M_ hm gu;go_wp2;refine⟨_,i+1,IR.of _ rfl,rfl,rfl,trivial,?_,dE.o,by have:=HM.o;omega,Z ⟨HW.o.1.setCell (p:=(G xb i)) HX.o _,?_⟩⟩
  ·exact QC
  ·refine(HW.o.2.QR dE.o mk).congr (λ_ _ _ _=>rfl) (λ_ _=>rfl) (λj hj=>?_) (λ_ _=>rfl)
   (try dsimp only)
   by_cases e1:j=i
   ·subst e1;rw[bk rfl,bk (Nat.lt_succ_self _)]
   ·exact TE
 ·have e0:i=nk:=O;subst i;have HH:=Z (show mD W lo h1 h2 hi a b c d n nf nk nn ln (λq i=>1000*mk+100*q+i) (λ_=> -mk) (λ_=>mk) (nF) lv from HW.o.2.congr (λ_ _ _ _=>rfl) (λ_ _=>rfl) (λj hj=>bk hj) (λ_ _=>rfl));obtain⟨xa,xc,e⟩:∃xa xc,c=to xa nk xc:=by
   rcases HW.o.2.ks.val with⟨e,e0⟩|⟨xb,cap,e,-⟩
   ·exact⟨K7,0,by rw[e,e0]⟩
   ·exact⟨_,_,e⟩
  rw[e]at q0;have HF:=Z HW.o.1;clear gu be HW;have lb:=aH q0;go_wp2;exact Eq.mpr (bu (λa=>Q (.exit 6) a W) (IR.of _ rfl)) (d_ _ W rfl rfl HF.o HH.o)
def agU(HK:Hid (aF W0 bb 52 #[a,b,c,d]/\hi<=bb))(Zx:mk<=9)(hn:nn<=maxLen)
 (d_:∀(J:Nat->UL) W,J 1=Y mk->J 2=UI bb->aA (Fx lo hi) W0 W->mD W lo h1 h2 hi a b c d n nf nk nn ln (λq i=>1000*mk+100*q+i) (λ_=> -mk) (λ_=>mk) (λ_=> -(10*mk)) lv->Q (.exit 8) (IR J) W)
 {a0:Act} {W1:UK} (h:WR mk bb (λ_=>True) 8 nn (nn+1) (λi W=>aA (Fx lo hi) W0 W/\mD W lo h1 h2 hi a b c d n nf nk nn ln (λq i=>1000*mk+100*q+i) (λ_=> -mk) (λ_=>mk) (λj=>if j<i then(-(10*mk):Int)else nF j) lv) a0 W1):(Code.loop wr3).wp prog Q a0 W1:=by
 refine Mk.aN (λm a' W=>WR mk bb (λ_=>True) 8 nn m (λi W=>aA (Fx lo hi) W0 W/\mD W lo h1 h2 hi a b c d n nf nk nn ln (λq i=>1000*mk+100*q+i) (λ_=> -mk) (λ_=>mk) (λj=>if j<i then(-(10*mk):Int)else nF j) lv) a' W) (nn+1) h ?_ ?_
 ·exact UW
 rintro m a0 W ⟨J,i,rfl,j1,j2,-,j3,hi',hm,HW⟩;unfold IR
 conv=>arg 2;whnf
 rw[j1,j2,j3];clear j1 j2 j3;have gu:=HK.o.1.aG HW.o.1 (λhc=>by have:=ed.1 hc;have:=HK.o.2;omega);have q0:UJ W (G bb 3)=H d:=gu.cell 3;by_cases be:i<nn
 ·obtain⟨xb,xc,e,x1,x2,lx⟩:=HW.o.2.ns.some O;subst e;obtain⟨cs,M_⟩:=HW.o.2.ns.dS;have c0:UJ W (G xb i)=H _:=HW.o.2.ns.cell (o:=i) O;have fz:=HW.o.2.ns.frozen i;have HX:=Z (show xb∈Fx lo hi from ed.2 (by have:=HW.o.2.ni xb rfl;have:=HW.o.2.le;omega));have w2:=UU i (by unfold maxLen at hn;omega);have dE:=Z be;have HM:=Z hm;clear M_ hm gu;go_wp2;refine⟨_,i+1,IR.of _ rfl,rfl,rfl,trivial,?_,dE.o,by have:=HM.o;omega,Z ⟨HW.o.1.setCell (p:=(G xb i)) HX.o _,?_⟩⟩
  ·exact QC
  ·refine(HW.o.2.agQ dE.o (-(10*mk):Int)).congr (λ_ _ _ _=>rfl) (λ_ _=>rfl) (λ_ _=>rfl) (λj hj=>?_)
   (try dsimp only)
   by_cases e1:j=i
   ·subst e1;rw[bk rfl,bk (Nat.lt_succ_self _)]
   ·exact TE
 ·have e0:i=nn:=O;subst i;have HH:=Z (show mD W lo h1 h2 hi a b c d n nf nk nn ln (λq i=>1000*mk+100*q+i) (λ_=> -mk) (λ_=>mk) (λ_=> -(10*mk)) lv from HW.o.2.congr (λ_ _ _ _=>rfl) (λ_ _=>rfl) (λ_ _=>rfl) (λj hj=>bk hj));obtain⟨xa,xc,e⟩:∃xa xc,d=to xa nn xc:=by
   rcases HW.o.2.ns.val with⟨e,e0⟩|⟨xb,cap,e,-⟩
   ·exact⟨K7,0,by rw[e,e0]⟩
   ·exact⟨_,_,e⟩
  rw[e]at q0;have HF:=Z HW.o.1;clear gu be HW;have lb:=aH q0;go_wp2;exact Eq.mpr (bu (λa=>Q (.exit 8) a W) (IR.of _ rfl)) (d_ _ W rfl rfl HF.o HH.o)
def agt{q:Nat}(HK:Hid (aF W0 bb 52 #[a,b,c,d]/\hi<=bb))(Zx:mk<=9)(hq:q<n)(hn:ln q<=1000000000)(hnq:n<=256)
 (d_:∀(J:Nat->UL) W,J 1=Y mk->J 2=UI bb->J 4=Y q->aA (Fx lo hi) W0 W->mD W lo h1 h2 hi a b c d n nf nk nn ln (λq' i'=>if q'<q+1 then 1000*mk+100*q'+i' else a0d q' i') (fF) (kF) (nF) lv->Q (.exit 2) (IR J) W)
 {a0:Act} {W1:UK} (h:WR mk bb (λJ=>J 4=Y q) 5 (ln q) (ln q+1) (λi W=>aA (Fx lo hi) W0 W/\mD W lo h1 h2 hi a b c d n nf nk nn ln (λq' i'=>if q'<q\/q'=q/\i'<i then 1000*mk+100*q'+i' else a0d q' i') (fF) (kF) (nF) lv) a0 W1):(Code.loop wrI).wp prog Q a0 W1:=by
 refine Mk.aN (λm a' W=>WR mk bb (λJ=>J 4=Y q) 5 (ln q) m (λi W=>aA (Fx lo hi) W0 W/\mD W lo h1 h2 hi a b c d n nf nk nn ln (λq' i'=>if q'<q\/q'=q/\i'<i then 1000*mk+100*q'+i' else a0d q' i') (fF) (kF) (nF) lv) a' W) (ln q+1) h ?_ ?_
 ·exact UW
 rintro m a0 W ⟨J,i,rfl,j1,j2,j4,j3,hi',hm,HW⟩;unfold IR
 conv=>arg 2;whnf
 rw[j1,j2,j4,j3];clear j1 j2 j3 j4;have w2:=mO i O;have gu:=HK.o.1.aG HW.o.1 (λhc=>by have:=ed.1 hc;have:=HK.o.2;omega);have q0:=gu.c1;have bo:=HW.o.2.row;obtain⟨ra,rc,e,r1,r2,lr⟩:=bo.some O;subst e;have d0:UJ W (G ra q)=H (lv q):=bo.cell (o:=q) O;obtain⟨xl,xlc,el,l1,l2⟩:=iW (HW.o.2.q q hq);have HL0:=Z el;have HQ:=Z hq;by_cases be:i<ln q
 ·obtain⟨xb,xc,e,x1,x2,lx⟩:=(HW.o.2.q q hq).some O;rw[el]at e;simp only[cM]at e;obtain⟨rfl,-,rfl⟩:=e;have Ts:=HW.o.2.q q hq;rw[el]at Ts;have c0:UJ W (G xb i)=H _:=Ts.cell (o:=i) O;have fz:=Ts.frozen i;have HX:=Z (show xb∈Fx lo hi from ed.2 (by have:=HW.o.2.i_ q hq xb (by rw[el];rfl);have:=HW.o.2.le;omega));have dE:=Z be;have HM:=Z hm;have HG:=Z (show 1000*(mk:Int)+100*(q:Int)+(i:Int)<=4000000000/\0<=1000*(mk:Int)+100*(q:Int)+(i:Int)by omega);rw[el]at d0;generalize hL:ln q=L at*;have HL:=Z hL;clear Ts hm gu bo hL el;go_wp2_with fail;have hv:IntKind.i64.wrap (1000*(mk:Int)+100*(q:Int)+(i:Int))=1000*(mk:Int)+100*(q:Int)+(i:Int):=bJ _ (by have:=HG.o;constructor<;>omega);refine⟨_,i+1,IR.of _ rfl,rfl,rfl,rfl,?_,dE.o,by have:=HM.o;omega,Z ⟨HW.o.1.setCell (p:=(G xb i)) HX.o _,?_⟩⟩
  ·exact QC
  ·refine(HW.o.2.agO HQ.o (by rw[HL.o];exact dE.o) (by rw[HL.o];exact HL0.o) (1000*(mk:Int)+100*(q:Int)+(i:Int))).congr (λq' Q_ i' hi'=>?_) (λ_ _=>rfl) (λ_ _=>rfl) (λ_ _=>rfl)
   (try dsimp only)
   by_cases e1:q'=q
   ·subst e1;by_cases e2:i'=i
    ·subst e2;rw[bk ⟨rfl,rfl⟩,bk (.inr ⟨rfl,Nat.lt_succ_self _⟩)]
    ·rw[aw (λh=>e2 h.2)];by_cases e3:i'<i
     ·rw[bk (.inr ⟨rfl,e3⟩),bk (.inr ⟨rfl,O⟩)]
     ·rw[aw O,aw O]
   ·rw[aw (λh=>e1 h.1)];by_cases e3:q'<q
    ·rw[bk (.inl e3),bk (.inl e3)]
    ·rw[aw O,aw O]
 ·obtain rfl:i=ln q:=O;have HH:=Z (HW.o.2.congr (G':=λq' i'=>if q'<q+1 then 1000*mk+100*q'+i' else a0d q' i') (λq' Q_ i' hi9=>by
   (try dsimp only)
   by_cases e1:q'=q
   ·subst e1;rw[bk (.inr ⟨rfl,hi9⟩),bk (Nat.lt_succ_self _)]
   ·by_cases e3:q'<q
    ·rw[bk (.inl e3),bk O]
    ·rw[aw O,aw O]) (λ_ _=>rfl) (λ_ _=>rfl) (λ_ _=>rfl))
  have HF:=Z HW.o.1;rw[el]at d0;clear gu be HW bo;have lb:=aH q0;go_wp2;exact Eq.mpr (bu (λa=>Q (.exit 2) a W) (IR.of _ rfl)) (d_ _ W rfl rfl rfl HF.o HH.o)
def agb(HK:Hid (aF W0 bb 52 #[a,b,c,d]/\hi<=bb))(Zx:mk<=9)(hn:∀q,q<n->ln q<=1000000000)(hnq:n<=256)
 (d_:∀(J:Nat->UL) W,J 1=Y mk->J 2=UI bb->aA (Fx lo hi) W0 W->mD W lo h1 h2 hi a b c d n nf nk nn ln (λq i=>1000*mk+100*q+i) (fF) (kF) (nF) lv->Q (.exit 0) (IR J) W)
 {a0:Act} {W1:UK} (h:WR mk bb (λJ=>True) 4 n (n+1) (λq W=>aA (Fx lo hi) W0 W/\mD W lo h1 h2 hi a b c d n nf nk nn ln (λq' i'=>if q'<q then 1000*mk+100*q'+i' else a0d q' i') (fF) (kF) (nF) lv) a0 W1):(Code.loop wrO).wp prog Q a0 W1:=by
 refine Mk.aN (λm a' W=>WR mk bb (λJ=>True) 4 n m (λq W=>aA (Fx lo hi) W0 W/\mD W lo h1 h2 hi a b c d n nf nk nn ln (λq' i'=>if q'<q then 1000*mk+100*q'+i' else a0d q' i') (fF) (kF) (nF) lv) a' W) (n+1) h ?_ ?_
 ·exact UW
 rintro m a0 W ⟨J,q,rfl,j1,j2,-,j3,hi',hm,HW⟩;unfold IR
 conv=>arg 2;whnf
 rw[j1,j2,j3];clear j1 j2 j3;have w2:=mO q O;have gu:=HK.o.1.aG HW.o.1 (λhc=>by have:=ed.1 hc;have:=HK.o.2;omega);have q0:=gu.c1;obtain⟨xa,xc,e⟩:∃xa xc,a=to xa n xc:=by
  rcases HW.o.2.row.val with⟨e,e0⟩|⟨xb,cap,e,-⟩
  ·exact⟨K7,0,by rw[e,e0]⟩
  ·exact⟨_,_,e⟩
 have HE:=Z e;rw[e]at q0;have lb:=aH q0;by_cases be:q<n
 ·have dE:=Z be;have HM:=Z hm;clear gu hm e;go_wp2_with fail;refine agt (q:=q) (W0:=W0) HK Zx dE.o (hn q dE.o) hnq (λJ W4 j1 j2 j4 f4 l4=>?_) ⟨_,0,IR.of _ rfl,rfl,rfl,rfl,rfl,cK _,O,Z ⟨HW.o.1,HW.o.2.congr (λq' _ i' _=>by
   (try dsimp only)
   by_cases e3:q'<q
   ·rw[bk e3,bk (.inl e3)]
   ·rw[aw e3,aw O]) (λ_ _=>rfl) (λ_ _=>rfl) (λ_ _=>rfl)⟩⟩
  have H4:=Z (And.intro f4 l4);clear f4 l4;simp only[Exit.inBlock,Exit.then]
  try apply_assumption
  unfold IR;rw[j1,j2,j4];clear j1 j2 j4;go_wp2;refine⟨_,q+1,IR.of _ rfl,rfl,rfl,trivial,?_,dE.o,by have:=HM.o;omega,Z ⟨H4.o.1,H4.o.2⟩⟩;exact MO
 ·have e0:q=n:=O;subst q;have HH:=Z (And.intro HW.o.1 (show mD W lo h1 h2 hi a b c d n nf nk nn ln (λq i=>1000*mk+100*q+i) (fF) (kF) (nF) lv from HW.o.2.congr (λq' Q_ i' _=>bk Q_) (λ_ _=>rfl) (λ_ _=>rfl) (λ_ _=>rfl)));clear be gu HW;go_wp2;exact Eq.mpr (bu (λa=>Q (.exit 0) a W) (IR.of _ rfl)) (d_ _ W rfl rfl HH.o.1 HH.o.2)
variable {w:UK}
def GY(w:UK)(mk lo h1 h2 hi:Nat)(a b c d:UL)(n nf nk nn:Nat)(ln:Nat->Nat)(lv:Nat->UL):Prop:=mD w lo h1 h2 hi a b c d n nf nk nn ln (λq i=>1000*mk+100*q+i) (λ_=> -mk) (λ_=>mk) (λ_=> -(10*mk)) lv
def YU(h:mD w lo h1 h2 hi a b c d n nf nk nn ln (a0d) (fF) (kF) (nF) lv)(hh:hi<=w.heap.size)(Zx:mk<=9)(hnq:n<=256)(hn:∀q,q<n->ln q<=1000000000)(b1:nf<=maxLen)(b2:nk<=maxLen)(b3:nn<=maxLen):
 Calls prog 21 #[.agg #[a,b,c,d],Y mk] w (λe w'=>e=C8 (.tuple #[])/\aA (Fx lo hi) w w'/\GY w' mk lo h1 h2 hi a b c d n nf nk nn ln lv):=by
 have HK:=Z (And.intro (aF.new w 52 #[a,b,c,d]) hh);have HL:=Z (h.later ((aB _ _).alloc (aL _) (QP #[a,b,c,d] 52)));have HF:=Z ((aA.refl (Fx lo hi) w).alloc (QP #[a,b,c,d] 52));clear h;go_enter func21,ntmps21;go_wp2_with fail;generalize w.alloc (QP #[a,b,c,d] 52)=W0 at*;refine agb (W0:=W0) HK Zx hn hnq (λJ W1 j1 j2 f1 l1=>?_) ⟨_,0,IR.of _ rfl,rfl,rfl,trivial,rfl,cK _,O,Z ⟨aA.refl _ _,HL.o.congr (λ_ _ _ _=>(aw (Nat.not_lt_zero _)).symm) (λ_ _=>rfl) (λ_ _=>rfl) (λ_ _=>rfl)⟩⟩;have H1:=Z (And.intro f1 l1);clear f1 l1;unfold IR
 conv=>arg 2;whnf
 rw[j1,j2];clear j1 j2;go_wp2_with fail;refine agS (W0:=W0) HK Zx b1 (λJ W2 j1 j2 f2 l2=>?_) ⟨_,0,IR.of _ rfl,rfl,rfl,trivial,rfl,cK _,O,Z ⟨H1.o.1,H1.o.2.congr (λ_ _ _ _=>rfl) (λ_ _=>(aw (Nat.not_lt_zero _)).symm) (λ_ _=>rfl) (λ_ _=>rfl)⟩⟩;have H2:=Z (And.intro f2 l2);clear f2 l2 H1;unfold IR
 conv=>arg 2;whnf
 rw[j1,j2];clear j1 j2;go_wp2_with fail;refine agT (W0:=W0) HK Zx b2 (λJ W3 j1 j2 f3 l3=>?_) ⟨_,0,IR.of _ rfl,rfl,rfl,trivial,rfl,cK _,O,Z ⟨H2.o.1,H2.o.2.congr (λ_ _ _ _=>rfl) (λ_ _=>rfl) (λ_ _=>(aw (Nat.not_lt_zero _)).symm) (λ_ _=>rfl)⟩⟩;have H3:=Z (And.intro f3 l3);clear f3 l3 H2;unfold IR
 conv=>arg 2;whnf
 rw[j1,j2];clear j1 j2;go_wp2_with fail;refine agU (W0:=W0) HK Zx b3 (λJ W4 j1 j2 f4 l4=>?_) ⟨_,0,IR.of _ rfl,rfl,rfl,trivial,rfl,cK _,O,Z ⟨H3.o.1,H3.o.2.congr (λ_ _ _ _=>rfl) (λ_ _=>rfl) (λ_ _=>rfl) (λ_ _=>(aw (Nat.not_lt_zero _)).symm)⟩⟩;have H4:=Z (And.intro (HF.o.trans f4) l4);clear f4 l4 H3;unfold IR;go_wp2;refine bodyPost_end (dJ rfl _ _ _) rfl ?_;exact⟨rfl,H4.o.1,H4.o.2⟩
def JP(J:Nat->UL):Act:={tmps:=#[J 0,J 1,J 2,J 3,J 4,J 5,J 6,J 7,J 8,J 9,J 10,J 11,J 12,J 13,J 14,J 15,J 16,J 17,J 18,J 19,J 20,J 21,J 22,J 23,J 24,J 25,J 26,J 27,J 28,J 29,J 30,J 31,J 32,J 33,J 34,J 35,J 36,J 37,J 38,J 39,J 40,J 41,J 42,J 43,J 44,J 45,J 46,J 47,J 48,J 49,J 50,J 51,J 52,J 53,J 54,J 55,J 56,J 57,J 58,J 59,J 60,J 61,J 62,J 63,J 64,J 65,J 66,J 67,J 68,J 69,J 70,J 71,J 72,J 73,J 74,J 75,J 76,J 77,J 78,J 79,J 80,J 81,J 82,J 83,J 84,J 85,J 86,J 87,J 88],defers:=[]}
def JP.of(A:Array UL)(h:A=(JP λk=>A.getD k undef).tmps):({tmps:=A,defers:=[]}:Act)=JP λk=>A.getD k undef:=by rw[h];rfl
noncomputable def wnO:Code:=Mk.iS Proofs.Tryz.f22.body 0
noncomputable def wnI:Code:=Mk.iS (H wnO) 0
noncomputable def wn1:Code:=Mk.iS Proofs.Tryz.f22.body 1
noncomputable def wn2:Code:=Mk.iS Proofs.Tryz.f22.body 2
noncomputable def wn3:Code:=Mk.iS Proofs.Tryz.f22.body 3
def WN(W0:UK)(mk bb:Nat)(more:(Nat->UL)->Prop)(ix n m:Nat)(a:Act)(W:UK):Prop:=∃(J:Nat->UL) (i:Nat),a=JP J/\J 1=Y mk/\J 2=UI bb/\more J/\J ix=Y i/\i<=n/\m+i=n+1/\W=W0
def MN{p:Prop}(h:p:=by
 rintro a' W ⟨J,i,-,-,-,-,-,h1,h2,-⟩;omega):p:=h
def E6{p:Prop}(h:p:=by
 have w2:=UU i (by unfold maxLen at hn;omega);have dE:=Z be;have HM:=Z hm;clear hm hr e;go_wp2;refine⟨_,i+1,JP.of _ rfl,rfl,rfl,trivial,?_,dE.o,by have:=HM.o;omega,rfl⟩;exact QC):p:=h
def agu(HK:Hid (aF W0 bb 52 #[a,b,c,d]/\GY W0 mk lo h1 h2 hi a b c d n nf nk nn ln lv))(Zx:mk<=9)(hn:nf<=maxLen)
 (d_:∀(J:Nat->UL),J 1=Y mk->J 2=UI bb->Q (.exit 4) (JP J) W0)
 {a0:Act} {W1:UK} (h:WN W0 mk bb (λ_=>True) 7 nf (nf+1) a0 W1):(Code.loop wn1).wp prog Q a0 W1:=by
 refine Mk.aN (λm a' W=>WN W0 mk bb (λ_=>True) 7 nf m a' W) (nf+1) h ?_ ?_
 ·exact MN
 rintro m a0 W ⟨J,i,rfl,j1,j2,-,j3,hi',hm,rfl⟩;unfold JP
 conv=>arg 2;whnf
 rw[j1,j2,j3];clear j1 j2 j3;have q0:UJ W (G bb 1)=H b:=HK.o.1.cell 1;have lb:=aH q0;by_cases be:i<nf
 ·obtain⟨xb,xc,e,x1,x2,lx⟩:=HK.o.2.fr.some O;have hr:=HK.o.2.fr;have HE:=Z e;rw[e]at hr q0;have c0:UJ W (G xb i)=H (Y (-(mk:Int))):=hr.cell (o:=i) O;exact E6
 ·have e0:i=nf:=O;subst i;obtain⟨xa,xc,e⟩:∃xa xc,b=to xa nf xc:=by
   rcases HK.o.2.fr.val with⟨e,e0⟩|⟨xb,cap,e,-⟩
   ·exact⟨K7,0,by rw[e,e0]⟩
   ·exact⟨_,_,e⟩
  rw[e]at q0;clear be;go_wp2;exact Eq.mpr (bu (λa=>Q (.exit 4) a W) (JP.of _ rfl)) (d_ _ rfl rfl)
def agv(HK:Hid (aF W0 bb 52 #[a,b,c,d]/\GY W0 mk lo h1 h2 hi a b c d n nf nk nn ln lv))(Zx:mk<=9)(hn:nk<=maxLen)
 (d_:∀(J:Nat->UL),J 1=Y mk->J 2=UI bb->Q (.exit 6) (JP J) W0)
 {a0:Act} {W1:UK} (h:WN W0 mk bb (λ_=>True) 8 nk (nk+1) a0 W1):(Code.loop wn2).wp prog Q a0 W1:=by
 refine Mk.aN (λm a' W=>WN W0 mk bb (λ_=>True) 8 nk m a' W) (nk+1) h ?_ ?_
 ·exact MN
 rintro m a0 W ⟨J,i,rfl,j1,j2,-,j3,hi',hm,rfl⟩;unfold JP
 conv=>arg 2;whnf
 rw[j1,j2,j3];clear j1 j2 j3;have q0:UJ W (G bb 2)=H c:=HK.o.1.cell 2;have lb:=aH q0;by_cases be:i<nk
 ·obtain⟨xb,xc,e,x1,x2,lx⟩:=HK.o.2.ks.some O;have hr:=HK.o.2.ks;have HE:=Z e;rw[e]at hr q0;have c0:UJ W (G xb i)=H (.int .u64 (mk:Nat)):=hr.cell (o:=i) O;exact E6
 ·have e0:i=nk:=O;subst i;obtain⟨xa,xc,e⟩:∃xa xc,c=to xa nk xc:=by
   rcases HK.o.2.ks.val with⟨e,e0⟩|⟨xb,cap,e,-⟩
   ·exact⟨K7,0,by rw[e,e0]⟩
   ·exact⟨_,_,e⟩
  rw[e]at q0;clear be;go_wp2;exact Eq.mpr (bu (λa=>Q (.exit 6) a W) (JP.of _ rfl)) (d_ _ rfl rfl)
def agw(HK:Hid (aF W0 bb 52 #[a,b,c,d]/\GY W0 mk lo h1 h2 hi a b c d n nf nk nn ln lv))(Zx:mk<=9)(hn:nn<=maxLen)
 (d_:∀(J:Nat->UL),J 1=Y mk->J 2=UI bb->Q (.exit 8) (JP J) W0)
 {a0:Act} {W1:UK} (h:WN W0 mk bb (λ_=>True) 9 nn (nn+1) a0 W1):(Code.loop wn3).wp prog Q a0 W1:=by
 refine Mk.aN (λm a' W=>WN W0 mk bb (λ_=>True) 9 nn m a' W) (nn+1) h ?_ ?_
 ·exact MN
 rintro m a0 W ⟨J,i,rfl,j1,j2,-,j3,hi',hm,rfl⟩;unfold JP
 conv=>arg 2;whnf
 rw[j1,j2,j3];clear j1 j2 j3;have q0:UJ W (G bb 3)=H d:=HK.o.1.cell 3;have lb:=aH q0;by_cases be:i<nn
 ·obtain⟨xb,xc,e,x1,x2,lx⟩:=HK.o.2.ns.some O;have hr:=HK.o.2.ns;have HE:=Z e;rw[e]at hr q0;have c0:UJ W (G xb i)=H (Y (-(10*(mk:Int)))):=hr.cell (o:=i) O;exact E6
 ·have e0:i=nn:=O;subst i;obtain⟨xa,xc,e⟩:∃xa xc,d=to xa nn xc:=by
   rcases HK.o.2.ns.val with⟨e,e0⟩|⟨xb,cap,e,-⟩
   ·exact⟨K7,0,by rw[e,e0]⟩
   ·exact⟨_,_,e⟩
  rw[e]at q0;clear be;go_wp2;exact Eq.mpr (bu (λa=>Q (.exit 8) a W) (JP.of _ rfl)) (d_ _ rfl rfl)
def agx{q:Nat}(HK:Hid (aF W0 bb 52 #[a,b,c,d]/\GY W0 mk lo h1 h2 hi a b c d n nf nk nn ln lv))(Zx:mk<=9)(hq:q<n)(hn:ln q<=1000000000)(hnq:n<=256)
 (d_:∀(J:Nat->UL),J 1=Y mk->J 2=UI bb->J 5=Y q->Q (.exit 2) (JP J) W0)
 {a0:Act} {W1:UK} (h:WN W0 mk bb (λJ=>J 5=Y q) 6 (ln q) (ln q+1) a0 W1):(Code.loop wnI).wp prog Q a0 W1:=by
 refine Mk.aN (λm a' W=>WN W0 mk bb (λJ=>J 5=Y q) 6 (ln q) m a' W) (ln q+1) h ?_ ?_
 ·exact MN
 rintro m a0 W ⟨J,i,rfl,j1,j2,j4,j3,hi',hm,rfl⟩;unfold JP
 conv=>arg 2;whnf
 rw[j1,j2,j4,j3];clear j1 j2 j3 j4;have w2:=mO i O;have q0:=HK.o.1.c1;have bo:=HK.o.2.row;obtain⟨ra,rc,e,r1,r2,lr⟩:=bo.some O;have HE:=Z e;rw[e]at bo q0;have d0:UJ W (G ra q)=H (lv q):=bo.cell (o:=q) O;obtain⟨xl,xlc,el,l1,l2⟩:=iW (HK.o.2.q q hq);have lb:=aH q0;by_cases be:i<ln q
 ·obtain⟨xb,xc,e',x1,x2,lx⟩:=(HK.o.2.q q hq).some O;rw[el]at e';simp only[cM]at e';obtain⟨rfl,-,rfl⟩:=e';have Ts:=HK.o.2.q q hq;rw[el]at Ts;have c0:UJ W (G xb i)=H (Y (1000*(mk:Int)+100*(q:Int)+(i:Int))):=Ts.cell (o:=i) O;have dE:=Z be;have HM:=Z hm;have HG:=Z (show 1000*(mk:Int)+100*(q:Int)+(i:Int)<=4000000000/\0<=1000*(mk:Int)+100*(q:Int)+(i:Int)by omega);rw[el]at d0;generalize hL:ln q=L at*;clear Ts hm bo hL el e;go_wp2;refine⟨_,i+1,JP.of _ rfl,rfl,rfl,rfl,?_,dE.o,by have:=HM.o;omega,rfl⟩;exact QC
 ·have e0:i=ln q:=O;subst i;rw[el]at d0;clear be bo e el;go_wp2;exact Eq.mpr (bu (λa=>Q (.exit 2) a W) (JP.of _ rfl)) (d_ _ rfl rfl rfl)
def agd(HK:Hid (aF W0 bb 52 #[a,b,c,d]/\GY W0 mk lo h1 h2 hi a b c d n nf nk nn ln lv))(Zx:mk<=9)(hn:∀q,q<n->ln q<=1000000000)(hnq:n<=256)
 (d_:∀(J:Nat->UL),J 1=Y mk->J 2=UI bb->Q (.exit 0) (JP J) W0)
 {a0:Act} {W1:UK} (h:WN W0 mk bb (λJ=>True) 5 n (n+1) a0 W1):(Code.loop wnO).wp prog Q a0 W1:=by
 refine Mk.aN (λm a' W=>WN W0 mk bb (λJ=>True) 5 n m a' W) (n+1) h ?_ ?_
 ·exact MN
 rintro m a0 W ⟨J,q,rfl,j1,j2,-,j3,hi',hm,rfl⟩;unfold JP
 conv=>arg 2;whnf
 rw[j1,j2,j3];clear j1 j2 j3;have w2:=mO q O;have q0:=HK.o.1.c1;obtain⟨xa,xc,e⟩:∃xa xc,a=to xa n xc:=by
  rcases HK.o.2.row.val with⟨e,e0⟩|⟨xb,cap,e,-⟩
  ·exact⟨K7,0,by rw[e,e0]⟩
  ·exact⟨_,_,e⟩
 rw[e]at q0;have lb:=aH q0;by_cases be:q<n
 ·have dE:=Z be;have HM:=Z hm;clear hm e;go_wp2_with fail;refine agx (q:=q) (W0:=W) HK Zx dE.o (hn q dE.o) hnq (λJ j1 j2 j4=>?_) ⟨_,0,JP.of _ rfl,rfl,rfl,rfl,rfl,cK _,O,rfl⟩;simp only[Exit.inBlock,Exit.then]
  try apply_assumption
  unfold JP;rw[j1,j2,j4];clear j1 j2 j4;go_wp2;refine⟨_,q+1,JP.of _ rfl,rfl,rfl,trivial,?_,dE.o,by have:=HM.o;omega,rfl⟩;exact MO
 ·have e0:q=n:=O;subst q;clear be e;go_wp2;exact Eq.mpr (bu (λa=>Q (.exit 0) a W) (JP.of _ rfl)) (d_ _ rfl rfl)
def Vo(h:GY w mk lo h1 h2 hi a b c d n nf nk nn ln lv)(Zx:mk<=9)(hnq:n<=256)(hn:∀q,q<n->ln q<=1000000000)(b1:nf<=maxLen)(b2:nk<=maxLen)(b3:nn<=maxLen):
 Calls prog 22 #[.agg #[a,b,c,d],Y mk] w (λe w'=>e=C8 (.bool true)/\Below w.heap.size w w'):=by
 have wD:Below w.heap.size w (w.alloc (QP #[a,b,c,d] 52)):=(aB _ _).alloc (aL _) _;have HK:=Z (And.intro (aF.new w 52 #[a,b,c,d]) (show GY (w.alloc (QP #[a,b,c,d] 52)) mk lo h1 h2 hi a b c d n nf nk nn ln lv from mD.later h wD));have HB:=Z wD;clear h wD;go_enter func22,ntmps22;go_wp2_with fail;generalize w.alloc (QP #[a,b,c,d] 52)=W0 at*;refine agd (W0:=W0) HK Zx hn hnq (λJ j1 j2=>?_) ⟨_,0,JP.of _ rfl,rfl,rfl,trivial,rfl,cK _,O,rfl⟩;unfold JP
 conv=>arg 2;whnf
 rw[j1,j2];clear j1 j2;go_wp2_with fail;refine agu (W0:=W0) HK Zx b1 (λJ j1 j2=>?_) ⟨_,0,JP.of _ rfl,rfl,rfl,trivial,rfl,cK _,O,rfl⟩;unfold JP
 conv=>arg 2;whnf
 rw[j1,j2];clear j1 j2;go_wp2_with fail;refine agv (W0:=W0) HK Zx b2 (λJ j1 j2=>?_) ⟨_,0,JP.of _ rfl,rfl,rfl,trivial,rfl,cK _,O,rfl⟩;unfold JP
 conv=>arg 2;whnf
 rw[j1,j2];clear j1 j2;go_wp2_with fail;refine agw (W0:=W0) HK Zx b3 (λJ j1 j2=>?_) ⟨_,0,JP.of _ rfl,rfl,rfl,trivial,rfl,cK _,O,rfl⟩;unfold JP;go_wp2
 first|refine Vf.fy (P:=prog) (fn:=Proofs.Tryz.f22) rfl ?_|(rw[ja];refine Vf.fy (P:=prog) (fn:=Proofs.Tryz.f22) rfl ?_)
 exact⟨rfl,HB.o⟩
def ux(J:Nat->UL):Act:={tmps:=#[J 0,J 1,J 2,J 3,J 4,J 5,J 6,J 7,J 8,J 9,J 10,J 11,J 12,J 13,J 14,J 15,J 16,J 17,J 18,J 19,J 20,J 21,J 22,J 23,J 24,J 25,J 26,J 27,J 28,J 29,J 30,J 31,J 32,J 33,J 34,J 35,J 36,J 37,J 38,J 39,J 40,J 41,J 42,J 43,J 44,J 45,J 46,J 47,J 48,J 49,J 50,J 51,J 52,J 53,J 54,J 55,J 56,J 57,J 58,J 59,J 60,J 61,J 62,J 63,J 64,J 65,J 66,J 67,J 68,J 69,J 70,J 71,J 72,J 73,J 74,J 75,J 76,J 77,J 78,J 79,J 80,J 81,J 82,J 83,J 84,J 85,J 86,J 87,J 88,J 89,J 90,J 91,J 92,J 93,J 94,J 95,J 96,J 97,J 98,J 99,J 100,J 101,J 102,J 103,J 104,J 105,J 106,J 107,J 108,J 109,J 110,J 111,J 112,J 113,J 114,J 115,J 116,J 117,J 118,J 119,J 120,J 121,J 122,J 123,J 124,J 125,J 126,J 127,J 128,J 129,J 130,J 131,J 132,J 133,J 134,J 135,J 136,J 137,J 138,J 139,J 140,J 141,J 142,J 143,J 144,J 145,J 146,J 147,J 148,J 149,J 150,J 151,J 152,J 153,J 154,J 155,J 156,J 157,J 158,J 159,J 160,J 161,J 162,J 163,J 164,J 165,J 166,J 167,J 168,J 169,J 170,J 171,J 172,J 173,J 174,J 175,J 176,J 177,J 178,J 179,J 180,J 181,J 182,J 183,J 184,J 185,J 186,J 187,J 188,J 189,J 190,J 191,J 192,J 193,J 194,J 195,J 196,J 197,J 198,J 199,J 200,J 201,J 202,J 203,J 204,J 205,J 206,J 207,J 208,J 209,J 210,J 211,J 212,J 213,J 214,J 215,J 216,J 217,J 218,J 219,J 220,J 221,J 222,J 223,J 224,J 225,J 226,J 227,J 228,J 229,J 230,J 231,J 232,J 233,J 234,J 235,J 236,J 237,J 238,J 239,J 240,J 241,J 242,J 243],defers:=[]}
def ux.of(A:Array UL)(h:A=(ux λk=>A.getD k undef).tmps):({tmps:=A,defers:=[]}:Act)=ux λk=>A.getD k undef:=by rw[h];rfl
noncomputable def oL1:Code:=Mk.iS Proofs.Tryz.f3.body 0
noncomputable def oL2:Code:=Mk.iS Proofs.Tryz.f3.body 1
noncomputable def oL3:Code:=Mk.iS Proofs.Tryz.f3.body 2
noncomputable def oL4:Code:=Mk.iS Proofs.Tryz.f3.body 3
noncomputable def oL5:Code:=Mk.iS (H oL4) 0
noncomputable def oL6:Code:=Mk.iS (H oL5) 0
noncomputable def oL7:Code:=Mk.iS (H oL6) 0
noncomputable def oL8:Code:=Mk.iS (H oL4) 1
noncomputable def oL9:Code:=Mk.iS (H oL4) 2
def Dc(w:UK)(E:TypeId)(size:Nat)(v:UL)(n:Nat):Prop:=(v=Pl/\n=0)\/∃b cap cs,v=to (H (G b 0)) n cap/\n<=cap/\cap<=maxLen/\aF w b E cs/\n*size<=cs.size
variable {w':UK}{E:TypeId}{size:Nat}{v:UL}{g:Nat->UL}
def Dc.of(h:Row w E size v n g)(hs:0<size):Dc w E size v n:=by
 rcases h.val with⟨h1,h2⟩|⟨b,cap,rfl,h1,h2,h3⟩
 ·exact .inl ⟨h1,h2⟩
 ·obtain⟨cs,X⟩:=h.dS;refine .inr ⟨b,cap,cs,rfl,h1,h2,X,?_⟩;by_cases hn:n*size=0
  ·omega
  ·have:=h.cell (o:=n*size-1) O;rw[X.cell]at this;have:=(Array.getElem?_eq_some_iff.1 this).1;omega
def Dc.set(h:Dc w E size v n)(xb o:Nat)(x:UL):Dc (w.setCell (G xb o) x) E size v n:=by exact qX7
def Dc.sl(h:Dc w E size v n):∃x c,v=to x n c:=by
 rcases h with⟨h,h0⟩|⟨b,cap,cs,h,-⟩
 ·exact⟨K7,0,by rw[h,h0]⟩
 ·exact⟨_,_,h⟩
def Dc.at(h:Dc w E size v n){i:Nat}(hi:i<n):∃b cap,v=to (H (G b 0)) n cap/\n<=cap/\cap<=maxLen/\b<w.heap.size/\(∀o,w.frozen? (G b o)=false)/\∀k,k<size->∃x,UJ w (G b (i*size+k))=H x:=by
 rcases h with⟨_,h⟩|⟨b,cap,cs,h,h1,h2,h3,h4⟩
 ·omega
 ·refine⟨b,cap,h,h1,h2,h3.lt,h3.frozen,λk hk=>?_⟩;have:(i+1)*size<=n*size:=Nat.mul_le_mul_right _ hi;rw[Nat.succ_mul]at this;exact⟨_,(h3.cell _).trans (tR O)⟩
def QH.r(h:QH w v n):Dc w 3 1 v n:=by
 rcases h with h|⟨b,cap,cs,rfl,h1,h2,h3,h4⟩
 ·exact .inl h
 ·exact .inr ⟨b,cap,cs,rfl,h1,h2,h3,O⟩
def OW1(W0:UK)(xb n:Nat)(v U2 U3 U4 U8 U10:UL)(m:Nat)(a:Act)(W:UK):Prop:=∃(J:Nat->UL) (i:Nat),a=ux J/\J 2=U2/\J 3=U3/\J 4=U4/\J 7=(UI xb)/\J 8=U8/\J 10=U10/\J 12=Y i/\i<=n/\m+i=n+1/\Hid (aA (vb v) W0 W/\Dc W 40 5 v n/\∀E z u k,Dc W0 E z u k->Dc W E z u k)
def ow1{Q:Exit->Act->UK->Prop}{W0:UK}{xb n:Nat}{v U2 U3 U4 U8 U10:UL}(HX:Hid ((∃T cs,aF W0 xb T cs/\cs[5]? =H v/\xb∉vb v)))
 (d_:∀(J:Nat->UL) W,J 2=U2->J 3=U3->J 4=U4->J 7=(UI xb)->J 8=U8->J 10=U10->aA (vb v) W0 W->Dc W 40 5 v n->(∀E z u k,Dc W0 E z u k->Dc W E z u k)->Q (.exit 0) (ux J) W)
 {a0:Act} {W1:UK} (h:OW1 W0 xb n v U2 U3 U4 U8 U10 (n+1) a0 W1):(Code.loop oL1).wp prog Q a0 W1:=by
 refine Mk.aN (λm a' W=>OW1 W0 xb n v U2 U3 U4 U8 U10 m a' W) (n+1) h ?_ ?_
 ·rintro a' W ⟨J,i,-,-,-,-,-,-,-,-,h1,h2,-⟩;omega
 rintro m a0 W ⟨J,i,rfl,j2,j3,j4,j7,j8,nM,ji,hi',hm,HW⟩;unfold ux
 conv=>arg 2;whnf
 rw[j2,j3,j4,j7,j8,nM,ji];clear j2 j3 j4 j7 j8 nM ji;obtain⟨T,xs,gu,uF,Lj⟩:=HX.o;have Tn:=gu.aG HW.o.1 Lj;have q0:UJ W (G xb 5)=H v:=(Tn.cell 5).trans uF;have lb:=aH q0;clear gu Tn uF;by_cases be:i<n
 ·obtain⟨b,cap,e,x1,x2,lx,fz,hc⟩:=HW.o.2.1.at be;have w2:=Us i (by unfold maxLen at*;omega);obtain⟨y0,c0⟩:=hc 0 O;obtain⟨y1,c1⟩:=hc 1 O;obtain⟨y2,c2⟩:=hc 2 O;obtain⟨y3,c3⟩:=hc 3 O;obtain⟨y4,c4⟩:=hc 4 O;have dE:=Z be;have HM:=Z hm;have HE:=Z e;rw[e]at q0;clear hc e hm;simp only[Nat.add_zero]at c0;go_wp2;refine⟨_,i+1,ux.of _ rfl,rfl,rfl,rfl,rfl,rfl,rfl,?_,dE.o,by have:=HM.o;omega,Z ⟨(((((HW.o.1.setCell (p:=(G b (i*5))) (by rw[HE.o];simp[vb,Value.ownBlock]) _).setCell (p:=(G b (i*5+1))) (by rw[HE.o];simp[vb,Value.ownBlock]) _).setCell (p:=(G b (i*5+2))) (by rw[HE.o];simp[vb,Value.ownBlock]) _).setCell (p:=(G b (i*5+3))) (by rw[HE.o];simp[vb,Value.ownBlock]) _).setCell (p:=(G b (i*5+4))) (by rw[HE.o];simp[vb,Value.ownBlock]) _),(((((HW.o.2.1.set _ _ _).set _ _ _).set _ _ _).set _ _ _).set _ _ _),λ_ _ _ _ h9=>((((((HW.o.2.2 _ _ _ _ h9).set _ _ _).set _ _ _).set _ _ _).set _ _ _).set _ _ _)⟩⟩;exact QC
 ·have e0:i=n:=O;subst i;obtain⟨xa,xc,e⟩:=HW.o.2.1.sl;rw[e]at q0;clear be e;go_wp2;exact Eq.mpr (bu (λa=>Q (.exit 0) a W) (ux.of _ rfl)) (d_ _ W rfl rfl rfl rfl rfl rfl HW.o.1 HW.o.2.1 HW.o.2.2)
def OW2(W0:UK)(xb n:Nat)(v U2 U3 U4 U8 U10:UL)(m:Nat)(a:Act)(W:UK):Prop:=∃(J:Nat->UL) (i:Nat),a=ux J/\J 2=U2/\J 3=U3/\J 4=U4/\J 7=(UI xb)/\J 8=U8/\J 10=U10/\J 13=Y i/\i<=n/\m+i=n+1/\Hid (aA (vb v) W0 W/\Dc W 3 1 v n/\∀E z u k,Dc W0 E z u k->Dc W E z u k)
def Pv{p:Prop}(h:p:=by
 obtain⟨b,cap,e,x1,x2,lx,fz,hc⟩:=HW.o.2.1.at be;have w2:=Us i (by unfold maxLen at*;omega);obtain⟨y0,c0⟩:=hc 0 O;have dE:=Z be;have HM:=Z hm;have HE:=Z e;rw[e]at q0;clear hc e hm;simp only[Nat.mul_one,Nat.add_zero]at c0;go_wp2;refine⟨_,i+1,ux.of _ rfl,rfl,rfl,rfl,rfl,rfl,rfl,?_,dE.o,by have:=HM.o;omega,Z ⟨(HW.o.1.setCell (p:=(G b i)) (by rw[HE.o];simp[vb,Value.ownBlock]) _),(HW.o.2.1.set _ _ _),λ_ _ _ _ h9=>((HW.o.2.2 _ _ _ _ h9).set _ _ _)⟩⟩;exact QC):p:=h
def ow2{Q:Exit->Act->UK->Prop}{W0:UK}{xb n:Nat}{v U2 U3 U4 U8 U10:UL}(HX:Hid ((∃T cs,aF W0 xb T cs/\cs[3]? =H v/\xb∉vb v)))
 (d_:∀(J:Nat->UL) W,J 2=U2->J 3=U3->J 4=U4->J 7=(UI xb)->J 8=U8->J 10=U10->aA (vb v) W0 W->Dc W 3 1 v n->(∀E z u k,Dc W0 E z u k->Dc W E z u k)->Q (.exit 2) (ux J) W)
 {a0:Act} {W1:UK} (h:OW2 W0 xb n v U2 U3 U4 U8 U10 (n+1) a0 W1):(Code.loop oL2).wp prog Q a0 W1:=by
 refine Mk.aN (λm a' W=>OW2 W0 xb n v U2 U3 U4 U8 U10 m a' W) (n+1) h ?_ ?_
 ·rintro a' W ⟨J,i,-,-,-,-,-,-,-,-,h1,h2,-⟩;omega
 rintro m a0 W ⟨J,i,rfl,j2,j3,j4,j7,j8,nM,ji,hi',hm,HW⟩;unfold ux
 conv=>arg 2;whnf
 rw[j2,j3,j4,j7,j8,nM,ji];clear j2 j3 j4 j7 j8 nM ji;obtain⟨T,xs,gu,uF,Lj⟩:=HX.o;have Tn:=gu.aG HW.o.1 Lj;have q0:UJ W (G xb 3)=H v:=(Tn.cell 3).trans uF;have lb:=aH q0;clear gu Tn uF;by_cases be:i<n
 ·exact Pv
 ·have e0:i=n:=O;subst i;obtain⟨xa,xc,e⟩:=HW.o.2.1.sl;rw[e]at q0;clear be e;go_wp2;exact Eq.mpr (bu (λa=>Q (.exit 2) a W) (ux.of _ rfl)) (d_ _ W rfl rfl rfl rfl rfl rfl HW.o.1 HW.o.2.1 HW.o.2.2)
def OW3(W0:UK)(xb n:Nat)(v U2 U3 U4 U8 U10:UL)(m:Nat)(a:Act)(W:UK):Prop:=∃(J:Nat->UL) (i:Nat),a=ux J/\J 2=U2/\J 3=U3/\J 4=U4/\J 7=(UI xb)/\J 8=U8/\J 10=U10/\J 14=Y i/\i<=n/\m+i=n+1/\Hid (aA (vb v) W0 W/\Dc W 3 1 v n/\∀E z u k,Dc W0 E z u k->Dc W E z u k)
def ow3{Q:Exit->Act->UK->Prop}{W0:UK}{xb n:Nat}{v U2 U3 U4 U8 U10:UL}(HX:Hid ((∃T cs,aF W0 xb T cs/\cs[2]? =H v/\xb∉vb v)))
 (d_:∀(J:Nat->UL) W,J 2=U2->J 3=U3->J 4=U4->J 7=(UI xb)->J 8=U8->J 10=U10->aA (vb v) W0 W->Dc W 3 1 v n->(∀E z u k,Dc W0 E z u k->Dc W E z u k)->Q (.exit 4) (ux J) W)
 {a0:Act} {W1:UK} (h:OW3 W0 xb n v U2 U3 U4 U8 U10 (n+1) a0 W1):(Code.loop oL3).wp prog Q a0 W1:=by
 refine Mk.aN (λm a' W=>OW3 W0 xb n v U2 U3 U4 U8 U10 m a' W) (n+1) h ?_ ?_
 ·rintro a' W ⟨J,i,-,-,-,-,-,-,-,-,h1,h2,-⟩;omega
 rintro m a0 W ⟨J,i,rfl,j2,j3,j4,j7,j8,nM,ji,hi',hm,HW⟩;unfold ux
 conv=>arg 2;whnf
 rw[j2,j3,j4,j7,j8,nM,ji];clear j2 j3 j4 j7 j8 nM ji;obtain⟨T,xs,gu,uF,Lj⟩:=HX.o;have Tn:=gu.aG HW.o.1 Lj;have q0:UJ W (G xb 2)=H v:=(Tn.cell 2).trans uF;have lb:=aH q0;clear gu Tn uF;by_cases be:i<n
 ·exact Pv
 ·have e0:i=n:=O;subst i;obtain⟨xa,xc,e⟩:=HW.o.2.1.sl;rw[e]at q0;clear be e;go_wp2;exact Eq.mpr (bu (λa=>Q (.exit 4) a W) (ux.of _ rfl)) (d_ _ W rfl rfl rfl rfl rfl rfl HW.o.1 HW.o.2.1 HW.o.2.2)
def OW8(W0:UK)(xb n:Nat)(v U2 U3 U4 U8 U10 U15 U16 U19:UL)(m:Nat)(a:Act)(W:UK):Prop:=∃(J:Nat->UL) (i:Nat),a=ux J/\J 2=U2/\J 3=U3/\J 4=U4/\J 8=U8/\J 10=U10/\J 15=U15/\J 16=U16/\J 19=U19/\J 20=(UI xb)/\J 24=Y i/\i<=n/\m+i=n+1/\Hid (aA (vb v) W0 W/\Dc W 3 1 v n/\∀E z u k,Dc W0 E z u k->Dc W E z u k)
def ow8{Q:Exit->Act->UK->Prop}{W0:UK}{xb n:Nat}{v U2 U3 U4 U8 U10 U15 U16 U19:UL}(HX:Hid ((∃T cs,aF W0 xb T cs/\cs[1]? =H v/\xb∉vb v)))
 (d_:∀(J:Nat->UL) W,J 2=U2->J 3=U3->J 4=U4->J 8=U8->J 10=U10->J 15=U15->J 16=U16->J 19=U19->J 20=(UI xb)->aA (vb v) W0 W->Dc W 3 1 v n->(∀E z u k,Dc W0 E z u k->Dc W E z u k)->Q (.exit 14) (ux J) W)
 {a0:Act} {W1:UK} (h:OW8 W0 xb n v U2 U3 U4 U8 U10 U15 U16 U19 (n+1) a0 W1):(Code.loop oL8).wp prog Q a0 W1:=by
 refine Mk.aN (λm a' W=>OW8 W0 xb n v U2 U3 U4 U8 U10 U15 U16 U19 m a' W) (n+1) h ?_ ?_
 ·rintro a' W ⟨J,i,-,-,-,-,-,-,-,-,-,-,-,h1,h2,-⟩;omega
 rintro m a0 W ⟨J,i,rfl,j2,j3,j4,j8,nM,qp,vw,QI,Tu,ji,hi',hm,HW⟩;unfold ux
 conv=>arg 2;whnf
 rw[j2,j3,j4,j8,nM,qp,vw,QI,Tu,ji];clear j2 j3 j4 j8 nM qp vw QI Tu ji;obtain⟨T,xs,gu,uF,Lj⟩:=HX.o;have Tn:=gu.aG HW.o.1 Lj;have q0:UJ W (G xb 1)=H v:=(Tn.cell 1).trans uF;have lb:=aH q0;clear gu Tn uF;by_cases be:i<n
 ·obtain⟨b,cap,e,x1,x2,lx,fz,hc⟩:=HW.o.2.1.at be;have w2:=Us i (by unfold maxLen at*;omega);obtain⟨y0,c0⟩:=hc 0 O;have dE:=Z be;have HM:=Z hm;have HE:=Z e;rw[e]at q0;clear hc e hm;simp only[Nat.mul_one,Nat.add_zero]at c0;go_wp2;refine⟨_,i+1,ux.of _ rfl,rfl,rfl,rfl,rfl,rfl,rfl,rfl,rfl,rfl,?_,dE.o,by have:=HM.o;omega,Z ⟨(HW.o.1.setCell (p:=(G b i)) (by rw[HE.o];simp[vb,Value.ownBlock]) _),(HW.o.2.1.set _ _ _),λ_ _ _ _ h9=>((HW.o.2.2 _ _ _ _ h9).set _ _ _)⟩⟩;exact QC
 ·have e0:i=n:=O;subst i;obtain⟨xa,xc,e⟩:=HW.o.2.1.sl;rw[e]at q0;clear be e;go_wp2;exact Eq.mpr (bu (λa=>Q (.exit 14) a W) (ux.of _ rfl)) (d_ _ W rfl rfl rfl rfl rfl rfl rfl rfl rfl HW.o.1 HW.o.2.1 HW.o.2.2)
def OW9(W0:UK)(xb n:Nat)(v U2 U3 U4 U8 U10 U15 U19:UL)(m:Nat)(a:Act)(W:UK):Prop:=∃(J:Nat->UL) (i:Nat),a=ux J/\J 2=U2/\J 3=U3/\J 4=U4/\J 8=U8/\J 10=U10/\J 15=U15/\J 19=U19/\J 25=v/\J 26=Y i/\i<=n/\m+i=n+1/\Hid (aA (vb v) W0 W/\Dc W 46 1 v n/\∀E z u k,Dc W0 E z u k->Dc W E z u k)
def ow9{Q:Exit->Act->UK->Prop}{W0:UK}{xb n:Nat}{v U2 U3 U4 U8 U10 U15 U19:UL}
 (d_:∀(J:Nat->UL) W,J 2=U2->J 3=U3->J 4=U4->J 8=U8->J 10=U10->J 15=U15->J 19=U19->J 25=v->aA (vb v) W0 W->Dc W 46 1 v n->(∀E z u k,Dc W0 E z u k->Dc W E z u k)->Q (.exit 16) (ux J) W)
 {a0:Act} {W1:UK} (h:OW9 W0 xb n v U2 U3 U4 U8 U10 U15 U19 (n+1) a0 W1):(Code.loop oL9).wp prog Q a0 W1:=by
 refine Mk.aN (λm a' W=>OW9 W0 xb n v U2 U3 U4 U8 U10 U15 U19 m a' W) (n+1) h ?_ ?_
 ·rintro a' W ⟨J,i,-,-,-,-,-,-,-,-,-,-,h1,h2,-⟩;omega
 rintro m a0 W ⟨J,i,rfl,j2,j3,j4,j8,nM,qp,QI,j25,ji,hi',hm,HW⟩;unfold ux
 conv=>arg 2;whnf
 rw[j2,j3,j4,j8,nM,qp,QI,j25,ji];clear j2 j3 j4 j8 nM qp QI j25 ji;by_cases be:i<n
 ·obtain⟨b,cap,e,x1,x2,lx,fz,hc⟩:=HW.o.2.1.at be;have w2:=Us i (by unfold maxLen at*;omega);obtain⟨y0,c0⟩:=hc 0 O;have dE:=Z be;have HM:=Z hm;subst e
  skip
  clear hc hm;simp only[Nat.mul_one,Nat.add_zero]at c0;go_wp2;refine⟨_,i+1,ux.of _ rfl,rfl,rfl,rfl,rfl,rfl,rfl,rfl,rfl,?_,dE.o,by have:=HM.o;omega,Z ⟨(HW.o.1.setCell (p:=(G b i)) (by simp[vb,Value.ownBlock]) _),(HW.o.2.1.set _ _ _),λ_ _ _ _ h9=>((HW.o.2.2 _ _ _ _ h9).set _ _ _)⟩⟩;exact QC
 ·have e0:i=n:=O;subst i;obtain⟨xa,xc,e⟩:=HW.o.2.1.sl;subst e;clear be;go_wp2;exact Eq.mpr (bu (λa=>Q (.exit 16) a W) (ux.of _ rfl)) (d_ _ W rfl rfl rfl rfl rfl rfl rfl rfl HW.o.1 HW.o.2.1 HW.o.2.2)
def OWS(W0:UK)(sb lo hi n nv:Nat)(qv vv:UL)(ln:Nat->Nat)(tn:Nat->Nat->Nat)(lv:Nat->UL)(tv:Nat->Nat->UL)(U2 U3 U4 U8 U10 U15 U16 U19:UL)(more:(Nat->UL)->Prop)(ix k m:Nat)(a:Act)(W:UK):Prop:=∃(J:Nat->UL) (i:Nat),a=ux J/\J 2=U2/\J 3=U3/\J 4=U4/\J 8=U8/\J 10=U10/\J 15=U15/\J 16=U16/\J 19=U19/\J 20=(UI sb)/\more J/\J ix=Y i/\i<=k/\m+i=k+1/\Hid (aA (Fx lo hi) W0 W/\wK W lo hi qv vv n nv ln tn lv tv)
variable {sb nv:Nat}{qv vv U2 U3 U4 U8 U10 U15 U16 U19:UL}{tn:Nat->Nat->Nat}{tv:Nat->Nat->UL}
def E5{p:Prop}(h:p:=by
 rintro a' W ⟨J,i,-,-,-,-,-,-,-,-,-,-,-,-,h1,h2,-⟩;omega):p:=h
def ow7{q j:Nat}(HK:Hid (aF W0 sb 56 #[qv,vv]/\hi<=sb))(hq:q<n)(hj:j<ln q)
 (d_:∀(J:Nat->UL) W,J 2=U2->J 3=U3->J 4=U4->J 8=U8->J 10=U10->J 15=U15->J 16=U16->J 19=U19->J 20=(UI sb)->J 21=Y q->J 22=Y j->aA (Fx lo hi) W0 W->wK W lo hi qv vv n nv ln tn lv tv->Q (.exit 12) (ux J) W)
 {a0:Act} {W1:UK} (h:OWS W0 sb lo hi n nv qv vv ln tn lv tv U2 U3 U4 U8 U10 U15 U16 U19 (λJ=>J 21=Y q/\J 22=Y j) 23 (tn q j) ((tn q j)+1) a0 W1):(Code.loop oL7).wp prog Q a0 W1:=by
 refine Mk.aN (λm a' W=>OWS W0 sb lo hi n nv qv vv ln tn lv tv U2 U3 U4 U8 U10 U15 U16 U19 (λJ=>J 21=Y q/\J 22=Y j) 23 (tn q j) m a' W) ((tn q j)+1) h ?_ ?_
 ·exact E5
 rintro m a0 W ⟨J,i,rfl,j2,j3,j4,j8,nM,qp,vw,QI,Tu,⟨j21,j22⟩,ji,hi',hm,HW⟩;unfold ux
 conv=>arg 2;whnf
 rw[j2,j3,j4,j8,nM,qp,vw,QI,Tu,j21,j22,ji];clear j2 j3 j4 j8 nM qp vw QI Tu j21 j22 ji;have Tn:=HK.o.1.aG HW.o.1 (λhc=>by have:=ed.1 hc;have:=HK.o.2;omega);have q0:=Tn.c1;have lb:=aH q0;clear Tn;have bo:=HW.o.2.row;obtain⟨ya,yc,ey,y1,y2,ly⟩:=bo.some O;have HY:=Z ey;rw[ey]at bo q0;have d0:UJ W (G ya q)=H (lv q):=bo.cell (o:=q) O;obtain⟨κ,Ts⟩:=HW.o.2.Vg q hq;obtain⟨xl,xc,el,l1,l2,ll⟩:=Ts.some O;rw[el]at Ts d0;have c1:UJ W (G xl (j*2+1))=H (tv q j):=(Ts.cell (o:=j*2+1) O).trans (by unfold peK;rw[aw O,show(j*2+1) / 2=j by omega]);have htg:=HW.o.2.aS q hq j hj;have HN:=Z (show aA (Fx lo hi) W0 W/\q<n/\j<ln q from⟨HW.o.1,hq,hj⟩);by_cases be:i<tn q j
 ·obtain⟨b,cap,e,x1,x2,lx,fz,hc⟩:=htg.1.r.at be;have w2:=Us i (by unfold maxLen at*;omega);obtain⟨y0,c0⟩:=hc 0 O;simp only[Nat.mul_one,Nat.add_zero]at c0;have HE:=Z e;have HT:=Z (show b∈Fx lo hi/\∃cs,aF W b 3 cs from⟨ed.2 (htg.2 b (by rw[e];rfl)),by
   rcases htg.1 with⟨h9,-⟩|⟨b9,Iw,cs9,h9,-,-,k9,-⟩
   ·rw[e]at h9;simp at h9
   ·rw[e]at h9;simp at h9;obtain⟨rfl,-⟩:=h9;exact⟨_,k9⟩⟩)
  have dE:=Z be;have HM:=Z hm;rw[e]at c1;generalize hL:ln q=L at*;generalize hTn:tn q j=TN at*;clear hc e hm htg Ts bo hL hTn ey el κ;go_wp2_with fail;obtain⟨cs,M_⟩:=HT.o.2;refine⟨_,i+1,ux.of _ rfl,rfl,rfl,rfl,rfl,rfl,rfl,rfl,rfl,rfl,⟨rfl,rfl⟩,?_,dE.o,by have:=HM.o;omega,Z ⟨HW.o.1.setCell (p:=(G b i)) HT.o.1 _,HW.o.2.agR M_ _⟩⟩;exact QC
 ·have e0:i=tn q j:=O;subst i;obtain⟨xa,xc',e⟩:=htg.1.r.sl;rw[e]at c1;generalize hL:ln q=L at*;generalize hTn:tn q j=TN at*;have HH:=Z (show aA (Fx lo hi) W0 W/\wK W lo hi qv vv n nv ln tn lv tv from HW.o);clear be e htg Ts bo hL hTn ey el κ;go_wp2;exact Eq.mpr (bu (λa=>Q (.exit 12) a W) (ux.of _ rfl)) (d_ _ W rfl rfl rfl rfl rfl rfl rfl rfl rfl rfl rfl HH.o.1 HH.o.2)
def ow6{q:Nat}(HK:Hid (aF W0 sb 56 #[qv,vv]/\hi<=sb))(hq:q<n)
 (d_:∀(J:Nat->UL) W,J 2=U2->J 3=U3->J 4=U4->J 8=U8->J 10=U10->J 15=U15->J 16=U16->J 19=U19->J 20=(UI sb)->J 21=Y q->aA (Fx lo hi) W0 W->wK W lo hi qv vv n nv ln tn lv tv->Q (.exit 10) (ux J) W)
 {a0:Act} {W1:UK} (h:OWS W0 sb lo hi n nv qv vv ln tn lv tv U2 U3 U4 U8 U10 U15 U16 U19 (λJ=>J 21=Y q) 22 (ln q) ((ln q)+1) a0 W1):(Code.loop oL6).wp prog Q a0 W1:=by
 refine Mk.aN (λm a' W=>OWS W0 sb lo hi n nv qv vv ln tn lv tv U2 U3 U4 U8 U10 U15 U16 U19 (λJ=>J 21=Y q) 22 (ln q) m a' W) ((ln q)+1) h ?_ ?_
 ·exact E5
 rintro m a0 W ⟨J,j,rfl,j2,j3,j4,j8,nM,qp,vw,QI,Tu,j21,ji,hi',hm,HW⟩;unfold ux
 conv=>arg 2;whnf
 rw[j2,j3,j4,j8,nM,qp,vw,QI,Tu,j21,ji];clear j2 j3 j4 j8 nM qp vw QI Tu j21 ji;have Tn:=HK.o.1.aG HW.o.1 (λhc=>by have:=ed.1 hc;have:=HK.o.2;omega);have q0:=Tn.c1;have lb:=aH q0;clear Tn;have bo:=HW.o.2.row;obtain⟨ya,yc,ey,y1,y2,ly⟩:=bo.some O;have HY:=Z ey;rw[ey]at bo q0;have d0:UJ W (G ya q)=H (lv q):=bo.cell (o:=q) O;obtain⟨κ,Ts⟩:=HW.o.2.Vg q hq;by_cases be:j<ln q
 ·have CO:ln q<=maxLen:=by obtain⟨xl,xc,el,l1,l2,ll⟩:=Ts.some O;omega
  have w2:=Us j (by unfold maxLen at*;omega);obtain⟨xl,xc,el,l1,l2,ll⟩:=Ts.some O;rw[el]at d0;have dE:=Z be;have HM:=Z hm;have HEL:=Z el;have HQ:=Z hq;generalize hL:ln q=L at*;have HL:=Z hL;clear bo Ts ey el κ hm hL;go_wp2_with fail;refine ow7 (W0:=W0) (q:=q) (j:=j) HK HQ.o (by rw[HL.o];exact dE.o) (λJ W4 j2 j3 j4 j8 nM qp vw QI Tu j21 j22 f4 s4=>?_) ⟨_,0,ux.of _ rfl,rfl,rfl,rfl,rfl,rfl,rfl,rfl,rfl,rfl,⟨rfl,rfl⟩,rfl,cK _,O,Z HW.o⟩;have H4:=Z (And.intro f4 s4);clear f4 s4 HW q0 d0 lb ly ll;have Tn:=HK.o.1.aG H4.o.1 (λhc=>by have:=ed.1 hc;have:=HK.o.2;omega);have q0:=Tn.c1;have lb:=aH q0;have bo:=H4.o.2.row;rw[HY.o]at bo q0;have ly:=bo.slice.2.2.2;have d0:UJ W4 (G ya q)=H (lv q):=bo.cell (o:=q) (by have:=HQ.o;omega);obtain⟨κ,Ts⟩:=H4.o.2.Vg q HQ.o;rw[HEL.o]at Ts d0;have ll:=Ts.slice.2.2.2;have fz:=Ts.frozen (j*2);have c0:UJ W4 (G xl (j*2))=H _:=Ts.cell (o:=j*2) (by rw[HL.o];have:=dE.o;omega);have HX:=Z (show xl∈Fx lo hi from ed.2 (H4.o.2.QQ q HQ.o xl (by rw[HEL.o];rfl)));clear Tn bo Ts;simp only[Exit.inBlock,Exit.then]
  try apply_assumption
  unfold ux;rw[j2,j3,j4,j8,nM,qp,vw,QI,Tu,j21,j22];clear j2 j3 j4 j8 nM qp vw QI Tu j21 j22;go_wp2;refine⟨_,j+1,ux.of _ rfl,rfl,rfl,rfl,rfl,rfl,rfl,rfl,rfl,rfl,rfl,?_,dE.o,by have:=HM.o;omega,Z ⟨H4.o.1.setCell (p:=(G xl (j*2))) HX.o _,H4.o.2.QR HQ.o (by rw[HL.o];exact dE.o) (by rw[HL.o];exact HEL.o) 99⟩⟩;exact EQ
 ·have e0:j=ln q:=O;subst j;obtain⟨xl,xc,el⟩:∃xl xc,lv q=to xl (ln q) xc:=by
   rcases Ts.val with⟨e,e0⟩|⟨xb,cap,e,-⟩
   ·exact⟨K7,0,by rw[e,e0]⟩
   ·exact⟨_,_,e⟩
  rw[el]at d0;generalize hL:ln q=L at*;clear bo Ts ey el κ be hL;have HH:=Z (show aA (Fx lo hi) W0 W/\wK W lo hi qv vv n nv ln tn lv tv from HW.o);go_wp2;exact Eq.mpr (bu (λa=>Q (.exit 10) a W) (ux.of _ rfl)) (d_ _ W rfl rfl rfl rfl rfl rfl rfl rfl rfl rfl HH.o.1 HH.o.2)
def ow5(HK:Hid (aF W0 sb 56 #[qv,vv]/\hi<=sb))
 (d_:∀(J:Nat->UL) W,J 2=U2->J 3=U3->J 4=U4->J 8=U8->J 10=U10->J 15=U15->J 16=U16->J 19=U19->J 20=(UI sb)->aA (Fx lo hi) W0 W->wK W lo hi qv vv n nv ln tn lv tv->Q (.exit 8) (ux J) W)
 {a0:Act} {W1:UK} (h:OWS W0 sb lo hi n nv qv vv ln tn lv tv U2 U3 U4 U8 U10 U15 U16 U19 (λJ=>True) 21 n (n+1) a0 W1):(Code.loop oL5).wp prog Q a0 W1:=by
 refine Mk.aN (λm a' W=>OWS W0 sb lo hi n nv qv vv ln tn lv tv U2 U3 U4 U8 U10 U15 U16 U19 (λJ=>True) 21 n m a' W) (n+1) h ?_ ?_
 ·exact E5
 rintro m a0 W ⟨J,q,rfl,j2,j3,j4,j8,nM,qp,vw,QI,Tu,-,ji,hi',hm,HW⟩;unfold ux
 conv=>arg 2;whnf
 rw[j2,j3,j4,j8,nM,qp,vw,QI,Tu,ji];clear j2 j3 j4 j8 nM qp vw QI Tu ji;have Tn:=HK.o.1.aG HW.o.1 (λhc=>by have:=ed.1 hc;have:=HK.o.2;omega);have q0:=Tn.c1;have lb:=aH q0;clear Tn;obtain⟨ya,yc,ey⟩:∃xl xc,qv=to xl n xc:=by
  rcases HW.o.2.row.val with⟨e,e0⟩|⟨xb,cap,e,-⟩
  ·exact⟨K7,0,by rw[e,e0]⟩
  ·exact⟨_,_,e⟩
 have HY:=Z ey;rw[ey]at q0;clear ey;by_cases be:q<n
 ·have CO:n<=maxLen:=by obtain⟨xl,xc,el,l1,l2,ll⟩:=HW.o.2.row.some O;omega
  have w2:=Us q (by unfold maxLen at*;omega);have dE:=Z be;have HM:=Z hm;clear hm;go_wp2_with fail;refine ow6 (W0:=W0) (q:=q) HK dE.o (λJ W4 j2 j3 j4 j8 nM qp vw QI Tu j21 f4 s4=>?_) ⟨_,0,ux.of _ rfl,rfl,rfl,rfl,rfl,rfl,rfl,rfl,rfl,rfl,rfl,rfl,cK _,O,Z HW.o⟩;have H4:=Z (And.intro f4 s4);clear f4 s4 HW;simp only[Exit.inBlock,Exit.then]
  try apply_assumption
  unfold ux;rw[j2,j3,j4,j8,nM,qp,vw,QI,Tu,j21];clear j2 j3 j4 j8 nM qp vw QI Tu j21;go_wp2;refine⟨_,q+1,ux.of _ rfl,rfl,rfl,rfl,rfl,rfl,rfl,rfl,rfl,rfl,trivial,?_,dE.o,by have:=HM.o;omega,Z H4.o⟩;exact MO
 ·have e0:q=n:=O;subst q;have HH:=Z (show aA (Fx lo hi) W0 W/\wK W lo hi qv vv n nv ln tn lv tv from HW.o);clear be;go_wp2;exact Eq.mpr (bu (λa=>Q (.exit 8) a W) (ux.of _ rfl)) (d_ _ W rfl rfl rfl rfl rfl rfl rfl rfl rfl HH.o.1 HH.o.2)
end
end Go.Ma
namespace aj.Vm
open Go.Ma (iP gY)
open Go.Ix (jQ)
structure kL(Ls:List (List Nat))(Fr:List Nat)(L:List (Nat×Nat))(kf:Nat->Nat)(nn:Nat):Prop where
 nd:(Ls.flatten++Fr).Nodup
 lt:∀m,m∈Ls.flatten++Fr->m<nn
 up:Fr.Pairwise (· <·)
 inj:∀a b,a∈Ls.flatten->b∈Ls.flatten->kf a=kf b->a=b
 mem:∀k m,(k,m)∈L->m∈Ls.flatten/\kf m=k
 kup:L.Pairwise (λa b=>a.1<b.1)
 len:L.length=Ls.flatten.length
 Jf:Ls.flatten.length+Fr.length=nn
def Fy{s:St}{nq n:Nat}:iP s nq n=true↔∃q,q<nq/\n∈s.a.ls q:=by unfold iP;rw[List.any_eq_true];simp
def jS{s:St}{nq n:Nat}:n∈((List.range nq).map s.a.ls).flatten↔∃q,q<nq/\n∈s.a.ls q:=by
 rw[List.mem_flatten];constructor
 ·rintro⟨l,h1,h2⟩;obtain⟨q,hq,rfl⟩:=List.mem_map.1 h1;exact⟨q,List.mem_range.1 hq,h2⟩
 ·rintro⟨q,hq,h⟩;exact⟨_,List.mem_map.2 ⟨q,List.mem_range.2 hq,rfl⟩,h⟩
def abe{s:St}{nl:Nat}(h:Wf nl s.a):∀k,k<=nl->((List.range k).map s.a.ls).flatten.Nodup:=by
 intro k
 induction k with
 |zero=>intro _;simp
 |succ k ih=>intro hk;rw[List.range_succ,List.map_append,List.flatten_append];simp only[List.map_cons,List.map_nil,List.flatten_cons,List.flatten_nil,List.append_nil];refine List.nodup_append.2 ⟨ih O,h.nd k O,λa ha b X e=>?_⟩;subst e;obtain⟨q,hq,hm⟩:=jS.1 ha;have:=h.XJ q k a O O hm X;omega
def abd{S:Sys}{p:aQ}{s:St}{L:List (Nat×Nat)}{nn:Nat}(hn:S.nq=p.bw.length)(hI:Inv S s)(hL:jQ s.f L)(be:∀q n,q<p.bw.length->n∈s.a.ls q->n<nn):
 kL ((List.range p.bw.length).map s.a.ls) (gY p s nn nn) L (λn=>(s.a.val n).key) nn:=by
 have Xj:=hI.wf;rw[hn]at Xj;have n1:=abe Xj _ (aL _);have hfm:∀m,m∈gY p s nn nn↔m<nn/\iP s p.bw.length m=false:=λm=>by unfold gY;simp
 have gP:(((List.range p.bw.length).map s.a.ls).flatten++gY p s nn nn).Nodup:=by
  refine List.nodup_append.2 ⟨n1,?_,λa ha b X e=>?_⟩
  ·unfold gY;exact List.Pairwise.filter _ List.nodup_range
  ·subst e;have h1:=(hfm a).1 X;have h2:=Fy.2 (jS.1 ha);rw[h2]at h1;exact absurd h1.2 ay
 have fQ:∀m,m∈((List.range p.bw.length).map s.a.ls).flatten++gY p s nn nn↔m∈List.range nn:=by
  intro m;rw[dV,List.mem_range,hfm];constructor
  ·rintro(h|h)
   ·obtain⟨q,hq,hm⟩:=jS.1 h;exact be q m hq hm
   ·exact h.1
  ·intro h;by_cases hh:iP s p.bw.length m=true
   ·exact .inl (jS.2 (Fy.1 hh))
   ·exact .inr ⟨h,by simpa using hh⟩
 have Dz:∀k m,(k,m)∈L↔∃q,q<p.bw.length/\m∈s.a.ls q/\(s.a.val m).key=k:=λk m=>by rw[hL.mem,hI.idx,hn]
 have QN:(L.map (·.2)).Nodup:=by refine List.pairwise_map.2 (hL.up.imp_of_mem ?_);intro a b ha X be he;obtain⟨q,-,-,h1⟩:=(Dz a.1 a.2).1 ha;obtain⟨q',-,-,h2⟩:=(Dz b.1 b.2).1 X;rw[he,h2]at h1;omega
 refine⟨gP,λm hm=>List.mem_range.1 ((fQ m).1 hm),?_,λa b ha X e=>?_,λk m h=>?_,hL.up,?_,?_⟩
 ·unfold gY;exact List.Pairwise.filter _ List.pairwise_lt_range
 ·obtain⟨q,hq,hm⟩:=jS.1 ha;obtain⟨q',Q_,iY⟩:=jS.1 X;exact hI.one O O hm iY e
 ·obtain⟨q,hq,hm,hk⟩:=(Dz k m).1 h;exact⟨jS.2 ⟨q,hq,hm⟩,hk⟩
 ·have hp:(L.map (·.2)).Perm ((List.range p.bw.length).map s.a.ls).flatten:=by
   refine(List.perm_ext_iff_of_nodup QN n1).2 λm=>?_;rw[jS,List.mem_map];constructor
   ·rintro⟨⟨k,m'⟩,h,rfl⟩;obtain⟨q,hq,hm,-⟩:=(Dz k m').1 h;exact⟨q,hq,hm⟩
   ·rintro⟨q,hq,hm⟩;exact⟨((s.a.val m).key,m),(Dz _ _).2 ⟨q,hq,hm,rfl⟩,rfl⟩
  have:=hp.length_eq;rwa[List.length_map]at this
 ·have:=((List.perm_ext_iff_of_nodup gP List.nodup_range).2 fQ).length_eq;rwa[qS,List.length_range]at this
def gF(Ls:List (List Nat))(q i:Nat):List Nat:=(Ls.take q).flatten++(Ls.getD q []).take i
section
variable {Ls:List (List Nat)}{Fr:List Nat}{L:List (Nat×Nat)}{kf:Nat->Nat}{nn:Nat}
def abc{q i:Nat}(hi:i<(Ls.getD q []).length):gF Ls q (i+1)=gF Ls q i++[(Ls.getD q []).getD i 0]:=by unfold gF;rw[List.append_assoc];congr 1;rw[List.take_add_one];congr 1;rw[aY (i:=i),fq hi];rfl
def abb{q:Nat}(hq:q<Ls.length):gF Ls q (Ls.getD q []).length=gF Ls (q+1) 0:=by unfold gF;rw[List.take_length,List.take_zero,List.append_nil,List.take_add_one,List.flatten_append];congr 1;simp[List.getD,hq]
def Bp:gF Ls Ls.length 0=Ls.flatten:=by unfold gF;simp
def wq{q i:Nat}(hq:q<Ls.length)(hi:i<(Ls.getD q []).length):∃t,Ls.flatten=gF Ls q i++(Ls.getD q []).getD i 0::t:=by
 refine⟨(Ls.getD q []).drop (i+1)++(Ls.drop (q+1)).flatten,?_⟩;have h1:Ls=Ls.take q++Ls.getD q []::Ls.drop (q+1):=by
  have e:Ls.getD q []=Ls[q]:=by simp[List.getD,hq]
  rw[e,<-qU hq,List.take_append_drop]
 have h2:Ls.getD q []=(Ls.getD q []).take i++(Ls.getD q []).getD i 0::(Ls.getD q []).drop (i+1):=by
  have e:(Ls.getD q []).getD i 0=(Ls.getD q [])[i]:=by simp only[aY (i:=i),fq hi,Option.getD_some]
  rw[e,<-qU hi,List.take_append_drop]
 conv=>lhs;rw[h1]
 rw[List.flatten_append,List.flatten_cons];unfold gF
 conv=>lhs;rw[h2]
 simp
def kL.fresh(h:kL Ls Fr L kf nn){q i:Nat}(hq:q<Ls.length)(hi:i<(Ls.getD q []).length):(Ls.getD q []).getD i 0∉gF Ls q i/\(Ls.getD q []).getD i 0<nn/\(Ls.getD q []).getD i 0∈Ls.flatten/\∀a,a∈gF Ls q i->a∈Ls.flatten:=by
 obtain⟨t,e⟩:=wq hq hi;have hm:(Ls.getD q []).getD i 0∈Ls.flatten:=by rw[e];simp
 have h1:=(List.nodup_append.1 h.nd).1;rw[e]at h1;refine⟨λhc=>(List.nodup_append.1 h1).2.2 _ hc _ ay rfl,h.lt _ (List.mem_append.2 (.inl hm)),hm,λa ha=>by rw[e];simp[ha]⟩
def kL.free(h:kL Ls Fr L kf nn){i:Nat}(hi:i<Fr.length):Fr.getD i 0∉Ls.flatten++Fr.take i/\Fr.getD i 0<nn/\(0<i->Fr.getD (i-1) 0<Fr.getD i 0):=by
 have e:Fr.getD i 0=Fr[i]:=by simp[List.getD,hi]
 have h2:Fr=Fr.take i++Fr.getD i 0::Fr.drop (i+1):=by rw[e,<-qU hi,List.take_append_drop]
 have h1:=h.nd;rw[h2,<-List.append_assoc]at h1;refine⟨?_,h.lt _ (List.mem_append.2 (.inr (by rw[e];exact jO hi))),λh0=>?_⟩
 ·intro hc;exact(List.nodup_append.1 h1).2.2 _ hc _ List.mem_cons_self rfl
 ·have e':Fr.getD (i-1) 0=Fr[i-1]:=by simp[List.getD,show i-1<Fr.length by omega]
  rw[e,e'];exact List.pairwise_iff_getElem.1 h.up _ _ _ _ O
def kL.keys(h:kL Ls Fr L kf nn){i:Nat}(hi:0<i)(hl:i<L.length):(L.map (·.1)).getD (i-1) 0<(L.map (·.1)).getD i 0:=by
 have e:(L.map (·.1)).getD i 0=L[i].1:=by simp[List.getD,hl]
 have e':(L.map (·.1)).getD (i-1) 0=L[i-1].1:=by simp[List.getD,show i-1<L.length by omega]
 rw[e,e'];exact List.pairwise_iff_getElem.1 h.kup _ _ _ _ O
end
end aj.Vm
namespace aj
open Go Go.RowKit Go.ChangeMaps Go.WideShapes
open Go.Maps (Keyed)
section
structure Typed(P:Program)(t k e:TypeId)(qk qe:IntKind):Prop where
 ht:P.underlying t=some (.map k e)
 hk:P.underlying k=some (.int qk)
 he:P.underlying e=some (.int qe)
 hz:∀w,(zeroValue e).run P w= .ok (.int qe 0) w
def Ns(q:IntKind)(x:Int):Prop:=(Lit.int q x).wf=true
def lW(P:Program)(k e:TypeId)(qk qe:IntKind)(W:World)(B:Nat)(f:Int->Option Int)(c:Nat):Prop:=
 ∃D:DataW Unit,W.ownsMap P k (plainElem P e) B c D/\Maps.size D=c/\∀x,Ns qk x->Maps.has D (.int qk x)=(f x).isSome/\∀v,f x=some v->∀z,D.atKey (.int qk x) z= .lit (.int qe v)
def QD(f:Int->Option Int)(x v:Int):Int->Option Int:=λy=>if y=x then some v else f y
variable {P:Program}{t k e:TypeId}{qk qe:IntKind}{W:World}{B c:Nat}{f:Int->Option Int}
def tight{D:DataW Unit}{R:Value->Option (DataW Unit×List MemPlace)}{n:Nat}(h:W.ownsMap P k R B n D):W.ownsMap P k R B (Maps.size D) D:=by obtain⟨es,clock,X,F,hs,rfl⟩:=h;exact⟨es,clock,X,F,by simp[Maps.size,length_sorted],rfl⟩
def isKey(qk:IntKind)(x:Int):WideAt.IsKeyLit (.int qk x):=trivial
def lW.made(W:World):lW P k e qk qe (W.alloc (.map #[] 0)) W.heap.size (λ_=>none) 0:=
 ⟨.map [],World.ownsMap_made W P k _,rfl,λx hx=>⟨rfl,λv h=>by simp at h⟩⟩
def lW.lt(h:lW P k e qk qe W B f c):B<W.heap.size:=by obtain⟨D,h,_⟩:=h;exact h.lt
def lW.q8{W':World}(h:lW P k e qk qe W B f c)(X:W'.heap[B]? =W.heap[B]?):lW P k e qk qe W' B f c:=by obtain⟨D,⟨es,clock,h1,h2⟩,r⟩:=h;exact⟨D,⟨es,clock,X.trans h1,h2⟩,r⟩
def lW.look_ok(T:Typed P t k e qk qe)(h:lW P k e qk qe W B f c){x:Int}(hx:Ns qk x):
 (Instr.lookup t (.map (some B)) (.int qk x) true).run P W= .ok (.tuple #[.int qe ((f x).getD 0),.bool (f x).isSome]) W:=by
 obtain⟨D,h,_,r⟩:=h;obtain⟨r1,r2⟩:=r x hx;obtain⟨v,a1f,wJ,hv⟩:=h.look_ok (Maps.int_keyed T.hk) T.ht (T.hz W) (plainElem_int T.he (by cases qe<;>decide)) (Maps.keyOf_int_mk T.hk hx);obtain⟨a,rfl,ha,_⟩:=plainElem_int_inv T.he hv;simp only[Prod.mk.injEq]at ha;rw[wJ,r1];cases hf:f x with
 |none=>rw[hf]at r1;have:=Maps.atKey_of_not_has r1 (.lit (.int qe 0));rw[this]at ha;have:=ha.1;simp at this;simp[this]
 |some u=>have:=r2 u hf (.lit (.int qe 0));rw[this]at ha;have:=ha.1;simp at this;simp[this]
def lW.store(T:Typed P t k e qk qe)(h:lW P k e qk qe W B f c)(hc:c<maxLen){x v:Int}(hx:Ns qk x)(hv:Ns qe v):
 ∃W',(Instr.mapUpdate t (.map (some B)) (.int qk x) (.int qe v)).run P W= .ok () W'/\lW P k e qk qe W' B (QD f x v) (if(f x).isSome then c else c+1)/\W.grownBy W' (some B)/\∀a,W'.frozen? a=W.frozen? a:=by
 obtain⟨D,h,hs,r⟩:=h;obtain⟨W',wJ,h',ht⟩:=h.store (Maps.int_keyed T.hk) T.ht hc (Maps.keyOf_int_mk T.hk hx) (plainElem_int T.he hv);have kw:=Maps.size_put (k:= .int qk x) (h.tidy (Maps.int_keyed T.hk)) (.lit (.int qe v));refine⟨W',wJ,⟨_,by have:=tight h';rw[kw,(r x hx).1,hs]at this;exact this,by rw[kw,(r x hx).1,hs],λy hy=>?_⟩,ht.grown,ht.frozen⟩;unfold QD;by_cases e1:y=x
 ·subst e1;rw[if_pos rfl];exact⟨by rw[Maps.has_put_same h.isMap (isKey _ _)];rfl,λu hu z=>by cases hu;rw[Maps.atKey_put_same h.isMap (isKey _ _)]⟩
 ·rw[if_neg e1];have bm:Lit.int qk y≠.int qk x:=λe'=>e1 (by simpa using e');exact⟨by rw[Maps.has_put_other bm];exact(r y hy).1,λu hu z=>by rw[Maps.atKey_put_other bm];exact(r y hy).2 u hu z⟩
section
variable (w:World){ops:Array Oper}{rest:List Oper}{o:Oper}{a:Act}{Q:Exit->Act->World->Prop}
def aba(hg:o.guard=none)(m x:Operand)(t:TypeId)(dW:o.op=Op.lookup t m x true)(T:Typed P t k e qk qe)(B c:Nat)(f:Int->Option Int)
 (hm:a.eval m= .map (some B)) (h:lW P k e qk qe w B f c) (key:Int) (hx:a.eval x= .int qk key) (Xj:Ns qk key)
 (hK:wpList P ops Q rest (a.put o.dst (.tuple #[.int qe ((f key).getD 0),.bool (f key).isSome])) w):wpList P ops Q (o::rest) a w:=by
 refine wpList_plain hg λK' hK'=>?_;unfold Oper.wp;simp[execOp,dW,hm,hx,h.look_ok T Xj,Result.andThen];exact hK' _ _ hK
def ku(hg:o.guard=none)(m x:Operand)(t:TypeId)(dW:o.op=Op.lookup t m x true)(T:Typed P t k e qk qe)(B c:Nat)(f:Int->Option Int)
 (hm:a.eval m= .map (some B)) (h:lW P k e qk qe w B f c) (key:Int) (hx:a.eval x= .int qk key) (Xj:Ns qk key) (v:Int) (hv:f key=some v)
 (hK:wpList P ops Q rest (a.put o.dst (.tuple #[.int qe v,.bool true])) w):wpList P ops Q (o::rest) a w:=
 aba w hg m x t dW T B c f hm h key hx Xj (by rw[hv];exact hK)
def aa9(hg:o.guard=none)(m x v:Operand)(t:TypeId)(dW:o.op=Op.mapUpdate t m x v)(T:Typed P t k e qk qe)(B c:Nat)(f:Int->Option Int)
 (hm:a.eval m= .map (some B)) (h:lW P k e qk qe w B f c) (hc:c<maxLen) (key val:Int) (hx:a.eval x= .int qk key) (hv:a.eval v= .int qe val) (Xj:Ns qk key) (hwv:Ns qe val)
 (hK:∀w',lW P k e qk qe w' B (QD f key val) (if(f key).isSome then c else c+1)->w.grownBy w' (some B)->(∀a,w'.frozen? a=w.frozen? a)->wpList P ops Q rest (a.put o.dst undef) w'):wpList P ops Q (o::rest) a w:=by
 refine wpList_plain hg λK' hK'=>?_;obtain⟨w',wJ,r1,r2,r3⟩:=h.store T hc Xj hwv;unfold Oper.wp;simp[execOp,dW,hm,hx,hv,wJ,Result.andThen];exact hK' _ _ (hK w' r1 r2 r3)
variable {F:Fence}{nF:Nat}
end
end
end aj
namespace Go.Ma
open Go.RowKit aj.Vm
open aj hiding aR an ak
def IS:Typed prog 67 46 3 .u64 .i64:=⟨underlying67,underlying46,underlying3,λw=>by kernel_rfl⟩
abbrev MI:=lW prog 46 3 .u64 .i64
def Db{k:Nat}(h:k<18446744073709551616):Ns .u64 (k:Int):=by unfold Ns;exact WalkArith.wf_u64 O
def ad6{n:Nat}(h:n<=4194304):Ns .i64 (n:Int):=by unfold Ns;exact WalkArith.wf_i64 O
def eK{w w':UK}{B:Nat}(h:w.grownBy w' (H B)):aA [B] w w':=⟨h.os,h.tape,h.output,h.size,λk hk hs=>h.block k hk (λe=>hs (by cases e;simp))⟩
section
variable {W2:UK}{sv mv a b c d:UL}{i0 lb B:Nat}{L:List (Nat×Nat)}{Q:Exit->Act->UK->Prop}
def aa8{i:Nat}(h:i<L.length):((L.map (·.1)).getD i 0,(L.map (·.2)).getD i 0)∈L:=by
 have:((L.map (·.1)).getD i 0,(L.map (·.2)).getD i 0)=L[i]:=by simp[List.getD,h]
 rw[this];exact jO h
def FD(J:Nat->UL):Act:={tmps:=#[J 0,J 1,J 2,J 3,J 4,J 5,J 6,J 7,J 8,J 9,J 10,J 11,J 12,J 13,J 14,J 15,J 16,J 17,J 18,J 19,J 20,J 21,J 22,J 23,J 24,J 25,J 26,J 27,J 28,J 29,J 30,J 31,J 32,J 33,J 34,J 35,J 36,J 37,J 38,J 39,J 40,J 41,J 42,J 43,J 44,J 45,J 46,J 47,J 48,J 49,J 50,J 51,J 52,J 53,J 54,J 55,J 56,J 57,J 58,J 59,J 60,J 61,J 62,J 63,J 64,J 65,J 66,J 67,J 68,J 69,J 70,J 71,J 72,J 73,J 74,J 75,J 76,J 77,J 78,J 79,J 80,J 81,J 82,J 83,J 84,J 85,J 86,J 87,J 88,J 89,J 90,J 91,J 92,J 93,J 94,J 95,J 96,J 97,J 98,J 99,J 100,J 101,J 102,J 103,J 104,J 105,J 106,J 107,J 108,J 109,J 110,J 111,J 112,J 113,J 114,J 115,J 116,J 117,J 118,J 119,J 120,J 121,J 122,J 123,J 124,J 125,J 126,J 127,J 128,J 129,J 130,J 131,J 132,J 133,J 134,J 135,J 136,J 137,J 138,J 139,J 140,J 141,J 142,J 143,J 144,J 145,J 146,J 147,J 148,J 149,J 150,J 151,J 152,J 153,J 154,J 155,J 156,J 157,J 158,J 159,J 160,J 161,J 162,J 163,J 164,J 165,J 166,J 167,J 168,J 169,J 170,J 171,J 172,J 173,J 174,J 175,J 176,J 177,J 178,J 179,J 180,J 181,J 182,J 183,J 184,J 185,J 186,J 187,J 188,J 189,J 190,J 191,J 192,J 193,J 194,J 195,J 196,J 197,J 198,J 199,J 200,J 201,J 202,J 203,J 204,J 205,J 206,J 207,J 208,J 209,J 210,J 211,J 212,J 213,J 214,J 215,J 216,J 217,J 218,J 219,J 220,J 221,J 222,J 223,J 224,J 225,J 226,J 227,J 228,J 229,J 230,J 231,J 232,J 233,J 234,J 235,J 236,J 237,J 238,J 239,J 240,J 241,J 242,J 243],defers:=[]}
def FD.of(A:Array UL)(h:A=(FD λk=>A.getD k undef).tmps):({tmps:=A,defers:=[]}:Act)=FD λk=>A.getD k undef:=by rw[h];rfl
noncomputable def ld1:Code:=Mk.iS Proofs.Tryz.f25.body 0
noncomputable def ld2:Code:=Mk.iS Proofs.Tryz.f25.body 1
noncomputable def ld3:Code:=Mk.iS (H ld2) 0
noncomputable def ld4:Code:=Mk.iS Proofs.Tryz.f25.body 2
noncomputable def ld5:Code:=Mk.iS Proofs.Tryz.f25.body 3
structure LD(W:UK)(T:List Nat)(bl bs:Nat)(aa ba ca da qa:Option Addr)(ac bc cc dc qc:Nat)(vv:UL)(Ls:List (List Nat))(Fr:List Nat)(L:List (Nat×Nat))(kf:Nat->Nat)(lo h1 h2 hi hj:Nat)(lv lw:Nat->UL)(tw:Nat->Nat->UL)(Qs:List (List PE)):Prop where
 kl:aF W bl 52 #[to aa Ls.length ac,to ba Fr.length bc,to ca L.length cc,to da L.length dc]
 ks:aF W bs 56 #[to qa Ls.length qc,vv]
 la:mj W lo h1 h2 hi (to aa Ls.length ac) (to ba Fr.length bc) (to ca L.length cc) (to da L.length dc) ⟨Ls,Fr,L.map (·.1),iH (L.map (·.2))⟩ lv
 qs:uY W lo hj (to qa Ls.length qc) Qs lw tw
 ql:Qs.length=Ls.length
 qn:∀q,q<Ls.length->(Qs.getD q []).length=(Ls.getD q []).length
 qk:∀q i,q<Ls.length->i<(Ls.getD q []).length->((Qs.getD q []).getD i ⟨0,[]⟩).key=kf ((Ls.getD q []).getD i 0)
 t:∀x,x∈T->hi<=x/\hj<=x/\x≠bl/\x≠bs
variable {W W':UK}{T:List Nat}{bl bs:Nat}{aa ba ca da qa:Option Addr}{ac bc cc dc qc:Nat}{vv:UL}{Ls:List (List Nat)}{Fr:List Nat}{kf:Nat->Nat}{lo h1 h2 hi hj:Nat}{lv lw:Nat->UL}{tw:Nat->Nat->UL}{Qs:List (List PE)}
def LD.aG(h:LD W T bl bs aa ba ca da qa ac bc cc dc qc vv Ls Fr L kf lo h1 h2 hi hj lv lw tw Qs)(f:aA T W W'):LD W' T bl bs aa ba ca da qa ac bc cc dc qc vv Ls Fr L kf lo h1 h2 hi hj lv lw tw Qs:=
 ⟨h.kl.aG f (λhc=>(h.t _ hc).2.2.1 rfl),h.ks.aG f (λhc=>(h.t _ hc).2.2.2 rfl),h.la.off f (oF.range λb X=> .inr (h.t b X).1),h.qs.off f (oF.range λb X=> .inr (h.t b X).2.1),h.ql,h.qn,h.qk,h.t⟩
def LD.at_(h:LD W T bl bs aa ba ca da qa ac bc cc dc qc vv Ls Fr L kf lo h1 h2 hi hj lv lw tw Qs){q:Nat}(hq:q<Ls.length):∃xa ya ua la va wa lc wc,aa=H (G xa 0)/\qa=H (G ya 0)/\UJ W (G xa q)=H (to la (Ls.getD q []).length lc)/\UJ W (G ya q)=H (to wa (Ls.getD q []).length wc)/\ua=0/\va=0/\xa<W.heap.size/\ya<W.heap.size/\
 (Ls.getD q []).length<=maxLen/\∀i,i<(Ls.getD q []).length->∃xl xw,la=H (G xl 0)/\wa=H (G xw 0)/\UJ W (G xl i)=H (Y ((Ls.getD q []).getD i 0:Nat))/\UJ W (G xw (i*2))=H (.int .u64 (kf ((Ls.getD q []).getD i 0):Nat)):=by
 have r1:Row W 24 1 (to aa Ls.length ac) Ls.length lv:=h.la.ls.row;have r2:=h.qs.row;rw[h.ql]at r2;obtain⟨xa,xc,ea,-,-,l1⟩:=r1.some (Nat.lt_of_le_of_lt (cK q) hq);obtain⟨ya,yc,eb,-,-,l2⟩:=r2.some (Nat.lt_of_le_of_lt (cK q) hq);simp only[cM]at ea eb;obtain⟨rfl,-,rfl⟩:=ea;obtain⟨rfl,-,rfl⟩:=eb;have c1:=r1.cell (o:=q) O;have c2:=r2.cell (o:=q) O;have i1:Row W 3 1 (lv q) (iH (Ls.getD q [])).length (aX (iH (Ls.getD q []))):=(h.la.ls.q q hq).row;have i2:=(h.qs.q q (by rw[h.ql];exact hq)).row;rw[fV]at i1;rw[h.qn q hq]at i2;obtain⟨la,lc,e1,m1,m2⟩:=iW i1;obtain⟨wa,wc,e2,m2,-⟩:=iW i2;rw[e1]at c1 i1;rw[e2]at c2 i2;refine⟨xa,ya,0,la,0,wa,lc,wc,rfl,rfl,c1,c2,rfl,rfl,l1,l2,O,λi hi=>?_⟩;obtain⟨xl,lc',e3,-,-,-⟩:=i1.some O;obtain⟨xw,wc',e4,-,-,-⟩:=i2.some O;simp only[cM]at e3 e4;obtain⟨rfl,-,rfl⟩:=e3;obtain⟨rfl,-,rfl⟩:=e4;have d1:=i1.cell (o:=i) O;have d2:=i2.cell (o:=i*2) O;unfold aX at d1;rw[rA]at d1;unfold RE at d2;rw[bk O,show i*2 / 2=i by omega,h.qk q i hq hi]at d2;exact⟨xl,xw,rfl,rfl,d1,d2⟩
def SM(V W:UK)(sb B nn:Nat)(kf:Nat->Nat)(D:List Nat):Prop:=aA [sb,B] V W/\Row W 4 1 (to (H (G sb 0)) nn nn) nn (λj=> .bool (decide (j∈D)))/\∃f c,MI W B f c/\c<=D.length/\∀m,m∈D->f (kf m)=H (m:Int)
def SM.drewN{V W:UK}{sb B nn:Nat}{D:List Nat}(h:SM V W sb B nn kf D)(k:Nat):SM V (W.drewN k) sb B nn kf D:=⟨h.1.drewN k,h.2.1.drewN k,h.2.2⟩
end
section
variable {W0:UK}{Q:Exit->Act->UK->Prop}{x4 x5 gv qv:UL}{bc:Nat}{p:aQ}{c:Cp}
open Vf (oz qh)
def Kt(h:ow p c)(hg:p.bw.length<=16){k:Nat}(hk:k<=p.bw.length):oz p c k<=16777216/\qh p c k<=16777216:=by
 have key:∀f:Nat->Nat,(∀i,i<k->f i<=1048576)->cT k f<=16777216:=λf hf=>cU (sP k f hf) O;constructor
 ·refine key _ λi hi=>?_;have:=h.q1 i O;split<;>omega
 ·refine key _ λi hi=>?_;have:=h.q1 i O;split<;>omega
def D1(W0:UK)(x4 x5 gv:UL)(bc:Nat)(p:aQ)(c:Cp)(m:Nat)(a:Act)(W:UK):Prop:=∃(J:Nat->UL) (i:Nat),a=FD J/\J 2=gv/\J 4=x4/\J 5=x5/\J 7=UI bc/\J 9=Y (oz p c i:Nat)/\J 10=Y (qh p c i:Nat)/\J 11=Y i/\i<=p.bw.length/\m+i=p.bw.length+1/\W=W0
def aa7(hg:Vf.aZ W0 1 gv p.bw.length (λi=> .bool (p.bw.getD i false)))(hq:Vf.aZ W0 1 qv c.aK.length (aX c.aK))(X:aF W0 bc 29 #[Y c.size,qv])(hC:ow p c)(zt:p.bw.length<=16)
 (d_:∀(J:Nat->UL),J 4=x4->J 5=x5->J 7=UI bc->J 9=Y (oz p c p.bw.length:Nat)->J 10=Y (qh p c p.bw.length:Nat)->Q (.exit 0) (FD J) W0)
 {a:Act} {W:UK} (h0:D1 W0 x4 x5 gv bc p c (p.bw.length+1) a W):(Code.loop ld1).wp prog Q a W:=by
 obtain⟨ga,gc,rfl,-,-⟩:=hg.val;obtain⟨qa,qc,rfl,-,-⟩:=hq.val;have Ge:=Z hg;have HQR:=Z hq;clear hg hq;refine Mk.aN (λm a W=>D1 W0 x4 x5 (to ga p.bw.length gc) bc p c m a W) (p.bw.length+1) h0 ?_ ?_
 ·exact T0
 rintro m a0 W ⟨J,i,rfl,j2,j4,j5,j7,j9,nM,oG,hi,hm,rfl⟩;unfold FD
 conv=>arg 2;whnf
 rw[j2,j4,j5,j7,j9,nM,oG];clear j2 j4 j5 j7 j9 nM oG;by_cases be:i<p.bw.length
 ·have w2:=mO i O;have k1:UJ W (G bc 1)=H (to qa c.aK.length qc):=X.cell 1;have lb:=X.lt;have BA:=hC.len;obtain⟨gb,go,gc',e1,-,-,lg,hcg⟩:=Ge.o.some O O;obtain⟨qb,aa1,qc',e2,-,-,a1g,F_⟩:=HQR.o.some O O;simp only[cM]at e1 e2;obtain⟨rfl,-,rfl⟩:=e1;obtain⟨rfl,-,rfl⟩:=e2;have c0:UJ W (G gb (go+i))=H (.bool (p.bw.getD i false)):=hcg i O;have c1:UJ W (G qb (aa1+i))=H (Y (c.aK.getD i 0)):=F_ i O;obtain⟨r1,r2⟩:=Kt hC zt (k:=i) O;have xN:=hC.q1 i be;have eR:oz p c (i+1)=oz p c i+(if p.bw.getD i false then 0 else(c.aK.getD i 0).toNat):=rfl;have eG:qh p c (i+1)=qh p c i+(if p.bw.getD i false then(c.aK.getD i 0).toNat else 0):=rfl;have dE:=Z be;have JG:0<=(i:Int):=O;have Bj:(i:Int)<(c.aK.length:Int):=O;have xZ:(i:Int)<(p.bw.length:Int):=O;have Dq:(i:Int).toNat=i:=O;generalize c.aK.getD i 0=z at*;generalize oz p c i=R at*;generalize qh p c i=a0d at*;have w3:IntKind.i64.wrap ((R:Int)+z)=(R:Int)+z:=bJ _ lI;have w4:IntKind.i64.wrap ((a0d:Int)+z)=(a0d:Int)+z:=bJ _ lI;have HR:=Z eR;have HG:=Z eG;have HZ:=Z xN;clear eR eG xN r1 r2 hcg F_;cases M7:p.bw.getD i false with
  |true=>
   have H1:=HR.o;have H2:=HG.o;rw[M7]at c0 H1 H2;rw[bk rfl]at H1 H2;have HH:=Z (show _/\_ from⟨H1,H2⟩);clear H1 H2;go_wp2;refine⟨_,i+1,FD.of _ rfl,rfl,rfl,rfl,rfl,?_,?_,?_,dE.o,O,rfl⟩
   ·rw[HH.o.1];rfl
   ·refine bu (Value.int .i64) ?_;rw[HH.o.2];have:=HZ.o;omega
   ·exact QC
  |false=>
   have H1:=HR.o;have H2:=HG.o;rw[M7]at c0 H1 H2;rw[aw bd]at H1 H2;have HH:=Z (show _/\_ from⟨H1,H2⟩);clear H1 H2;go_wp2;refine⟨_,i+1,FD.of _ rfl,rfl,rfl,rfl,rfl,?_,?_,?_,dE.o,O,rfl⟩
   ·refine bu (Value.int .i64) ?_;rw[HH.o.1];have:=HZ.o;omega
   ·rw[HH.o.2];rfl
   ·exact QC
 ·obtain rfl:i=p.bw.length:=O;clear be;go_wp2;exact Eq.mpr (bu (λa=>Q (.exit 0) a W) (FD.of _ rfl)) (d_ (λk=>Array.getD _ k undef) rfl rfl rfl rfl rfl)
end
section
variable {V:UK}{Q:Exit->Act->UK->Prop}{bl bs sb B nn:Nat}{aa ba ca da qa:Option Addr}{ac bc cc dc qc:Nat}{vv:UL}{Ls:List (List Nat)}{Fr:List Nat}{L:List (Nat×Nat)}{kf:Nat->Nat}{lo h1 h2 hi hj:Nat}{lv lw:Nat->UL}{tw:Nat->Nat->UL}{Qs:List (List PE)}
def SM.put{W W1 W2:UK}{D:List Nat}{x:Nat}{f:Int->Option Int}{cn:Nat}(bm:sb≠B)(h1:aA [sb,B] V W)(hf:aA [sb] W W1)(hr:Row W1 4 1 (to (H (G sb 0)) nn nn) nn (λj=>if j=x then .bool true else .bool (decide (j∈D))))
 (hm:MI W2 B (QD f (kf x) x) (if(f (kf x)).isSome then cn else cn+1)) (hg:W1.grownBy W2 (H B)) (hc:cn<=D.length) (X0:∀m,m∈D->f (kf m)=H (m:Int)) (hk:∀m,m∈D->kf m≠kf x):SM V W2 sb B nn kf (D++[x]):=by
 have hg':=eK hg;refine⟨(h1.trans (hf.mono ay)).trans (hg'.mono ay),?_,_,_,hm,?_,λm iY=>?_⟩
 ·refine(hr.aG hg' (λb X=>?_)).congr λj _=>?_
  ·simp[Value.ownBlock]at X;subst X;simpa using bm
  ·by_cases e:j=x
   ·rw[bk e];simp[e]
   ·rw[aw e];simp[e]
 ·rw[qS,E0];split<;>omega
 ·unfold QD;rcases List.mem_append.1 iY with h|h
  ·rw[aw (by have:=hk m h;omega)];exact X0 m h
  ·simp at h;subst h;rw[bk rfl]
def D3(V:UK)(bl bs sb B nn:Nat)(kf:Nat->Nat)(Ls:List (List Nat))(q:Nat)(m:Nat)(a:Act)(W:UK):Prop:=∃(J:Nat->UL) (i:Nat),a=FD J/\J 4=UI bl/\J 5=UI bs/\J 10=Y nn/\J 12=to (H (G sb 0)) nn nn/\J 13= .map (H B)/\J 14=Y (gF Ls q i).length/\J 15=Y q/\J 16=Y i/\i<=(Ls.getD q []).length/\m+i=(Ls.getD q []).length+1/\Hid (SM V W sb B nn kf (gF Ls q i))
def ad5(HL:kL Ls Fr L kf nn){q i:Nat}(hq:q<Ls.length)(hi:i<(Ls.getD q []).length):(gF Ls q i).length<nn:=by obtain⟨t,e⟩:=wq hq hi;have h1:=HL.Jf;have:=bu List.length e;simp only[qS,List.length_cons]at this;omega
def ad4(HD:Hid (LD V [sb,B] bl bs aa ba ca da qa ac bc cc dc qc vv Ls Fr L kf lo h1 h2 hi hj lv lw tw Qs))(HL:Hid (kL Ls Fr L kf nn))(HK:Hid (∀m,m∈Ls.flatten->kf m<18446744073709551616))(hn:nn<=4194304)(bm:sb≠B){q:Nat}(hq:q<Ls.length)
 (d_:∀(J:Nat->UL) W,J 4=UI bl->J 5=UI bs->J 10=Y nn->J 12=to (H (G sb 0)) nn nn->J 13= .map (H B)->J 14=Y (gF Ls q (Ls.getD q []).length).length->J 15=Y q->SM V W sb B nn kf (gF Ls q (Ls.getD q []).length)->Q (.exit 4) (FD J) W)
 {a:Act} {W:UK} (h0:D3 V bl bs sb B nn kf Ls q ((Ls.getD q []).length+1) a W):(Code.loop ld3).wp prog Q a W:=by
 refine Mk.aN (λm a W=>D3 V bl bs sb B nn kf Ls q m a W) ((Ls.getD q []).length+1) h0 ?_ ?_
 ·rintro a W ⟨J,i,-,-,-,-,-,-,-,-,-,h1,h2,-⟩;omega
 rintro m a0 W ⟨J,i,rfl,j4,j5,nM,pn,rJ,lY,qp,vw,hi,hm,HW⟩;unfold FD
 conv=>arg 2;whnf
 rw[j4,j5,nM,pn,rJ,lY,qp,vw];clear j4 j5 nM pn rJ lY qp vw;have Ku:=Z (HD.o.aG HW.o.1);obtain⟨xa,ya,ua,la,va,wa,lc,wc,rfl,rfl,c1,c2,-,-,l1,l2,Dz,gU⟩:=Ku.o.at_ hq;have HC:=Z gU;clear gU;have k0:=Ku.o.kl.c1;have lb:=Ku.o.kl.lt;have JG:0<=(q:Int):=O;have Bj:(q:Int)<(Ls.length:Int):=O;by_cases be:i<(Ls.getD q []).length
 ·obtain⟨xl,xw,rfl,rfl,d1,d2⟩:=HC.o i be;have w2:IntKind.i64.wrap ((i:Int)+1)=((i+1:Nat):Int):=by unfold maxLen at Dz;rw[bJ _ lI];omega
  obtain⟨f1,f2,f3,f4⟩:=HL.o.fresh hq be;have f5:=ad5 HL.o hq be;have w3:IntKind.i64.wrap (((gF Ls q i).length:Int)+1)=(((gF Ls q i).length+1:Nat):Int):=by rw[bJ _ lI];omega
  obtain⟨-,bo,f,cn,L6,Rh,X0⟩:=HW.o;have s0:UJ W (G sb ((Ls.getD q []).getD i 0))=H (.bool false):=by have:=bo.cell (o:=(Ls.getD q []).getD i 0) O;rwa[decide_eq_false f1]at this
  have ls:=(fE bo sb rfl).2;have fz:=Row.frozen bo ((Ls.getD q []).getD i 0);have E7:=Z (show aA [sb] W (W.setCell (G sb ((Ls.getD q []).getD i 0)) (.bool true))from(aA.refl [sb] W).setCell ay _);have Dk:=Z (bo.set (o:=(Ls.getD q []).getD i 0) O (.bool true));have Dn:=Z (show MI (W.setCell (G sb ((Ls.getD q []).getD i 0)) (.bool true)) B f cn from lW.q8 L6 (E7.o.block _ (lW.lt L6) (by simpa using Ne.symm bm)));have Nq:=Ku.o.aG (E7.o.mono ay);have y0:(W.setCell (G sb ((Ls.getD q []).getD i 0)) (.bool true)).cell? (G bs 0)=H (to (H (G ya 0)) Ls.length qc):=Nq.ks.cell 0;have lbs:=Nq.ks.lt;obtain⟨xa1,ya1,-,la1,-,wa1,lc1,wc1,e1,e2,-,y1,-,-,-,l3,-,QM⟩:=Nq.at_ hq;obtain rfl:ya1=ya:=by simpa using e2.symm
  obtain⟨xl1,xw1,-,rfl,-,y2⟩:=QM i be;have l4:=aH y2;clear QM Nq e1 e2;have HFD:=Z X0;have Qb:=Z (HK.o _ f3);have sU:=Z (show∀m,m∈gF Ls q i->kf m≠kf ((Ls.getD q []).getD i 0)from λm hm e=>f1 (by rw[<-HL.o.inj _ _ (f4 m hm) f3 e];exact hm));have lN:=Z (abc (Ls:=Ls) be);have dE:=Z be;have M0:=Z f2;have sg:=Z HW.o.1;have HCN:=Z Rh;have Og:=Z f5;clear bo L6 X0 f1 f3 f4 HC Rh;generalize(Ls.getD q []).getD i 0=x at*;generalize gF Ls q i=D at*;generalize hqn:(Ls.getD q []).length=nq at*;have Z5:=Z hqn;clear hqn;have Kh:decide ((x:Int)<0)=false:=decide_eq_false O;have uU:decide ((nn:Int)<=(x:Int))=false:=decide_eq_false O;have GO:0<=(x:Int):=O;have hx4:(x:Int)<(nn:Int):=O;have nQ:0<=(i:Int):=O;have qm:(i:Int)<(nq:Int):=O;have ZK:(i:Int).toNat=i:=O;have hz4:(x:Int).toNat=x:=O;have lxl:=aH d1;clear f2 f5 d2 c2 l2 Dz;go_wp2_with (refine aa9 _ rfl _ _ _ _ rfl IS B cn f rfl (lW.q8 Dn.o rfl) (by have:=HCN.o;have:=Og.o;unfold maxLen;omega) (kf x) x rfl rfl (Db Qb.o) (ad6 (by have:=M0.o;omega)) (λw' r1 r2 r3=>?_));rename_i w' r1 r2 r3;have sR:=Z (show _/\_ from⟨r1,r2⟩);clear r1 r2 r3 y0 y1 y2 lbs l3 l4 fz s0;go_wp2;refine⟨_,i+1,FD.of _ rfl,rfl,rfl,rfl,rfl,rfl,?_,rfl,?_,by rw[Z5.o];exact dE.o,by rw[Z5.o];omega,?_⟩
  ·rw[lN.o];refine bu (Value.int .i64) ?_;simp
  ·exact QC
  ·rw[lN.o];exact Z (SM.put bm sg.o E7.o Dk.o sR.o.1 sR.o.2 HCN.o HFD.o sU.o)
 ·obtain rfl:i=(Ls.getD q []).length:=O;have HS:=Z HW.o;clear be HC;generalize hqn:(Ls.getD q []).length=nq at*;clear Dz hqn;go_wp2;exact Eq.mpr (bu (λa=>Q (.exit 4) a W) (FD.of _ rfl)) (d_ (λk=>Array.getD _ k undef) W rfl rfl rfl rfl rfl rfl rfl HS.o)
def D2(V:UK)(bl bs sb B nn:Nat)(kf:Nat->Nat)(Ls:List (List Nat))(m:Nat)(a:Act)(W:UK):Prop:=∃(J:Nat->UL) (q:Nat),a=FD J/\J 4=UI bl/\J 5=UI bs/\J 10=Y nn/\J 12=to (H (G sb 0)) nn nn/\J 13= .map (H B)/\J 14=Y (gF Ls q 0).length/\J 15=Y q/\q<=Ls.length/\m+q=Ls.length+1/\Hid (SM V W sb B nn kf (gF Ls q 0))
def ad3(HD:Hid (LD V [sb,B] bl bs aa ba ca da qa ac bc cc dc qc vv Ls Fr L kf lo h1 h2 hi hj lv lw tw Qs))(HL:Hid (kL Ls Fr L kf nn))(HK:Hid (∀m,m∈Ls.flatten->kf m<18446744073709551616))(hn:nn<=4194304)(bm:sb≠B)(oC:Ls.length<=16)
 (d_:∀(J:Nat->UL) W,J 4=UI bl->J 5=UI bs->J 10=Y nn->J 12=to (H (G sb 0)) nn nn->J 13= .map (H B)->J 14=Y Ls.flatten.length->SM V W sb B nn kf Ls.flatten->Q (.exit 2) (FD J) W)
 {a:Act} {W:UK} (h0:D2 V bl bs sb B nn kf Ls (Ls.length+1) a W):(Code.loop ld2).wp prog Q a W:=by
 refine Mk.aN (λm a W=>D2 V bl bs sb B nn kf Ls m a W) (Ls.length+1) h0 ?_ ?_
 ·exact T0
 rintro m a0 W ⟨J,q,rfl,j4,j5,nM,pn,rJ,lY,qp,hi,hm,HW⟩;unfold FD
 conv=>arg 2;whnf
 rw[j4,j5,nM,pn,rJ,lY,qp];clear j4 j5 nM pn rJ lY qp;have Ku:=Z (HD.o.aG HW.o.1);have k0:=Ku.o.kl.c1;have lb:=Ku.o.kl.lt;by_cases be:q<Ls.length
 ·have w2:=mO q O;have m0:=Ku.o.ks.c1;have lbs:=Ku.o.ks.lt;obtain⟨xa,ya,ua,la,va,wa,lc,wc,rfl,rfl,c1,c2,-,-,l1,l2,Dz,-⟩:=Ku.o.at_ be;have JG:0<=(q:Int):=O;have Bj:(q:Int)<(Ls.length:Int):=O;have dE:=Z be;have GU:=Z (abb be);go_wp2;go_quiet (fail);go_wp2_with fail;refine ad4 HD HL HK hn bm be (λJ W1 j4 j5 nM pn rJ lY qp Ri=>?_) ⟨_,0,FD.of _ rfl,rfl,rfl,rfl,rfl,rfl,rfl,rfl,rfl,cK _,O,Z (by first|exact HW.o|exact HW.o.drewN _)⟩;simp only[Exit.inBlock,Exit.then]
  apply_assumption
  have Dx:=Z Ri;clear Ri k0 lb m0 lbs c1 c2 l1 l2;have HJ:=Z lY;clear lY;unfold FD;rw[j4,j5,nM,pn,rJ,qp];clear j4 j5 nM pn rJ qp;go_wp2;refine⟨_,q+1,FD.of _ rfl,rfl,rfl,rfl,rfl,rfl,?_,?_,dE.o,O,?_⟩
  ·rw[<-GU.o,<-HJ.o];rfl
  ·exact MO
  ·rw[<-GU.o];exact Dx
 ·obtain rfl:q=Ls.length:=O;have HS:=Z HW.o;clear be;rw[Bp]at HS;rw[Bp];have HO:=Z d_;clear d_;generalize hfl:Ls.flatten.length=fl at*;clear hfl;go_wp2;exact Eq.mpr (bu (λa=>Q (.exit 2) a W) (FD.of _ rfl)) (HO.o (λk=>Array.getD _ k undef) W rfl rfl rfl rfl rfl rfl HS.o)
def SE(V W:UK)(sb B nn:Nat)(kf:Nat->Nat)(D E:List Nat):Prop:=aA [sb,B] V W/\Row W 4 1 (to (H (G sb 0)) nn nn) nn (λj=> .bool (decide (j∈D++E)))/\∃f c,MI W B f c/\∀m,m∈D->f (kf m)=H (m:Int)
def SM.ad2{W:UK}{D:List Nat}(h:SM V W sb B nn kf D):SE V W sb B nn kf D []:=⟨h.1,h.2.1.congr λj _=>by simp,by obtain⟨f,c,h1,-,h2⟩:=h.2.2;exact⟨f,c,h1,h2⟩⟩
def SE.put{W:UK}{D E:List Nat}{x:Nat}(bm:sb≠B)(h:SE V W sb B nn kf D E)(hx:x<nn):SE V (W.setCell (G sb x) (.bool true)) sb B nn kf D (E++[x]):=by
 obtain⟨h1,h2,f,c,h3,h4⟩:=h;have hf:aA [sb] W (W.setCell (G sb x) (.bool true)):=(aA.refl [sb] W).setCell ay _;refine⟨h1.trans (hf.mono ay),(h2.set (o:=x) O (.bool true)).congr λj _=>?_,f,c,lW.q8 h3 (hf.block _ (lW.lt h3) (by simpa using Ne.symm bm)),h4⟩;by_cases e:j=x
 ·rw[bk e];simp[e]
 ·rw[aw e];simp[e]
def D4(V:UK)(bl bs sb B nn k:Nat)(kf:Nat->Nat)(D:List Nat)(Fr:List Nat)(m:Nat)(a:Act)(W:UK):Prop:=∃(J:Nat->UL) (i:Nat),a=FD J/\J 4=UI bl/\J 5=UI bs/\J 10=Y nn/\J 12=to (H (G sb 0)) nn nn/\J 13= .map (H B)/\J 14=Y k/\J 18=Y i/\i<=Fr.length/\m+i=Fr.length+1/\Hid (SE V W sb B nn kf D (Fr.take i))
def ad1{k:Nat}(HD:Hid (LD V [sb,B] bl bs aa ba ca da qa ac bc cc dc qc vv Ls Fr L kf lo h1 h2 hi hj lv lw tw Qs))(HL:Hid (kL Ls Fr L kf nn))(hn:nn<=4194304)(bm:sb≠B)
 (d_:∀(J:Nat->UL) W,J 4=UI bl->J 5=UI bs->J 10=Y nn->J 12=to (H (G sb 0)) nn nn->J 13= .map (H B)->J 14=Y k->SE V W sb B nn kf Ls.flatten Fr->Q (.exit 6) (FD J) W)
 {a:Act} {W:UK} (h0:D4 V bl bs sb B nn k kf Ls.flatten Fr (Fr.length+1) a W):(Code.loop ld4).wp prog Q a W:=by
 refine Mk.aN (λm a W=>D4 V bl bs sb B nn k kf Ls.flatten Fr m a W) (Fr.length+1) h0 ?_ ?_
 ·exact T0
 rintro m a0 W ⟨J,i,rfl,j4,j5,nM,pn,rJ,lY,j18,hi,hm,HW⟩;unfold FD
 conv=>arg 2;whnf
 rw[j4,j5,nM,pn,rJ,lY,j18];clear j4 j5 nM pn rJ lY j18;have Ku:=Z (HD.o.aG HW.o.1);have k1:UJ W (G bl 1)=H (to ba Fr.length bc):=Ku.o.kl.cell 1;have lb:=Ku.o.kl.lt;by_cases be:i<Fr.length
 ·have tp:Row W 3 1 (to ba Fr.length bc) (iH Fr).length (aX (iH Fr)):=Ku.o.la.fr.row;rw[fV]at tp;obtain⟨fb,fc,e,f1,f2,lf⟩:=tp.some O;simp only[cM]at e;obtain⟨rfl,-,rfl⟩:=e;have c1:UJ W (G fb i)=H (Y (Fr.getD i 0:Nat)):=by have:=tp.cell (o:=i) O;unfold aX at this;rwa[rA]at this
  have w2:IntKind.i64.wrap ((i:Int)+1)=((i+1:Nat):Int):=by unfold maxLen at f2;rw[bJ _ lI];omega
  have w3:IntKind.i64.wrap ((i:Int) - 1)=(i:Int) - 1:=by unfold maxLen at f2;rw[bJ _ lI]
  obtain⟨g1,g2,g3⟩:=HL.o.free be;have bo:=HW.o.2.1;have s0:UJ W (G sb (Fr.getD i 0))=H (.bool false):=by have:=bo.cell (o:=Fr.getD i 0) O;rwa[decide_eq_false g1]at this
  have fz:=Row.frozen bo (Fr.getD i 0);have ls:=(fE bo sb rfl).2;have HSE:=Z (HW.o.put bm g2);have Js:=Z (show Fr.take (i+1)=Fr.take i++[Fr.getD i 0]by rw[List.take_add_one,aY,fq be];rfl);have dE:=Z be;have nQ:0<=(i:Int):=O;have qm:(i:Int)<(Fr.length:Int):=O;have ZK:(i:Int).toNat=i:=O;have M0:=Z g2;by_cases Nf:i=0
  ·subst Nf;clear g1 g2 g3 tp bo f1 f2;generalize Fr.getD 0 0=x at*;have GO:0<=(x:Int):=O;have hx4:(x:Int)<(nn:Int):=by have:=M0.o;omega
   have hz4:(x:Int).toNat=x:=O;go_wp2;refine⟨_,0+1,FD.of _ rfl,rfl,rfl,rfl,rfl,rfl,rfl,?_,dE.o,O,?_⟩
   ·rfl
   ·rw[Js.o];exact HSE
  ·have c2:UJ W (G fb (i-1))=H (Y (Fr.getD (i-1) 0:Nat)):=by have:=tp.cell (o:=i-1) O;unfold aX at this;rwa[rA]at this
   have g4:=g3 O;have hgt:(0:Int)<(i:Int):=O;have hz5:0<=(i:Int) - 1:=O;have hz6:(i:Int) - 1<(Fr.length:Int):=O;have hz7:((i:Int) - 1).toNat=i-1:=O;clear g1 g2 g3 tp bo f1 f2;generalize Fr.getD i 0=x at*;generalize Fr.getD (i-1) 0=y at*;have GO:0<=(x:Int):=O;have hx4:(x:Int)<(nn:Int):=by have:=M0.o;omega
   have hz4:(x:Int).toNat=x:=O;go_wp2;refine⟨_,i+1,FD.of _ rfl,rfl,rfl,rfl,rfl,rfl,rfl,?_,dE.o,O,?_⟩
   ·exact QC
   ·rw[Js.o];exact HSE
 ·obtain rfl:i=Fr.length:=O;have HS:=Z HW.o;rw[List.take_length]at HS;clear be;go_wp2;exact Eq.mpr (bu (λa=>Q (.exit 6) a W) (FD.of _ rfl)) (d_ (λk=>Array.getD _ k undef) W rfl rfl rfl rfl rfl rfl HS.o)
end
open Vf (oz qh)
section
variable {V:UK}{Q:Exit->Act->UK->Prop}{bl bs sb B nn:Nat}{aa ba ca da qa:Option Addr}{ac bc cc dc qc:Nat}{vv:UL}{Ls:List (List Nat)}{Fr:List Nat}{L:List (Nat×Nat)}{kf:Nat->Nat}{lo h1 h2 hi hj:Nat}{lv lw:Nat->UL}{tw:Nat->Nat->UL}{Qs:List (List PE)}
def D5(V:UK)(bl B nn k:Nat)(n:Nat)(m:Nat)(a:Act)(W:UK):Prop:=∃(J:Nat->UL) (i:Nat),a=FD J/\J 4=UI bl/\J 10=Y nn/\J 13= .map (H B)/\J 14=Y k/\J 20=Y i/\i<=n/\m+i=n+1/\Hid (∃d,W=V.drewN d)
def aa0{k:Nat}{f:Int->Option Int}{cn:Nat}(HD:Hid (LD V [sb,B] bl bs aa ba ca da qa ac bc cc dc qc vv Ls Fr L kf lo h1 h2 hi hj lv lw tw Qs))(HL:Hid (kL Ls Fr L kf nn))(HM:Hid (MI V B f cn))(HF:Hid (∀m,m∈Ls.flatten->f (kf m)=H (m:Int)))(HK:Hid (∀m,m∈Ls.flatten->kf m<18446744073709551616))(hn:nn<=4194304)
 (d_:∀(J:Nat->UL) W,J 4=UI bl->J 10=Y nn->J 13= .map (H B)->J 14=Y k->(∃d,W=V.drewN d)->Q (.exit 8) (FD J) W)
 {a:Act} {W:UK} (h0:D5 V bl B nn k L.length (L.length+1) a W):(Code.loop ld5).wp prog Q a W:=by
 refine Mk.aN (λm a W=>D5 V bl B nn k L.length m a W) (L.length+1) h0 ?_ ?_
 ·exact TR
 rintro m a0 W ⟨J,i,rfl,j4,nM,rJ,lY,Tu,hi,hm,HW⟩;obtain⟨d,rfl⟩:=HW.o;unfold FD
 conv=>arg 2;whnf
 rw[j4,nM,rJ,lY,Tu];clear j4 nM rJ lY Tu;have k2:UJ V (G bl 2)=H (to ca L.length cc):=HD.o.kl.cell 2;have lb:=HD.o.kl.lt;by_cases be:i<L.length
 ·have k3:UJ V (G bl 3)=H (to da L.length dc):=HD.o.kl.cell 3;have Gs:Row V 46 1 (to ca L.length cc) (L.map (·.1)).length (pU (L.map (·.1))):=HD.o.la.ks.row;have VE:Row V 3 1 (to da L.length dc) (iH (L.map (·.2))).length (aX (iH (L.map (·.2)))):=HD.o.la.ns.row;rw[List.length_map]at Gs;rw[fV,List.length_map]at VE;obtain⟨xa,xc,ea,f1,f2,la⟩:=Gs.some O;obtain⟨ya,yc,eb,-,-,lb'⟩:=VE.some O;simp only[cM]at ea eb;obtain⟨rfl,-,rfl⟩:=ea;obtain⟨rfl,-,rfl⟩:=eb;have q0:UJ V (G xa i)=H (.int .u64 ((L.map (·.1)).getD i 0:Nat)):=Gs.cell (o:=i) O;have q1:UJ V (G ya i)=H (Y ((L.map (·.2)).getD i 0:Nat)):=by have:=VE.cell (o:=i) O;unfold aX at this;rwa[rA]at this
  have w2:IntKind.i64.wrap ((i:Int)+1)=((i+1:Nat):Int):=by unfold maxLen at f2;rw[bJ _ lI];omega
  have w3:IntKind.i64.wrap ((i:Int) - 1)=(i:Int) - 1:=by unfold maxLen at f2;rw[bJ _ lI]
  obtain⟨g1,g2⟩:=HL.o.mem _ _ (aa8 be);have HFN:=Z (show f (((L.map (·.1)).getD i 0:Nat):Int)=H (((L.map (·.2)).getD i 0:Nat):Int)by rw[<-g2];exact HF.o _ g1);have Xa:=Z (show(L.map (·.1)).getD i 0<18446744073709551616 by rw[<-g2];exact HK.o _ g1);have dE:=Z be;have nQ:0<=(i:Int):=O;have qm:(i:Int)<(L.length:Int):=O;have ZK:(i:Int).toNat=i:=O;by_cases Nf:i=0
  ·subst Nf;clear g1 g2 Gs VE f1 f2;generalize(L.map (·.1)).getD 0 0=kx at*;generalize(L.map (·.2)).getD 0 0=nx at*;go_wp2_with (at_lookup;refine ku _ rfl _ _ _ rfl IS B cn f rfl (lW.q8 HM.o rfl) _ rfl (Db Xa.o) _ HFN.o ?_);go_quiet (fail);go_wp2;refine⟨_,0+1,FD.of _ rfl,rfl,rfl,rfl,rfl,?_,dE.o,O,Z ⟨_,by first|rfl|rw[Jn]⟩⟩;rfl
  ·have q2:UJ V (G xa (i-1))=H (.int .u64 ((L.map (·.1)).getD (i-1) 0:Nat)):=Gs.cell (o:=i-1) O;have g4:=HL.o.keys O be;have hgt:0<i:=O;have Bz:decide (0<i)=true:=xx hgt;have aft:decide ((0:Int)<(i:Int))=true:=xx O;have hz5:0<=(i:Int) - 1:=O;have hz6:(i:Int) - 1<(L.length:Int):=O;have hz7:((i:Int) - 1).toNat=i-1:=O;clear g1 g2 Gs VE f1 f2;generalize(L.map (·.1)).getD i 0=kx at*;generalize(L.map (·.1)).getD (i-1) 0=ky at*;generalize(L.map (·.2)).getD i 0=nx at*;go_wp2_with (at_lookup;refine ku _ rfl _ _ _ rfl IS B cn f rfl (lW.q8 HM.o rfl) _ rfl (Db Xa.o) _ HFN.o ?_);go_quiet (fail);go_wp2;refine⟨_,i+1,FD.of _ rfl,rfl,rfl,rfl,rfl,?_,dE.o,O,Z ⟨_,by first|rfl|rw[Jn]⟩⟩;exact QC
 ·obtain rfl:i=L.length:=O;clear be;go_wp2;exact Eq.mpr (bu (λa=>Q (.exit 8) a (V.drewN d)) (FD.of _ rfl)) (d_ (λk=>Array.getD _ k undef) _ rfl rfl rfl rfl ⟨d,rfl⟩)
end
section
variable {w:UK}{p:aQ}{c:Cp}{gv zv a b c1 d qv vv:UL}{Ls:List (List Nat)}{Fr:List Nat}{L:List (Nat×Nat)}{kf:Nat->Nat}{h1 h2 hi hj:Nat}{lv lw:Nat->UL}{tw:Nat->Nat->UL}{Qs:List (List PE)}
def DA9(bl bs R a0d:Nat)(W0:UK)(a:Act)(V:UK):Prop:=V=W0/\∃J:Nat->UL,a=FD J/\J 4=UI bl/\J 5=UI bs/\J 9=Y R/\J 10=Y a0d
def Pr{p:Prop}(h:p:=by
 have HE9:=Z e9;clear e9 hR9;go_wp2;exact⟨rfl,_,FD.of _ rfl,rfl,rfl,HE9.o,rfl⟩):p:=h
def aaZ(hg:Vf.aZ w 1 gv p.bw.length (λi=> .bool (p.bw.getD i false)))(hz:Vf.aZ w 1 zv c.aK.length (aX c.aK))(hC:ow p c)(zt:p.bw.length<=16)
 (hl:mj w 0 h1 h2 hi a b c1 d ⟨Ls,Fr,L.map (·.1),iH (L.map (·.2))⟩ lv) (hq:uY w 0 hj qv Qs lw tw) (hhi:hi<=w.heap.size) (hhj:hj<=w.heap.size) (HL:Hid (kL Ls Fr L kf (dw (aC p c)))) (Tx:dw (aC p c)<=4194304)
 (HK:Hid (∀m,m∈Ls.flatten->kf m<18446744073709551616)) (oC:Ls.length<=16) (ql:Qs.length=Ls.length) (qn:∀q,q<Ls.length->(Qs.getD q []).length=(Ls.getD q []).length) (qk:∀q i,q<Ls.length->i<(Ls.getD q []).length->((Qs.getD q []).getD i ⟨0,[]⟩).key=kf ((Ls.getD q []).getD i 0)):
 Calls prog 25 #[.agg #[a,b,c1,d],.agg #[qv,vv],gv,Vf.cV c zv] w (λe w'=>e=C8 (.bool true)/\Below w.heap.size w w'):=by
 have l1:Row w 24 1 a Ls.length lv:=hl.ls.row;have l2:Row w 3 1 b (iH Fr).length (aX (iH Fr)):=hl.fr.row;have l3:Row w 46 1 c1 (L.map (·.1)).length (pU (L.map (·.1))):=hl.ks.row;have l4:Row w 3 1 d (iH (L.map (·.2))).length (aX (iH (L.map (·.2)))):=hl.ns.row;have l5:=hq.row;rw[fV]at l2;rw[List.length_map]at l3;rw[fV,List.length_map]at l4;rw[ql]at l5;obtain⟨aa,ac,rfl,-,-⟩:=iW l1;obtain⟨ba,bc,rfl,-,-⟩:=iW l2;obtain⟨ca,cc,rfl,-,-⟩:=iW l3;obtain⟨da,dc,rfl,-,-⟩:=iW l4;obtain⟨qa,qc,rfl,-,-⟩:=iW l5;obtain⟨za,zc,rfl,-,-⟩:=hz.val;clear l1 l2 l3 l4 l5;obtain⟨W0,kX⟩:∃W0,W0=((w.alloc (QP #[to aa Ls.length ac,to ba Fr.length bc,to ca L.length cc,to da L.length dc] 52)).alloc (QP #[to qa Ls.length qc,vv] 56)).alloc (QP #[Y c.size,to za c.aK.length zc] 29):=⟨_,rfl⟩;have ru:W0.heap.size=w.heap.size+3:=by rw[kX];simp
 have ep:Below w.heap.size w W0:=by rw[kX];exact(((aB _ _).alloc (aL _) _).alloc ay _).alloc jz _
 have kl:aF W0 w.heap.size 52 #[to aa Ls.length ac,to ba Fr.length bc,to ca L.length cc,to da L.length dc]:=by rw[kX];exact((aF.new _ _ _).alloc _).alloc _
 have ks:aF W0 (w.heap.size+1) 56 #[to qa Ls.length qc,vv]:=by rw[kX];exact(aF.bR ay).alloc _
 have kc:aF W0 (w.heap.size+2) 29 #[Y c.size,to za c.aK.length zc]:=by rw[kX];exact aF.bR ay
 have HG:=Z (hg.aG (aA.af ep));have HZ:=Z (hz.aG (aA.af ep));have HX:=Z (show _/\_/\_ from⟨kl,ks,kc⟩);have HY:=Z (show _/\_ from⟨hl.off (aA.af (S:=[]) ep) (oF.nil _ _ _ _),hq.off (aA.af (S:=[]) ep) (oF.nil _ _ _ _)⟩);have eV:=Z (show _/\_ from⟨ep,ru⟩);have HQ:=Z (show _/\_/\_ from⟨ql,qn,qk⟩);have HCP:=Z hC;clear hg hz hl hq ep ru kl ks kc ql qn qk hC;unfold Vf.cV;go_enter func25,ntmps25;go_wp2_with fail;rw[<-kX];clear kX;refine aa7 HG.o HZ.o HX.o.2.2 HCP.o zt (λJ j4 j5 j7 j9 nM=>?_) ⟨_,0,FD.of _ rfl,rfl,rfl,rfl,rfl,rfl,rfl,rfl,cK _,O,rfl⟩;simp only[Exit.inBlock,Exit.then]
 apply_assumption
 obtain⟨r1,r2⟩:=Kt HCP.o zt (aL _);have zB:=HCP.o.s1;have aeM:=HCP.o.s2;have gP:dw (aC p c)=min (oz p c p.bw.length) c.size.toNat+qh p c p.bw.length:=Vf.Fl p c;have k0:=HX.o.2.2.c1;have lk:=HX.o.2.2.lt;generalize dw (aC p c)=nn at*;generalize oz p c p.bw.length=R at*;generalize qh p c p.bw.length=a0d at*;have M0:=Z gP;have eF:=Z (show _/\_/\_ from⟨r1,r2,Tx⟩);have BK:= @run_makeMap prog;have JL:=Z (show 1*nn<=281474976710656/\nn<=maxLen by unfold maxLen;omega);obtain⟨R9,hR9⟩:∃R9,R9=min R c.size.toNat:=⟨_,rfl⟩;have Yv:=Z hR9;refine wp_seq ?_;refine wp_mono (Q:=λe a V=>e=Exit.normal/\DA9 w.heap.size (w.heap.size+1) R9 a0d W0 a V) ?_ ?_
 ·unfold FD;rw[j4,j5,j7,j9,nM];clear j4 j5 j7 j9 nM gP;by_cases hgt:c.size<(R:Int)
  ·have e9:Y c.size=Y (R9:Nat):=bu _ O;exact Pr
  ·have e9:Y (R:Nat)=Y (R9:Nat):=bu _ O;exact Pr
 clear j4 j5 j7 j9 nM gP hR9 k0 lk zB aeM;rintro e a V ⟨rfl,rfl,J,rfl,j4,j5,j9,nM⟩;simp only[Exit.then];have w9:IntKind.i64.wrap ((a0d:Int)+(R9:Int))=(nn:Int):=by have:=M0.o;have:=Yv.o;rw[bJ _ lI];omega
 clear r1 r2 Tx;unfold FD;rw[j4,j5,j9,nM];clear j4 j5 j9 nM;go_wp2_with (refine jr rfl (.tmp 56) (.tmp 56) 22 rfl 4 underlying22 Vf.sK rfl .i64 .i64 _ _ nn rfl rfl rfl rfl JL.o.1 JL.o.2 ?_);intro W1 Dt fI;obtain⟨V1,Kv⟩:∃V1,V1=W1.alloc (.map #[] 0):=⟨_,rfl⟩;have CE:V.heap.size<W1.heap.size:=(fE Dt V.heap.size rfl).2;have hbv:Below V.heap.size V V1:=by rw[Kv];exact fI.alloc fI.size _
 have hf:=aA.af (S:=[]) hbv;have Xk:=Z (show LD V1 [V.heap.size,W1.heap.size] w.heap.size (w.heap.size+1) aa ba ca da qa ac bc cc dc qc vv Ls Fr L kf 0 h1 h2 hi hj lv lw tw Qs from
  ⟨HX.o.1.aG hf ay,HX.o.2.1.aG hf ay,HY.o.1.off hf (oF.nil _ _ _ _),HY.o.2.off hf (oF.nil _ _ _ _),HQ.o.1,HQ.o.2.1,HQ.o.2.2,λx hx=>by
    have:=eV.o.2;simp only[fh,List.not_mem_nil,or_false]at hx;rcases hx with rfl|rfl
    ·refine⟨?_,?_,?_,?_⟩<;>omega
    ·refine⟨?_,?_,?_,?_⟩<;>omega⟩)
 have HMM:=Z (show MI V1 W1.heap.size (λ_=>K7) 0 by rw[Kv];exact lW.made (P:=prog) (k:=46) (e:=3) (qk:= .u64) (qe:= .i64) W1);have HRR:=Z (show Row V1 4 1 (to (H (G V.heap.size 0)) nn nn) nn (λj=> .bool (decide (j∈gF Ls 0 0)))by
  refine(Dt.aG ((aA.refl [] W1).alloc (.map #[] 0)) ay).congr ?_ |> λh=>Kv▸h;intro j _;simp[gF])
 have DB:=Z (show _/\_ from⟨(eV.o.1.trans (hbv.mono eV.o.1.size)),CE⟩);have k0:(W1.alloc (.map #[] 0)).cell? (G w.heap.size 0)=H (to aa Ls.length ac):=by rw[<-Kv];exact Xk.o.kl.cell 0
 have k2:(W1.alloc (.map #[] 0)).cell? (G w.heap.size 2)=H (to ca L.length cc):=by rw[<-Kv];exact Xk.o.kl.cell 2
 have k3:(W1.alloc (.map #[] 0)).cell? (G w.heap.size 3)=H (to da L.length dc):=by rw[<-Kv];exact Xk.o.kl.cell 3
 have m0:(W1.alloc (.map #[] 0)).cell? (G (w.heap.size+1) 0)=H (to qa Ls.length qc):=by rw[<-Kv];exact Xk.o.ks.cell 0
 have lk:w.heap.size+1<W1.heap.size:=by have:=eV.o.2;omega
 clear Dt fI hbv hf CE;go_wp2_with fail;rw[<-Kv];clear Kv BK;generalize V.heap.size=sb at*;generalize W1.heap.size=B at*;clear k0 k2 k3 m0 lk w9;have sU:=Z (show sb≠B by have:=DB.o.2;omega);refine ad3 Xk HL HK eF.o.2.2 sU.o oC (λJ W2 j4 j5 nM pn rJ lY Ri=>?_) ⟨_,0,FD.of _ rfl,rfl,rfl,rfl,rfl,rfl,rfl,rfl,cK _,O,Z ⟨aA.refl _ _,HRR.o,_,_,HMM.o,cK _,λm hm=>by simp[gF]at hm⟩⟩;simp only[Exit.inBlock,Exit.then]
 apply_assumption
 have Dx:=Z Ri;clear Ri;generalize hfl:Ls.flatten.length=fl at*;have HFL:=Z hfl;clear hfl;unfold FD;rw[j4,j5,nM,pn,rJ,lY];clear j4 j5 nM pn rJ lY;go_wp2_with fail;refine ad1 Xk HL eF.o.2.2 sU.o (λJ W3 j4 j5 nM pn rJ lY hse=>?_) ⟨_,0,FD.of _ rfl,rfl,rfl,rfl,rfl,rfl,rfl,rfl,cK _,O,Z Dx.o.ad2⟩;simp only[Exit.inBlock,Exit.then]
 apply_assumption
 have HSE:=Z hse;clear hse;unfold FD;rw[j4,nM,rJ,lY];clear j4 j5 nM pn rJ lY;go_wp2_with fail;obtain⟨f3,h3,f,cn,hm3,DA⟩:=HSE.o;have Nr:=Z (Xk.o.aG f3);have Dl:=Z f3;clear f3 h3;refine aa0 Nr HL (Z hm3) (Z DA) HK eF.o.2.2 (λJ W4 j4 nM rJ lY hd=>?_) ⟨_,0,FD.of _ rfl,rfl,rfl,rfl,rfl,rfl,cK _,O,Z ⟨0,rfl⟩⟩;obtain⟨dd,rfl⟩:=hd;simp only[Exit.inBlock,Exit.then]
 apply_assumption
 obtain⟨-,k1,k2⟩:=Nr.o.kl.c3;have lk:=Nr.o.kl.lt;have RH:=Z (show fl=L.length/\fl+Fr.length=nn from⟨by rw[<-HFL.o];exact HL.o.len.symm,by rw[<-HFL.o];exact HL.o.Jf⟩);have oY:=Z (show Below w.heap.size w (W3.drewN dd)from(DB.o.1.trans (Dl.o.below (B:=w.heap.size) DB.o.1.size (λb X=>by
  have h1:=(Xk.o.t b X);have h2:=eV.o.2;have h3:=DB.o.2;simp only[fh,List.not_mem_nil,or_false]at X;omega))).trans (az _ _ dd))
 obtain rfl:=RH.o.1;have e2:=RH.o.2;have w8:IntKind.i64.wrap ((L.length:Int)+(Fr.length:Int))=(nn:Int):=by have:=eF.o.2.2;rw[bJ _ lI];omega
 unfold FD;rw[j4,nM,rJ,lY];clear j4 nM rJ lY e2;go_wp2
 first|refine Vf.fy (P:=prog) (fn:=Proofs.Tryz.f25) rfl ?_|(rw[ja];refine Vf.fy (P:=prog) (fn:=Proofs.Tryz.f25) rfl ?_)
 exact⟨rfl,oY.o⟩
end
end Go.Ma
namespace Go.Ma
open Go.RowKit aj.Vm
open aj hiding aR an ak
open Vf (Kp fW pV aZ cV)
open Ix (jQ)
section
variable {w w':UK}{C C':Co}{lo:Nat}{p:aQ}{c:Cp}{s:St}{t:dZ}{used:Int}
def Kw(h:iI w C lo p c s t used):Calls prog 20 #[UI C.mb] w (ph w (nA p s)):=by obtain⟨RO,K,T,h1,M,V,hS,hI,jo⟩:=h;exact Kq h1 (cE M.check).1 M.AY
def iI.node(h:iI w C lo p c s t used){q n:Nat}(hq:q<p.bw.length)(hn:n∈s.a.ls q):n<dw (aC p c):=by obtain⟨RO,K,T,h1,M,-,-,hI,-⟩:=h;obtain⟨R,A,-,hR,ha,oM⟩:=h1.m.ar;rw[<-ha]at hn;have:=hR.zO q n hq hn;have:=hR.made;have:=M.nd;omega
def iI.nn(h:iI w C lo p c s t used):dw (aC p c)<=4194304:=by obtain⟨RO,K,T,h1,M,-⟩:=h;rw[<-M.nd];exact M.AY
def iI.gM(h:iI w C lo p c s t used):ow p c:=by obtain⟨RO,K,T,h1,M,-⟩:=h;exact M.gM
structure Arg(w:UK)(gv zv:UL)(p:aQ)(c:Cp):Prop where
 g:aZ w 1 gv p.bw.length (λi=> .bool (p.bw.getD i false))
 z:aZ w 1 zv c.aK.length (aX c.aK)
variable {w2 W:UK}{C2:Co}{pg:Nat}{s2:St}{t2:dZ}{vU:Int}{gv zv qv vv qv2 vv2:UL}{lv Ze:Nat->UL}{tv tv2:Nat->Nat->UL}{lo1 FU lo3 MU:Nat}
def Arg.later(h:Arg w gv zv p c)(b:Below w.heap.size w W):Arg W gv zv p c:=⟨h.g.aG (aA.af b),h.z.aG (aA.af b)⟩
def ag0(s:St){q:Nat}(hq:q<p.bw.length):(nA p s).aK.getD q []=nz p s q:=by unfold nA;exact jL _ _ hq
def ag1(s:St):(nA p s).aK.length=p.bw.length:=by simp[nA]
def ad0(A:Arg W gv zv p c)(h:iI w C lo p c s t used){L:List (Nat×Nat)}{a b c1 d:UL}{h1 h2 hi:Nat}{lw:Nat->UL}(hL:jQ s.f L)(hl:mj W lo3 h1 h2 hi a b c1 d (C_ p s (dw (aC p c)) L) lw)(hs:jM W lo1 FU qv vv (nA p s) lv tv)(hhi:hi<=W.heap.size)(hh1:FU<=W.heap.size):
 Calls prog 25 #[.agg #[a,b,c1,d],.agg #[qv,vv],gv,cV c zv] W (λe w'=>e=C8 (.bool true)/\Below W.heap.size W w'):=by
 have hI:=h.inv;have Vl:=h.aeE.g;have HL:=abd (S:=aC p c) rfl hI hL λq n hq hn=>h.node hq hn;have key:∀q,q<p.bw.length->(nA p s).aK.getD q []=nz p s q/\((List.range p.bw.length).map s.a.ls).getD q []=s.a.ls q:=λq hq=>⟨ag0 s hq,jL _ _ hq⟩;refine aaZ (kf:=λn=>(s.a.val n).key) (Fr:=gY p s (dw (aC p c)) (dw (aC p c))) A.g A.z h.gM O (hl.lower (cK _)) (hs.qs.mono (cK _) (aL _)) hhi hh1 (Z HL) h.nn (Z λm hm=>?_) jz (by rw[ag1];simp) (λq hq=>?_) (λq i hq hi=>?_)
 ·obtain⟨q,hq,hn⟩:=jS.1 hm;exact hI.key q m hq hn
 ·simp only[List.length_map,List.length_range]at hq;rw[(key q hq).1,(key q hq).2];unfold nz;rw[List.length_map]
 ·simp only[List.length_map,List.length_range]at hq;rw[(key q hq).2]at hi ⊢;rw[(key q hq).1];unfold nz;simp[List.getD,hi,tY]
end
end Go.Ma
namespace Go.Ma
open Go.RowKit aj.Vm
open aj hiding aR an ak
def agV(V V':UK)(a b c d:UL)(n nf nk nn:Nat)(ln:Nat->Nat)(lv:Nat->UL)(h1 h2:Nat):Prop:=(∃a0d fF kF nF,mD V' V.heap.size h1 h2 V'.heap.size a b c d n nf nk nn ln a0d fF kF nF lv)/\n<=256/\(∀q,q<n->ln q<=1000000000)/\nf<=maxLen/\nk<=maxLen/\nn<=maxLen
section
variable {V:UK}{C:Co}{lo mb:Nat}{p:aQ}{c:Cp}{s:St}{t:dZ}{u:Int}
def agz(v:iI V C lo p c s t u)(hm:C.mb=mb):Calls prog 19 #[UI mb] V (λe V'=>∃xa xac xb xbc xc xcc xd xdc n nf nk nn ln lv h1 h2,e=C8 (.agg #[to xa n xac,to xb nf xbc,to xc nk xcc,to xd nn xdc])/\Below V.heap.size V V'/\Hid (agV V V' (to xa n xac) (to xb nf xbc) (to xc nk xcc) (to xd nn xdc) n nf nk nn ln lv h1 h2)):=by
 subst hm;refine(IK v).mono ?_;rintro e V' ⟨L,a,b,cc,d,h1,h2,lv,Gs,rfl,X,hl⟩;have hF:=hl.toF;obtain⟨xa,xac,rfl,-,-⟩:=iW hF.row;obtain⟨xb,xbc,rfl,y1,y2⟩:=iW hF.fr;obtain⟨xc,xcc,rfl,z1,z2⟩:=iW hF.ks;obtain⟨xd,xdc,rfl,u1,u2⟩:=iW hF.ns;obtain⟨RO,K,T,m,M,E,hS,hI,jo⟩:=v;have tb:=(cE M.check).1;have hn:(C_ p s (dw (aC p c)) L).lists.length=p.bw.length:=by simp[C_]
 refine⟨xa,xac,xb,xbc,xc,xcc,xd,xdc,_,_,_,_,_,lv,h1,h2,rfl,X,Z ⟨⟨_,_,_,_,hF⟩,by have:=tb.g;omega,λq hq=>?_,O,O,O⟩⟩;rw[hn]at hq;have e1:(C_ p s (dw (aC p c)) L).lists.getD q []=s.a.ls q:=jL _ _ hq;rw[e1];have h2:=hI.len q hq;have h3:=(E.gM.q1 q hq).2;have h4:(aC p c).cq q=(c.aK.getD q 0).toNat:=rfl;omega
def CD(v:iI V C lo p c s t u)(hm:C.mb=mb):Calls prog 20 #[UI mb] V (λe V'=>∃xq xqc xv xvc lv tv,e=C8 (.agg #[to xq (nA p s).aK.length xqc,to xv (nA p s).vars.length xvc])/\Below V.heap.size V V'/\jM V' V.heap.size V'.heap.size (to xq (nA p s).aK.length xqc) (to xv (nA p s).vars.length xvc) (nA p s) lv tv):=by subst hm;refine(Kw v).mono ?_;rintro e V' ⟨qv,vv,lv,tv,rfl,X,hs⟩;obtain⟨xq,xqc,rfl,-,-⟩:=iW hs.qs.row;obtain⟨xv,xvc,rfl,-,-⟩:=iW hs.vs.row;exact⟨xq,xqc,xv,xvc,lv,tv,rfl,X,hs⟩
def afM(v:iI V C lo p c s t u){key:Nat}(hk:key<18446744073709551616):(Tr p c s key).length<=20000:=by obtain⟨RO,r,-⟩:=v.r;exact(af0 r hk).1
def TK.full{W:UK}{tv:UL}{n:Nat}{f:Nat->Nat}(h:TK W tv n f):∃a,tv=to a n n:=by
 rcases h with⟨h,h0⟩|⟨b,cs,h,-⟩
 ·exact⟨K7,by rw[h,h0]⟩
 ·exact⟨_,h⟩
def TK.lts{W:UK}{tv:UL}{n:Nat}{f:Nat->Nat}(h:TK W tv n f):∀b,b∈vb tv->b<W.heap.size:=by
 intro b X;rcases h with⟨h,-⟩|⟨b',cs,h,hk,-⟩
 ·rw[h]at X;simp[vb,Value.ownBlock]at X
 ·rw[h]at X;simp[vb,Value.ownBlock]at X;subst X;exact hk.lt
def TG.sz{w:UK}{lo n:Nat}{p:aQ}{c:Cp}{M:Nat->Nat}{a0b:Nat->St×dZ×Int}(h:TG w lo p c n M a0b):lo<=w.heap.size:=by obtain⟨F,-,h2⟩:=h;exact h2.sz
def aF.Me{w w':UK}{b:Nat}{T:TypeId}{cs:Array UL}(h:aF w b T cs)(k:Below w.heap.size w w'):aF w' b T cs:=h.aG (aA.af (S:=[]) k) ay
def TK.Me{w w':UK}{tv:UL}{n:Nat}{f:Nat->Nat}(h:TK w tv n f)(k:Below w.heap.size w w'):TK w' tv n f:=h.aG (aA.af (S:=[]) k) ay
def af2{W:UK}{lo n:Nat}{p:aQ}{c:Cp}{M:Nat->Nat}{z:St×dZ×Int}(hT:TG W lo p c n M (λ_=>z))(hn:0<n){key:Nat}(hk:key<18446744073709551616):∃(h0:Bool) (tr:Int) (tn:Nat) (tf:Nat->Nat) (z':St×dZ×Int),tn<=20000/\
 ∀(V:UK) (a0b:Nat->St×dZ×Int) (Bx:List Nat) (j:Nat),j<n->a0b j=z->TX V lo p c n M a0b Bx->Calls prog 17 #[UI (M j),.int .u64 key] V
  (λe w'=>∃tv,e=C8 (.agg #[.bool h0,tv,Y tr])/\Below lo V w'/\TX w' lo p c n M (wo a0b j z') (vb tv++Bx)/\TK w' tv tn tf/\∀b,b∈Bx->w'.heap[b]? =V.heap[b]?):=by
 obtain⟨C0,-,v0⟩:=TG.vm hT hn;refine⟨UM p c z.1 key,jc p c z.1 key,_,λj=>(Tr p c z.1 key).getD j 0,DF p c 0 key z,afM v0 hk,λV a0b Bx j hj hz h=>?_⟩;have q:=TX.acc (i:=j) h hj hk;rw[hz]at q;exact q
variable {w:UK}{pb cb mA mB sn sc gc vc tc oc cc qc v1 v2 v3 v4:Nat}{sa ga va ta oa ca qa:Option Addr}{ms:Int}{Q:Exit->Act->UK->Prop}
def OM(w:UK)(lo pb cb mA mB n:Nat)(sv:UL)(adZ CB:Array UL)(p:aQ)(c:Cp)(m:Nat)(a:Act)(W:UK):Prop:=∃(J:Nat->UL) (i:Nat),a=ux J/\J 2=sv/\J 3=(UI pb)/\J 4=(UI cb)/\J 8=(UI mA)/\J 10=(UI mB)/\J 15=Y i/\i<=n/\m+i=n+1/\
 Hid (Below w.heap.size w W/\aF W pb 27 adZ/\aF W cb 29 CB/\∃z,TG W lo p c 2 (WZ mA mB) (λ_=>z))
def vg{p:Prop}(h:p:=by
 go_wp2;exact Eq.mpr (bu (λa=>Q (.exit 6) a W) (ux.of _ rfl)) (d_ _ W CP.o)):p:=h
def af3(HS:Hid (um w sa sn))(HA:Hid (Arg w (to ga p.bw.length gc) (to qa c.aK.length qc) p c))(Hl:Hid (w.heap.size<=lo/\pb<lo/\cb<lo))
 (d_:∀(J:Nat->UL) W,Below w.heap.size w W->Q (.exit 6) (ux J) W)
 {a0:Act} {W0:UK} (h:OM w lo pb cb mA mB (min sn 60) (to sa sn sc) #[to ga p.bw.length gc,to va v1 vc,to ta v2 tc,to oa v3 oc,Y ms,to ca v4 cc] #[Y c.size,to qa c.aK.length qc] p c (min sn 60+1) a0 W0):(Code.loop oL4).wp prog Q a0 W0:=by
 refine Mk.aN (λm a W=>OM w lo pb cb mA mB (min sn 60) (to sa sn sc) #[to ga p.bw.length gc,to va v1 vc,to ta v2 tc,to oa v3 oc,Y ms,to ca v4 cc] #[Y c.size,to qa c.aK.length qc] p c m a W) (min sn 60+1) h ?_ ?_
 ·rintro a W ⟨J,i,-,-,-,-,-,-,-,h1,h2,-⟩;omega
 rintro m a9 W ⟨J,i,rfl,j2,j3,j4,j8,nM,qp,hi,hm,HW⟩;unfold ux
 conv=>arg 2;whnf
 rw[j2,j3,j4,j8,nM,qp];clear j2 j3 j4 j8 nM qp;by_cases be:i<sn/\i<60
 ·obtain⟨Wo,QN⟩:=be;have Nc:=Z Wo;obtain⟨CQ,hpb,hcb,z,hT⟩:=HW.o;have w2:=mO i O;obtain⟨sb,so,e0,kind,key,zQ,g0,g1⟩:=HS.o.2 i Wo;subst e0;have c1:=(dN (CQ.block _ (aH g1))).trans g1;have O7:=Z g1;have CP:=Z CQ;have Dy:=Z (And.intro hpb hcb);have HT:=Z hT;have HNm:=Z hm;obtain⟨h0,tr,tn,tf,z',htn,Mi⟩:=af2 hT bd zQ;have HTN:=Z htn;have E4:=Z Mi;clear CQ hpb hcb hT HW hm zQ g0 g1 htn Mi;go_wp2_with fail;refine(E4.o W _ [] 0 bd rfl HT.o.tx).mono ?_;rintro e V1 ⟨tv,rfl,b1,t1,o1,-⟩;obtain⟨xa,rfl⟩:=o1.full;have cR:=Z b1;have M4:=Z t1;have Gh:=Z o1;clear b1 t1 o1 c1;go_wp2_with fail;have GV:=Z (M4.o.box (QP #[.bool h0,to xa tn tn,Y tr] 44));have nI:=Z (aF.new V1 44 #[.bool h0,to xa tn tn,Y tr]);have yL:=Z (Gh.o.aG ((aA.refl [] V1).alloc (QP #[.bool h0,to xa tn tn,Y tr] 44)) ay);have eF:=Z (cR.o.alloc (cU HT.o.sz cR.o.size) (QP #[.bool h0,to xa tn tn,Y tr] 44));generalize V1.alloc (QP #[.bool h0,to xa tn tn,Y tr] 44)=W2 at*;generalize V1.heap.size=ax at*;have HT3:=Z (show TX W2.drew lo p c 2 (WZ mA mB) (wo (λ_=>z) 0 z') (ax::(vb (to xa tn tn)++[]))from GV.o.later (az _ W2 1));have OX:=Z (show TK W2.drew (to xa tn tn) tn tf from yL.o.aG (aA.af (S:=[]) (az _ W2 1)) ay);have iy:=Z (show Below lo W W2.drew from eF.o.trans (az _ W2 1));have Dw:=Z (show aF W2.drew ax 44 #[.bool h0,to xa tn tn,Y tr]from nI.o);clear M4 Gh cR GV yL eF nI;obtain⟨a0,a1,a2⟩:=Dw.o.c3;have kc:UJ W2.drew (G sb (so+i*2+1))=H (.int .u64 key):=(dN ((CP.o.trans (iy.o.mono Hl.o.1)).block _ (aH O7.o))).trans O7.o;refine Mk.bH (S:=λwx=>UJ wx (G ax 0)=H (.bool h0)/\UJ wx (G ax 1)=H (to xa tn tn)/\UJ wx (G ax 2)=H (Y tr)/\UJ wx (G sb (so+i*2+1))=H (.int .u64 key)) bh ⟨a0,a1,a2,kc⟩ (λau=>?_);generalize W2.drew=V0 at*;refine Mk.fC 0 ?_;refine Mk.fC 1 ?_;refine Mk.fC 2 ?_;refine Mk.fC 3 ?_;refine Mk.fC 4 ?_;refine Mk.fC 5 ?_;refine Mk.fC 6 ?_;refine Mk.oD (rs:=[7]) (bZ rfl (λK9 hK=>?_) cz);refine fH ?_;go_simp;refine(E4.o V0 _ _ 1 bd rfl HT3.o).mono ?_;rintro e a1h ⟨tw,rfl,b2,t2,o3,g2⟩;obtain⟨ya,rfl⟩:=o3.full;have Np:=eJ (aH O7.o) Hl.o.1;have HK4:=Z (Dw.o.of (g2 ax ay));have Yi:=Z (OX.o.agi (λb X=>g2 b (by simp[X])));have HP4:=Z o3;have HT4:=Z t2.tg;have jK:=Z (iy.o.trans b2);have k4:=(dN (b2.block _ Np)).trans kc;clear b2 t2 o3 g2 Np kc;clear au;refine hK.out _ _ ⟨HK4.o.cell 0,HK4.o.cell 1,HK4.o.cell 2,k4⟩ (λau=>?_);clear hK K9;refine Mk.pt ?_;refine Mk.oD (rs:=[8]) (bZ rfl (λK9 hK=>?_) cz);refine fH ?_;go_simp;refine(afJ (h:=h0) (t:=tr) (Yi.o.row (by unfold maxLen;have:=HTN.o;omega)) (HP4.o.row (by unfold maxLen;have:=HTN.o;omega))).mono ?_;rintro e V4 ⟨rfl,b3⟩;have Hb:=Z (HK4.o.aG (aA.af (S:=[]) b3) ay);have Uj:=Z (Yi.o.aG (aA.af (S:=[]) b3) ay);have HT5:=Z (show TG V4 lo p c 2 (WZ mA mB) (λ_=>z')from TG.IT (HT4.o.later b3) λj hj=>⟨rfl,by rcases(by omega:j=0\/j=1)with rfl|rfl<;>rfl⟩);have nU:=Z (jK.o.trans (b3.mono (cU HT.o.sz jK.o.size)));have k5:=(dN (b3.block _ (aH k4))).trans k4;clear b3 k4 HT4 jK HK4 Yi HP4;clear au;refine hK.out _ _ ⟨Hb.o.cell 0,Hb.o.cell 1,Hb.o.cell 2,k5⟩ (λau=>?_);clear hK K9;refine Mk.pt ?_;refine Mk.fC 9 ?_;refine nW bh ⟨rfl,?_⟩ _;clear au k5 a0 a1 a2 HT3 OX iy Dw E4;obtain⟨C0,m0,q0⟩:=TG.vm HT5.o (show 0<2 by decide);obtain⟨C1,m1,q1⟩:=TG.vm HT5.o (show 1<2 by decide);have HV0:=Z (show C0.mb=mA/\iI V4 C0 lo p c z'.1 z'.2.1 z'.2.2 from⟨m0,q0⟩);have HV1:=Z (show C1.mb=mB/\iI V4 C1 lo p c z'.1 z'.2.1 z'.2.2 from⟨m1,q1⟩);clear m0 q0 m1 q1;have Lg:=Z Hb.o.lt;have HOX:=Z Uj.o.lts;have HLY:=Z (λV (b:Below V4.heap.size V4 V)=>agz (HV0.o.2.later b) HV0.o.1);have lN:=Z (λV (b:Below V4.heap.size V4 V)=>CD (HV0.o.2.later b) HV0.o.1);have HSN:=Z (λV (b:Below V4.heap.size V4 V)=>CD (HV1.o.2.later b) HV1.o.1);have Q9:=Z (aB V4.heap.size V4);go_wp2_with fail;refine(HLY.o _ Q9.o).mono ?_;rintro e V5 ⟨xa1,Ve,xb1,U_,xc1,MP,xd1,I4,n1,nf1,nk1,nn1,ln1,lv1,p1,q1,rfl,X,G1⟩;have HB:=Z X;have Dk:=Z G1.o.2;have E7:=Z G1.o.1;clear X G1;have HA:=Z ((aB V5.heap.size V5).alloc (aL _) (QP #[to xa1 n1 Ve,to xb1 nf1 U_,to xc1 nk1 MP,to xd1 nn1 I4] 52));have HC:=Z (HB.o.trans (HA.o.mono HB.o.size));replace Hb:=Z (aF.Me Hb.o HC.o);replace Uj:=Z (TK.Me Uj.o HC.o);have HX5:=Z (Q9.o.trans (HC.o.mono Q9.o.size));have QG:=Z (aF.new V5 52 #[to xa1 n1 Ve,to xb1 nf1 U_,to xc1 nk1 MP,to xd1 nn1 I4]);replace E7:=Z (show∃a0d fF kF nF,mD (V5.alloc (QP #[to xa1 n1 Ve,to xb1 nf1 U_,to xc1 nk1 MP,to xd1 nn1 I4] 52)) V4.heap.size p1 q1 V5.heap.size (to xa1 n1 Ve) (to xb1 nf1 U_) (to xc1 nk1 MP) (to xd1 nn1 I4) n1 nf1 nk1 nn1 ln1 a0d fF kF nF lv1 from by
   obtain⟨a0d,fF,kF,nF,hl⟩:=E7.o;exact⟨a0d,fF,kF,nF,hl.later HA.o⟩)
  have Mc:=Z (show V4.heap.size<=V5.heap.size/\(V5.alloc (QP #[to xa1 n1 Ve,to xb1 nf1 U_,to xc1 nk1 MP,to xd1 nn1 I4] 52)).heap.size=V5.heap.size+1 from⟨HB.o.size,ay⟩);clear HB HA HC;go_wp2_with fail;generalize V5.alloc (QP #[to xa1 n1 Ve,to xb1 nf1 U_,to xc1 nk1 MP,to xd1 nn1 I4] 52)=W1 at*;generalize V5.heap.size=FU at*;clear Q9;go_wp2_with fail;refine(HLY.o _ HX5.o).mono ?_;rintro e V6 ⟨xa2,U9,xb2,UZ,xc2,UY,xd2,UX,n2,nf2,nk2,nn2,Wz,Ze,p2,q2,rfl,X,G2⟩;have HB:=Z X;have sR:=Z G2.o.2;have Ay:=Z G2.o.1;clear X G2;have HA:=Z ((aB V6.heap.size V6).alloc (aL _) (QP #[to xa2 n2 U9,to xb2 nf2 UZ,to xc2 nk2 UY,to xd2 nn2 UX] 52));have HC:=Z (HB.o.trans (HA.o.mono HB.o.size));replace Hb:=Z (aF.Me Hb.o HC.o);replace Uj:=Z (TK.Me Uj.o HC.o);replace QG:=Z (aF.Me QG.o HC.o);replace E7:=Z (E7.o.imp λ_ h=>h.imp λ_ h=>h.imp λ_ h=>h.imp λ_ h=>h.later HC.o);have Ui:=Z (HX5.o.trans (HC.o.mono HX5.o.size));have Sw:=Z (aF.new V6 52 #[to xa2 n2 U9,to xb2 nf2 UZ,to xc2 nk2 UY,to xd2 nn2 UX]);replace Ay:=Z (show∃a0d fF kF nF,mD (V6.alloc (QP #[to xa2 n2 U9,to xb2 nf2 UZ,to xc2 nk2 UY,to xd2 nn2 UX] 52)) W1.heap.size p2 q2 V6.heap.size (to xa2 n2 U9) (to xb2 nf2 UZ) (to xc2 nk2 UY) (to xd2 nn2 UX) n2 nf2 nk2 nn2 Wz a0d fF kF nF Ze from by
   obtain⟨a0d,fF,kF,nF,hl⟩:=Ay.o;exact⟨a0d,fF,kF,nF,hl.later HA.o⟩)
  have Md:=Z (show W1.heap.size<=V6.heap.size/\(V6.alloc (QP #[to xa2 n2 U9,to xb2 nf2 UZ,to xc2 nk2 UY,to xd2 nn2 UX] 52)).heap.size=V6.heap.size+1 from⟨HB.o.size,ay⟩);clear HB HA HC;go_wp2_with fail;generalize V6.alloc (QP #[to xa2 n2 U9,to xb2 nf2 UZ,to xc2 nk2 UY,to xd2 nn2 UX] 52)=W2 at*;generalize V6.heap.size=vG at*;clear HX5;go_wp2_with fail;refine(lN.o _ Ui.o).mono ?_;rintro e V7 ⟨xq3,Vk,xv3,Vj,lw3,tw3,rfl,X,hs⟩;have HB:=Z X;have VT:=Z hs;clear X hs;generalize hqn:(nA p z'.1).aK.length=qn at*;generalize hvn:(nA p z'.1).vars.length=vn at*;have Z5:=Z hqn;have HVN:=Z hvn;clear hqn hvn;have HA:=Z ((aB V7.heap.size V7).alloc (aL _) (QP #[to xq3 qn Vk,to xv3 vn Vj] 56));have HC:=Z (HB.o.trans (HA.o.mono HB.o.size));replace Hb:=Z (aF.Me Hb.o HC.o);replace Uj:=Z (TK.Me Uj.o HC.o);replace QG:=Z (aF.Me QG.o HC.o);replace Sw:=Z (aF.Me Sw.o HC.o);replace E7:=Z (E7.o.imp λ_ h=>h.imp λ_ h=>h.imp λ_ h=>h.imp λ_ h=>h.later HC.o);replace Ay:=Z (Ay.o.imp λ_ h=>h.imp λ_ h=>h.imp λ_ h=>h.imp λ_ h=>h.later HC.o);have HX7:=Z (Ui.o.trans (HC.o.mono Ui.o.size));have GL:=Z (aF.new V7 56 #[to xq3 qn Vk,to xv3 vn Vj]);replace VT:=Z (VT.o.later HA.o);have Ml:=Z (show W2.heap.size<=V7.heap.size/\(V7.alloc (QP #[to xq3 qn Vk,to xv3 vn Vj] 56)).heap.size=V7.heap.size+1 from⟨HB.o.size,ay⟩);clear HB HA HC;go_wp2_with fail;generalize V7.alloc (QP #[to xq3 qn Vk,to xv3 vn Vj] 56)=W3 at*;generalize V7.heap.size=MU at*;clear Ui;go_wp2_with fail;refine(lN.o _ HX7.o).mono ?_;rintro e V8 ⟨xq4,lz,xv4,Q3,lw4,tw4,rfl,X,hs⟩;have HB:=Z X;have UH:=Z hs;clear X hs;have HA:=Z ((aB V8.heap.size V8).alloc (aL _) (QP #[to xq4 qn lz,to xv4 vn Q3] 56));have HC:=Z (HB.o.trans (HA.o.mono HB.o.size));replace Hb:=Z (aF.Me Hb.o HC.o);replace Uj:=Z (TK.Me Uj.o HC.o);replace QG:=Z (aF.Me QG.o HC.o);replace Sw:=Z (aF.Me Sw.o HC.o);replace GL:=Z (aF.Me GL.o HC.o);replace E7:=Z (E7.o.imp λ_ h=>h.imp λ_ h=>h.imp λ_ h=>h.imp λ_ h=>h.later HC.o);replace Ay:=Z (Ay.o.imp λ_ h=>h.imp λ_ h=>h.imp λ_ h=>h.imp λ_ h=>h.later HC.o);replace VT:=Z (VT.o.later HC.o);have HX8:=Z (HX7.o.trans (HC.o.mono HX7.o.size));have Tm:=Z (aF.new V8 56 #[to xq4 qn lz,to xv4 vn Q3]);replace UH:=Z (UH.o.later HA.o);have NX:=Z (show W3.heap.size<=V8.heap.size/\(V8.alloc (QP #[to xq4 qn lz,to xv4 vn Q3] 56)).heap.size=V8.heap.size+1 from⟨HB.o.size,ay⟩);clear HB HA HC;obtain⟨l0,l1,l2,l3⟩:=QG.o.c4;have ll:=aH l0;go_wp2_with fail;generalize V8.alloc (QP #[to xq4 qn lz,to xv4 vn Q3] 56)=W4 at*;generalize V8.heap.size=NA at*;clear HX7;have lT:=Z (And.intro Mc.o (And.intro Md.o (And.intro Ml.o (And.intro NX.o Lg.o))));clear Mc Md Ml NX Lg;obtain⟨G1,fF1,kF1,nF1,Wo⟩:=E7.o;refine(YU (mk:=5) Wo (by have z:=lT.o;omega) bd Dk.o.1 Dk.o.2.1 Dk.o.2.2.1 Dk.o.2.2.2.1 Dk.o.2.2.2.2).mono ?_;rintro e a1i ⟨rfl,f1,k1⟩;have Dn:=Z k1;have sg:=Z f1;clear k1 f1 Wo l0 l1 l2 l3 ll E7;replace Hb:=Z (Hb.o.aG sg.o (λhc=>by have:=ed.1 hc;have z:=lT.o;omega));replace QG:=Z (QG.o.aG sg.o (λhc=>by have:=ed.1 hc;have z:=lT.o;omega));replace Sw:=Z (Sw.o.aG sg.o (λhc=>by have:=ed.1 hc;have z:=lT.o;omega));replace GL:=Z (GL.o.aG sg.o (λhc=>by have:=ed.1 hc;have z:=lT.o;omega));replace Tm:=Z (Tm.o.aG sg.o (λhc=>by have:=ed.1 hc;have z:=lT.o;omega));replace Uj:=Z (Uj.o.aG sg.o (λb X hc=>by have:=ed.1 hc;have:=HOX.o b X;have z:=lT.o;omega));replace Ay:=Z (Ay.o.imp λ_ h=>h.imp λ_ h=>h.imp λ_ h=>h.imp λ_ h=>h.aG sg.o (λb X=>by have:=ed.1 X;have z:=lT.o;omega));replace VT:=Z (VT.o.off sg.o (oF.range (λb X=>by have:=ed.1 X;have z:=lT.o;omega)));replace UH:=Z (UH.o.off sg.o (oF.range (λb X=>by have:=ed.1 X;have z:=lT.o;omega)));have HX9:=Z (HX8.o.trans (sg.o.below (B:=V4.heap.size) HX8.o.size (λb X=>(ed.1 X).1)));have Mh:=Z sg.o.size;clear sg HX8;obtain⟨l0,l1,l2,l3⟩:=Sw.o.c4;have ll:=aH l0;go_wp2_with fail;obtain⟨G2,fF2,kF2,nF2,QN⟩:=Ay.o;refine(YU (mk:=9) QN (by have:=HX9.o.size;have hs:=Mh.o;have z:=lT.o;omega) bd sR.o.1 sR.o.2.1 sR.o.2.2.1 sR.o.2.2.2.1 sR.o.2.2.2.2).mono ?_;rintro e V10 ⟨rfl,f1,k1⟩;have J_:=Z k1;have sg:=Z f1;clear k1 f1 QN l0 l1 l2 l3 ll Ay;replace Hb:=Z (Hb.o.aG sg.o (λhc=>by have:=ed.1 hc;have z:=lT.o;omega));replace QG:=Z (QG.o.aG sg.o (λhc=>by have:=ed.1 hc;have z:=lT.o;omega));replace Sw:=Z (Sw.o.aG sg.o (λhc=>by have:=ed.1 hc;have z:=lT.o;omega));replace GL:=Z (GL.o.aG sg.o (λhc=>by have:=ed.1 hc;have z:=lT.o;omega));replace Tm:=Z (Tm.o.aG sg.o (λhc=>by have:=ed.1 hc;have z:=lT.o;omega));replace Uj:=Z (Uj.o.aG sg.o (λb X hc=>by have:=ed.1 hc;have:=HOX.o b X;have z:=lT.o;omega));replace VT:=Z (VT.o.off sg.o (oF.range (λb X=>by have:=ed.1 X;have z:=lT.o;omega)));replace UH:=Z (UH.o.off sg.o (oF.range (λb X=>by have:=ed.1 X;have z:=lT.o;omega)));replace Dn:=Z (mD.aG Dn.o sg.o (λb X=>by have:=ed.1 X;have z:=lT.o;omega));have E3:=Z (HX9.o.trans (sg.o.below (B:=V4.heap.size) HX9.o.size (λb X=>by have:=(ed.1 X).1;have z:=lT.o;omega)));clear sg HX9;obtain⟨l0,l1,l2,l3⟩:=QG.o.c4;have ll:=aH l0;go_wp2_with fail;refine(Vo (mk:=5) Dn.o bd Dk.o.1 Dk.o.2.1 Dk.o.2.2.1 Dk.o.2.2.2.1 Dk.o.2.2.2.2).mono ?_;rintro e V11 ⟨rfl,b1⟩;have Fq:=Z b1;clear b1 l0 l1 l2 l3 ll Dn;replace Hb:=Z (aF.Me Hb.o Fq.o);replace Uj:=Z (TK.Me Uj.o Fq.o);replace QG:=Z (aF.Me QG.o Fq.o);replace Sw:=Z (aF.Me Sw.o Fq.o);replace GL:=Z (aF.Me GL.o Fq.o);replace Tm:=Z (aF.Me Tm.o Fq.o);replace VT:=Z (VT.o.later Fq.o);replace UH:=Z (UH.o.later Fq.o);replace J_:=Z (mD.later J_.o Fq.o);have E1:=Z (E3.o.trans (Fq.o.mono E3.o.size));clear Fq E3;obtain⟨l0,l1,l2,l3⟩:=Sw.o.c4;have ll:=aH l0;go_wp2_with fail;refine(Vo (mk:=9) J_.o bd sR.o.1 sR.o.2.1 sR.o.2.2.1 sR.o.2.2.2.1 sR.o.2.2.2.2).mono ?_;rintro e V12 ⟨rfl,b1⟩;have Fq:=Z b1;clear b1 l0 l1 l2 l3 ll J_;replace Hb:=Z (aF.Me Hb.o Fq.o);replace Uj:=Z (TK.Me Uj.o Fq.o);replace GL:=Z (aF.Me GL.o Fq.o);replace Tm:=Z (aF.Me Tm.o Fq.o);replace VT:=Z (VT.o.later Fq.o);replace UH:=Z (UH.o.later Fq.o);have qd:=Z (E1.o.trans (Fq.o.mono E1.o.size));clear Fq E1 QG Sw;go_wp2_with fail;have hz:=UH.o.toZ;rw[Z5.o,HVN.o]at hz;have zH:=Z hz;clear hz UH Mh;refine ow5 (W0:=V12) (sb:=NA) (lo:=W3.heap.size) (hi:=NA) (n:=qn) (nv:=vn) (qv:=to xq4 qn lz) (vv:=to xv4 vn Q3) (U2:=to (H (G sb so)) sn sc) (U3:=(UI pb)) (U4:=(UI cb)) (U8:=(UI mA)) (U10:=(UI mB)) (U15:=Y i) (U16:=(UI ax)) (U19:=(UI MU)) (Z ⟨Tm.o,aL _⟩) (λJ V13 j2 j3 j4 j8 nM qp vw QI Tu f5 s5=>?_) ⟨_,0,ux.of _ rfl,rfl,rfl,rfl,rfl,rfl,rfl,rfl,rfl,rfl,trivial,rfl,cK _,O,Z ⟨aA.refl _ _,zH.o⟩⟩;have sg:=Z f5;have HSY:=Z s5;clear f5 s5 zH;replace Hb:=Z (Hb.o.aG sg.o (λhc=>by have:=ed.1 hc;have z:=lT.o;omega));replace GL:=Z (GL.o.aG sg.o (λhc=>by have:=ed.1 hc;have z:=lT.o;omega));replace Tm:=Z (Tm.o.aG sg.o (λhc=>by have:=ed.1 hc;have z:=lT.o;omega));replace Uj:=Z (Uj.o.aG sg.o (λb X hc=>by have:=ed.1 hc;have:=HOX.o b X;have z:=lT.o;omega));replace VT:=Z (VT.o.off sg.o (oF.range (λb X=>by have:=ed.1 X;have z:=lT.o;omega)));have r8:=Z (qd.o.trans (sg.o.below (B:=V4.heap.size) qd.o.size (λb X=>by have:=(ed.1 X).1;have z:=lT.o;omega)));clear sg qd;simp only[Exit.inBlock,Exit.then]
  try apply_assumption
  unfold ux;rw[j2,j3,j4,j8,nM,qp,vw,QI,Tu];clear j2 j3 j4 j8 nM qp vw QI Tu;go_wp2_with fail;have HVI:=Z HSY.o.vi;refine ow8 (W0:=V13) (xb:=NA) (n:=vn) (v:=to xv4 vn Q3) (U2:=to (H (G sb so)) sn sc) (U3:=(UI pb)) (U4:=(UI cb)) (U8:=(UI mA)) (U10:=(UI mB)) (U15:=Y i) (U16:=(UI ax)) (U19:=(UI MU)) (Z ⟨_,_,Tm.o,rfl,λhc=>by have:=HVI.o NA (by simpa[vb]using hc);omega⟩) (λJ V14 j2 j3 j4 j8 nM qp vw QI Tu f8 aaY g8=>?_) ⟨_,0,ux.of _ rfl,rfl,rfl,rfl,rfl,rfl,rfl,rfl,rfl,rfl,rfl,cK _,O,Z ⟨aA.refl _ _,HSY.o.vs.r,λ_ _ _ _ h=>h⟩⟩;have sg:=Z (show aA (Fx W3.heap.size NA) V13 V14 from f8.mono (λb X=>ed.2 (HVI.o b (by simpa[vb]using X))));clear f8 aaY g8 HSY HVI;replace Hb:=Z (Hb.o.aG sg.o (λhc=>by have:=ed.1 hc;have z:=lT.o;omega));replace GL:=Z (GL.o.aG sg.o (λhc=>by have:=ed.1 hc;have z:=lT.o;omega));replace Uj:=Z (Uj.o.aG sg.o (λb X hc=>by have:=ed.1 hc;have:=HOX.o b X;have z:=lT.o;omega));replace VT:=Z (VT.o.off sg.o (oF.range (λb X=>by have:=ed.1 X;have z:=lT.o;omega)));have V9:=Z (r8.o.trans (sg.o.below (B:=V4.heap.size) r8.o.size (λb X=>by have:=(ed.1 X).1;have z:=lT.o;omega)));clear sg r8 Tm;simp only[Exit.inBlock,Exit.then]
  try apply_assumption
  unfold ux;rw[j2,j3,j4,j8,nM,qp,vw,QI,Tu];clear j2 j3 j4 j8 nM qp vw QI Tu;have a1:UJ V14 (G ax 1)=H (to xa tn tn):=Hb.o.cell 1;have la:=aH a1;go_wp2_with (at_builtin;refine Vf.sN rfl _ _ 41 rfl 46 underlying41 vp rfl xa tn (MK tf) rfl ?qa (G V14.heap.size 0) 1 (.int .u64 78) rfl ?qb rfl ?qc ?aaX ?_)
  case qa=>exact(Uj.o.aG ((aA.refl [] V14).alloc _) ay).row (by unfold maxLen;have:=HTN.o;omega)
  case qb=>exact(aF.bR rfl).cell 0
  case qc=>have:=HTN.o;unfold maxLen;omega
  case aaX=>have:=HTN.o;omega
  intro v' V15 r15 f15 i15;obtain⟨va',vc',rfl,-,-⟩:=(Vf.aZ.vd r15).val;have Mg:=Z r15;have Fq:=Z (show Below V14.heap.size V14 V15 from((aB _ _).alloc (aL _) _).trans (f15.below (B:=V14.heap.size) ay ay));have Mf:=Z (show∀b,(Value.slice va' (tn+1) vc').ownBlock=H b->V14.heap.size<=b from λb X=>by have:=i15 b X;(try simp only[aM]at this);omega);clear r15 f15 i15 a1 la Uj Hb;go_wp2_with fail;refine ow9 (W0:=V15) (xb:=0) (n:=tn+1) (v:=to va' (tn+1) vc') (U2:=to (H (G sb so)) sn sc) (U3:=(UI pb)) (U4:=(UI cb)) (U8:=(UI mA)) (U10:=(UI mB)) (U15:=Y i) (U19:=(UI MU)) (λJ V16 j2 j3 j4 j8 nM qp QI j25 f9 r9 g9=>?_) ⟨_,0,ux.of _ rfl,rfl,rfl,rfl,rfl,rfl,rfl,rfl,rfl,rfl,cK _,O,Z ⟨aA.refl _ _,Dc.of Mg.o bd,λ_ _ _ _ h=>h⟩⟩;have QU:=Z (Fq.o.trans (f9.below (B:=V14.heap.size) Fq.o.size (λb X=>Mf.o b (by simpa[vb]using X))));clear f9 r9 g9 Mg Fq Mf;replace GL:=Z (aF.Me GL.o QU.o);replace VT:=Z (VT.o.later QU.o);have V3:=Z (V9.o.trans (QU.o.mono V9.o.size));clear QU V9;simp only[Exit.inBlock,Exit.then]
  try apply_assumption
  unfold ux;rw[j2,j3,j4,j8,nM,qp,QI,j25];clear j2 j3 j4 j8 nM qp QI j25;have GH:=Z (show Below V4.heap.size V4 V16.drew from V3.o.trans ((az _ V16 1).mono V3.o.size));have HU0:=Z (show jM V16.drew _ _ _ _ _ _ _ from VT.o.later (az _ V16 1));have Xd:=Z (show Below lo W V16.drew from nU.o.trans (GH.o.mono HT5.o.sz));have s0:UJ V16.drew (G MU 0)=H (to xq3 qn Vk):=GL.o.cell 0;have s1:UJ V16.drew (G MU 1)=H (to xv3 vn Vj):=GL.o.cell 1;have p0:UJ V16.drew (G pb 0)=H (to ga p.bw.length gc):=(Dy.o.1.of (Xd.o.block _ Hl.o.2.1)).cell 0;have q0:UJ V16.drew (G cb 0)=H (Y c.size):=(Dy.o.2.of (Xd.o.block _ Hl.o.2.2)).cell 0;have q1:UJ V16.drew (G cb 1)=H (to qa c.aK.length qc):=(Dy.o.2.of (Xd.o.block _ Hl.o.2.2)).cell 1;clear V3 VT GL HLY lN;go_wp2;refine Mk.bH (S:=λwx=>UJ wx (G MU 0)=H (to xq3 qn Vk)/\UJ wx (G MU 1)=H (to xv3 vn Vj)/\UJ wx (G pb 0)=H (to ga p.bw.length gc)/\UJ wx (G cb 0)=H (Y c.size)/\UJ wx (G cb 1)=H (to qa c.aK.length qc)) bh ⟨s0,s1,p0,q0,q1⟩ (λau=>?_);generalize V16.drew=V0 at*;have HKP:=Z (λwx (b:Below V0.heap.size V0 wx)=>show UJ wx (G MU 0)=H (to xq3 qn Vk)/\UJ wx (G MU 1)=H (to xv3 vn Vj)/\UJ wx (G pb 0)=H (to ga p.bw.length gc)/\UJ wx (G cb 0)=H (Y c.size)/\UJ wx (G cb 1)=H (to qa c.aK.length qc)from⟨(dN (b.block _ (aH s0))).trans s0,(dN (b.block _ (aH s1))).trans s1,(dN (b.block _ (aH p0))).trans p0,(dN (b.block _ (aH q0))).trans q0,(dN (b.block _ (aH q1))).trans q1⟩);have uj:=Z (λV (b:Below V4.heap.size V4 V)=>show Calls prog 24 #[(UI mA),(UI mB)] V (λe w'=>e=C8 (.bool true)/\Below V.heap.size V w')from by have q:=TG.zx (i:=0) (j:=1) (HT5.o.later b) bd bd (by rfl);exact q);have dE:=Z (λV (b:Below V4.heap.size V4 V)=>show Calls prog 19 #[(UI mA)] V (ul V p z'.1 (dw (aC p c)))from by rw[<-HV0.o.1];exact IK (HV0.o.2.later b));have HSV:=Z (λV (b:Below V4.heap.size V4 V)=>show Calls prog 20 #[(UI mA)] V (ph V (nA p z'.1))from by rw[<-HV0.o.1];exact Kw (HV0.o.2.later b));refine Mk.fC 0 ?_;refine Mk.fC 1 ?_;refine Mk.oD (rs:=[2]) (bZ rfl (λK9 hK=>?_) cz);refine fH ?_;go_simp;refine(HSN.o _ GH.o).mono ?_;rintro e a1j ⟨xq5,agY,xv5,agZ,lw5,tw5,rfl,X,hs⟩;have LS:=Z (X);have HN5:=Z hs;replace HU0:=Z (HU0.o.later X);clear X hs;clear au;refine hK.out _ _ (HKP.o _ LS.o) (λau=>?_);clear hK K9;refine Mk.pt ?_;refine Mk.oD (rs:=[3]) (bZ rfl (λK9 hK=>?_) cz);refine fH ?_;go_simp;refine(IP HU0.o HN5.o).mono ?_;rintro e E2 ⟨rfl,X⟩;have pX:=Z (LS.o.trans (X.mono LS.o.size));clear X;clear au;refine hK.out _ _ (HKP.o _ pX.o) (λau=>?_);clear hK K9;refine Mk.pt ?_;refine Mk.fC 4 ?_;refine Mk.fC 5 ?_;refine Mk.fC 6 ?_;refine Mk.fC 7 ?_;refine Mk.oD (rs:=[8]) (bZ rfl (λK9 hK=>?_) cz);refine fH ?_;go_simp;refine(uj.o _ (GH.o.trans (pX.o.mono GH.o.size))).mono ?_;rintro e a1k ⟨rfl,X⟩;have HE3:=Z (pX.o.trans (X.mono pX.o.size));clear X;clear au;refine hK.out _ _ (HKP.o _ HE3.o) (λau=>?_);clear hK K9;refine Mk.pt ?_;refine Mk.fC 9 ?_;refine Mk.fC 10 ?_;refine Mk.fC 11 ?_;refine Mk.fC 12 ?_;refine Mk.fC 14 ?_;refine Mk.fC 16 ?_;refine Mk.fC 17 ?_;refine Mk.fC 18 ?_;refine Mk.oD (rs:=[13]) (bZ rfl (λK9 hK=>?_) cz);refine fH ?_;go_simp;refine(dE.o _ (GH.o.trans (HE3.o.mono GH.o.size))).mono ?_;rintro e a1l ⟨a1m,la6,lb6,lc6,ld6,h61,h62,lw6,Gs,rfl,X,hl⟩;have HE4:=Z (HE3.o.trans (X.mono HE3.o.size));have HL6:=Z (And.intro Gs hl);clear X Gs hl;clear au;refine hK.out _ _ (HKP.o _ HE4.o) (λau=>?_);clear hK K9;refine Mk.pt ?_;refine Mk.oD (rs:=[15]) (bZ rfl (λK9 hK=>?_) cz);refine fH ?_;go_simp;refine(HSV.o _ (GH.o.trans (HE4.o.mono GH.o.size))).mono ?_;rintro e a1n ⟨qv7,uv7,lx7,tx7,rfl,X,hs⟩;have HE5:=Z (HE4.o.trans (X.mono HE4.o.size));have HL7:=Z (HL6.o.2.off (aA.af (S:=[]) X) (oF.nil _ _ _ _));have HZ7:=Z X.size;have HS7:=Z hs;clear X hs;clear au;refine hK.out _ _ (HKP.o _ HE5.o) (λau=>?_);clear hK K9;refine Mk.pt ?_;refine Mk.oD (rs:=[19]) (bZ rfl (λK9 hK=>?_) cz);refine fH ?_;go_simp;refine(ad0 (HA.o.later ((CP.o.trans (Xd.o.mono Hl.o.1)).trans (HE5.o.mono (CP.o.trans (Xd.o.mono Hl.o.1)).size))) (HV0.o.2.later (GH.o.trans (HE5.o.mono GH.o.size))) HL6.o.1 HL7.o HS7.o HZ7.o (aL _)).mono ?_;rintro e a1o ⟨rfl,X⟩;have HE6:=Z (HE5.o.trans (X.mono HE5.o.size));clear X;clear au;refine hK.out _ _ (HKP.o _ HE6.o) (λau=>?_);clear hK K9;refine Mk.pt ?_;refine Mk.fC 20 ?_;refine Mk.fC 21 ?_;refine nW bh ⟨rfl,?_⟩ _;have Mz:=Z (Xd.o.trans (HE6.o.mono (cU HT5.o.sz GH.o.size)));have HET:=Z (HT5.o.later (GH.o.trans (HE6.o.mono GH.o.size)));clear au s0 s1 p0 q0 q1;go_wp2;refine⟨_,i+1,ux.of _ rfl,rfl,rfl,rfl,rfl,rfl,?_,by have:=Nc.o;omega,by have:=HNm.o;omega,Z ⟨CP.o.trans (Mz.o.mono Hl.o.1),Dy.o.1.of (Mz.o.block _ Hl.o.2.1),Dy.o.2.of (Mz.o.block _ Hl.o.2.2),z',HET.o⟩⟩;exact QC
 ·have h9:i=min sn 60:=O;obtain⟨CQ,-⟩:=HW.o;have CP:=Z CQ;clear CQ HW hm;by_cases e1:i<sn
  ·have e2:¬i<60:=O;exact vg
  ·exact vg
end
end Go.Ma
namespace Go.Mk
open Go.RowKit aj.Vm
def Ij{p p':Nat->Bool}:∀(L:List Nat),(∀x,x∈L->p' x=true->p x=true)->(L.filter p').length<=(L.filter p).length
 |[],_=>aL _
 |x::L,h=>by have ih:=Ij L λy hy=>h y (List.mem_cons_of_mem _ hy);have hx:=h x (List.mem_cons_self ..);rw[List.filter_cons,List.filter_cons];cases e':p' x<;>cases e:p x<;>simp_all<;>omega
def LY{p p':Nat->Bool}{i:Nat}(h1:p i=true)(h2:p' i=false):∀(L:List Nat),i∈L->(∀x,x∈L->p' x=true->p x=true)->(L.filter p').length<(L.filter p).length
 |[],hi,_=>by cases hi
 |x::L,hi,h=>by
  have le:=Ij L λy hy=>h y (List.mem_cons_of_mem _ hy);have hx:=h x (List.mem_cons_self ..);rw[List.filter_cons,List.filter_cons];rcases List.mem_cons.1 hi with rfl|hi
  ·rw[h1,h2];simp;omega
  ·have ih:=LY h1 h2 L hi λy hy=>h y (List.mem_cons_of_mem _ hy);cases e':p' x<;>cases e:p x<;>simp_all<;>omega
def left(n:Nat)(l:Array Bool):Nat:=((List.range n).filter λj=> !(l.getD j true)).length
def Xt{l:Array Bool}{i:Nat}:(l.setIfInBounds i true).getD i true=true:=by
 by_cases hj:i<l.size
 ·simp[Array.getD,hj]
 ·simp[Array.getD,hj]
def q9{l:Array Bool}{i j:Nat}(hi:i<l.size):(l.setIfInBounds i true).getD j false=if j=i then true else l.getD j false:=by
 by_cases e:j=i
 ·subst e;rw[bk rfl];simp[Array.getD,hi]
 ·rw[aw e,getD_set_ne false (λh=>e h.symm)]
def nX{l:Array Bool}{i:Nat}(h:l.getD i false=true):l.getD i true=true:=by
 by_cases hj:i<l.size
 ·simpa[Array.getD,hj]using h
 ·simp[Array.getD,hj]
def afQ{l:Array Bool}{i:Nat}(hi:i<l.size)(h:¬l.getD i false=true):l.getD i true=false:=by simpa[Array.getD,hi]using h
section
variable {P:Program}{ops:Array Oper}{Q:Exit->Act->UK->Prop}{md:Region.Mode}{S:UK->Prop}
def Pg(I:Array Bool->Act->UK->Prop)
 (Wm:∀l a w i,I l a w->i∈Region.ready md ops l->wpOp P ops Q i (λa' w'=>S w'/\I (l.setIfInBounds i true) a' w') a w)
 (NE:∀l a w,I l a w->Region.ready md ops l=[]->Q .normal a w):
 ∀(f:Nat) (l:Array Bool) (a:Act) (w:UK),left ops.size l<=f->I l a w->wpAnyH P md ops Q S f l a w
 |0,l,a,w,hf,hI=>by
  have hr:Region.ready md ops l=[]:=by
   cases hr:Region.ready md ops l with
   |nil=>rfl
   |cons i r=>
    obtain⟨h0,o,ho,-⟩:=mem_ready.1 (show i∈Region.ready md ops l by rw[hr];exact List.mem_cons_self ..);have h1:i∈(List.range ops.size).filter λj=> !(l.getD j true):=by rw[List.mem_filter,List.mem_range];exact⟨(Array.getElem?_eq_some_iff.1 ho).1,by rw[h0];rfl⟩
    have h2:=yR h1;unfold left at hf;omega
  exact⟨hr,NE l a w hI hr⟩
 |f+1,l,a,w,hf,hI=>by
  refine⟨λhr=>NE l a w hI hr,λi hi=>?_⟩;obtain⟨h0,o,ho,-⟩:=mem_ready.1 hi;have be:left ops.size (l.setIfInBounds i true)<left ops.size l:=by
   refine LY (i:=i) (by rw[h0];rfl) (by rw[Xt];rfl) _ (List.mem_range.2 (Array.getElem?_eq_some_iff.1 ho).1) λx _ hx=>?_;by_cases e:i=x
   ·subst e;rw[Xt]at hx;cases hx
   ·rw[getD_set_ne true e]at hx;exact hx
  exact wpOp_mono (λa' w' h=>⟨h.1,Pg I Wm NE f _ _ _ O h.2⟩) (Wm l a w i hI hi)
def agF(ops:Array Oper):Bool:=(List.range ops.size).all λj=>match ops[j]? with|some o=>o.after.all λe=>decide (e.on<j)|none=>true
def afs{l:Array Bool}(X:agF ops=true)(hl:l.size=ops.size)(hr:Region.ready md ops l=[]):∀j,j<ops.size->l.getD j false=true:=by
 intro j
 induction j using Nat.strongRecOn with
 |_ j ih=>
  intro hj;refine Classical.byContradiction λhn=>?_;have h0:=afQ O hn;have hm:j∈Region.ready md ops l:=by refine mem_ready.2 ⟨h0,ops[j],Array.getElem?_eq_getElem hj,λe he _=>?_⟩;have h1:=List.all_eq_true.1 X j (List.mem_range.2 hj);rw[Array.getElem?_eq_getElem hj]at h1;have h2:=rS (Array.all_eq_true_iff_forall_mem.1 h1 e he);exact ih e.on h2 O
  rw[hr]at hm;cases hm
def tl(md:Region.Mode)(ops:Array Oper)(i k:Nat):Bool:=match ops[i]? with|some o=>o.after.any λe=>Region.binds md e&&e.on==k|none=>false
def dep{l:Array Bool}{o:Oper}{i:Nat}(k:Nat)(ho:ops[i]? =H o)(h:∀e∈o.after,Region.binds md e=true->l.getD e.on false=true)(hk:tl md ops i k=true):l.getD k false=true:=by unfold tl at hk;rw[ho]at hk;obtain⟨e,he,h2⟩:=Array.any_eq_true'.1 hk;rw[fp]at h2;have:=h e he h2.1;rwa[show e.on=k by simpa using h2.2]at this
def xf{o:Oper}{a:Act}{w:UK}{K:Act->UK->Prop}{E:Prop}(t e:TypeId)(Bz:o.guard=K7)(ho:o.op= .buildSlice t 0 #[])(hu:P.underlying t=H (.slice e))(hs:(P.info? e).isSome=true)
 (h:K (a.put o.dst (to (H (G w.heap.size 0)) 0 0)) (w.alloc (QP #[] e))):if Region.wanted o (yielded ops a.tmps)=true then Oper.wp P o a w K Q else E:=by
 have hw:Region.wanted o (yielded ops a.tmps)=true:=by simp[Region.wanted,Bz]
 rw[bk hw];obtain⟨i,hi⟩:=Option.isSome_iff_exists.1 hs;have hr:(Instr.buildSlice t 0 #[]).run P w= .ok (to (H (G w.heap.size 0)) 0 0) (w.alloc (QP #[] e)):=by simp[Instr.buildSlice,run_underlying hu,sizeOf,typeInfo,hi,newRow,Instr.fill];congr 2;exact Array.eq_empty_of_size_eq_zero ay
 unfold Oper.wp execOp;simp only[ho,Sem.run_bind,List.map_toArray,List.map_nil,hr,Result.andThen_ok];exact h
def Pe{p:Prop}(h:p:=by
 simp[Builtin.append_,run_underlying ht,sizeOf,typeInfo,FU,Builtin.lenOf,Builtin.firstCells,storeCells,loadCells,loadCellsFrom]):p:=h
def sm{o:Oper}{a:Act}{w:UK}{K:Act->UK->Prop}{E:Prop}(s x:Operand)(t:TypeId)(Bz:o.guard=K7)
 (ho:o.op= .call {callee:= .builtin .append,args:=#[s,x],argTypes:=#[t,t]})
 (e:TypeId) {size bytes:Nat} {z:UL} (ht:P.underlying t=H (.slice e)) (hi:(P.info? e).map (λi=>(i.zero,i.size,i.bytes))=H (H z,size,bytes)) (Nz:z.cells.size=size) (kw:0<size)
 (b n:Nat) (xv:UL) (g:Nat->UL) (hs:a.eval s=to (H (G b 0)) 0 0) (X:aF w b e #[]) (hx:a.eval x=xv) (bo:Vf.aZ w size xv n g) (h1:∀j,j<n*size->(g j).oneCell'=true) (mP:n*bytes<=140737488355328)
 (h:∀v' w',Row w' e size v' n g->Below w.heap.size w w'->(∀b',v'.ownBlock=H b'->b'=b\/w.heap.size<=b')->K (a.put o.dst v') w'):if Region.wanted o (yielded ops a.tmps)=true then Oper.wp P o a w K Q else E:=by
 have hw:Region.wanted o (yielded ops a.tmps)=true:=by simp[Region.wanted,Bz]
 rw[bk hw];obtain⟨i,FU,vG,MU,NA⟩:=y_ hi;by_cases hn:n=0
 ·subst hn;have hr:(Builtin.append_ #[t,t] o.type #[to (H (G b 0)) 0 0,xv]).run P w= .ok (to (H (G b 0)) 0 0) w:=by
   rcases bo with⟨rfl,-⟩|⟨ad,cap,rfl,-⟩
   ·exact Pe
   ·exact Pe
  unfold Oper.wp execOp;simp only[ho,resolve,invoke,builtin,Sem.run_bind,Sem.run_pure,Result.andThen_ok,List.map_toArray,List.map_cons,List.map_nil,hs,hx,hr];refine h _ _ (Row.made (cap:=0) X ay (cK _) λo ho=>by omega) (aB _ _) λb' jV=> .inl ?_;simpa[Value.ownBlock]using jV.symm
 ·obtain⟨b2,off,cap,rfl,h2,h3,h4,hc⟩:=bo.some O kw;obtain⟨v',w',hr,r1,r2⟩:=run_append_arg_grows (P:=P) w t o.type e i z size bytes ht FU vG MU NA Nz kw (G b 0) 0 0 [] ay ay (G b2 off) n cap (eY (n*size) g) (by rw[fO])
   (λj u hu=>by
     have hj:j<n*size:=by
      rcases Nat.lt_or_ge j (n*size)with be|Rb
      ·exact be
      ·exact YQ
     rw[nN g hj]at hu;cases hu;rw[Addr.add_lit];exact hc j hj) O O (by rw[Nat.zero_add];exact mP)
  unfold Oper.wp execOp;simp only[ho,resolve,invoke,builtin,Sem.run_bind,Sem.run_pure,Result.andThen_ok,List.map_toArray,List.map_cons,List.map_nil,hs,hx,hr];rw[Nat.zero_add,List.nil_append]at r1;refine h _ _ (World.ownsRow.mono r1 (cK _)) ?_ λb' jV=> .inr (fE r1 b' jV).1;exact(eK r2).below (aL _) ay
end
end Go.Mk
