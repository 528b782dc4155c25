import Derived.Test.YtblkblclmbhjiaaGreatX2
import Derived.IntWalk
set_option linter.all false
set_option maxHeartbeats 40000000
set_option maxRecDepth 100000
open Go.Proofs.Tryz
open Option renaming some->H,none->K7
open Go renaming Value->UL,World->UK
open Go.Value renaming slice->to
open Go.Obj renaming cells->QP
open Go.Ending renaming returned->C8
open Go.World renaming cell?->UJ
abbrev cM:=@Go.Value.slice.injEq
abbrev bZ:=@Go.AllReadyH.cons
abbrev cz:=@Go.AllReadyH.nil
abbrev nW:=@Go.wpAnyH_done
open Go.RowKit aj.Vm
open aj hiding aR an ak
namespace Go.Ma
open eB (bS bL)
open Ix (cX)
structure Y4(w:UK)(C:Co)(RO:List Nat):Prop where
 nd:C.l.Nodup
 lt:∀b,b∈C.l->b<w.heap.size
 ro:∀b,b∈C.l->b∉RO
 dO:∀b,b∈RO->b<w.heap.size
structure Mx(w:UK)(C:Co)(RO:List Nat)(K:Kc)(p:aQ)(c:Cp)(s:St)(t:dZ)(used:Int)(rv:UL):Prop where
 m:qH w C RO K p c s t used rv
 sep:Y4 w C RO
structure bT(w w':UK)(C C':Co):Prop where
 mb:C'.mb=C.mb
 f:aA C.l w w'
 c:∀b,b∈C'.l->b∈C.l\/w.heap.size<=b
def bT.refl(w:UK)(C:Co):bT w w C C:=⟨rfl,aA.refl _ w,λ_ h=> .inl h⟩
def bT.trans{w w1 w2:UK}{C C1 C2:Co}(h:bT w w1 C C1)(k:bT w1 w2 C1 C2):bT w w2 C C2:=
 ⟨k.mb.trans h.mb,⟨k.f.os.trans h.f.os,k.f.tape.trans h.f.tape,k.f.output.trans h.f.output,Nat.le_trans h.f.size k.f.size,λi hi hs=>(k.f.block i (eJ hi h.f.size) (λhc=>by rcases h.c i hc with hc|hc;exact hs hc;omega)).trans (h.f.block i hi hs)⟩,
   λb X=>by rcases k.c b X with X|X;exact h.c b X;have:=h.f.size;exact .inr O⟩
def bT.below{w w':UK}{C:Co}(b:Below w.heap.size w w'):bT w w' C C:=⟨rfl,aA.af b,λ_ h=> .inl h⟩
def yi(w:UK)(C:Co)(RO:List Nat)(K:Kc)(p:aQ)(c:Cp)(t:dZ)(used:Int)(rv:UL)(v:UL)(s:St)(e:Ending)(w':UK):Prop:=
 e=C8 v/\∃C',bT w w' C C'/\Mx w' C' RO K p c s t used rv
section
variable {w w':UK}{C C':Co}{U U':Ru}{RO RO':List Nat}{K:Kc}{p:aQ}{c:Cp}{t:dZ}{used:Int}{hv hv':UL}{jv kT:Nat->UL}{s s':St}{r r':Rn}{rv:UL}
def Mx.later(h:Mx w C RO K p c s t used rv)(b:Below w.heap.size w w'):Mx w' C RO K p c s t used rv:=
 ⟨h.m.aG (aA.af (S:=[]) b) ay ay,h.sep.nd,λb' X=>eJ (h.sep.lt b' X) b.size,h.sep.ro,λb' X=>eJ (h.sep.dO b' X) b.size⟩
def Mx.drewN(h:Mx w C RO K p c s t used rv)(n:Nat):Mx (w.drewN n) C RO K p c s t used rv:=h.later (az _ _ n)
def Mx.box(h:Mx w C RO K p c s t used rv)(o:Obj):Mx (w.alloc o) C RO K p c s t used rv:=h.later ((aB _ w).alloc (aL _) _)
def Mx.cr(h:Mx w C RO K p c s t used rv){b:Nat}(X:b∈RO):b∉C.l:=λhc=>h.sep.ro b hc X
def cS.mx(h:cS w C U RO K p c t used hv jv s r):Mx w C RO K p c s t used (UI U.rb):=
 ⟨h.m,(List.nodup_append.1 h.sep.nd).1,λb X=>h.sep.lt b (by simp[X]),λb X=>h.sep.ro b (by simp[X]),h.sep.dO⟩
def Mx.less(h:Mx w C RO K p c s t used rv)(hs:∀b,b∈RO'->b∈RO\/(b<w.heap.size/\b∉C.l))(hp:∀b,b∈RO->b∈RO'):Mx w C RO' K p c s t used rv:=
 ⟨h.m.more hp,h.sep.nd,h.sep.lt,λb X hc=>by rcases hs b hc with hc|hc;exact h.sep.ro b X hc;exact hc.2 X,λb X=>by rcases hs b X with X|X;exact h.sep.dO b X;exact X.1⟩
def cS.ou(h:cS w C U RO K p c t used hv jv s r){t':dZ}{used':Int}(k:bT w w' C C')(m:Mx w' C' RO K p c s' t' used' (UI U.rb)):cS w' C' U RO K p c t' used' hv jv s' r:=by
 refine⟨m.m,?_,?_,?_,?_,m.sep.dO⟩
 ·rw[k.mb];exact h.r.aG k.f (λb X=>h.sep.uc X) (λb X=>h.sep.cr X)
 ·rw[vH];refine⟨m.sep.nd,(List.nodup_append.1 h.sep.nd).2.1,λa ha b X e=>?_⟩;subst e;rcases k.c a ha with hc|hc
  ·exact h.sep.cu hc X
  ·have:=h.sep.lt a (by simp[X]);omega
 ·intro b X;rcases List.mem_append.1 X with X|X
  ·exact m.sep.lt b X
  ·exact eJ (h.sep.lt b (by simp[X])) k.f.size
 ·intro b X;rcases List.mem_append.1 X with X|X
  ·exact m.sep.ro b X
  ·exact h.sep.ro b (by simp[X])
def cS.kept(h:cS w C U RO K p c t used hv jv s r)(k:bT w w' C C'):Kept RO w w':=Kept.dn k.f (λb X=>h.sep.cr X) h.sep.dO
structure Qr(C:Co):Prop where
 mx:C.mb≠C.xb
 ms:C.mb≠C.xs
 ma:C.mb∉bp C.ab C.V C.L
 mv:C.mb∉vb C.vs
 xs:C.xb≠C.xs
 xa:C.xb∉bp C.ab C.V C.L
 xv:C.xb∉vb C.vs
 sa:C.xs∉bp C.ab C.V C.L
 sv:C.xs∉vb C.vs
 av:∀b,b∈bp C.ab C.V C.L->b∉vb C.vs
def Co.rel{C:Co}(h:C.l.Nodup):Qr C:=by unfold Co.l at h;rw[List.nodup_cons]at h;obtain⟨h0,h⟩:=h;rw[List.nodup_cons]at h;obtain⟨h1,h⟩:=h;rw[List.nodup_cons]at h;obtain⟨h2,h⟩:=h;rw[vH]at h;simp only[fh,dV,not_or]at h0 h1 h2;exact⟨h0.1,h0.2.1,h0.2.2.1,h0.2.2.2,h1.1,h1.2.1,h1.2.2,h2.1,h2.2,λb X hc=>h.2.2 b X b hc rfl⟩
def Mx.rel(h:Mx w C RO K p c s t used rv):Qr C:=Co.rel h.sep.nd
def Em{p:aQ}{a:Nd}{q e:Nat}{x:eU}(hq:q<p.bw.length):e_ p (gQ a q e x)=e_ p a+1:=by
 unfold e_;have h1:=mK (k:=p.bw.length) (f:=λp=>(a.ls p).length) (g:=λp=>((gQ a q e x).ls p).length) hq (λj hj=>by
  show(aR a.ls q _ j).length=_;rw[ak _ _ hj])
 have h2:((gQ a q e x).ls q).length=(a.ls q).length+1:=by show(aR a.ls q _ q).length=_;rw[an,kz]
 rw[h2]at h1;omega
def qJ{p:aQ}{a:Nd}{q n:Nat}(hq:q<p.bw.length)(hn:n∈a.ls q):e_ p (takeN a q n)+1=e_ p a:=by
 unfold e_;have h1:=mK (k:=p.bw.length) (f:=λp=>(a.ls p).length) (g:=λp=>((takeN a q n).ls p).length) hq (λj hj=>by
  show(aR a.ls q _ j).length=_;rw[ak _ _ hj])
 have h2:((takeN a q n).ls q).length=(a.ls q).length-1:=by show(aR a.ls q _ q).length=_;rw[an,An hn]
 have h3:0<(a.ls q).length:=yR hn;rw[h2]at h1;omega
def Mx.reads(h:Mx w C RO K p c s t used rv):UJ w (G C.mb 9)=H (UI C.ab)/\UJ w (G C.mb 10)=H (UI C.xb)/\UJ w (G C.mb 12)=H (Y s.total)/\UJ w (G C.mb 0)=H K.g/\∀o,w.frozen? (G C.mb o)=false:=
 ⟨h.m.bg.cell 9,h.m.bg.cell 10,h.m.bg.cell 12,h.m.bg.cell 0,h.m.bg.frozen⟩
def Mx.bw(h:Mx w C RO K p c s t used rv){q:Nat}(hq:q<p.bw.length):∃b cap,K.g=to (H (G b 0)) p.bw.length cap/\b∈RO/\UJ w (G b q)=H (.bool (p.bw.getD q false)):=by obtain⟨b,cap,iD,pR,mZ,X⟩:=h.m.prog.g.some O;refine⟨b,cap,iD,h.m.prog.ro b (.inl (aU.2 (by rw[iD];rfl))),?_⟩;have h3:=h.m.prog.g;rw[iD]at h3;exact h3.cell (o:=q) O
def Mx.total(h:Mx w C RO K p c s t used rv)(n:Int):bT w (w.setCell (G C.mb 12) (Y n)) C C/\Mx (w.setCell (G C.mb 12) (Y n)) C RO K p c {s with total:=n} t used rv:=by
 have R:=h.rel;have F:aA [C.mb] w (w.setCell (G C.mb 12) (Y n)):=(aA.refl _ w).setCell ay _;refine⟨⟨rfl,F.mono (by intro k hk;simp at hk;subst hk;simp[Co.l]),λ_ X=> .inl X⟩,⟨⟨?_,?_,?_,?_,?_⟩,h.sep.nd,λb X=>eJ (h.sep.lt b X) F.size,h.sep.ro,λb X=>eJ (h.sep.dO b X) F.size⟩⟩
 ·exact h.m.bg.set 12 _
 ·exact h.m.prog.aG F λb X hc=>by simp at hc;subst hc;exact h.cr X (by simp[Co.l])
 ·exact h.m.ar.aG F λb X hc=>by simp at hc;subst hc;exact R.ma X
 ·exact h.m.ix.aG F ⟨by simp;exact λe=>R.mx e.symm,by simp;exact λe=>R.ms e.symm⟩
 ·exact h.m.vs.aG F λb X hc=>by simp at hc;subst hc;exact R.mv (aU.2 X)
def sy{p:Prop}(h:p:=by
 intro b X hc;rcases key b X with X|X
 ·exact h.sep.ro b X hc
 ·have:=h.sep.dO b hc;omega):p:=h
def En{p:Prop}(h:p:=by
 exact eJ (h.sep.lt b (by simp[Co.l,jV])) F.size):p:=h
def ME{p:Prop}(h:p:=by
 have e1:C.l=(C.mb::C.xb::C.xs::[C.ab])++(vb C.V++(vb C.L++vb C.vs)):=by simp[Co.l,bp,vb]
 have e2:({C with V:=V'}:Co).l=(C.mb::C.xb::C.xs::[C.ab])++(vb V'++(vb C.L++vb C.vs)):=by simp[Co.l,bp,vb]
 rw[e2];refine mX (n:=w.heap.size) (v:=C.V) ?_ (λb X=>?_) (λb X=>?_)
 ·rw[<-e1];exact h.sep.nd
 ·rw[<-e1]at X;exact h.sep.lt b X
 ·rcases hV b (aU.1 X)with h'|h'
  ·exact .inl (aU.2 h')
  ·exact .inr h'):p:=h
def MD{p:Prop}(h:p:=by
 intro b X;simp only[Co.l,bp,fh,dV,Option.mem_toList]at X ⊢;rcases X with X|X|X|(X|X|X)|X
 ·exact .inl (.inl X)
 ·exact .inl (.inr (.inl X))
 ·exact .inl (.inr (.inr (.inl X)))
 ·exact .inl (.inr (.inr (.inr (.inl (.inl X)))))
 ·rcases hV b X with h'|h'
  ·exact .inl (.inr (.inr (.inr (.inl (.inr (.inl h'))))))
  ·exact .inr h'
 ·exact .inl (.inr (.inr (.inr (.inl (.inr (.inr X))))))
 ·exact .inl (.inr (.inr (.inr (.inr X))))):p:=h
def Mx.VS(h:Mx w C RO K p c s t used rv){V':UL}{a':Nd}(f:aA (bp C.ab C.V C.L) w w')(ha:bS w' C.ab V' C.L K.nd p.bw.length a')(hV:∀b,V'.ownBlock=H b->C.V.ownBlock=H b\/w.heap.size<=b)
 {s':St} (h1:s'.a=a') (h2:s'.vars=s.vars) (h3:s'.total=s.total) (hix:cX w C.xb C.xs K.nd (e_ p a') s'.f):bT w w' C {C with V:=V'}/\Mx w' {C with V:=V'} RO K p c s' t used rv:=by
 have R:=h.rel;have F:aA C.l w w':=f.mono (by intro k hk;simp[Co.l,hk]);have key:∀b,b∈({C with V:=V'}:Co).l->b∈C.l\/w.heap.size<=b:=by exact MD
 refine⟨⟨rfl,F,key⟩,⟨⟨?_,?_,?_,?_,?_⟩,?_,?_,?_,?_⟩⟩
 ·rw[h3];exact h.m.bg.aG f R.ma
 ·exact h.m.prog.aG F λb X=>h.cr X
 ·rw[h1];exact ha
 ·rw[h1];exact hix.aG f ⟨R.xa,R.sa⟩
 ·rw[h2];exact h.m.vs.aG f λb X hc=>R.av b hc (aU.2 X)
 ·exact ME
 ·intro b X;have jV:=X;simp only[Co.l,fh,dV]at jV;rcases jV with jV|jV|jV|jV|jV
  ·exact En
  ·exact En
  ·exact En
  ·exact ha.lt b jV
  ·exact En
 ·exact sy
 ·exact λb X=>eJ (h.sep.dO b X) F.size
def Mx.both{w1 w2:UK}(h:Mx w C RO K p c s t used rv){V':UL}{a':Nd}{f':Nat->Option Nat}(f1:aA (bp C.ab C.V C.L) w w1)(ha:bS w1 C.ab V' C.L K.nd p.bw.length a')(hV:∀b,V'.ownBlock=H b->C.V.ownBlock=H b\/w.heap.size<=b)
 (f2:aA [C.xb,C.xs] w1 w2) (hx:cX w2 C.xb C.xs K.nd (e_ p a') f'):bT w w2 C {C with V:=V'}/\Mx w2 {C with V:=V'} RO K p c ⟨a',f',s.vars,s.total⟩ t used rv:=by
 have R:=h.rel;have hlen:=ha.lt;have F1:aA C.l w w1:=f1.mono (by intro k hk;simp[Co.l,hk]);have F2:aA C.l w1 w2:=f2.mono (by intro k hk;simp at hk;rcases hk with rfl|rfl<;>simp[Co.l]);have F:=F1.trans F2;have key:∀b,b∈({C with V:=V'}:Co).l->b∈C.l\/w.heap.size<=b:=by exact MD
 have hxV:∀b,b∈bp C.ab V' C.L->b∉[C.xb,C.xs]:=by
  intro b X hc;have dC:b∈bp C.ab C.V C.L\/w.heap.size<=b:=by
   simp only[bp,fh,dV,Option.mem_toList]at X ⊢;rcases X with X|X|X
   ·exact .inl (.inl X)
   ·rcases hV b X with h'|h'
    ·exact .inl (.inr (.inl h'))
    ·exact .inr h'
   ·exact .inl (.inr (.inr X))
  simp at hc;rcases hc with rfl|rfl
  ·rcases dC with dC|dC
   ·exact R.xa dC
   ·have:=h.sep.lt C.xb (by simp[Co.l]);omega
  ·rcases dC with dC|dC
   ·exact R.sa dC
   ·have:=h.sep.lt C.xs (by simp[Co.l]);omega
 have Jl:C.mb∉[C.xb,C.xs]:=by simp;exact⟨R.mx,R.ms⟩
 refine⟨⟨rfl,F,key⟩,⟨⟨?_,?_,?_,?_,?_⟩,?_,?_,?_,?_⟩⟩
 ·exact(h.m.bg.aG f1 R.ma).aG f2 Jl
 ·exact h.m.prog.aG F λb X=>h.cr X
 ·exact ha.aG f2 hxV
 ·exact hx
 ·exact(h.m.vs.aG f1 λb X hc=>R.av b hc (aU.2 X)).aG f2 λb X hc=>by
   simp at hc;rcases hc with rfl|rfl
   ·exact R.xv (aU.2 X)
   ·exact R.sv (aU.2 X)
 ·exact ME
 ·intro b X;have jV:=X;simp only[Co.l,fh,dV]at jV;rcases jV with jV|jV|jV|jV|jV
  ·exact En
  ·exact En
  ·exact En
  ·exact eJ (ha.lt b jV) F2.size
  ·exact En
 ·exact sy
 ·exact λb X=>eJ (h.sep.dO b X) F.size
def Jr(w w1:UK)(C:Co)(K:Kc)(p:aQ)(s:St)(V':UL)(a':Nd):Prop:=
 bS w1 C.ab V' C.L K.nd p.bw.length a'/\aA (bp C.ab C.V C.L) w w1/\(∀b,V'.ownBlock=H b->C.V.ownBlock=H b\/w.heap.size<=b)/\cX w1 C.xb C.xs K.nd (e_ p s.a) s.f
def Mx.BX(h:Mx w C RO K p c s t used rv){w1:UK}{V':UL}{a':Nd}(ha:bS w1 C.ab V' C.L K.nd p.bw.length a')(f:aA (bp C.ab C.V C.L) w w1)(hV:∀b,V'.ownBlock=H b->C.V.ownBlock=H b\/w.heap.size<=b):Jr w w1 C K p s V' a':=
 ⟨ha,f,hV,h.m.ix.aG f ⟨h.rel.xa,h.rel.sa⟩⟩
def Mx.yj(h:Mx w C RO K p c s t used rv){w1:UK}(f:aA (bp C.ab C.V C.L) w w1):UJ w1 (G C.mb 9)=H (UI C.ab)/\UJ w1 (G C.mb 10)=H (UI C.xb)/\UJ w1 (G C.mb 12)=H (Y s.total)/\UJ w1 (G C.mb 0)=H K.g/\∀o,w1.frozen? (G C.mb o)=false:=by have hm:=h.m.bg.aG f h.rel.ma;exact⟨hm.cell 9,hm.cell 10,hm.cell 12,hm.cell 0,hm.frozen⟩
def OB(h:Mx w C RO K p c s t used rv)(gP:K.nd<=4194304)(hg:p.bw.length<=256){q d:Nat}(hq:q<p.bw.length)(he:d<=1)(x:eU)(hx:s.f x.key=K7)(mR:e_ p s.a<K.nd)(ht: -1073741824<=s.total/\s.total<=1073741824):
 Calls prog 270 #[UI C.mb,Y q,Y d,bL x] w (yi w C RO K p c t used rv (.tuple #[]) (jX (aC p c) s q d x)):=by
 have ep:=h.box (QP (aP x) 118);have H0:=Z (ep.drewN 1);have HB:=Z (bT.below (C:=C) (((aB w.heap.size w).alloc (aL _) (QP (aP x) 118)).trans (az _ _ 1)));have HX:=Z hx;have HT:=Z ht;have hP:=eB.X9 H0.o.m.ar gP hg hq he x mR;obtain⟨m9,-,-,-,-⟩:=ep.reads;have gu:aF (w.alloc (QP (aP x) 118)) w.heap.size 118 (aP x):=aF.new w _ _;have kE:=Z gu;have Lj:w.heap.size∉bp C.ab C.V C.L:=λhc=>by have:=h.m.ar.lt _ hc;omega
 obtain⟨b0,b1,b2,b3,b4⟩:=gu.c5;have HBF:Hid (∀w2,aA (bp C.ab C.V C.L) ((w.alloc (QP (aP x) 118)).drewN 1) w2->aF w2 w.heap.size 118 (aP x)):=Z λw2 f=>(gu.drewN 1).aG f Lj;have C1:Hid (Calls prog 306 #[UI C.ab,Y q,Y d,bL x] ((w.alloc (QP (aP x) 118)).drewN 1) λr w2=>
  r=C8 (.tuple #[Y (s.a.fs 0),Y 0])/\(UJ w2 (G C.mb 9)=H (UI C.ab)/\UJ w2 (G w.heap.size 0)=H (.int .u64 x.key)/\UJ w2 (G w.heap.size 1)=H (Y (x.tg 0))/\UJ w2 (G w.heap.size 2)=H (Y (x.tg 1))/\UJ w2 (G w.heap.size 3)=H (Y (x.tg 2))/\UJ w2 (G w.heap.size 4)=H (Y (x.tg 3)))/\
  Hid (∃V',Jr ((w.alloc (QP (aP x) 118)).drewN 1) w2 C K p s V' (gQ s.a q d x))):=by
  refine Z (hP.mono ?_);rintro r w2 ⟨rfl,V',ha,f,hV⟩;have dC:=HBF.o w2 f;exact⟨rfl,⟨(H0.o.yj f).1,dC.cell 0,dC.cell 1,dC.cell 2,dC.cell 3,dC.cell 4⟩,Z ⟨V',H0.o.BX ha f hV⟩⟩
 clear gu h hx ht hP Lj ep;unfold bL at*;unfold aP at*;obtain⟨w1,jF⟩:∃w1,w1=w.alloc (QP #[.int .u64 x.key,Y (x.tg 0),Y (x.tg 1),Y (x.tg 2),Y (x.tg 3)] 118):=⟨_,rfl⟩;rw[<-jF]at m9 b0 b1 b2 b3 b4 C1 H0 HB HBF kE;go_enter func270,ntmps270;go_wp2_with fail;rw[<-jF];clear jF;generalize w.heap.size=bx at*
 go_region_held3 (λwx=>UJ wx (G C.mb 9)=H (UI C.ab)/\UJ wx (G bx 0)=H (.int .u64 x.key)/\UJ wx (G bx 1)=H (Y (x.tg 0))/\UJ wx (G bx 2)=H (Y (x.tg 1))/\UJ wx (G bx 3)=H (Y (x.tg 2))/\UJ wx (G bx 4)=H (Y (x.tg 3))) (first|exact⟨m9,b0,b1,b2,b3,b4⟩|assumption) ((go_at_call 306;refine C1.o.mono ?_;rintro r w2 ⟨rfl,hS,hM⟩))
 obtain⟨-,b0',-,-,-,-⟩:=hS;have⟨V',M6⟩:=hM.o;have HBt:=Z M6;obtain⟨-,g10,-,-,-⟩:=H0.o.yj M6.2.1;have Yd:=Z (Ix.Ox (v:=s.a.fs 0) (M6.2.2.2.drewN 1) HX.o O);have eF:=Z (HBF.o w2 M6.2.1);clear m9 b0 b1 b2 b3 b4 C1 HBF kE M6 hM;go_wp2_with fail
 go_still_tail 7,bh
 change wpList _ _ _ _ _ (w2.drewN 1);obtain⟨w3,VU⟩:∃w3,w3=w2.drewN 1:=⟨_,rfl⟩;rw[<-VU];rw[<-VU]at Yd;have HW3:=Z VU;clear VU;go_wp2_with fail;refine Yd.o.mono ?_;rintro e w4 ⟨rfl,f4,x4⟩;obtain⟨VV,G3⟩:=H0.o.both HBt.o.2.1 HBt.o.1 HBt.o.2.2.1 (((aA.refl _ w2).drewN 1).trans (by rw[<-HW3.o];exact f4)) (by rw[Em hq];exact x4);obtain⟨-,-,g12,g0,gf⟩:=G3.reads;obtain⟨gb,ov,lG,yk,zI⟩:=G3.bw hq;have M4:=Z VV;have Dn:=Z G3;rw[lG]at g0;clear lG VV G3 f4 x4 b0' g10 Yd;have M7:(aC p c).gh q=p.bw.getD q false:=rfl;have HGH:=Z M7;clear M7;dsimp only at g12;generalize p.bw.getD q false=gq at*;generalize p.bw.length=ng at*;have Ye:IntKind.i64.wrap (s.total+1)=s.total+1:=bJ _ ⟨by have:=HT.o;omega,by have:=HT.o;omega⟩;cases gq
 ·go_wp2;refine bK (dJ rfl _ _ _) rfl ?_;obtain⟨k1,k2⟩:=Dn.o.total (s.total+1);have e:jX (aC p c) s q d x=⟨gQ s.a q d x,Vm.aR s.f x.key (H (s.a.fs 0)),s.vars,s.total+1⟩:=by unfold jX;rw[HGH.o];rfl
  rw[e];exact⟨rfl,{C with V:=V'},HB.o.trans (M4.o.trans k1),k2⟩
 ·go_wp2;refine bK (dJ rfl _ _ _) rfl ?_;have e:jX (aC p c) s q d x=⟨gQ s.a q d x,Vm.aR s.f x.key (H (s.a.fs 0)),s.vars,s.total⟩:=by unfold jX;rw[HGH.o];rfl
  rw[e];exact⟨rfl,{C with V:=V'},HB.o.trans M4.o,Dn.o⟩
def Mx.aG(h:Mx w C RO K p c s t used rv){S:List Nat}(f:aA S w w')(hc:∀b,b∈C.l->b∉S)(hr:∀b,b∈RO->b∉S):Mx w' C RO K p c s t used rv:=
 ⟨h.m.aG f hc hr,h.sep.nd,λb' X=>eJ (h.sep.lt b' X) f.size,h.sep.ro,λb' X=>eJ (h.sep.dO b' X) f.size⟩
def bT.new{w2 w3:UK}(k:bT w w2 C C'){bx:Nat}(X:w.heap.size<=bx)(f:aA [bx] w2 w3):bT w w3 C C':=
 ⟨k.mb,⟨f.os.trans k.f.os,f.tape.trans k.f.tape,f.output.trans k.f.output,Nat.le_trans k.f.size f.size,λi hi hs=>(f.block i (eJ hi k.f.size) jz).trans (k.f.block i hi hs)⟩,k.c⟩
def lO:Array UL:=#[.int .u64 0,Y 0,Y 0,Y 0,Y 0]
def IJ{p:Prop}(h:p:=by
 rw[e];exact bK (v:= .agg #[.int .u64 y.key,Y (y.tg 0),Y (y.tg 1),Y (y.tg 2),Y (y.tg 3)]) (by simp[results,results272,go_sem,e0,e1,e2,e3,e4]) rfl ⟨rfl,C,T3,k3⟩):p:=h
def VW(h:Mx w C RO K p c s t used rv)(hI:Inv (aC p c) s)(gP:K.nd<=4194304)(hg:p.bw.length<=256){q d:Nat}(hq:q<p.bw.length)(he:d<=1)(bm:s.a.ls q≠[])(ht: -1073741824<=s.total/\s.total<=1073741824):
 Calls prog 272 #[UI C.mb,Y q,Y d] w (yi w C RO K p c t used rv (bL (s.a.val (cN s.a q d))) (kB (aC p c) s q d)):=by
 have hm:=gr (e:=d) bm;have hf:=(hI.idx _ _).2 ⟨q,hq,hm,rfl⟩;have ep:=h.box (QP lO 118);have H0:=Z ep;have HB:=Z (bT.below (C:=C) ((aB w.heap.size w).alloc (aL _) (QP lO 118)));have HF:=Z hf;have HT:=Z ht;have tK:=Z (qJ (a:=s.a) hq hm);have hP:=eB.EL ep.m.ar gP hg hq he bm;obtain⟨m9,-,-,-,-⟩:=ep.reads;have gu:aF (w.alloc (QP lO 118)) w.heap.size 118 lO:=aF.new w _ _;have kE:=Z gu;have Lj:w.heap.size∉C.l:=λhc=>by have:=h.sep.lt _ hc;omega
 have Re:w.heap.size∉RO:=λhc=>by have:=h.sep.dO _ hc;omega
 have Yf:=Z (And.intro Lj Re);have lN:=Z (show kB (aC p c) s q d=⟨takeN s.a q (cN s.a q d),Vm.aR s.f (s.a.val (cN s.a q d)).key K7,s.vars,if p.bw.getD q false then s.total else s.total-1⟩from rfl);clear h hf ht gu Lj Re ep bm hm hI;generalize s.a.val (cN s.a q d)=y at*;unfold bL at hP ⊢;unfold lO at*;have HP:=Z hP;clear hP;go_enter func272,ntmps272;go_wp2_with fail;obtain⟨bx,gu⟩:∃bx,bx=w.heap.size:=⟨_,rfl⟩;rw[<-gu]at kE Yf ⊢;have Lk:=Z (Nat.le_of_eq gu.symm);clear gu;refine HP.o.mono ?_;rintro e w2 ⟨rfl,f2,a2⟩;have M6:=H0.o.BX a2 f2 (λb X=> .inl X);obtain⟨-,g10,-,-,-⟩:=H0.o.yj f2;have HBt:=Z M6;have Yg:=kE.o.aG f2 (λhc=>Yf.o.1 (by simp[Co.l,hc]));have VF:=Yg.lt;have F3:aA (bp C.ab C.V C.L) (w.alloc (QP #[.int .u64 0,Y 0,Y 0,Y 0,Y 0] 118)) ((w2.alloc (QP #[.int .u64 y.key,Y (y.tg 0),Y (y.tg 1),Y (y.tg 2),Y (y.tg 3)] 118)).drewN 1):=(f2.alloc _).drewN 1;have B3:Below w2.heap.size w2 ((w2.alloc (QP #[.int .u64 y.key,Y (y.tg 0),Y (y.tg 1),Y (y.tg 2),Y (y.tg 3)] 118)).drewN 1):=((aB _ w2).alloc (aL _) _).trans (az _ _ 1);have A3:=a2.later B3;have X3:=M6.2.2.2.later B3;rw[<-tK.o]at X3;have hD:=Ix.ss X3 HF.o;have hy:=(aF.new w2 118 #[.int .u64 y.key,Y (y.tg 0),Y (y.tg 1),Y (y.tg 2),Y (y.tg 3)]);have hyb:w2.heap.size∉[C.xb,C.xs]:=by have l1:=H0.o.sep.lt C.xb (by simp[Co.l]);have l2:=H0.o.sep.lt C.xs (by simp[Co.l]);have l3:=f2.size;simp;omega
 have qK:bx∉[C.xb,C.xs]:=by have:=Yf.o.1;simp[Co.l]at this ⊢;exact⟨this.2.1,this.2.2.1⟩
 have aD:=(Yg.alloc (QP #[.int .u64 y.key,Y (y.tg 0),Y (y.tg 1),Y (y.tg 2),Y (y.tg 3)] 118)).drewN 1;have HY:=Z (hy.drewN 1);have Y3:=Z aD;have VX:=Z (And.intro hyb qK);have i10:(w2.alloc (QP #[.int .u64 y.key,Y (y.tg 0),Y (y.tg 1),Y (y.tg 2),Y (y.tg 3)] 118)).cell? (G C.mb 10)=H (UI C.xb):=(H0.o.yj (f2.alloc _)).2.1;have y0:=hy.c1;have Dl:=Z F3;have Eo:=Z A3;have HD:=Z hD;clear f2 a2 M6 m9 HP kE Yg F3 B3 A3 X3 hD hyb qK aD hy g10;go_wp2_with fail;generalize w2.alloc (QP #[.int .u64 y.key,Y (y.tg 0),Y (y.tg 1),Y (y.tg 2),Y (y.tg 3)] 118)=w3 at*;generalize w2.heap.size=yb at*
 go_still_tail 6,bh
 change wpList _ _ _ _ _ (w3.drewN 1);generalize w3.drewN 1=w4 at*;go_wp2_with fail;refine HD.o.mono ?_;rintro e w5 ⟨rfl,f5,x5⟩;obtain⟨VV,G3⟩:=H0.o.both Dl.o Eo.o (λb X=> .inl X) f5 x5;obtain⟨-,-,g12,g0,gf⟩:=G3.reads;obtain⟨gb,ov,lG,yk,zI⟩:=G3.bw hq;have hy5:=HY.o.aG f5 VX.o.1;have uM:=Y3.o.aG f5 VX.o.2;have M4:=Z VV;have Dn:=Z G3;rw[lG]at g0;clear lG VV G3 f5 x5 i10 y0 HD;dsimp only at g12;obtain⟨a0p,a0q,a0r,a0s,a0t⟩:=hy5.c5;obtain⟨a0u,a0v,a0w,Z3,a0x⟩:=uM.c5;have zf:∀o,w5.frozen? (G bx o)=false:=uM.frozen;have n1:yb≠C.mb:=hy5.ne Dn.o.m.bg bd;have n2:bx≠C.mb:=uM.ne Dn.o.m.bg bd;have nU:=Z uM;clear hy5 uM;have Ye:IntKind.i64.wrap (s.total-1)=s.total-1:=bJ _ ⟨by have:=HT.o;omega,by have:=HT.o;omega⟩;generalize p.bw.getD q false=gq at*;generalize p.bw.length=ng at*;cases gq
 ·go_wp2;obtain⟨k1,k2⟩:=Dn.o.total (s.total-1);have AK:aF (w5.setCell (G C.mb 12) (Y (s.total-1))) bx 118 _:=nU.o.other n2 _ _;have r6:=eB.kD AK y;have F6:aA [bx] (w5.setCell (G C.mb 12) (Y (s.total-1))) (dL (w5.setCell (G C.mb 12) (Y (s.total-1))) bx 0 y):=fZ (aA.refl _ _) ay 0 y;have k3:=k2.aG F6 (λb X hc=>by simp at hc;subst hc;exact Yf.o.1 X) (λb X hc=>by simp at hc;subst hc;exact Yf.o.2 X);have T3:=(HB.o.trans (M4.o.trans k1)).new Lk.o F6;change bodyPost _ _ _ _ _ (dL (w5.setCell (G C.mb 12) (Y (s.total-1))) bx 0 y);generalize dL (w5.setCell (G C.mb 12) (Y (s.total-1))) bx 0 y=w7 at*;obtain⟨e0,e1,e2,e3,e4,_⟩:=jY r6;have e:kB (aC p c) s q d=⟨takeN s.a q (cN s.a q d),Vm.aR s.f y.key K7,s.vars,s.total-1⟩:=lN.o;exact IJ
 ·go_wp2;have AK:aF w5 bx 118 _:=nU.o;have r6:=eB.kD AK y;have F6:aA [bx] w5 (dL w5 bx 0 y):=fZ (aA.refl _ _) ay 0 y;have k3:=Dn.o.aG F6 (λb X hc=>by simp at hc;subst hc;exact Yf.o.1 X) (λb X hc=>by simp at hc;subst hc;exact Yf.o.2 X);have T3:=(HB.o.trans M4.o).new Lk.o F6;change bodyPost _ _ _ _ _ (dL w5 bx 0 y);generalize dL w5 bx 0 y=w7 at*;obtain⟨e0,e1,e2,e3,e4,_⟩:=jY r6;have e:kB (aC p c) s q d=⟨takeN s.a q (cN s.a q d),Vm.aR s.f y.key K7,s.vars,s.total⟩:=lN.o;exact IJ
def Mx.vars(h:Mx w C RO K p c s t used rv){b m cap i:Nat}(hv:C.vs=to (H (G b 0)) m cap)(hi:i<p.vars.length)(n:Int):
 bT w (w.setCell (G b i) (Y n)) C C/\Mx (w.setCell (G b i) (Y n)) C RO K p c {s with vars:=Vm.aR s.vars i n} t used rv:=by
 have R:=h.rel;have hob:C.vs.ownBlock=H b:=by rw[hv];rfl
 have F:aA (vb C.vs) w (w.setCell (G b i) (Y n)):=(aA.refl _ w).setCell (aU.2 hob) _;refine⟨⟨rfl,F.mono (by intro k hk;simp[Co.l,hk]),λ_ X=> .inl X⟩,⟨⟨?_,?_,?_,?_,?_⟩,h.sep.nd,λb' X=>eJ (h.sep.lt b' X) F.size,h.sep.ro,λb' X=>eJ (h.sep.dO b' X) F.size⟩⟩
 ·exact h.m.bg.aG F R.mv
 ·exact h.m.prog.aG F λb' X hc=>h.cr X (by simp[Co.l,hc])
 ·exact h.m.ar.aG F λb' X hc=>R.av b' X hc
 ·exact h.m.ix.aG F ⟨R.xv,R.sv⟩
 ·have h3:=h.m.vs;rw[hv]at h3 ⊢;refine(h3.set (o:=i) O (Y n)).congr λo ho=>?_;show(if o=i then _ else _)=Y (Vm.aR s.vars i n o);rw[Vm.dq];split<;>rfl
def Mx.SA(h:Mx w C RO K p c s t used rv){i:Nat}(hi:i<p.vars.length):∃b cap,C.vs=to (H (G b 0)) p.vars.length cap/\UJ w (G b i)=H (Y (s.vars i))/\∀o,w.frozen? (G b o)=false:=by obtain⟨b,cap,iD,pR,mZ,X⟩:=h.m.vs.some O;have h3:=h.m.vs;rw[iD]at h3;exact⟨b,cap,iD,h3.cell (o:=i) O,λo=>h3.frozen o⟩
def G4(h:Mx w C RO K p c s t used rv){x1 x2 x3 i:Nat}{pW op b' c' d':Int}(hi:i<p.vars.length)
 (h1:aF w x1 3 #[Y pW]) (h2:aF w x2 35 #[UI C.mb]) (h3:aF w x3 40 #[Y op,Y i,Y b',Y c',Y d']):
 Calls prog 215 #[UI x1,UI x2,UI x3] w (yi w C RO K p c t used rv (.tuple #[]) {s with vars:=Vm.aR s.vars i pW}):=by
 obtain⟨vb,Y2,hv,hc,hf⟩:=h.SA hi;have k5:UJ w (G C.mb 11)=H C.vs:=h.m.bg.cell 11;have c1:=h1.c1;have c2:=h2.c1;have c3:UJ w (G x3 1)=H (Y i):=h3.cell 1;have HF:=Z (h.vars hv hi pW);rw[hv]at k5;clear h h1 h2 h3 hv;generalize p.vars.length=nv at*;go_enter func215,ntmps215;go_wp2;go_region;go_wp2;refine bK (dJ rfl _ _ _) rfl ?_;obtain⟨k1,k2⟩:=HF.o;exact⟨rfl,C,k1.trans (bT.below (az _ _ 1)),k2.drewN 1⟩
def Mx.set(h:Mx w C RO K p c s t used rv){n:Nat}{x:eU}(f:aA (bp C.ab C.V C.L) w w')(ha:bS w' C.ab C.V C.L K.nd p.bw.length (KL s.a n x)):bT w w' C C/\Mx w' C RO K p c (lZ s n x) t used rv:=
 h.VS (s':=lZ s n x) f ha (λb X=> .inl X) rfl rfl rfl h.m.ix
def Ep(h:Mx w C RO K p c s t used rv){x1 x2 n q:Nat}{pW:eU}(hf:s.f pW.key=H n)(hq:q<p.bw.length)(hn:n∈s.a.ls q)
 (h1:aF w x1 35 #[UI C.mb]) (h2:aF w x2 118 (aP pW)):
 Calls prog 269 #[UI x1,UI x2] w (yi w C RO K p c t used rv (.tuple #[]) (lZ s n pW)):=by
 obtain⟨m9,m10,-,-,-⟩:=h.reads;have c1:=h1.c1;obtain⟨c2,c3,c4,c5,c6⟩:=h2.c5;have HG:=Z (λk=>Ix.uH (h.m.ix.drewN k) hf);have HS:=Z (λk=>eB.VJ ((h.m.ar.drewN k).drewN 1) hq hn pW);have a0f:=Z h;clear h hf hn h1 h2;unfold bL at HS;go_enter func269,ntmps269;go_wp2;go_quiet ((go_at_call 59;exact GA (HG.o _)));go_wp2_with fail;have tu:=Z (HS.o nq);have HA:=Z ((a0f.o.drewN nq).drewN 1);have HB:=Z (bT.below (C:=C) ((az w.heap.size w nq).trans (az w.heap.size (w.drewN nq) 1)));have d1:(w.drewN nq).cell? (G x1 0)=H (UI C.mb):=c1;have d2:(w.drewN nq).cell? (G x2 0)=H (.int .u64 pW.key):=c2;have d3:(w.drewN nq).cell? (G x2 1)=H (Y (pW.tg 0)):=c3;have d4:(w.drewN nq).cell? (G x2 2)=H (Y (pW.tg 1)):=c4;have d5:(w.drewN nq).cell? (G x2 3)=H (Y (pW.tg 2)):=c5;have d6:(w.drewN nq).cell? (G x2 4)=H (Y (pW.tg 3)):=c6;have d9:(w.drewN nq).cell? (G C.mb 9)=H (UI C.ab):=m9;clear HS HG c1 c2 c3 c4 c5 c6 m9 m10;generalize w.drewN nq=w1 at*
 go_still_tail 6,bh
 change wpList _ _ _ _ _ (w1.drewN 1);generalize w1.drewN 1=w2 at*;go_wp2_with fail;refine tu.o.mono ?_;rintro e w3 ⟨rfl,f3,a3⟩;obtain⟨k1,k2⟩:=HA.o.set f3 a3;have uw:=Z k1;have nI:=Z k2;clear f3 a3 k1 k2 tu;go_wp2;exact bK (dJ rfl _ _ _) rfl ⟨rfl,C,HB.o.trans uw.o,nI.o⟩
def Fv{p:Prop}(h:p:=by
 go_wp2_with fail;refine HC.o.mono ?_;rintro e w2 ⟨rfl,C',k1,k2⟩;have uw:=Z k1;have nI:=Z k2;clear k1 k2 HC;go_wp2;exact bK (dJ rfl _ _ _) rfl ⟨rfl,C',uw.o,nI.o⟩):p:=h
def G5(h:Mx w C RO K p c s t used rv)(hI:Inv (aC p c) s)(gP:K.nd<=4194304)(hg:p.bw.length<=256){q d:Nat}(hq:q<p.bw.length)(he:d<=1)(bm:s.a.ls q≠[])(ht: -1073741824<=s.total/\s.total<=1073741824){x1 x2 x3:Nat}
 (h1:aF w x1 35 #[UI C.mb]) (h2:aF w x2 3 #[Y q]) (h3:aF w x3 3 #[Y d]):
 Calls prog 271 #[UI x1,UI x2,UI x3] w (yi w C RO K p c t used rv (.tuple #[]) (kB (aC p c) s q d)):=by
 have c1:=h1.c1;have c2:=h2.c1;have c3:=h3.c1;have HC:=Z (VW h hI gP hg hq he bm ht);clear h h1 h2 h3 hI bm ht;go_enter func271,ntmps271;exact Fv
def G6(h:Mx w C RO K p c s t used rv)(gP:K.nd<=4194304)(hg:p.bw.length<=256){q d:Nat}(hq:q<p.bw.length)(he:d<=1)(x:eU)(hx:s.f x.key=K7)(mR:e_ p s.a<K.nd)(ht: -1073741824<=s.total/\s.total<=1073741824){x1 x2 x3 x4:Nat}
 (h1:aF w x1 35 #[UI C.mb]) (h2:aF w x2 3 #[Y q]) (h3:aF w x3 3 #[Y d]) (h4:aF w x4 118 (aP x)):
 Calls prog 275 #[UI x1,UI x2,UI x3,UI x4] w (yi w C RO K p c t used rv (.tuple #[]) (jX (aC p c) s q d x)):=by
 have c1:=h1.c1;have c2:=h2.c1;have c3:=h3.c1;unfold aP at h4;obtain⟨e0,e1,e2,e3,e4,-⟩:=jY h4;have HC:=Z (OB h gP hg hq he x hx mR ht);clear h h1 h2 h3 h4 hx mR ht;unfold bL at HC;go_enter func275,ntmps275;exact Fv
def Er{p:aQ}{a:Nd}{q n e:Nat}(hn:n∈a.ls q):e_ p (oI a n q e)=e_ p a:=by
 unfold e_;congr 1;funext j;show(aR a.ls q _ j).length=_;rw[dq];split
 ·next h=>subst h;have h3:0<(a.ls j).length:=yR hn;rw[kz,An hn];omega
 ·rfl
def Et{a:Nd}{q n m e p:Nat}(hn:n∈a.ls q)(hm:m∈a.ls p):m∈(oI a n q e).ls p:=by
 show m∈aR a.ls q _ p;rw[dq];split
 ·next h=>
  subst h;rw[ext_mem];by_cases h:m=n
  ·exact .inl h
  ·exact .inr ((List.mem_erase_of_ne h).2 hm)
 ·exact hm
def vP(a:Nd)(q:Nat)(l:List Nat):Nd:=l.foldl (λb m=>oI b m q 0) a
def G7(a:Nd)(q:Nat)(l:List Nat)(m:Nat):vP a q (l++[m])=oI (vP a q l) m q 0:=by unfold vP;rw[List.foldl_append];rfl
def Ll{a:Nd}{q m p:Nat}:∀(l:List Nat),(∀x,x∈l->x∈a.ls q)->m∈a.ls p->m∈(vP a q l).ls p:=by
 intro l
 induction l generalizing a with
 |nil=>intro _ h;exact h
 |cons x l ih=>intro hl hm;exact ih (a:=oI a x q 0) (λy hy=>Et (hl x ay) (hl y (by simp[hy]))) (Et (hl x ay) hm)
structure Mov(w wr:UK)(C:Co)(RO:List Nat)(K:Kc)(p:aQ)(c:Cp)(t:dZ)(used:Int)(rv:UL)(s1:St)(q:Nat)(ahead:List Nat)(k:Nat):Prop where
 ex:∃C',bT w wr C C'/\Mx wr C' RO K p c {s1 with a:=vP s1.a q (ahead.take k)} t used rv
def gZ{α:Type}(l:List α)(k:Nat)(d:α)(h:k<l.length):l.take (k+1)=l.take k++[l.getD k d]:=by rw[List.take_add_one,List.getD_eq_getElem?_getD,List.getElem?_eq_getElem h];rfl
def G_(h:Mx w C RO K p c s t used rv)(gP:K.nd<=4194304)(hg:p.bw.length<=256){q:Nat}(hq:q<p.bw.length)(x:eU)(hx:s.f x.key=K7)(mR:e_ p s.a<K.nd)(ht: -1073741824<=s.total/\s.total<=1073741824){ahead:List Nat}(ha:∀m,m∈ahead->m∈s.a.ls q)
 (hlen:ahead.length<=9223372036854775807) {x1 x2 x3 x4:Nat} {av:UL}
 (h1:aF w x1 35 #[UI C.mb]) (h2:aF w x2 3 #[Y q]) (h3:aF w x3 118 (aP x)) (h4:aF w x4 24 #[av]) (h5:Row w 3 1 av ahead.length (λi=> Y (ahead.getD i 0:Nat)))
 (r1:x1∈RO) (r2:x2∈RO) (r3:x3∈RO) (r4:x4∈RO) (r5:∀b,b∈vb av->b∈RO):
 Calls prog 273 #[UI x1,UI x2,UI x3,UI x4] w (yi w C RO K p c t used rv (.tuple #[]) (mQ (aC p c) (.out q x ahead) s)):=by
 have c1:=h1.c1;have c2:=h2.c1;have h3':=h3;unfold aP at h3';obtain⟨e0,e1,e2,e3,e4,-⟩:=jY h3';have HC:=Z (OB h gP hg hq (cK 1) x hx mR ht);have HK:=Z (λwx (f:aA C.l w wx)=>And.intro (h1.aG f (h.cr r1)) (And.intro (h2.aG f (h.cr r2)) (And.intro (h4.aG f (h.cr r4)) (h5.aG f (λb X=>h.cr (r5 b (aU.2 X)))))));have HS:=Z (show mQ (aC p c) (.out q x ahead) s={jX (aC p c) s q 0 x with a:=vP (jX (aC p c) s q 0 x).a q ahead}from rfl);have HM:=Z (show∀m,m∈ahead->m∈(jX (aC p c) s q 0 x).a.ls q from λm hm=>kY.2 (.inr (ha m hm)));have HQ:=Z hq;clear h h1 h2 h3 h3' h4 hx mR ht ha;generalize jX (aC p c) s q 0 x=s1 at*;unfold bL at HC;have HL:=Z hlen;rcases h5.val with⟨hv0,hl0⟩|⟨vb0,cap,hv0,pR,mZ,X⟩
 ·rw[hv0]at HK;have e0:ahead=[]:=List.length_eq_zero_iff.1 hl0;clear h5;go_enter func273,ntmps273;go_wp2_with fail;refine HC.o.mono ?_;rintro e w2 ⟨rfl,C2,k1,k2⟩;obtain⟨b1,b2,b4,b5⟩:=HK.o w2 k1.f;have g4:=b4.c1;have uw:=Z k1;have nI:=Z k2;have HE:=Z e0;clear k1 k2 HC c1 c2 b1 b2 b4 b5 e0 hl0;go_wp2_with fail
  go_loopg [12] 0 (λf Eu wr=>w2=wr/\Eu=Y (0:Int))
  case atStart=>exact⟨rfl,rfl⟩
  case round=>obtain⟨rfl,rfl⟩:=hrel;go_wp2;refine bK (dJ rfl _ _ _) rfl ?_;rw[HS.o,HE.o];exact⟨rfl,C2,uw.o,nI.o⟩
 ·rw[hv0]at HK;clear h5;go_enter func273,ntmps273;go_wp2_with fail;refine HC.o.mono ?_;rintro e w2 ⟨rfl,C2,k1,k2⟩;obtain⟨b1,b2,b4,b5⟩:=HK.o w2 k1.f;have g4:=b4.c1;have HV:=Z (Mov.mk (q:=q) (ahead:=ahead) (k:=0) ⟨C2,k1,k2⟩);clear k1 k2 HC c1 c2 b1 b2 b4 b5;go_wp2_with fail
  go_loopg [5,12] ahead.length (λf s5 Eu wr=>∃k:Nat,Eu=Y k/\k+f=ahead.length/\Hid (Mov w wr C RO K p c t used rv s1 q ahead k))
  case atStart=>exact⟨0,rfl,O,HV⟩
  case round=>
   obtain⟨k,rfl,hk,HR⟩:=hrel;obtain⟨C3,k1,k2⟩:=HR.o.ex;obtain⟨b1,b2,b4,b5⟩:=HK.o wr k1.f;have uw:=Z k1;have nI:=Z k2;have aeV:=HL.o;have oR:=k1.mb;by_cases be:k<ahead.length
   ·have d1:=b1.c1;have d2:=b2.c1;have d5:UJ wr (G vb0 k)=H (Y (ahead.getD k 0:Nat)):=b5.cell O;have d9:UJ wr (G C.mb 9)=H (UI C3.ab):=by rw[<-oR];exact k2.reads.1
    have fQ:ahead.getD k 0∈(vP s1.a q (ahead.take k)).ls q:=by refine Ll _ (λy hy=>HM.o y (List.mem_of_mem_take hy)) (HM.o _ ?_);rw[List.getD_eq_getElem?_getD,List.getElem?_eq_getElem be];exact List.getElem_mem be
    have SB:=Z (eB.X8 (k2.m.ar.drewN 1) gP hg hq fQ (cK 1));have HB:=Z (bT.below (C:=C3) (az wr.heap.size wr 1));have HA:=Z (k2.drewN 1);have Js:=Z (gZ ahead k 0 be);have HME:=Z fQ;clear k1 k2 b1 b2 b4 b5 oR fQ HV;generalize hn:ahead.getD k 0=n at*;go_wp2_with fail
    go_still_tail 6,bh
    change wpList _ _ _ _ _ (wr.drewN 1);generalize wr.drewN 1=w4 at*;go_wp2_with fail;refine SB.o.mono ?_;rintro e w5 ⟨rfl,f5,a5⟩;have lM:Mov w w5 C RO K p c t used rv s1 q ahead (k+1):=by refine⟨?_⟩;rw[Js.o,G7];obtain⟨k3,k4⟩:=HA.o.VS (s':={s1 with a:=oI (vP s1.a q (ahead.take k)) n q 0}) f5 a5 (λb X=> .inl X) rfl rfl rfl (by rw[Er HME.o];exact HA.o.m.ix);exact⟨C3,uw.o.trans (HB.o.trans k3),k4⟩
    have HN:=Z lM;clear lM f5 a5 SB;go_wp2_with fail
    go_roundg (gk-1)
    case measure=>omega
    case rel=>exact⟨k+1,by go_num,O,HN⟩
   ·have he:k=ahead.length:=O;have HE:=Z he;clear k1 k2 b1 b2 b4 b5 oR he;go_wp2;refine bK (dJ rfl _ _ _) rfl ?_;rw[HS.o];have h6:=nI.o;rw[HE.o,List.take_length]at h6;exact⟨rfl,C3,uw.o,h6⟩
variable {mb rb:Nat}
def mL(h:cS w C U RO K p c t used hv jv s r){n q:Nat}(hf:s.f r.key=H n)(hq:q<p.bw.length)(hn:n∈s.a.ls q):
 Calls prog 205 #[UI C.mb] w λe w'=>e=C8 (.tuple #[Y n,Y q,.bool true])/\∃m,w'=w.drewN m:=by
 have sS:=uL h.m.bg;have m10:UJ w (G C.mb 10)=H (UI C.xb):=h.m.bg.cell 10;have m9:=mc9 h.m.bg;have r0:=h.r.dS.c1;have HG:=Z (λk=>Ix.uH (h.m.ix.drewN k) hf);have HL:=Z (λk=>eB.GS (h.m.ar.drewN k) hq hn);clear h hf hn;generalize r.key=key at*;go_enter func205,ntmps205;go_wp2;go_quiet ((go_at_call 59;exact GA (HG.o _)));go_wp2_with fail;refine(HL.o _).mono ?_;rintro e w' ⟨rfl,rfl⟩;go_wp2;go_ret3;exact⟨rfl,_,rfl⟩
def oX(h:cS w C U RO K p c t used hv jv s r)(hf:s.f r.key=K7):
 Calls prog 205 #[UI C.mb] w λe w'=>e=C8 (.tuple #[Y 0,Y 0,.bool false])/\∃m,w'=w.drewN m:=by
 have sS:=uL h.m.bg;have m10:UJ w (G C.mb 10)=H (UI C.xb):=h.m.bg.cell 10;have m9:=mc9 h.m.bg;have r0:=h.r.dS.c1;have HG:=Z (λk=>Ix.AI (h.m.ix.drewN k) hf);clear h hf;generalize r.key=key at*;go_enter func205,ntmps205;go_wp2;go_quiet ((go_at_call 59;exact GA (HG.o _)));go_wp2;go_ret3;exact⟨rfl,_,rfl⟩
def yI(h:cS w C U RO K p c t used hv jv s r){n q:Nat}(hf:s.f r.key=H n)(hq:q<p.bw.length)(hn:n∈s.a.ls q):
 Calls prog 207 #[UI C.mb] w λe w'=>e=C8 (.tuple #[Y n,.bool true])/\∃m,w'=w.drewN m:=by
 have HN:=Z (mL h hf hq hn);clear h hf hn;go_enter func207,ntmps207;go_wp2_with fail;refine HN.o.mono ?_;rintro e w' ⟨rfl,m,rfl⟩;go_wp2;go_ret2;exact⟨rfl,m,rfl⟩
def yJ(h:cS w C U RO K p c t used hv jv s r)(hf:s.f r.key=K7):
 Calls prog 207 #[UI C.mb] w (cF w C.mb U.rb RO K p c t used (.tuple #[Y 0,.bool false]) (s,r.gd 3)):=by
 have HN:=Z (oX h hf);have a0f:=Z h;clear h hf;go_enter func207,ntmps207;go_wp2_with fail;refine HN.o.mono ?_;rintro e w' ⟨rfl,m,rfl⟩;have HH:=Z (a0f.o.drewN m);have sS:(w.drewN m).cell? (G C.mb 60)=H (UI U.rb):=HH.o.m.bg.cell 60;have r6:(w.drewN m).cell? (G U.rb 6)=H (Y r.bY):=HH.o.r.dS.cell 6;have rf:∀o,(w.drewN m).frozen? (G U.rb o)=false:=HH.o.r.dS.frozen;have HK:=Z (Kept.dn (S:=U.l) (((aA.refl _ w).drewN m).setCell (p:=(G U.rb 6)) (by simp[Ru.l]) (Y 3)) (λb X=>a0f.o.sep.ur X) a0f.o.sep.dO);generalize w.drewN m=w2 at*;go_wp2;go_ret2;exact⟨rfl,RO,λb X=>X,(HH.o.jW 6 (Y 3) (r':=r.gd 3) rfl rfl rfl rfl rfl rfl HH.o.r.gP).i_,HK.o⟩
def tT(h:cS w C U RO K p c t used hv jv s r){q d:Nat}(hq:q<p.bw.length)(he:d<=1)(bm:s.a.ls q≠[]):
 Calls prog 209 #[UI C.mb,Y q,Y d] w λe w'=>e=C8 (.tuple #[Y (cN s.a q d),.bool true])/\∃m,w'=w.drewN m:=by
 have m9:=mc9 h.m.bg;have HN:=Z (eB.AD h.m.ar hq he bm);clear h bm;go_enter func209,ntmps209;go_wp2_with fail;refine HN.o.mono ?_;rintro e w' ⟨rfl,rfl⟩;go_wp2;go_ret2;exact⟨rfl,0,rfl⟩
def tU(h:cS w C U RO K p c t used hv jv s r){q d:Nat}(hq:q<p.bw.length)(he:d<=1)(bm:s.a.ls q=[]):
 Calls prog 209 #[UI C.mb,Y q,Y d] w (cF w C.mb U.rb RO K p c t used (.tuple #[Y 0,.bool false]) (s,r.gd 2)):=by
 have m9:=mc9 h.m.bg;have HN:=Z (eB.AE h.m.ar hq he bm);have a0f:=Z h;clear h bm;go_enter func209,ntmps209;go_wp2_with fail;refine HN.o.mono ?_;rintro e w' ⟨rfl,rfl⟩;have HH:=a0f;have sS:UJ w (G C.mb 60)=H (UI U.rb):=HH.o.m.bg.cell 60;have r6:UJ w (G U.rb 6)=H (Y r.bY):=HH.o.r.dS.cell 6;have rf:∀o,w.frozen? (G U.rb o)=false:=HH.o.r.dS.frozen;have HK:=Z (Kept.dn (S:=U.l) ((aA.refl _ w).setCell (p:=(G U.rb 6)) (by simp[Ru.l]) (Y 2)) (λb X=>a0f.o.sep.ur X) a0f.o.sep.dO);go_wp2;go_ret2;exact⟨rfl,RO,λb X=>X,(HH.o.jW 6 (Y 2) (r':=r.gd 2) rfl rfl rfl rfl rfl rfl HH.o.r.gP).i_,HK.o⟩
def cS.ado(h:cS w C U RO K p c t used hv jv s r)(F:aA (vb U.j_) w w'){l:List Int}(bo:Row w' 3 1 U.j_ l.length (λi=> Y (l.reverse.getD i 0))):cS w' C U RO K p c t used hv jv s {r with loops:=l}:=by
 have R:=h.sep.u;have F2:aA U.l w w':=F.mono (by intro k hk;simp[Ru.l,hk]);have rm:∀b,b∈RO->b∉vb U.j_:=λb X=>by have:=h.sep.ur X;simp[Ru.l]at this;simp[this]
 refine h.runs F2 rfl (λb X=>X) (λb X=> .inl X) ⟨?_,?_,?_,?_,?_,?_,?_⟩ h.sep.nd (λb X=>⟨.inl X,eJ (h.sep.lt b (by simp[X])) F.size⟩)
 ·exact h.r.dS.aG F R.l
 ·exact h.r.kS.aG F λb X=>R.sl b (aU.2 X)
 ·exact bo
 ·exact h.r.mV.aG F λb X=>R.lt.symm b (aU.2 X)
 ·exact h.r.jU.aG F λb X=>R.lj.symm b (aU.2 X)
 ·exact Sx
 ·exact h.r.gP.aG F rm
def Hw(h:cS w C U RO K p c t used hv jv s r)(i:Ins){k:Nat}(hk:i.a=k){m:Int}{rest:List Int}(fL:r.loops=m::rest)(hl:rest.length<1000000)(hm0: -1073741824<=m)(Jl:m<=1073741824):
 Calls prog 116 #[UI C.mb,aV i] w (cF w C.mb U.rb RO K p c t used (.tuple #[]) (s,yh r k)):=by
 have H0:=(h.box (QP (aI i) 40)).drewN 1;have HB:=(aB w.heap.size w).alloc (aL _) (QP (aI i) 40);have nG:=Z (Kept.af (RO:=RO) (HB.trans (az _ _ 1)) h.sep.dO);have BW:=Z (show r.loops.headD 0=m by rw[fL];rfl);have HTL:=Z (show r.loops.tail=rest by rw[fL];rfl);have e1:(w.alloc (QP (aI i) 40)).cell? (G w.heap.size 1)=H (Y k):=by rw[<-hk];exact(aF.new w 40 (aI i)).cell 1
 have sS:(w.alloc (QP (aI i) 40)).cell? (G C.mb 60)=H (UI U.rb):=H0.m.bg.cell 60;have r3:(w.alloc (QP (aI i) 40)).cell? (G U.rb 3)=H U.j_:=H0.r.dS.cell 3;have Gg:=λ_:Unit=>Jq H0 fL hl k;have bo:=H0.r.j_;rw[fL]at bo;obtain⟨b,cap,iD,pR,mZ,X⟩:=bo.some ay;rw[iD]at r3 bo;have gU:(w.alloc (QP (aI i) 40)).cell? (G b rest.length)=H (Y m):=by have:=bo.cell (o:=rest.length) ay;rw[nT]at this;exact this
 have vT:∀o,(w.alloc (QP (aI i) 40)).frozen? (G b o)=false:=λo=>bo.frozen o;have Hx:=Z (Gg ());have pY:=Z bo;have HV:=Z iD;have a0f:=Z H0;clear h H0 bo fL iD HB hk Gg;unfold aV;unfold aI at*;simp only[List.length_cons]at r3 pR;generalize hk:rest.length=n at*;have hlen:=tI (n+1) cap b;obtain⟨w1,jF⟩:∃w1,w1=w.alloc (QP #[Y i.op,Y i.a,Y i.b,Y i.c,Y i.d] 40):=⟨_,rfl⟩;rw[<-jF]at e1 sS r3 gU vT a0f pY Hx nG;have hwr:IntKind.i64.wrap (m-1)=m-1:=bJ _ ⟨O,O⟩;go_enter func116,ntmps116;go_wp2_with fail;rw[<-jF];clear jF;go_region;obtain⟨w2,r_⟩:∃w2,w2=w1.drew:=⟨_,rfl⟩;have f1:UJ w2 (G b n)=H (Y m):=by rw[r_];exact gU
 have f2:UJ w2 (G w.heap.size 1)=H (Y k):=by rw[r_];exact e1
 have f3:∀o,w2.frozen? (G b o)=false:=by rw[r_];exact vT
 have HH:Hid (cS w2 C U (w.heap.size::RO) K p c t used hv jv s r):=by rw[r_];exact a0f
 have HRR:Hid (Row w2 3 1 (to (H (G b 0)) (m::rest).length cap) (m::rest).length (λi=> Y ((m::rest).reverse.getD i 0))):=by rw[r_];exact pY
 have HLL:Hid (Calls prog 213 #[UI C.mb,Y k] w2 (cF w2 C.mb U.rb (w.heap.size::RO) K p c t used (.tuple #[]) (s,wO r k))):=by rw[r_];exact Hx
 have zT:Hid (Kept RO w w2):=by rw[r_];exact nG
 rw[<-r_];clear gU vT e1 sS r3 a0f pY Hx nG r_ hlen;by_cases hm:m=0
 ·subst hm;go_wp2_with fail;refine HLL.o.mono ?_;intro e w3 hd;have sT:=hd.pre (RO:=RO) zT.o (λb X=>by simp[X]);have X:yh r k=wO r k:=by unfold yh;rw[bk BW.o]
  exact mm
 ·have hz:(m==0)=false:=by simpa using hm
  go_wp2;have dC:yh r k={r with loops:=(m-1)::rest}:=by unfold yh;rw[BW.o,HTL.o,aw hm]
  rw[dC];have e2:U.j_=to (H (G b 0)) (rest.length+1) cap:=HV.o;have bo:Row (w2.setCell (G b n) (Y (m-1))) 3 1 U.j_ ((m-1)::rest).length (λi=> Y (((m-1)::rest).reverse.getD i 0)):=by
   rw[e2];have h1:=HRR.o.set (o:=n) (by rw[List.length_cons,hk];omega) (Y (m-1));refine(show Row _ _ _ (to (H (G b 0)) (rest.length+1) cap) (rest.length+1) _ from h1).congr λo ho=>?_;by_cases Cw:o=n
   ·rw[bk Cw,Cw,<-hk,nT]
   ·rw[aw Cw,(lu m 0 rest).1 o O,(lu (m-1) 0 rest).1 o O]
  have hob:U.j_.ownBlock=H b:=by rw[e2];rfl
  have F:aA (vb U.j_) w2 (w2.setCell (G b n) (Y (m-1))):=(aA.refl _ w2).setCell (aU.2 hob) _;have A:=HH.o.ado F bo;refine bK (dJ rfl _ _ _) rfl ⟨rfl,_,λx hx=>by simp[hx],A.i_,zT.o.trans (RO':=RO) (Kept.dn (S:=U.l) (F.mono λx hx=>by simp[Ru.l,hx]) (λx hx=>HH.o.sep.ur (by simp[hx])) (λx hx=>HH.o.sep.dO x (by simp[hx]))) λ_ h=>h⟩
def iv{p:Prop}(h:p:=by
 go_wp2_with fail;refine HN.o.mono ?_;intro e w' hd;obtain⟨rfl,mI⟩:=hd.pre (RO:=RO) HK.o (λb X=>by simp[X]);go_wp2;exact bK (dJ rfl _ _ _) rfl ⟨rfl,mI⟩):p:=h
def adh(h:cS w C U RO K p c t used hv jv s r)(i:Ins)(hf:s.f r.key=K7):
 Calls prog 109 #[UI C.mb,aV i] w (cF w C.mb U.rb RO K p c t used (.tuple #[]) (s,r.gd 3)):=by
 have H0:=h.box (QP (aI i) 40);have HB:=Z ((aB w.heap.size w).alloc (aL _) (QP (aI i) 40));have HN:=Z (yJ H0 hf);have HK:=Z (Kept.af (RO:=RO) HB.o h.sep.dO);clear h H0 hf;unfold aV;unfold aI at*;go_enter func109,ntmps109;exact iv
def adg(h:cS w C U RO K p c t used hv jv s r)(i:Ins){q d:Nat}(ha:i.a=q)(iL:i.b=d)(hq:q<p.bw.length)(he:d<=1)(bm:s.a.ls q=[]):
 Calls prog 110 #[UI C.mb,aV i] w (cF w C.mb U.rb RO K p c t used (.tuple #[]) (s,r.gd 2)):=by
 have H0:=h.box (QP (aI i) 40);have HB:=Z ((aB w.heap.size w).alloc (aL _) (QP (aI i) 40));have HN:=Z (tU H0 hq he bm);have HK:=Z (Kept.af (RO:=RO) HB.o h.sep.dO);have g1:(w.alloc (QP (aI i) 40)).cell? (G w.heap.size 1)=H (Y q):=by rw[<-ha];exact(aF.new w 40 (aI i)).cell 1
 have g2:(w.alloc (QP (aI i) 40)).cell? (G w.heap.size 2)=H (Y d):=by rw[<-iL];exact(aF.new w 40 (aI i)).cell 2
 clear h H0 bm ha iL;unfold aV;unfold aI at*;go_enter func110,ntmps110;exact iv
end
end Go.Ma
section
def II{p:Prop}(h:p:=by
 rw[oK (by simpa using hi)]at Lm;rw[bk hi];exact(a0f.o.r.jat i u' Lm).aG F rm):p:=h
namespace Go.Ma
open eB (bS bL)
open Ix (cX)
section
variable {w w':UK}{C:Co}{U U':Ru}{RO RO':List Nat}{K:Kc}{p:aQ}{c:Cp}{t:dZ}{used:Int}{hv hv':UL}{jv kT:Nat->UL}{s:St}{r r':Rn}
def AL:(prog.info? 1).map (λi=>(i.zero,i.size,i.bytes))=H (H .nilFunc,1,8):=by kernel_rfl
def cS.Ln(h:cS w C U RO K p c t used hv jv s r)(f:aA (vb U.j_) w w'):UJ w' (G U.rb 3)=H U.j_/\(∀o,w'.frozen? (G U.rb o)=false)/\UJ w' (G C.mb 60)=H (UI U.rb):=by have hr:=h.r.dS.aG f h.sep.u.l;have hm:=h.m.bg.aG f (λhc=>h.sep.cu (b:=C.mb) (by simp[Co.l]) (by simp[Ru.l,hc]));exact⟨hr.cell 3,hr.frozen,hm.cell 60⟩
def cS.AM(h:cS w C U RO K p c t used hv jv s r)(f:aA (vb U.jU) w w'):UJ w' (G U.rb 7)=H U.jU/\(∀o,w'.frozen? (G U.rb o)=false)/\UJ w' (G C.mb 60)=H (UI U.rb):=by have hr:=h.r.dS.aG f h.sep.u.j;have hm:=h.m.bg.aG f (λhc=>h.sep.cu (b:=C.mb) (by simp[Co.l]) (by simp[Ru.l,hc]));exact⟨hr.cell 7,hr.frozen,hm.cell 60⟩
def cS.Lo(h:cS w C U RO K p c t used hv jv s r)(f:aA (vb U.mV) w w'):UJ w' (G U.rb 5)=H U.mV/\(∀o,w'.frozen? (G U.rb o)=false)/\UJ w' (G C.mb 60)=H (UI U.rb):=by have hr:=h.r.dS.aG f h.sep.u.t;have hm:=h.m.bg.aG f (λhc=>h.sep.cu (b:=C.mb) (by simp[Co.l]) (by simp[Ru.l,hc]));exact⟨hr.cell 5,hr.frozen,hm.cell 60⟩
def gK.form{w:UK}{mb:Nat}{RO:List Nat}{v:UL}{u:uC}(h:gK w mb RO v u):∃f gM,v= .func f #[] gM:=by
 cases u with
 |var i pW=>obtain⟨x1,x2,x3,op,b,c,d,rfl,-⟩:=h;exact⟨_,_,rfl⟩
 |mark pW=>obtain⟨x1,x2,rfl,-⟩:=h;exact⟨_,_,rfl⟩
 |cut q e=>obtain⟨x1,x2,x3,rfl,-⟩:=h;exact⟨_,_,rfl⟩
 |put q e x=>obtain⟨x1,x2,x3,x4,rfl,-⟩:=h;exact⟨_,_,rfl⟩
 |out q x ahead=>obtain⟨x1,x2,x3,x4,av,rfl,-⟩:=h;exact⟨_,_,rfl⟩
def yl(h:cS w C U RO K p c t used hv jv s r){u:uC}{v:UL}(hu:gK w C.mb RO v u)(hl:r.bz.length<1000000):
 Calls prog 214 #[UI C.mb,v] w (cF w C.mb U.rb RO K p c t used (.tuple #[]) (s,r.note u)):=by
 obtain⟨i0,hi,jn,nQ,qm⟩:=y_ AL;have sS:=uL h.m.bg;have r2:UJ w (G U.rb 7)=H U.jU:=h.r.dS.cell 7;have lm:=h.m.bg.lt;have lr:=h.r.dS.lt;have HD:=Z (h.drewN 1);have C3:=Z (show r.bz.length+1<=maxLen by unfold maxLen;omega);have C4:=Z (show(r.bz.length+1)*8<=140737488355328 by omega);obtain⟨fn,gM,rfl⟩:=hu.form;have HU:=Z hu;have a0f:=Z h;clear h hu;go_enter func214,ntmps214;go_wp2
 go_region_law ((refine AG _ rfl (.tmp 14) (.tmp 16) 124 rfl 0 1 i0 .nilFunc 1 8 underlying124 hi jn nQ qm rfl bd U.jU _ _ (by simp[Act.eval,Act.put]) (HD.o.r.jU.alloc _) (G w.heap.size 0) 1 1 [.func fn #[] gM] (by simp[Act.eval,Act.put]) rfl (gR.iF _ [.func fn #[] gM] _ _ ay) (by simp[Value.oneCell']) bd C3.o C4.o ay _ rfl ?_;intro g cap w4 gp gw si AB;obtain⟨zG,xZ⟩:=Oy (w:=w) (n:=r.bz.length+1) (cap:=cap) ((az w.heap.size w 1).alloc (aL _) _) gw si rfl;obtain⟨c2,f2,c60⟩:=a0f.o.AM zG;have HO:=Z gp;have HF:=Z zG;have HS:=Z xZ;clear gp gw si AB zG xZ))
 all_goals
  go_wp2;refine bK (dJ rfl _ _ _) rfl ?_;have bo:=oQ (f':=λi=>if i<r.bz.length then jv i else .func fn #[] gM) HO.o (λi hi=>bk hi) (aw O);have F:aA (U.rb::vb U.jU) w (w4.setCell (G U.rb 7) (to (H (G g 0)) (r.bz.length+1) cap)):=(HF.o.mono (by intro k hk;simp[hk])).setCell ay _;have rm:∀b,b∈RO->b∉U.rb::vb U.jU:=λb X=>by have:=a0f.o.sep.ur X;simp[Ru.l]at this ⊢;simp[this]
  have A:=a0f.o.jU HF.o (l:=u::r.bz) bo HS.o (RO':=RO) (λi u' Lm=>by
   rw[List.reverse_cons]at Lm;by_cases hi:i<r.bz.length
   ·exact II
   ·have vG:i=r.bz.length:=by have:=(List.getElem?_eq_some_iff.1 Lm).1;simp at this;omega
    subst vG;rw[jy ay]at Lm;simp at Lm;subst Lm;rw[aw O];exact HU.o.aG F rm) (λb X=>X) (λb X=> .inl X)
  exact⟨rfl,RO,λb X=>X,A.i_,Kept.dn (S:=U.l) (F.mono (by intro k hk;simp at hk;rcases hk with rfl|hk;simp[Ru.l];simp[Ru.l,hk])) (λb X=>a0f.o.sep.ur X) a0f.o.sep.dO⟩
end
end Go.Ma
end
namespace Go.Ma
def OC{p:Prop}(h:p:=by
 go_wp2;go_ret;exact⟨rfl,rfl⟩):p:=h
def Jt(w:UK)(b:Bool):Calls prog 206 #[.bool b] w λr w'=>r=C8 (Y (oP b))/\w=w':=by
 cases b
 ·go_enter func206,ntmps206;exact OC
 ·go_enter func206,ntmps206;exact OC
def yn(w:UK)(n lo hi:Int):Calls prog 216 #[Y n,Y lo,Y hi] w λr w'=>r=C8 (Y (within n lo hi))/\w=w':=by go_enter func216,ntmps216;exact OC
def Ju(w:UK)(n:Int):Calls prog 211 #[Y n] w λr w'=>r=C8 (Y (lL n))/\w=w':=by have HW:=Z (yn w n (-1073741824) 1073741824);go_enter func211,ntmps211;go_wp2_with fail;refine HW.o.mono ?_;rintro r w' ⟨rfl,rfl⟩;exact OC
def Ha(w:UK){a b:Int}(ha: -1073741824<=a/\a<=1073741824)(X: -1073741824<=b/\b<=1073741824):Calls prog 212 #[Y a,Y b] w λr w'=>r=C8 (Y (xU a b))/\w=w':=by
 by_cases hz:b=0
 ·subst hz;have e:xU a 0=0:=by unfold xU;rw[bk rfl]
  rw[e];go_enter func212,ntmps212;exact OC
 ·have nQ:(b==0)=false:=by simpa using hz
  have HC:=Z (λn=>Ju w n);have HQ:=Z (show xU a b=lL (if a.tmod b≠0/\(decide (a<0)≠decide (b<0))then a.tdiv b-1 else a.tdiv b)by unfold xU;rw[aw hz]);generalize xU a b=q at*;have h1:(a.tdiv b).natAbs<=a.natAbs:=Int.natAbs_tdiv_le_natAbs a b;have hd: -1073741824<=a.tdiv b/\a.tdiv b<=1073741824:=O;have hw:IntKind.i64.wrap (a.tdiv b)=a.tdiv b:=bJ _ ⟨O,O⟩;have r_:IntKind.i64.wrap (a.tdiv b-1)=a.tdiv b-1:=bJ _ ⟨O,O⟩;have h2:(a.tmod b).natAbs<=a.natAbs:=by rw[Int.natAbs_tmod];exact Nat.mod_le _ _
  have VU:IntKind.i64.wrap (a.tmod b)=a.tmod b:=bJ _ ⟨O,O⟩;clear h1 h2;go_enter func212,ntmps212;go_wp2_with fail
  all_goals
   refine(HC.o _).mono ?_;rintro r w' ⟨rfl,rfl⟩;go_wp2;go_ret;refine⟨?_,rfl⟩;rw[HQ.o];clear HC HQ hw r_ VU hd ha X;congr 2;congr 1;generalize decide (a<0)=x at*;generalize decide (b<0)=y at*;by_cases hm:a.tmod b=0<;>cases x<;>cases y<;>simp_all
section
variable {w w':UK}{C:Co}{U U':Ru}{RO RO':List Nat}{K:Kc}{p:aQ}{c:Cp}{t:dZ}{used:Int}{hv hv':UL}{jv kT:Nat->UL}{s:St}{r r':Rn}{mb rb:Nat}
def yK(h:cS w C U RO K p c t used hv jv s r):
 Calls prog 223 #[UI C.mb] w (cF w C.mb U.rb RO K p c t used (.bool true) (s,{r with hand:=K7})):=by
 have sS:=uL h.m.bg;have r4:UJ w (G U.rb 4)=H hv:=h.r.dS.cell 4;have rf:∀o,w.frozen? (G U.rb o)=false:=h.r.dS.frozen;have HS:=Z (h.jW 4 Pl (r':={r with hand:=K7}) (hv':=Pl) rfl rfl rfl rfl rfl rfl rfl);have HK:=Z (Kept.dn (S:=U.l) ((aA.refl _ w).setCell (p:=(G U.rb 4)) (by simp[Ru.l]) Pl) (λb X=>h.sep.ur X) h.sep.dO);clear h;go_enter func223,ntmps223;go_wp2;go_ret;exact⟨rfl,RO,λb X=>X,HS.o.i_,HK.o⟩
def um(w:UK)(a:Option Addr)(n:Nat):Prop:=
 n<=maxLen/\∀i,i<n->∃b off,a=H (G b off)/\∃(kind:Int) (key:Nat),key<18446744073709551616/\UJ w (G b (off+i*2))=H (Y kind)/\UJ w (G b (off+i*2+1))=H (.int .u64 key)
end
open eB (bS bL)
open Ix (cX)
section
variable {w w':UK}{C C':Co}{U U':Ru}{RO RO':List Nat}{K:Kc}{p:aQ}{c:Cp}{t:dZ}{used:Int}{hv hv':UL}{jv kT:Nat->UL}{s s':St}{r r':Rn}{rv:UL}{mb rb:Nat}
def Ev(h:cS w C U RO K p c t used hv jv s r){n:Int}{rest:List Int}(fL:r.stack=n::rest)(hl:rest.length<1000000):
 Calls prog 210 #[UI C.mb] w λe w'=>e=C8 (Y n)/\∃U',U'.rb=U.rb/\cS w' C U' RO K p c t used hv jv s r.pop/\aA U.l w w':=by
 have sS:=uL h.m.bg;have r2:UJ w (G U.rb 2)=H U.kS:=h.r.dS.cell 2;have rf:∀o,w.frozen? (G U.rb o)=false:=h.r.dS.frozen;have bo:=h.r.kS;rw[fL]at bo;obtain⟨b,cap,iD,pR,mZ,X⟩:=bo.some ay;rw[iD]at r2 bo;have gU:UJ w (G b rest.length)=H (Y n):=by rw[bo.cell (o:=rest.length) ay];rw[nT]
 have vO:=bo.less (k:=rest.length) ay;have lM:Row w 3 1 (to (H (G b 0)) rest.length cap) rest.length (λi=> Y (rest.reverse.getD i 0)):=vO.congr λo ho=>by show Value.int _ _=Value.int _ _;rw[(lu n 0 rest).1 o O]
 have HN:=Z lM;have a0f:=Z h;have HV:=Z iD;have lN:=Z fL;clear h lM vO bo fL iD;simp only[List.length_cons]at r2 pR;generalize hk:rest.length=k at*;have hlen:=tI (k+1) cap b;go_enter func210,ntmps210;go_wp2;go_region;go_wp2;go_ret;have iD:U.kS=to (H (G b 0)) (k+1) cap:=by rw[HV.o,List.length_cons,hk]
 have GZ:∀x,x∈vb (to (H (G b 0)) k cap)->x∈vb U.kS:=λx hx=>by rw[iD];exact hx
 have A:=(a0f.o.kS (aA.refl _ w) (l:=rest) (by rw[hk];exact HN.o) (λx hx=> .inl (GZ x hx))).drewN 1;have hr:r.pop={r with stack:=rest}:=by unfold Rn.pop;rw[lN.o];rfl
 exact⟨rfl,{U with kS:=to (H (G b 0)) k cap},rfl,by rw[hr];exact A,((aA.refl _ w).setCell (by simp[Ru.l]) _).drewN 1⟩
def AN{b cap:Nat}(h3:Row w 122 3 (to (H (G b 0)) p.vars.length cap) p.vars.length (dP p)){i:Nat}(hi:i<p.vars.length):
 UJ w (G b (i*3+1))=H (Y (p.vars.getD i ⟨0,0,0⟩).lo)/\UJ w (G b (i*3+2))=H (Y (p.vars.getD i ⟨0,0,0⟩).hi):=by
 constructor
 ·rw[h3.cell (o:=i*3+1) O];unfold dP;rw[show(i*3+1) / 3=i by omega,show(i*3+1) % 3=1 by omega];rfl
 ·rw[h3.cell (o:=i*3+2) O];unfold dP;rw[show(i*3+2) / 3=i by omega,show(i*3+2) % 3=2 by omega];rfl
def Mx.range(h:Mx w C RO K p c s t used rv){i:Nat}(hi:i<p.vars.length):∃b cap,K.v=to (H (G b 0)) p.vars.length cap/\b∈RO:=by obtain⟨b,cap,iD,pR,mZ,X⟩:=h.m.prog.v.some O;exact⟨b,cap,iD,h.m.prog.ro b (.inr (.inl (aU.2 (by rw[iD];rfl))))⟩
def gD{w:UK}{b b' o o':Nat}{v:UL}(h:b≠b'):(w.setCell (G b' o') v).cell? (G b o)=UJ w (G b o):=by rw[World.cell?_setCell_other];intro e;exact h (bu Addr.block e).symm
def NW(h:cS w C U RO K p c t used hv jv s r)(i:Ins){k:Nat}(hk:i.a=k)(Yh:k<p.vars.length){n:Int}{rest:List Int}(fL:r.stack=n::rest)(hl:rest.length<1000000)(hj:r.bz.length<1000000):
 Calls prog 118 #[UI C.mb,aV i] w (cF w C.mb U.rb RO K p c t used (.tuple #[]) (BU p i (s,r))):=by
 have h1:=h.box (QP #[UI C.mb] 35);have h2:=h1.box (QP (aI i) 40);have n2:=aF.new w 35 #[UI C.mb];have n3:=aF.new (w.alloc (QP #[UI C.mb] 35)) 40 (aI i);have n2':=n2.alloc (QP (aI i) 40);have HB:=Z (((aB w.heap.size w).alloc (aL _) (QP #[UI C.mb] 35)).alloc ay (QP (aI i) 40));have dE:=Z h.sep.dO;have H2:=Z h2;obtain⟨vb,Y2,hvv,hvc,hvf⟩:=h2.mx.SA Yh;have k11:((w.alloc (QP #[UI C.mb] 35)).alloc (QP (aI i) 40)).cell? (G C.mb 11)=H C.vs:=h2.m.bg.cell 11;rw[hvv]at k11;have e2:((w.alloc (QP #[UI C.mb] 35)).alloc (QP (aI i) 40)).cell? (G w.heap.size 0)=H (UI C.mb):=n2'.cell 0;have e3:((w.alloc (QP #[UI C.mb] 35)).alloc (QP (aI i) 40)).cell? (G (w.heap.size+1) 1)=H (Y k):=by have:=n3.cell 1;rw[show(w.alloc (QP #[UI C.mb] 35)).heap.size=w.heap.size+1 by simp]at this;rw[<-hk];exact this
 have lm:=h2.m.bg.lt;have lv:vb<((w.alloc (QP #[UI C.mb] 35)).alloc (QP (aI i) 40)).heap.size:=h2.sep.lt vb (by simp[Co.l,Ma.vb,hvv,Value.ownBlock]);have l2:=n2'.lt;have l3:=n3.lt;rw[show(w.alloc (QP #[UI C.mb] 35)).heap.size=w.heap.size+1 by simp]at l3 n3;have HHK:=Z hk;have lN:=Z fL;have N2:=Z n2';have N3:=Z n3;have HJ:=Z hj;have HL:=Z hl;clear h h1 h2 n2 n3 n2' fL hk hj hl;unfold aV;unfold aI at*;go_enter func118,ntmps118;go_wp2_with fail;generalize(w.alloc (QP #[UI C.mb] 35)).alloc (QP #[Y i.op,Y i.a,Y i.b,Y i.c,Y i.d] 40)=w2 at*;go_region;have h3:cS (w2.alloc (QP #[Y (s.vars k)] 3)).drew C U (w2.heap.size::(w.heap.size+1)::w.heap.size::RO) K p c t used hv jv s r:=by have:=(H2.o.box (QP #[Y (s.vars k)] 3)).drewN 1;rw[show(w.alloc (QP #[UI C.mb] 35)).heap.size=w.heap.size+1 by simp]at this;exact this
 have B3:Below w2.heap.size w2 (w2.alloc (QP #[Y (s.vars k)] 3)).drew:=((aB _ w2).alloc (aL _) _).trans (az _ _ 1);have n4:aF (w2.alloc (QP #[Y (s.vars k)] 3)).drew w2.heap.size 3 #[Y (s.vars k)]:=aF.new w2 _ _;have m2:aF (w2.alloc (QP #[Y (s.vars k)] 3)).drew w.heap.size 35 #[UI C.mb]:=N2.o.aG (aA.af (S:=[]) B3) ay;have m3:aF (w2.alloc (QP #[Y (s.vars k)] 3)).drew (w.heap.size+1) 40 #[Y i.op,Y i.a,Y i.b,Y i.c,Y i.d]:=N3.o.aG (aA.af (S:=[]) B3) ay;rw[HHK.o]at m3;have hu:gK (w2.alloc (QP #[Y (s.vars k)] 3)).drew C.mb (w2.heap.size::(w.heap.size+1)::w.heap.size::RO) (.func (.func 215) #[] #[UI w2.heap.size,UI w.heap.size,UI (w.heap.size+1)]) (.var k (s.vars k)):=
  ⟨_,_,_,_,_,_,_,rfl,n4,m2,m3,ay,ay,ay⟩
 have HC:=Z (yl h3 hu HJ.o);have M2:=Z m2;have M3:=Z m3;have HKP:=Z (Kept.af (RO:=RO) (HB.o.trans (B3.mono (by have:=HB.o.size;exact this))) dE.o);have c2:(w2.alloc (QP #[Y (s.vars k)] 3)).drew.cell? (G w.heap.size 0)=H (UI C.mb):=m2.cell 0;clear h3 B3 n4 m2 m3 hu e2 e3 k11 hvc hvf lm lv l2 l3 N2 N3 hvv;generalize VU:(w2.alloc (QP #[Y (s.vars k)] 3)).drew=w3 at*;generalize w2.heap.size=b4 at*;clear VU;go_wp2_with fail;refine HC.o.mono ?_;rintro e w4 ⟨rfl,OD,Jv,⟨C4,U4,hv4,jv4,wH,BY,A4⟩,Dp⟩;have q2:=aF.lA M2.o Dp ay;have q3:=aF.lA M3.o Dp ay;obtain⟨Ew,Jw,Lp,Y1,Y0⟩:=A4.mx.SA Yh;obtain⟨gb,ov,lG,yk⟩:=A4.mx.range Yh;have x2:w.heap.size∈OD:=Jv _ ay;have x3:w.heap.size+1∈OD:=Jv _ ay;have hvl:Ew∈C4.l:=by simp[Co.l,Ma.vb,Lp,Value.ownBlock]
 have y2:Ew≠w.heap.size:=λe=>A4.sep.cr x2 (e▸hvl);have y3:Ew≠w.heap.size+1:=λe=>A4.sep.cr x3 (e▸hvl);have yg:Ew≠gb:=λe=>A4.sep.cr yk (e▸hvl);have ym:Ew≠C.mb:=λe=>A4.mx.rel.mv (aU.2 (by rw[Lp,wH,<-e];rfl));have f_:∀wx,aA U4.l w4 wx->UJ wx (G w.heap.size 0)=H (UI C.mb)/\UJ wx (G (w.heap.size+1) 1)=H (Y k)/\UJ wx (G C.mb 11)=H (to (H (G Ew 0)) p.vars.length Jw)/\UJ wx (G C.mb 1)=H (to (H (G gb 0)) p.vars.length ov)/\UJ wx (G gb (k*3+1))=H (Y (p.vars.getD k ⟨0,0,0⟩).lo)/\UJ wx (G gb (k*3+2))=H (Y (p.vars.getD k ⟨0,0,0⟩).hi):=by
  intro wx f;have z1:=A4.m.bg.aG f (A4.sep.cu (by simp[Co.l]));have z2:=A4.m.prog.v.aG f (λb X=>A4.sep.ur (A4.m.prog.ro b (.inr (.inl (aU.2 X)))));have z3:=z1.cell 11;have z4:=z1.cell 1;refine⟨(q2.aG f (A4.sep.ur x2)).cell 0,(q3.aG f (A4.sep.ur x3)).cell 1,?_,?_,?_,?_⟩
  ·rw[<-wH,<-Lp];exact z3
  ·rw[<-wH,<-lG];exact z4
  ·rw[lG]at z2;exact(AN z2 Yh).1
  ·rw[lG]at z2;exact(AN z2 Yh).2
 have OE:(r.note (.var k (s.vars k))).stack=n::rest:=lN.o;have xO:=Ev (A4.drewN 1) OE HL.o;rw[wH]at xO;have HP:Hid (Calls prog 210 #[UI C.mb] (w4.drewN 1) λe w5=>e=C8 (Y n)/\(UJ w5 (G w.heap.size 0)=H (UI C.mb)/\UJ w5 (G (w.heap.size+1) 1)=H (Y k)/\UJ w5 (G C.mb 11)=H (to (H (G Ew 0)) p.vars.length Jw)/\UJ w5 (G C.mb 1)=H (to (H (G gb 0)) p.vars.length ov)/\UJ w5 (G gb (k*3+1))=H (Y (p.vars.getD k ⟨0,0,0⟩).lo)/\UJ w5 (G gb (k*3+2))=H (Y (p.vars.getD k ⟨0,0,0⟩).hi))/\
  ((w5.setCell (G Ew k) (Y (within n (p.vars.getD k ⟨0,0,0⟩).lo (p.vars.getD k ⟨0,0,0⟩).hi))).cell? (G w.heap.size 0)=H (UI C.mb)/\(w5.setCell (G Ew k) (Y (within n (p.vars.getD k ⟨0,0,0⟩).lo (p.vars.getD k ⟨0,0,0⟩).hi))).cell? (G (w.heap.size+1) 1)=H (Y k)/\(w5.setCell (G Ew k) (Y (within n (p.vars.getD k ⟨0,0,0⟩).lo (p.vars.getD k ⟨0,0,0⟩).hi))).cell? (G C.mb 11)=H (to (H (G Ew 0)) p.vars.length Jw)/\(w5.setCell (G Ew k) (Y (within n (p.vars.getD k ⟨0,0,0⟩).lo (p.vars.getD k ⟨0,0,0⟩).hi))).cell? (G C.mb 1)=H (to (H (G gb 0)) p.vars.length ov)/\(w5.setCell (G Ew k) (Y (within n (p.vars.getD k ⟨0,0,0⟩).lo (p.vars.getD k ⟨0,0,0⟩).hi))).cell? (G gb (k*3+1))=H (Y (p.vars.getD k ⟨0,0,0⟩).lo)/\(w5.setCell (G Ew k) (Y (within n (p.vars.getD k ⟨0,0,0⟩).lo (p.vars.getD k ⟨0,0,0⟩).hi))).cell? (G gb (k*3+2))=H (Y (p.vars.getD k ⟨0,0,0⟩).hi))/\UJ w5 (G Ew k)=H (Y (s.vars k))/\(∀o,w5.frozen? (G Ew o)=false)/\
  Hid (∃U5,U5.rb=U.rb/\cS w5 C4 U5 OD K p c t used hv4 jv4 s (r.note (.var k (s.vars k))).pop/\Kept OD w4 w5)):=by
  refine Z (xO.mono ?_);rintro e w5 ⟨rfl,U5,OF,A5,f5⟩;have Gb:=f_ w5 (aA.trans ((aA.refl _ w4).drewN 1) f5);obtain⟨t1,t2,t3,t4,t5,t6⟩:=Gb;obtain⟨vb5,vc5,e5,j5,l5⟩:=A5.mx.SA Yh;rw[Lp]at e5;simp only[cM,Option.some.injEq,Addr.mk.injEq,and_true,true_and]at e5;obtain⟨rfl,rfl⟩:=e5;refine⟨rfl,⟨t1,t2,t3,t4,t5,t6⟩,⟨?_,?_,?_,?_,?_,?_⟩,j5,l5,Z ⟨U5,OF.trans BY,A5,Kept.dn (aA.trans ((aA.refl _ w4).drewN 1) f5) (λb X=>A4.sep.ur X) A4.sep.dO⟩⟩
  ·exact(gD (λe=>y2 e.symm)).trans t1
  ·exact(gD (λe=>y3 e.symm)).trans t2
  ·exact(gD (λe=>ym e.symm)).trans t3
  ·exact(gD (λe=>ym e.symm)).trans t4
  ·exact(gD (λe=>yg e.symm)).trans t5
  ·exact(gD (λe=>yg e.symm)).trans t6
 have zU:=Z f_;have h40:=f_ w4 (aA.refl _ _);have OG:=Z Lp;have l':=Z Dp;have Yi:=Z Jv;have vf:=Z wH;have ae1:=Z BY;clear f_ xO A4 Dp q2 q3 Y1 Y0 lG yk hvl OE Jv c2 HC Lp wH BY x2 x3;generalize jo:(p.vars.getD k ⟨0,0,0⟩).lo=lo at*;generalize hhi:(p.vars.getD k ⟨0,0,0⟩).hi=hi at*;have Hl:=Z jo;have HHI:=Z hhi;clear jo hhi;go_wp2
 go_region_held3 (λwx=>UJ wx (G w.heap.size 0)=H (UI C.mb)/\UJ wx (G (w.heap.size+1) 1)=H (Y k)/\UJ wx (G C.mb 11)=H (to (H (G Ew 0)) p.vars.length Jw)/\UJ wx (G C.mb 1)=H (to (H (G gb 0)) p.vars.length ov)/\UJ wx (G gb (k*3+1))=H (Y lo)/\UJ wx (G gb (k*3+2))=H (Y hi)) (first|exact h40|assumption) (first|(go_at_call 210;refine HP.o.mono ?_;rintro e w5 ⟨rfl,Gb,hS6,j5,l5,HA5⟩)|(go_at_call 216;refine(yn _ _ _ _).mono ?_;rintro e w' ⟨rfl,rfl⟩))
 obtain⟨U5,OF,A5,K5⟩:=HA5.o;have Hb:=Z K5;have HR5:=Z OF;have HA:=Z A5;clear Gb hS6 j5 l5 h40 HP A5 K5 OF;go_wp2;refine bK (dJ rfl _ _ _) rfl ?_;obtain⟨k1,k2⟩:=HA.o.mx.vars OG.o Yh (within n lo hi);have A6:=HA.o.ou k1 k2;have hN:N i.a=k:=by unfold N;rw[HHK.o];rfl
 have hT:r.iX=n:=by unfold Rn.iX;rw[lN.o];rfl
 have e:BU p i (s,r)=({s with vars:=Vm.aR s.vars k (within n lo hi)},(r.note (.var k (s.vars k))).pop):=by unfold BU;rw[hN,<-hT,<-Hl.o,<-HHI.o]
 rw[e];refine⟨rfl,OD,λb X=>Yi.o b (by simp[X]),⟨C4,U5,hv4,jv4,vf.o,HR5.o,A6⟩,?_⟩;exact((HKP.o.trans l'.o (λb X=>by simp[X])).trans Hb.o (λb X=>Yi.o b (by simp[X]))).trans (HA.o.kept k1) (λb X=>Yi.o b (by simp[X]))
def cS.fresh(h:cS w C U RO K p c t used hv jv s r){b:Nat}(X:w.heap.size<=b):b∉C.l/\b∉U.l/\b∉RO:=
 ⟨λhc=>by have:=h.sep.lt b (by simp[hc]);omega,λhc=>by have:=h.sep.lt b (by simp[hc]);omega,λhc=>by have:=h.sep.dO b hc;omega⟩
def cS.BZ(h:cS w C U RO K p c t used hv jv s r){b:Nat}(f:aA [b] w w')(X:b∉C.l/\b∉U.l/\b∉RO):cS w' C U RO K p c t used hv jv s r:=
 ⟨h.m.aG f (λx hx hc=>by simp at hc;subst hc;exact X.1 hx) (λx hx hc=>by simp at hc;subst hc;exact X.2.2 hx),h.r.aG f (λx hx hc=>by simp at hc;subst hc;exact X.2.1 hx) (λx hx hc=>by simp at hc;subst hc;exact X.2.2 hx),h.sep.grow f.size⟩
def OH(e:eU)(tag:Nat)(h:tag<4):(aP e)[1+tag]? =H (Y (e.tg tag)):=by
 obtain rfl|rfl|rfl|rfl:tag=0\/tag=1\/tag=2\/tag=3:=O
 all_goals rfl
def SC(e:eU)(tag:Nat)(h:tag<4)(v m:Int):(aP e).setIfInBounds (1+tag) (Y (within v 0 m))=aP (nS e tag v m):=by
 obtain rfl|rfl|rfl|rfl:tag=0\/tag=1\/tag=2\/tag=3:=O
 all_goals rfl
def Mx.SD(h:Mx w C RO K p c s t used rv){i:Nat}(hi:i<p.aS.length):∃b cap,K.t=to (H (G b 0)) p.aS.length cap/\b∈RO/\UJ w (G b i)=H (Y (p.aS.getD i 0)):=by obtain⟨b,cap,iD,pR,mZ,X⟩:=h.m.prog.t.some O;have h3:=h.m.prog.t;rw[iD]at h3;exact⟨b,cap,iD,h.m.prog.ro b (.inr (.inr (.inl (aU.2 (by rw[iD];rfl))))),h3.cell (o:=i) O⟩
def OI(h:cS w C U RO K p c t used hv jv s r){q n tag:Nat}(hq:q<p.bw.length)(hn:n∈s.a.ls q)(OJ:tag<p.aS.length)(ht4:p.aS.length<=4)(v:Int)(hj:r.bz.length<1000000):
 Calls prog 217 #[UI C.mb,Y n,Y tag,Y v] w (cF w C.mb U.rb RO K p c t used (.tuple #[]) (tF p (s,r) n tag v)):=by
 have h1:=h.box (QP #[UI C.mb] 35);have n2:=aF.new w 35 #[UI C.mb];have m9:(w.alloc (QP #[UI C.mb] 35)).cell? (G C.mb 9)=H (UI C.ab):=h1.mx.reads.1;have e2:(w.alloc (QP #[UI C.mb] 35)).cell? (G w.heap.size 0)=H (UI C.mb):=n2.cell 0;have HG:=Z (eB.Oi h1.m.ar hq hn);have HB:=Z ((aB w.heap.size w).alloc (aL _) (QP #[UI C.mb] 35));have dE:=Z h.sep.dO;have H1:=Z h1;have N2:=Z n2;have HN:=Z hn;have HJ:=Z hj;have HE:=Z (show tF p (s,r) n tag v=(lZ s n (nS (s.a.val n) tag v (p.aS.getD tag 0)),r.note (.mark (s.a.val n)))from rfl);clear h h1 n2 hn hj;generalize hy:s.a.val n=y at*;have HY:=Z hy;clear hy;unfold bL at HG;go_enter func217,ntmps217;go_wp2_with fail;generalize w.alloc (QP #[UI C.mb] 35)=w1 at*;refine HG.o.mono ?_;rintro e w2 ⟨rfl,dC⟩;have h2:=H1.o.later dC;have f2:=aA.af (S:=[]) dC;have q2:=N2.o.aG f2 ay;have fr:=h2.fresh (aL _);have h4:=(h2.later (((aB w2.heap.size w2).alloc (aL _) (QP (aP y) 118)).alloc ay (QP (aP y) 118)));have Dq:(w2.alloc (QP (aP y) 118)).heap.size=w2.heap.size+1:=by simp
 have h5:=h4.add (x:=w2.heap.size+1) ay (h2.fresh (Nat.le_add_right _ _)).1 (h2.fresh (Nat.le_add_right _ _)).2.1;have b8:=(aF.new w2 118 (aP y)).alloc (QP (aP y) 118);have b10:=aF.new (w2.alloc (QP (aP y) 118)) 118 (aP y);rw[Dq]at b10;have q2':=(q2.alloc (QP (aP y) 118)).alloc (QP (aP y) 118);have eF:=Z dC;have H5:=Z h5;have B8:=Z b8;have B10:=Z b10;have Q2:=Z q2';have FR:=Z fr;have HKA:=Z (Kept.af (RO:=RO) (HB.o.trans (dC.mono HB.o.size)) dE.o);have SF:=Z (Kept.af (RO:=RO) (((aB w2.heap.size w2).alloc (aL _) (QP (aP y) 118)).alloc ay (QP (aP y) 118)) (λb X=>h2.sep.dO b (by simp[X])));obtain⟨tb,sx,VY,vQ,htc⟩:=h5.mx.SD OJ;generalize p.aS.getD tag 0=mo at*;have c0:=q2'.c1;have c2:((w2.alloc (QP (aP y) 118)).alloc (QP (aP y) 118)).cell? (G C.mb 2)=H K.t:=h5.m.bg.cell 2;rw[VY]at c2;have c8:((w2.alloc (QP (aP y) 118)).alloc (QP (aP y) 118)).cell? (G w2.heap.size (1+tag))=H (Y (y.tg tag)):=(b8.cell _).trans (OH y tag O);have f8:∀o,((w2.alloc (QP (aP y) 118)).alloc (QP (aP y) 118)).frozen? (G w2.heap.size o)=false:=b8.frozen;clear dC h2 f2 q2 fr h4 h5 b8 b10 q2' HG m9 VY Dq vQ;unfold aP at c0 c2 c8 f8 htc H5 B8 B10 Q2 SF;go_wp2_with fail;generalize(w2.alloc (QP #[.int .u64 y.key,Y (y.tg 0),Y (y.tg 1),Y (y.tg 2),Y (y.tg 3)] 118)).alloc (QP #[.int .u64 y.key,Y (y.tg 0),Y (y.tg 1),Y (y.tg 2),Y (y.tg 3)] 118)=w4 at*;generalize OK:w2.heap.size=b8 at*;generalize dC:w.heap.size=b2 at*;refine(yn _ _ _ _).mono ?_;rintro e w' ⟨rfl,rfl⟩;go_wp2_with fail;have F5:aA [b8] w4 (w4.setCell (G b8 (1+tag)) (Y (within v 0 mo))):=(aA.refl _ _).setCell ay _;have h6:=H5.o.BZ F5 ⟨FR.o.1,FR.o.2.1,λhc=>by
  rcases List.mem_cons.1 hc with hc|hc
  ·omega
  ·exact FR.o.2.2 hc⟩
 have g8:=aF.set B8.o (1+tag) (Y (within v 0 mo));rw[show(#[.int .u64 y.key,Y (y.tg 0),Y (y.tg 1),Y (y.tg 2),Y (y.tg 3)]:Array UL).setIfInBounds (1+tag) (Y (within v 0 mo))=aP (nS y tag v mo)from SC y tag O v mo]at g8;have h28:b2≠b8:=λe=>FR.o.2.2 (by simp[e]);have g10:=B10.o.aG F5 ay;have g2:=Q2.o.aG F5 (by simp;exact h28);have B0:=Z (Kept.dn (RO:=RO) F5 (λb X hc=>by simp at hc;subst hc;exact FR.o.2.2 (by simp[X])) (λb X=>H5.o.sep.dO b (by simp[X])));have H6:=Z h6;have G10:=Z g10;have G2:=Z g2;have G8:=Z g8;clear h6 g10 g2 g8 F5 c0 c2 c8 f8 htc B8 B10 Q2;generalize w4.setCell (G b8 (1+tag)) (Y (within v 0 mo))=w5 at*;generalize hz:nS y tag v mo=z at*;have G8':=G8.o;unfold aP at G8';obtain⟨i0,i1,i2,i3,i4,-⟩:=jY G8';have d2:=G2.o.c1;have d9:UJ w5 (G C.mb 9)=H (UI C.ab):=H6.o.mx.reads.1;have Ex:=Z (eB.VJ (H6.o.m.ar.drewN 1) hq HN.o z);have HZ:=Z hz;clear G8' G8 hz;unfold bL at Ex
 go_still_tail 6,bh
 change wpList _ _ _ _ _ (w5.drewN 1);have H7:=Z (H6.o.drewN 1);have Vt:=Z (G10.o.drewN 1);have G2':=Z (G2.o.drewN 1);have Hb:=Z (Kept.af (RO:=RO) (az w5.heap.size w5 1) (λb X=>H6.o.sep.dO b (by simp[X])));have M8:=Z (((HKA.o.trans SF.o (λb X=>X)).trans B0.o (λb X=>X)).trans Hb.o (λb X=>X));clear Hb HKA SF B0 i0 i1 i2 i3 i4 d2 d9 G10 G2 H6;generalize w5.drewN 1=w6 at*;go_wp2_with fail;refine Ex.o.mono ?_;rintro e w7 ⟨rfl,f7,a7⟩;obtain⟨k1,k2⟩:=H7.o.mx.set f7 a7;have h8:=H7.o.ou k1 k2;have x2:b2∈(b8+1)::b2::RO:=by simp
 have ah:b8+1∈(b8+1)::b2::RO:=by simp
 have p2:=G2'.o.aG k1.f (H7.o.sep.cr x2);have p10:=Vt.o.aG k1.f (H7.o.sep.cr ah);have hu:gK w7 C.mb ((b8+1)::b2::RO) (.func (.func 269) #[] #[UI b2,UI (b8+1)]) (.mark y):=⟨_,_,rfl,p2,p10,x2,ah⟩;have HC:=Z (yl h8 hu HJ.o);have VZ:=Z (M8.o.trans (RO':=RO) ((H7.o.kept k1).less (λb X=>by simp[X])) (λb X=>X));have j2:=p2.c1;clear k1 k2 h8 hu p2 p10 x2 ah f7 a7 Ex;go_wp2_with fail;refine HC.o.mono ?_;intro e w8 hd;have sT:=hd.pre (RO:=RO) VZ.o (λb X=>by simp[X]);obtain⟨rfl,mI⟩:=sT;go_wp2;exact bK (dJ rfl _ _ _) rfl ⟨rfl,by rw[HE.o];exact mI⟩
def ae(w:UK)(C:Co)(U:Ru)(RO:List Nat)(K:Kc)(p:aQ)(c:Cp)(t:dZ)(used:Int)(hv:UL)(s:St)(r:Rn)(e:Ending)(w':UK):Prop:=
 e=C8 (.tuple #[])/\∃U' kT,U'.rb=U.rb/\cS w' C U' RO K p c t used hv kT s r/\aA U.l w w'/\∀b,b∈U'.l->b∈U.l\/w.heap.size<=b
def yp(h:cS w C U RO K p c t used hv jv s r){u:uC}{v:UL}(hu:gK w C.mb RO v u)(hl:r.bz.length<1000000):
 Calls prog 214 #[UI C.mb,v] w (ae w C U RO K p c t used hv s (r.note u)):=by
 obtain⟨i0,hi,jn,nQ,qm⟩:=y_ AL;have sS:=uL h.m.bg;have r2:UJ w (G U.rb 7)=H U.jU:=h.r.dS.cell 7;have lm:=h.m.bg.lt;have lr:=h.r.dS.lt;have HD:=Z (h.drewN 1);have C3:=Z (show r.bz.length+1<=maxLen by unfold maxLen;omega);have C4:=Z (show(r.bz.length+1)*8<=140737488355328 by omega);obtain⟨fn,gM,rfl⟩:=hu.form;have HU:=Z hu;have a0f:=Z h;clear h hu;go_enter func214,ntmps214;go_wp2
 go_region_law ((refine AG _ rfl (.tmp 14) (.tmp 16) 124 rfl 0 1 i0 .nilFunc 1 8 underlying124 hi jn nQ qm rfl bd U.jU _ _ (by simp[Act.eval,Act.put]) (HD.o.r.jU.alloc _) (G w.heap.size 0) 1 1 [.func fn #[] gM] (by simp[Act.eval,Act.put]) rfl (gR.iF _ [.func fn #[] gM] _ _ ay) (by simp[Value.oneCell']) bd C3.o C4.o ay _ rfl ?_;intro g cap w4 gp gw si AB;obtain⟨zG,xZ⟩:=Oy (w:=w) (n:=r.bz.length+1) (cap:=cap) ((az w.heap.size w 1).alloc (aL _) _) gw si rfl;obtain⟨c2,f2,c60⟩:=a0f.o.AM zG;have HO:=Z gp;have HF:=Z zG;have HS:=Z xZ;clear gp gw si AB zG xZ))
 all_goals
  go_wp2;refine bK (dJ rfl _ _ _) rfl ?_;have bo:=oQ (f':=λi=>if i<r.bz.length then jv i else .func fn #[] gM) HO.o (λi hi=>bk hi) (aw O);have F:aA (U.rb::vb U.jU) w (w4.setCell (G U.rb 7) (to (H (G g 0)) (r.bz.length+1) cap)):=(HF.o.mono (by intro k hk;simp[hk])).setCell ay _;have rm:∀b,b∈RO->b∉U.rb::vb U.jU:=λb X=>by have:=a0f.o.sep.ur X;simp[Ru.l]at this ⊢;simp[this]
  have A:=a0f.o.jU HF.o (l:=u::r.bz) bo HS.o (RO':=RO) (λi u' Lm=>by
   rw[List.reverse_cons]at Lm;by_cases hi:i<r.bz.length
   ·exact II
   ·have vG:i=r.bz.length:=by have:=(List.getElem?_eq_some_iff.1 Lm).1;simp at this;omega
    subst vG;rw[jy ay]at Lm;simp at Lm;subst Lm;rw[aw O];exact HU.o.aG F rm) (λb X=>X) (λb X=> .inl X)
  refine⟨rfl,{U with jU:=to (H (G g 0)) (r.bz.length+1) cap},_,rfl,A,F.mono (by intro k hk;simp at hk;rcases hk with rfl|hk;simp[Ru.l];simp[Ru.l,hk]),λb X=>?_⟩;simp only[Ru.l,fh,dV]at X ⊢;rcases X with X|((X|X)|X)|X
  ·exact .inl (.inl X)
  ·exact .inl (.inr (.inl (.inl (.inl X))))
  ·exact .inl (.inr (.inl (.inl (.inr X))))
  ·exact .inl (.inr (.inl (.inr X)))
  ·rcases HS.o b X with X|X
   ·exact .inl (.inr (.inr X))
   ·exact .inr X
structure iT(K:Kc)(p:aQ)(c:Cp)(s:St):Prop where
 inv:Inv (aC p c) s
 gM:ow p c
 nd:K.nd=dw (aC p c)
 AY:K.nd<=4194304
 g16:p.bw.length<=16
 t4:p.aS.length<=4
def iT.total{K:Kc}{p:aQ}{c:Cp}{s:St}(h:iT K p c s): -1073741824<=s.total/\s.total<=1073741824:=by have:=OQ h.inv h.gM;omega
def iT.room{K:Kc}{p:aQ}{c:Cp}{s:St}(h:iT K p c s){q:Nat}(hq:q<p.bw.length)(hl:(s.a.ls q).length<(aC p c).cq q)(ht:(aC p c).gh q=true\/s.total<(aC p c).sz):e_ p s.a<K.nd:=by rw[h.nd];exact SJ h.inv hq hl ht
def Mx.cap(h:Mx w C RO K p c s t used rv){q:Nat}(hq:q<c.aK.length):∃b cap,K.qs=to (H (G b 0)) c.aK.length cap/\b∈RO/\UJ w (G b q)=H (Y (c.aK.getD q 0)):=by obtain⟨b,cap,iD,pR,mZ,X⟩:=h.m.prog.qs.some O;have h3:=h.m.prog.qs;rw[iD]at h3;exact⟨b,cap,iD,h.m.prog.ro b (.inr (.inr (.inr (.inr (.inr (aU.2 (by rw[iD];rfl))))))),h3.cell (o:=q) O⟩
def dR(w:UK)(C:Co)(q d:Nat)(x:eU):UK:=
 (((w.alloc (QP #[UI C.mb] 35)).alloc (QP #[Y q] 3)).alloc (QP #[Y d] 3)).alloc (QP (aP x) 118)
def cS.Ch(h:cS w C U RO K p c t used hv jv s r)(q d:Nat)(x:eU):cS (dR w C q d x) C U ((w.heap.size+3)::(w.heap.size+2)::(w.heap.size+1)::w.heap.size::RO) K p c t used hv jv s r/\
 aF (dR w C q d x) w.heap.size 35 #[UI C.mb]/\aF (dR w C q d x) (w.heap.size+1) 3 #[Y q]/\aF (dR w C q d x) (w.heap.size+2) 3 #[Y d]/\aF (dR w C q d x) (w.heap.size+3) 118 (aP x)/\
 Below w.heap.size w (dR w C q d x):=by
 unfold dR;have h1:=h.box (QP #[UI C.mb] 35);have h2:=h1.box (QP #[Y q] 3);have h3:=h2.box (QP #[Y d] 3);have h4:=h3.box (QP (aP x) 118);have s1:(w.alloc (QP #[UI C.mb] 35)).heap.size=w.heap.size+1:=by simp
 have s2:((w.alloc (QP #[UI C.mb] 35)).alloc (QP #[Y q] 3)).heap.size=w.heap.size+2:=by simp
 have s3:(((w.alloc (QP #[UI C.mb] 35)).alloc (QP #[Y q] 3)).alloc (QP #[Y d] 3)).heap.size=w.heap.size+3:=by simp
 have n1:=aF.new w 35 #[UI C.mb];have n2:=aF.new (w.alloc (QP #[UI C.mb] 35)) 3 #[Y q];have n3:=aF.new ((w.alloc (QP #[UI C.mb] 35)).alloc (QP #[Y q] 3)) 3 #[Y d];have n4:=aF.new (((w.alloc (QP #[UI C.mb] 35)).alloc (QP #[Y q] 3)).alloc (QP #[Y d] 3)) 118 (aP x);rw[s1]at h2 h3 h4 n2;rw[s2]at h3 h4 n3;rw[s3]at h4 n4;exact⟨h4,((n1.alloc _).alloc _).alloc _,(n2.alloc _).alloc _,n3.alloc _,n4,((((aB _ w).alloc (aL _) _).alloc ay _).alloc jz _).alloc jz _⟩
structure pT(w0 wr:UK)(b:Nat)(T e:TypeId)(size k:Nat)(a0d:Nat->UL)(av:UL):Prop where
 dS:aF wr b T #[av]
 row:Row wr e size av k a0d
 own:∀x,av.ownBlock=H x->w0.heap.size<=x
 f:aA [b] w0 wr
def pT.start{w0:UK}{b:Nat}{T e:TypeId}{size:Nat}{a0d:Nat->UL}(h:aF w0 b T #[Pl]):pT w0 w0 b T e size 0 a0d Pl:=
 ⟨h,Row.nil _ _ _ _,λx hx=>by simp[Value.ownBlock]at hx,aA.refl _ _⟩
def pT.later{w0 wr w1:UK}{b:Nat}{T e:TypeId}{size k:Nat}{a0d:Nat->UL}{av:UL}(h:pT w0 wr b T e size k a0d av)(B:Below wr.heap.size wr w1):pT w0 w1 b T e size k a0d av:=
 ⟨h.dS.aG (aA.af (S:=[]) B) ay,h.row.aG (aA.af (S:=[]) B) ay,h.own,h.f.trans (aA.af B)⟩
def pT.mid{w0 wr w1 w4:UK}{b:Nat}{T e:TypeId}{size k:Nat}{a0d:Nat->UL}{av:UL}(h:pT w0 wr b T e size k a0d av)(X:b<w0.heap.size)(B:Below wr.heap.size wr w1)(hg:w1.grownBy w4 av.ownBlock):aF w4 b T #[av]/\aA [b] w0 w4:=by
 have h1:=h.later B;have bm:∀x,av.ownBlock=H x->x≠b:=λx hx e=>by have:=h.own x hx;omega
 refine⟨h1.dS.grown hg (λe=>bm b e.symm rfl),⟨hg.os.trans h1.f.os,hg.tape.trans h1.f.tape,hg.output.trans h1.f.output,cU h1.f.size hg.size,λi hi hs=>?_⟩⟩;rw[<-h1.f.block i hi hs];exact hg.block i (eJ hi h1.f.size) (λe=>by have:=h.own i e.symm;omega)
def pT.step{w0 wr w1 w4:UK}{b:Nat}{T e:TypeId}{size k m:Nat}{a0d:Nat->UL}{av:UL}(h:pT w0 wr b T e size k a0d av)(X:b<w0.heap.size)(B:Below wr.heap.size wr w1)(hg:w1.grownBy w4 av.ownBlock)
 {g cap:Nat} {news:List UL} (gp:w4.ownsRow 0 e size (to (H (G g 0)) (k+m) cap) (k+m) (eY (k*size) a0d++news)) (si:av.ownBlock=H g\/g=w1.heap.size) (qt:news=(List.range (m*size)).map λi=>a0d (k*size+i)):
 pT w0 (w4.setCell (G b 0) (to (H (G g 0)) (k+m) cap)) b T e size (k+m) a0d (to (H (G g 0)) (k+m) cap):=by
 obtain⟨h1,h2⟩:=h.mid X B hg;have Rb:w0.heap.size<=g:=by
  rcases si with si|si
  ·exact h.own g si
  ·have:=B.size;have:=h.f.size;omega
 refine⟨?_,?_,λx hx=>?_,h2.setCell ay _⟩
 ·exact h1.set 0 _
 ·have h3:Row w4 e size (to (H (G g 0)) (k+m) cap) (k+m) a0d:=by unfold Row;rw[Nat.add_mul,rj,<-qt];exact gp
  exact h3.other (λe=>by simp[Value.ownBlock]at e;omega) _ _
 ·simp[Value.ownBlock]at hx;omega
def Ci{P:Program}{f:FuncId}{args:Array UL}{w:UK}{v:UL}{n:Nat}(h:Calls P f args (w.drewN n) λe w'=>e=C8 v/\w.drewN n=w'):Calls P f args (w.drewN n) λe w'=>e=C8 v/\∃m,w'=w.drewN m:=
 h.mono λ_ _ ⟨h1,h2⟩=>⟨h1,n,h2.symm⟩
def Ql{p:Prop}(h:p:=by
 unfold dR aP at*;unfold bL;generalize(s.a.ls q).length=ln at*;generalize c.aK.getD q 0=cqv at*;generalize p.bw.getD q false=gqv at*;go_enter func218,ntmps218;go_wp2_with fail;generalize(((w.alloc (QP #[UI C.mb] 35)).alloc (QP #[Y q] 3)).alloc (QP #[Y d] 3)).alloc (QP #[.int .u64 x.key,Y (x.tg 0),Y (x.tg 1),Y (x.tg 2),Y (x.tg 3)] 118)=w4 at*;generalize gu:w.heap.size=bx at*;go_quiet ((go_at_call 204;exact Ci (tK.o _)));have HK:=Z ((Kept.af (RO:=RO) (by rw[gu];exact jK.o) (by rw[gu];exact dE.o)).trans (Kept.af (az w4.heap.size w4 nq) (λb X=>H4.o.sep.dO b (by simp[X]))) (λb X=>X));have H5:=Z (H4.o.drewN nq);have sS:(w4.drewN nq).cell? (G C.mb 60)=H (UI U.rb):=H5.o.m.bg.cell 60;have r6:(w4.drewN nq).cell? (G U.rb 6)=H (Y r.bY):=H5.o.r.dS.cell 6;have rf:∀o,(w4.drewN nq).frozen? (G U.rb o)=false:=H5.o.r.dS.frozen;have i1:(w4.drewN nq).cell? (G bx 0)=H (UI C.mb):=e1;have nI:=Z (Kept.dn (RO:=RO) (S:=U.l) ((aA.refl _ (w4.drewN nq)).setCell (p:=(G U.rb 6)) (by simp[Ru.l]) (Y 1)) (λb X=>H5.o.sep.ur (by simp[X])) (λb X=>H5.o.sep.dO b (by simp[X])));clear e1 e2 e3 e40 e41 e42 e43 e44 m9 m12 m0 m7 m6 zI Dr;generalize w4.drewN nq=w5 at*;go_wp2;go_ret;exact⟨rfl,_,λb X=>by simp[X],(H5.o.jW 6 (Y 1) (r':=r.gd 1) rfl rfl rfl rfl rfl rfl H5.o.r.gP).i_,HK.o.trans nI.o (λb X=>X)⟩):p:=h
def LI(h:cS w C U RO K p c t used hv jv s r)(E:iT K p c s){q d:Nat}(hq:q<p.bw.length)(he:d<=1)(x:eU)(EI:((s.a.ls q).length:Int)=c.aK.getD q 0):
 Calls prog 218 #[UI C.mb,Y q,Y d,bL x] w (cF w C.mb U.rb RO K p c t used (.bool false) (s,r.gd 1)):=by
 obtain⟨h4,n1,n2,n3,n4,B4⟩:=h.Ch q d x;have tK:=Z (λk=>eB.xP (h4.m.ar.drewN k) hq);obtain⟨m9,-,m12,m0,-⟩:=h4.mx.reads;obtain⟨gb,ov,lG,yk,zI⟩:=h4.mx.bw hq;have nH:q<c.aK.length:=by rw[E.gM.len];exact hq
 obtain⟨cb,Cj,Gc,Rx,Dr⟩:=h4.mx.cap nH;have m7:(dR w C q d x).cell? (G C.mb 7)=H K.qs:=h4.m.bg.cell 7;have m6:(dR w C q d x).cell? (G C.mb 6)=H (Y c.size):=h4.m.bg.cell 6;have e1:=n1.c1;have e2:=n2.c1;have e3:=n3.c1;have Ck:=n4;unfold aP at Ck;rw[show w.heap.size+3=w.heap.size+1+1+1 from rfl]at h4 n4 Ck;rw[show w.heap.size+2=w.heap.size+1+1 from rfl]at h4 n3;obtain⟨e40,e41,e42,e43,e44,-⟩:=jY Ck;rw[lG]at m0;rw[Gc]at m7;have g1:(((s.a.ls q).length:Int)==c.aK.getD q 0)=true:=by simpa using EI
 have dE:=Z h.sep.dO;have jK:=Z B4;have H4:=Z h4;have N1:=Z n1;have N2:=Z n2;have N3:=Z n3;have N4:=Z n4;have HE:=Z E;clear h h4 n1 n2 n3 n4 Ck B4 E lG Gc yk Rx EI;exact Ql
def LJ(h:cS w C U RO K p c t used hv jv s r)(E:iT K p c s){q d:Nat}(hq:q<p.bw.length)(he:d<=1)(x:eU)(bm:((s.a.ls q).length:Int)≠c.aK.getD q 0)(hg:p.bw.getD q false=false)(ht:s.total=c.size):
 Calls prog 218 #[UI C.mb,Y q,Y d,bL x] w (cF w C.mb U.rb RO K p c t used (.bool false) (s,r.gd 1)):=by
 obtain⟨h4,n1,n2,n3,n4,B4⟩:=h.Ch q d x;have tK:=Z (λk=>eB.xP (h4.m.ar.drewN k) hq);obtain⟨m9,-,m12,m0,-⟩:=h4.mx.reads;obtain⟨gb,ov,lG,yk,zI⟩:=h4.mx.bw hq;have nH:q<c.aK.length:=by rw[E.gM.len];exact hq
 obtain⟨cb,Cj,Gc,Rx,Dr⟩:=h4.mx.cap nH;have m7:(dR w C q d x).cell? (G C.mb 7)=H K.qs:=h4.m.bg.cell 7;have m6:(dR w C q d x).cell? (G C.mb 6)=H (Y c.size):=h4.m.bg.cell 6;have e1:=n1.c1;have e2:=n2.c1;have e3:=n3.c1;have Ck:=n4;unfold aP at Ck;rw[show w.heap.size+3=w.heap.size+1+1+1 from rfl]at h4 n4 Ck;rw[show w.heap.size+2=w.heap.size+1+1 from rfl]at h4 n3;obtain⟨e40,e41,e42,e43,e44,-⟩:=jY Ck;rw[lG]at m0;rw[Gc]at m7;have g1:(((s.a.ls q).length:Int)==c.aK.getD q 0)=false:=by simpa using bm
 have g2:(s.total==c.size)=true:=by simpa using ht
 rw[hg]at zI;have dE:=Z h.sep.dO;have jK:=Z B4;have H4:=Z h4;have N1:=Z n1;have N2:=Z n2;have N3:=Z n3;have N4:=Z n4;have HE:=Z E;clear h h4 n1 n2 n3 n4 Ck B4 E lG Gc yk Rx bm hg ht;exact Ql
def Ft{p:Prop}(h:p:=by
 unfold dR aP at*;unfold bL;generalize(s.a.ls q).length=ln at*;generalize c.aK.getD q 0=cqv at*;generalize p.bw.getD q false=gqv at*;go_enter func218,ntmps218;go_wp2_with fail;generalize(((w.alloc (QP #[UI C.mb] 35)).alloc (QP #[Y q] 3)).alloc (QP #[Y d] 3)).alloc (QP #[.int .u64 x.key,Y (x.tg 0),Y (x.tg 1),Y (x.tg 2),Y (x.tg 3)] 118)=w4 at*;generalize gu:w.heap.size=bx at*;go_quiet ((go_at_call 204;exact Ci (tK.o _)));have HK:=Z ((Kept.af (RO:=RO) (by rw[gu];exact jK.o) (by rw[gu];exact dE.o)).trans (Kept.af (az w4.heap.size w4 nq) (λb X=>H4.o.sep.dO b (by simp[X]))) (λb X=>X));have H5:=Z (H4.o.drewN nq);have i1:(w4.drewN nq).cell? (G bx 0)=H (UI C.mb):=e1;have i2:(w4.drewN nq).cell? (G (bx+1) 0)=H (Y q):=e2;have i3:(w4.drewN nq).cell? (G (bx+1+1) 0)=H (Y d):=e3;have i40:(w4.drewN nq).cell? (G (bx+1+1+1) 0)=H (.int .u64 x.key):=e40;have i41:(w4.drewN nq).cell? (G (bx+1+1+1) 1)=H (Y (x.tg 0)):=e41;have i42:(w4.drewN nq).cell? (G (bx+1+1+1) 2)=H (Y (x.tg 1)):=e42;have i43:(w4.drewN nq).cell? (G (bx+1+1+1) 3)=H (Y (x.tg 2)):=e43;have i44:(w4.drewN nq).cell? (G (bx+1+1+1) 4)=H (Y (x.tg 3)):=e44;have tS:=HE.o.g16;have HP:=Z (OB H5.o.mx HE.o.AY O hq he x HX.o V_.o HE.o.total);have M1:=Z (N1.o.drewN nq);have M2:=Z (N2.o.drewN nq);have M3:=Z (N3.o.drewN nq);unfold bL at HP;clear e1 e2 e3 e40 e41 e42 e43 e44 m9 m12 m0 m7 m6 zI Dr N1 N2 N3 N4 tS;generalize w4.drewN nq=w5 at*;go_wp2_with fail;refine HP.o.mono ?_;rintro e w6 ⟨rfl,C6,k1,k2⟩;have h6:=H5.o.ou k1 k2;have x1:bx∈(bx+1+1+1)::(bx+1+1)::(bx+1)::bx::RO:=by simp
 have x2:bx+1∈(bx+1+1+1)::(bx+1+1)::(bx+1)::bx::RO:=by simp
 have x3:bx+1+1∈(bx+1+1+1)::(bx+1+1)::(bx+1)::bx::RO:=by simp
 have p1:=M1.o.aG k1.f (H5.o.sep.cr x1);have p2:=M2.o.aG k1.f (H5.o.sep.cr x2);have p3:=M3.o.aG k1.f (H5.o.sep.cr x3);have oR:=k1.mb;have hu:gK w6 C6.mb ((bx+1+1+1)::(bx+1+1)::(bx+1)::bx::RO) (.func (.func 271) #[] #[UI bx,UI (bx+1),UI (bx+1+1)]) (.cut q d):=by rw[oR];exact⟨_,_,_,rfl,p1,p2,p3,x1,x2,x3⟩
 have hc:=yl h6 hu HJ.o;rw[oR]at hc;have HC:=Z hc;have VZ:=Z (HK.o.trans (RO':=RO) ((H5.o.kept k1).less (λb X=>by simp[X])) (λb X=>X));have j1:=p1.c1;clear k1 k2 h6 hu p1 p2 p3 x1 x2 x3 HP oR hc i1 i2 i3 i40 i41 i42 i43 i44;go_wp2_with fail;refine HC.o.mono ?_;intro e w8 hd;have sT:=hd.pre (RO:=RO) VZ.o (λb X=>by simp[X]);obtain⟨rfl,RO',ho,fD,hk⟩:=sT;have me:=Z fD;have zT:=Z hk;have HO:=Z ho;clear hd fD hk ho HC;go_wp2;go_ret;exact⟨rfl,RO',HO.o,me.o,zT.o⟩):p:=h
def SK(h:cS w C U RO K p c t used hv jv s r)(E:iT K p c s){q d:Nat}(hq:q<p.bw.length)(he:d<=1)(x:eU)(bm:((s.a.ls q).length:Int)≠c.aK.getD q 0)(hg:p.bw.getD q false=true)(hx:s.f x.key=K7)(mR:e_ p s.a<K.nd)(hj:r.bz.length<1000000):
 Calls prog 218 #[UI C.mb,Y q,Y d,bL x] w (cF w C.mb U.rb RO K p c t used (.bool true) (jX (aC p c) s q d x,r.note (.cut q d))):=by
 obtain⟨h4,n1,n2,n3,n4,B4⟩:=h.Ch q d x;have tK:=Z (λk=>eB.xP (h4.m.ar.drewN k) hq);obtain⟨m9,-,m12,m0,-⟩:=h4.mx.reads;obtain⟨gb,ov,lG,yk,zI⟩:=h4.mx.bw hq;have nH:q<c.aK.length:=by rw[E.gM.len];exact hq
 obtain⟨cb,Cj,Gc,Rx,Dr⟩:=h4.mx.cap nH;have m7:(dR w C q d x).cell? (G C.mb 7)=H K.qs:=h4.m.bg.cell 7;have m6:(dR w C q d x).cell? (G C.mb 6)=H (Y c.size):=h4.m.bg.cell 6;have e1:=n1.c1;have e2:=n2.c1;have e3:=n3.c1;have Ck:=n4;unfold aP at Ck;rw[show w.heap.size+3=w.heap.size+1+1+1 from rfl]at h4 n4 Ck;rw[show w.heap.size+2=w.heap.size+1+1 from rfl]at h4 n3;obtain⟨e40,e41,e42,e43,e44,-⟩:=jY Ck;rw[lG]at m0;rw[Gc]at m7;have g1:(((s.a.ls q).length:Int)==c.aK.getD q 0)=false:=by simpa using bm
 rw[hg]at zI;have dE:=Z h.sep.dO;have jK:=Z B4;have H4:=Z h4;have N1:=Z n1;have N2:=Z n2;have N3:=Z n3;have N4:=Z n4;have HE:=Z E;have HX:=Z hx;have V_:=Z mR;have HJ:=Z hj;clear h h4 n1 n2 n3 n4 Ck B4 E lG Gc yk Rx bm hg hx mR hj;exact Ft
def SN(h:cS w C U RO K p c t used hv jv s r)(E:iT K p c s){q d:Nat}(hq:q<p.bw.length)(he:d<=1)(x:eU)(bm:((s.a.ls q).length:Int)≠c.aK.getD q 0)(hg:p.bw.getD q false=false)(ht:s.total≠c.size)(hx:s.f x.key=K7)(mR:e_ p s.a<K.nd)(hj:r.bz.length<1000000):
 Calls prog 218 #[UI C.mb,Y q,Y d,bL x] w (cF w C.mb U.rb RO K p c t used (.bool true) (jX (aC p c) s q d x,r.note (.cut q d))):=by
 obtain⟨h4,n1,n2,n3,n4,B4⟩:=h.Ch q d x;have tK:=Z (λk=>eB.xP (h4.m.ar.drewN k) hq);obtain⟨m9,-,m12,m0,-⟩:=h4.mx.reads;obtain⟨gb,ov,lG,yk,zI⟩:=h4.mx.bw hq;have nH:q<c.aK.length:=by rw[E.gM.len];exact hq
 obtain⟨cb,Cj,Gc,Rx,Dr⟩:=h4.mx.cap nH;have m7:(dR w C q d x).cell? (G C.mb 7)=H K.qs:=h4.m.bg.cell 7;have m6:(dR w C q d x).cell? (G C.mb 6)=H (Y c.size):=h4.m.bg.cell 6;have e1:=n1.c1;have e2:=n2.c1;have e3:=n3.c1;have Ck:=n4;unfold aP at Ck;rw[show w.heap.size+3=w.heap.size+1+1+1 from rfl]at h4 n4 Ck;rw[show w.heap.size+2=w.heap.size+1+1 from rfl]at h4 n3;obtain⟨e40,e41,e42,e43,e44,-⟩:=jY Ck;rw[lG]at m0;rw[Gc]at m7;have g1:(((s.a.ls q).length:Int)==c.aK.getD q 0)=false:=by simpa using bm
 have g2:(s.total==c.size)=false:=by simpa using ht
 rw[hg]at zI;have dE:=Z h.sep.dO;have jK:=Z B4;have H4:=Z h4;have N1:=Z n1;have N2:=Z n2;have N3:=Z n3;have N4:=Z n4;have HE:=Z E;have HX:=Z hx;have V_:=Z mR;have HJ:=Z hj;clear h h4 n1 n2 n3 n4 Ck B4 E lG Gc yk Rx bm hg ht hx mR hj;exact Ft
def cD{b:Nat}{i:Ins}(h:aF w b 40 (aI i)):UJ w (G b 0)=H (Y i.op)/\UJ w (G b 1)=H (Y i.a)/\UJ w (G b 2)=H (Y i.b)/\UJ w (G b 3)=H (Y i.c)/\UJ w (G b 4)=H (Y i.d):=
 ⟨h.cell 0,h.cell 1,h.cell 2,h.cell 3,h.cell 4⟩
def J8{p:Prop}(h:p:=by
 go_wp2_with fail;refine HM.o.mono ?_;intro e w5 hd;have sT:=hd.pre (RO:=RO) K2.o (λb X=>by simp[X]);rw[Dk.o]at sT;obtain⟨rfl,mI⟩:=sT;go_wp2;exact bK (dJ rfl _ _ _) rfl ⟨rfl,mI⟩):p:=h
def aau(h:cS w C U RO K p c t used hv jv s r)(i:Ins){k n q:Nat}(hk:i.a=k)(hf:s.f r.key=H n)(hq:q<p.bw.length)(hn:n∈s.a.ls q)(OJ:k<p.aS.length)(ht4:p.aS.length<=4)(hj:r.bz.length<1000000){v:Int}{rest:List Int}(fL:r.stack=v::rest)(hl:rest.length<1000000):
 Calls prog 119 #[UI C.mb,aV i] w (cF w C.mb U.rb RO K p c t used (.tuple #[]) (tF p (s,r.pop) n k v)):=by
 have h1:=h.box (QP (aI i) 40);have n1:=aF.new w 40 (aI i);have HP:=Z (Ev h1 fL hl);have nG:=Z (Kept.af (RO:=RO) ((aB w.heap.size w).alloc (aL _) (QP (aI i) 40)) h.sep.dO);have Hq:=Z (λb (X:b∈w.heap.size::RO)=>h1.sep.ur X);have dE:=Z h1.sep.dO;have N1:=Z n1;have Xhf:=Z hf;have Xhn:=Z hn;have Xhk:=Z hk;have Xhj:=Z hj;clear h h1 n1 fL hf hn hk hj;unfold aV;unfold aI at*;go_enter func119,ntmps119;go_wp2_with fail;refine HP.o.mono ?_;rintro e w2 ⟨rfl,U1,Dt,A1,f1⟩;have K1:=Z (nG.o.trans (Kept.dn f1 Hq.o dE.o) (λb X=>by simp[X]));have n2:=N1.o.aG f1 (Hq.o _ ay);obtain⟨c0,c1,c2,c3,c4⟩:=cD (i:=i) n2;have Dk:=Z Dt;have Du:=Z A1;clear HP nG A1 f1 Dt n2 N1 Hq;generalize gu:w.heap.size=bx at*;rw[Xhk.o]at c1;have HN:=Z (yI Du.o (show s.f r.pop.key=_ from Xhf.o) hq Xhn.o);go_wp2_with fail;refine HN.o.mono ?_;rintro e w3 ⟨rfl,m,rfl⟩;have HM:=Z (OI (Du.o.drewN m) hq Xhn.o OJ ht4 v Xhj.o);have K2:=Z (K1.o.trans (Kept.af (RO:=RO) (az w2.heap.size w2 m) (λb X=>Du.o.sep.dO b (by simp[X]))) (λb X=>X));have g1:(w2.drewN m).cell? _=_:=c1;clear HN c0 c1 c2 c3 c4 K1;generalize w2.drewN m=w4 at*;exact J8
def Ug{p:Prop}(h:p:=by
 go_wp2_with fail;refine HN.o.mono ?_;intro e w3 hd;have sT:=hd.pre (RO:=RO) K1.o (λb X=>by simp[X]);rw[Dk.o]at sT;obtain⟨rfl,mI⟩:=sT;clear HN c0 c1 c2 c3 c4 K1;go_wp2;exact bK (dJ rfl _ _ _) rfl ⟨rfl,mI⟩):p:=h
def ac3(h:cS w C U RO K p c t used hv jv s r)(i:Ins)(hf:s.f r.key=K7){v:Int}{rest:List Int}(fL:r.stack=v::rest)(hl:rest.length<1000000):
 Calls prog 119 #[UI C.mb,aV i] w (cF w C.mb U.rb RO K p c t used (.tuple #[]) ((s,r.pop.gd 3))):=by
 have h1:=h.box (QP (aI i) 40);have n1:=aF.new w 40 (aI i);have HP:=Z (Ev h1 fL hl);have nG:=Z (Kept.af (RO:=RO) ((aB w.heap.size w).alloc (aL _) (QP (aI i) 40)) h.sep.dO);have Hq:=Z (λb (X:b∈w.heap.size::RO)=>h1.sep.ur X);have dE:=Z h1.sep.dO;have N1:=Z n1;have Xhf:=Z hf;clear h h1 n1 fL hf;unfold aV;unfold aI at*;go_enter func119,ntmps119;go_wp2_with fail;refine HP.o.mono ?_;rintro e w2 ⟨rfl,U1,Dt,A1,f1⟩;have K1:=Z (nG.o.trans (Kept.dn f1 Hq.o dE.o) (λb X=>by simp[X]));have n2:=N1.o.aG f1 (Hq.o _ ay);obtain⟨c0,c1,c2,c3,c4⟩:=cD (i:=i) n2;have Dk:=Z Dt;have Du:=Z A1;clear HP nG A1 f1 Dt n2 N1 Hq;generalize gu:w.heap.size=bx at*;have HN:=Z (yJ Du.o (show s.f r.pop.key=_ from Xhf.o));exact Ug
def aax(h:cS w C U RO K p c t used hv jv s r)(i:Ins){k q d:Nat}(ha:i.a=q)(iL:i.b=d)(hk:i.c=k)(hq:q<p.bw.length)(he:d<=1)(bm:s.a.ls q≠[])(OJ:k<p.aS.length)(ht4:p.aS.length<=4)(hj:r.bz.length<1000000){v:Int}{rest:List Int}(fL:r.stack=v::rest)(hl:rest.length<1000000):
 Calls prog 120 #[UI C.mb,aV i] w (cF w C.mb U.rb RO K p c t used (.tuple #[]) (tF p (s,r.pop) (cN s.a q d) k v)):=by
 have h1:=h.box (QP (aI i) 40);have n1:=aF.new w 40 (aI i);have HP:=Z (Ev h1 fL hl);have nG:=Z (Kept.af (RO:=RO) ((aB w.heap.size w).alloc (aL _) (QP (aI i) 40)) h.sep.dO);have Hq:=Z (λb (X:b∈w.heap.size::RO)=>h1.sep.ur X);have dE:=Z h1.sep.dO;have N1:=Z n1;have SQ:=Z bm;have Xha:=Z ha;have Yx:=Z iL;have Xhk:=Z hk;have Xhj:=Z hj;clear h h1 n1 fL bm ha iL hk hj;unfold aV;unfold aI at*;go_enter func120,ntmps120;go_wp2_with fail;refine HP.o.mono ?_;rintro e w2 ⟨rfl,U1,Dt,A1,f1⟩;have K1:=Z (nG.o.trans (Kept.dn f1 Hq.o dE.o) (λb X=>by simp[X]));have n2:=N1.o.aG f1 (Hq.o _ ay);obtain⟨c0,c1,c2,c3,c4⟩:=cD (i:=i) n2;have Dk:=Z Dt;have Du:=Z A1;clear HP nG A1 f1 Dt n2 N1 Hq;generalize gu:w.heap.size=bx at*;rw[Xha.o]at c1;rw[Yx.o]at c2;rw[Xhk.o]at c3;have HN:=Z (tT Du.o hq he SQ.o);go_wp2_with fail;refine HN.o.mono ?_;rintro e w3 ⟨rfl,m,rfl⟩;have HM:=Z (OI (Du.o.drewN m) hq (gr (e:=d) SQ.o) OJ ht4 v Xhj.o);have K2:=Z (K1.o.trans (Kept.af (RO:=RO) (az w2.heap.size w2 m) (λb X=>Du.o.sep.dO b (by simp[X]))) (λb X=>X));have g1:(w2.drewN m).cell? _=_:=c3;clear HN c0 c1 c2 c3 c4 K1;generalize w2.drewN m=w4 at*;exact J8
def aar(h:cS w C U RO K p c t used hv jv s r)(i:Ins){q d:Nat}(ha:i.a=q)(iL:i.b=d)(hq:q<p.bw.length)(he:d<=1)(bm:s.a.ls q=[]){v:Int}{rest:List Int}(fL:r.stack=v::rest)(hl:rest.length<1000000):
 Calls prog 120 #[UI C.mb,aV i] w (cF w C.mb U.rb RO K p c t used (.tuple #[]) ((s,r.pop.gd 2))):=by
 have h1:=h.box (QP (aI i) 40);have n1:=aF.new w 40 (aI i);have HP:=Z (Ev h1 fL hl);have nG:=Z (Kept.af (RO:=RO) ((aB w.heap.size w).alloc (aL _) (QP (aI i) 40)) h.sep.dO);have Hq:=Z (λb (X:b∈w.heap.size::RO)=>h1.sep.ur X);have dE:=Z h1.sep.dO;have N1:=Z n1;have SQ:=Z bm;have Xha:=Z ha;have Yx:=Z iL;clear h h1 n1 fL bm ha iL;unfold aV;unfold aI at*;go_enter func120,ntmps120;go_wp2_with fail;refine HP.o.mono ?_;rintro e w2 ⟨rfl,U1,Dt,A1,f1⟩;have K1:=Z (nG.o.trans (Kept.dn f1 Hq.o dE.o) (λb X=>by simp[X]));have n2:=N1.o.aG f1 (Hq.o _ ay);obtain⟨c0,c1,c2,c3,c4⟩:=cD (i:=i) n2;have Dk:=Z Dt;have Du:=Z A1;clear HP nG A1 f1 Dt n2 N1 Hq;generalize gu:w.heap.size=bx at*;rw[Xha.o]at c1;rw[Yx.o]at c2;have HN:=Z (tU Du.o hq he SQ.o);exact Ug
def agh(h:cS w C U RO K p c t used hv jv s r)(i:Ins){n:Int}(hn:i.a=n)(hl:r.loops.length<1000000):
 Calls prog 115 #[UI C.mb,aV i] w (cF w C.mb U.rb RO K p c t used (.tuple #[]) (s,{r with loops:=n::r.loops})):=by
 obtain⟨i0,hi,jn,nQ,qm⟩:=y_ xY;have H0:=h.box (QP (aI i) 40);have HB:=Z ((aB w.heap.size w).alloc (aL _) (QP (aI i) 40));have e1:(w.alloc (QP (aI i) 40)).cell? (G w.heap.size 1)=H (Y n):=by rw[<-hn];exact(aF.new w 40 (aI i)).cell 1
 have sS:(w.alloc (QP (aI i) 40)).cell? (G C.mb 60)=H (UI U.rb):=H0.m.bg.cell 60;have r2:(w.alloc (QP (aI i) 40)).cell? (G U.rb 3)=H U.j_:=H0.r.dS.cell 3;have lm:=H0.m.bg.lt;have lr:=H0.r.dS.lt;have lb:w.heap.size<(w.alloc (QP (aI i) 40)).heap.size:=by simp
 have HD:=Z (H0.drewN 1);have C3:=Z (show r.loops.length+1<=maxLen by unfold maxLen;omega);have C4:=Z (show(r.loops.length+1)*8<=140737488355328 by omega);have nG:=Z (Kept.af HB.o h.sep.dO);have a0f:=Z H0;clear h H0 hn;unfold aV;unfold aI at*;obtain⟨w1,jF⟩:∃w1,w1=w.alloc (QP #[Y i.op,Y i.a,Y i.b,Y i.c,Y i.d] 40):=⟨_,rfl⟩;rw[<-jF]at a0f HD HB nG e1 sS r2 lm lr lb;go_enter func115,ntmps115;go_wp2_with fail;rw[<-jF];clear jF;generalize w.heap.size=bx at e1 lb a0f HD ⊢
 go_region_law ((refine AG _ rfl (.tmp 14) (.tmp 17) 24 rfl 0 3 i0 (Y 0) 1 8 underlying24 hi jn nQ qm rfl bd U.j_ _ _ (by simp[Act.eval,Act.put]) (HD.o.r.j_.alloc _) (G w1.heap.size 0) 1 1 [Y n] (by simp[Act.eval,Act.put]) rfl (gR.iF _ [Y n] _ _ ay) (by simp[Value.oneCell']) bd C3.o C4.o ay _ rfl ?_;intro g cap w4 gp gw si AB;obtain⟨zG,xZ⟩:=Oy (w:=w1) (n:=r.loops.length+1) (cap:=cap) ((az w1.heap.size w1 1).alloc (aL _) _) gw si rfl;obtain⟨c2,f2,c60⟩:=a0f.o.Ln zG;have HO:=Z gp;have HF:=Z zG;have HS:=Z xZ;clear gp gw si AB zG xZ))
 all_goals
  go_wp2;refine bK (dJ rfl _ _ _) rfl ?_;obtain⟨q1,q2⟩:=lu n 0 r.loops;have bo:=oQ (f':=λi=> Y ((n::r.loops).reverse.getD i 0)) HO.o (λi hi=>by show Value.int _ _=Value.int _ _;rw[q1 i hi]) (by show Value.int _ _=Value.int _ _;rw[q2]);have A:=a0f.o.j_ HF.o (l:=n::r.loops) bo HS.o;have D:cF w1 C.mb U.rb (bx::RO) K p c t used (.tuple #[]) (s,{r with loops:=n::r.loops}) (C8 (.tuple #[])) _:=⟨rfl,_,λb X=>X,A.i_,Kept.dn (S:=U.l) ((HF.o.mono (by intro k hk;simp[Ru.l,hk])).setCell (by simp[Ru.l]) _) (λb X=>a0f.o.sep.ur X) a0f.o.sep.dO⟩;exact D.pre nG.o (λb X=>by simp[X])
def Hy(op n:Int):Int:=if op=14 then 1-n else -n
def Wq{p:Prop}(h:p:=by
 have EX:=Z ex;clear ho ex;go_wp2_with fail;refine(S7.o _).mono ?_;intro e w2 hd;exact iq):p:=h
def iq{p:Prop}(h:p:=by
 rw[<-EX.o]at hd;obtain⟨rfl,mI⟩:=hd.pre (RO:=RO) El.o HO.o;go_wp2;exact bK (dJ rfl _ _ _) rfl ⟨rfl,mI⟩):p:=h
def Wj(h:cS w C U RO K p c t used hv jv s r)(i:Ins){n:Int}{rest:List Int}(fL:r.stack=n::rest)(hl:rest.length<1000000)(RY: -1073741824<=n)(xy:n<=1073741824):
 Calls prog 112 #[UI C.mb,aV i] w (cF w C.mb U.rb RO K p c t used (.tuple #[]) (s,r.pop.push (Hy i.op n))):=by
 have H0:=h.box (QP (aI i) 40);have HP:=Z (xL H0 fL hl);have kE:=Z (aF.new w 40 (aI i));have nG:=Z (Kept.af (RO:=RO) ((aB w.heap.size w).alloc (aL _) (QP (aI i) 40)) h.sep.dO);have BW:=Z (show r.iX=n by unfold Rn.iX;rw[fL];rfl);clear h H0;unfold aV;unfold aI at*;go_enter func112,ntmps112;go_wp2_with fail;generalize gu:w.heap.size=bx at HP kE ⊢;refine HP.o.mono ?_;rintro e w' ⟨rfl,RO',ho,⟨C',U',hv',kT,oR,oE,A⟩,xE⟩;have e1:UJ w' (G bx 0)=H (Y i.op):=(aF.lA kE.o xE ay).cell 0;have HA:=Z A;have El:=Z (nG.o.trans xE (λb X=>by simp[X]));have HO:=Z (show∀b,b∈RO->b∈RO' from λb X=>ho b (by simp[X]));have HM:=Z oR;have HR:=Z oE;clear A xE ho oR oE HP kE gu nG;have hps:r.pop.stack=rest:=by unfold Rn.pop;rw[fL];rfl
 have w1:IntKind.i64.wrap (1-n)=1-n:=bJ _ ⟨O,O⟩;have w2:IntKind.i64.wrap (-n)= -n:=bJ _ ⟨O,O⟩;have S7:=Z (λm:Int=>mY HA.o m (by rw[hps];exact hl));rw[HM.o,HR.o]at S7;by_cases ho:i.op=14
 ·have hz:(i.op==14)=true:=by simpa using ho
  have ex:Hy i.op n=1-n:=by unfold Hy;rw[bk ho]
  exact Wq
 ·have hz:(i.op==14)=false:=by simpa using ho
  have ex:Hy i.op n= -n:=by unfold Hy;rw[aw ho]
  exact Wq
def YH{p:Prop}(h:p:=by
 rw[ho]at e1;clear ho JI HOP;go_wp2_with fail;refine(RC.o _).mono ?_;rintro e w3 ⟨rfl,rfl⟩;exact O3):p:=h
def YI{p:Prop}(h:p:=by
 rw[ho]at e1;clear ho JI HOP;go_wp2_with fail;refine(yM.o _).mono ?_;rintro e w3 ⟨rfl,rfl⟩;exact O3):p:=h
def O3{p:Prop}(h:p:=by
 go_wp2_with fail;refine(S7.o _).mono ?_;intro e w4 hd;exact iq):p:=h
def abm(h:cS w C U RO K p c t used hv jv s r)(i:Ins)(dW:i.op=11\/i.op=12\/i.op=15\/i.op=16\/i.op=17\/i.op=18\/i.op=19\/i.op=20\/i.op=21){a b:Int}{rest:List Int}(fL:r.stack=b::a::rest)(hl:rest.length<999999)
 (ha: -1073741824<=a/\a<=1073741824) (X: -1073741824<=b/\b<=1073741824):
 Calls prog 111 #[UI C.mb,aV i] w (cF w C.mb U.rb RO K p c t used (.tuple #[]) (s,r.pop.pop.push (ot i.op a b))):=by
 have H0:=h.box (QP (aI i) 40);have HP:=Z (xL H0 fL jz);have kE:=Z (aF.new w 40 (aI i));have nG:=Z (Kept.af (RO:=RO) ((aB w.heap.size w).alloc (aL _) (QP (aI i) 40)) h.sep.dO);have hps:r.pop.stack=a::rest:=by unfold Rn.pop;rw[fL];rfl
 have ad9:r.pop.pop.stack=rest:=by show r.pop.stack.tail=rest;rw[hps];rfl
 have hwm:IntKind.i64.wrap (a*b)=a*b:=by
  have h1:(a*b).natAbs<=1073741824*1073741824:=by rw[Int.natAbs_mul];exact Nat.mul_le_mul O O
  exact bJ _ ⟨O,O⟩
 have hwa:IntKind.i64.wrap (a+b)=a+b:=bJ _ ⟨O,O⟩;have hws:IntKind.i64.wrap (a-b)=a-b:=bJ _ ⟨O,O⟩;have HOP:=Z dW;have HAB:=Z (And.intro ha X);clear h H0 dW ha X;unfold aV;unfold aI at*;go_enter func111,ntmps111;go_wp2_with fail;generalize gu:w.heap.size=bx at HP kE ⊢;refine HP.o.mono ?_;rintro e w' ⟨rfl,pS,RD,⟨C1,U1,iD,jv1,rq,ic,A1⟩,gm⟩;have Nb:=Z (xL A1 hps O);rw[rq,ic]at Nb;have uw:=Z gm;have Gh:=Z RD;clear HP rq ic A1 gm RD;go_wp2_with fail;refine Nb.o.mono ?_;rintro e w2 ⟨rfl,RO2,Cw,⟨C',U',hv',kT,oR,oE,A⟩,jZ⟩;have l8:=uw.o.trans jZ Gh.o;have e1:UJ w2 (G bx 0)=H (Y i.op):=(aF.lA kE.o l8 ay).cell 0;have El:=Z (nG.o.trans l8 (λb X=>by simp[X]));have HO:=Z (show∀b,b∈RO->b∈RO2 from λb X=>Cw b (Gh.o b (by simp[X])));have S7:=Z (λm:Int=>mY A m (by rw[ad9];omega));rw[oR,oE]at S7;clear A jZ l8 Cw oR oE kE gu nG Nb uw Gh;have yM:=Z (Ju w2);have RC:=Z (Jt w2);have HQU:=Z (Ha w2 HAB.o.1 HAB.o.2);generalize dW:i.op=op at*;have JI:∀o v,op=o->ot o a b=v->ot op a b=v:=λo v h1 h2=>by rw[h1];exact h2
 rcases HOP.o with ho|ho|ho|ho|ho|ho|ho|ho|ho
 ·have EX:=Z (JI 11 (min a b) ho rfl);rw[ho]at e1;clear ho JI HOP;exact O3
 ·have EX:=Z (JI 12 (max a b) ho rfl);rw[ho]at e1;clear ho JI HOP;exact O3
 ·have EX:=Z (JI 15 (lL (a*b)) ho rfl);exact YI
 ·have EX:=Z (JI 16 (xU a b) ho rfl);rw[ho]at e1;clear ho JI HOP;go_wp2_with fail;refine(HQU.o).mono ?_;rintro e w3 ⟨rfl,rfl⟩;exact O3
 ·have EX:=Z (JI 17 (lL (a+b)) ho rfl);exact YI
 ·have EX:=Z (JI 18 (lL (a-b)) ho rfl);exact YI
 ·have EX:=Z (JI 19 (oP (a==b)) ho rfl);exact YH
 ·have EX:=Z (JI 20 (oP (decide (a<b))) ho rfl);exact YH
 ·have EX:=Z (JI 21 (oP (decide (a<=b))) ho rfl);exact YH
def io{p:Prop}(h:p:=by
 have aea:=Z (S7.o m);have HK:=Z (Kept.af (RO:=RO) (HB.o.trans (az _ _ m)) dE.o);have RC:=Z (Jt ((w.alloc (QP #[Y i.op,Y i.a,Y i.b,Y i.c,Y i.d] 40)).drewN m));clear S7 HN HB kE;generalize(w.alloc (QP #[Y i.op,Y i.a,Y i.b,Y i.c,Y i.d] 40)).drewN m=w2 at*;go_wp2_with fail;refine(RC.o _).mono ?_;rintro e w' ⟨rfl,rfl⟩;go_wp2_with fail;refine(aea.o _).mono ?_;intro e w' hd;obtain⟨rfl,mI⟩:=hd.pre (RO:=RO) HK.o (λb X=>by simp[X]);go_wp2;exact bK (dJ rfl _ _ _) rfl ⟨rfl,mI⟩):p:=h
def adn(h:cS w C U RO K p c t used hv jv s r)(i:Ins){k:Nat}(hk:i.a=k){n q:Nat}(hf:s.f r.key=H n)(hq:q<p.bw.length)(hn:n∈s.a.ls q)(hl:r.stack.length<1000000):
 Calls prog 108 #[UI C.mb,aV i] w (cF w C.mb U.rb RO K p c t used (.tuple #[]) (s,r.push (oP ((q:Int)==(k:Int))))):=by
 have H0:=h.box (QP (aI i) 40);have HB:=Z ((aB w.heap.size w).alloc (aL _) (QP (aI i) 40));have HN:=Z (mL H0 hf hq hn);have S7:=Z (λ(m:Nat) (x:Int)=>mY (H0.drewN m) x hl);have kE:=Z (aF.new w 40 (aI i));have a0f:=Z h;have zT:=Z hk;have dE:=Z h.sep.dO;clear h H0 hk hf hn;unfold aV;unfold aI at*;go_enter func108,ntmps108;go_wp2_with fail;refine HN.o.mono ?_;rintro e w' ⟨rfl,m,rfl⟩;have e1:((w.alloc (QP #[Y i.op,Y i.a,Y i.b,Y i.c,Y i.d] 40)).drewN m).cell? (G w.heap.size 1)=H (Y k):=by rw[<-zT.o];exact kE.o.cell 1
 exact io
def adm(h:cS w C U RO K p c t used hv jv s r)(i:Ins)(hf:s.f r.key=K7)(hl:r.stack.length<1000000):
 Calls prog 108 #[UI C.mb,aV i] w (cF w C.mb U.rb RO K p c t used (.tuple #[]) (s,r.push (oP false))):=by
 have H0:=h.box (QP (aI i) 40);have HB:=Z ((aB w.heap.size w).alloc (aL _) (QP (aI i) 40));have HN:=Z (oX H0 hf);have S7:=Z (λ(m:Nat) (x:Int)=>mY (H0.drewN m) x hl);have kE:=Z (aF.new w 40 (aI i));have a0f:=Z h;have dE:=Z h.sep.dO;clear h H0 hf;unfold aV;unfold aI at*;go_enter func108,ntmps108;go_wp2_with fail;refine HN.o.mono ?_;rintro e w' ⟨rfl,m,rfl⟩;exact io
end
open eB (eN)
def LK(A:List Nat)(k:Nat):Int:=if k<A.length then(A.getD k 0:Nat)else 0
def OR(A:List Nat)(k:Nat):UL:= .tuple #[Y (LK A k),.bool (decide (k<A.length))]
def Hn{l:List Nat}{n:Nat}(rC:l.Nodup)(h:n∈l):eN (mu (dir 0 l) n)=OR (cy l n) 0:=by
 rw[EH rC h];unfold eN OR LK;by_cases h0:0<(cy l n).length
 ·simp[h0]
 ·simp[h0]
def LM{l:List Nat}{n k:Nat}(rC:l.Nodup)(h:n∈l)(hk:k<(cy l n).length):eN (mu (dir 0 l) ((cy l n).getD k 0))=OR (cy l n) (k+1):=by
 rw[Hm rC h hk];unfold eN OR LK;by_cases h0:k+1<(cy l n).length
 ·simp[h0]
 ·simp[h0]
def SO{A:List Nat}{k:Nat}(h:k<A.length):LK A k=(A.getD k 0:Nat):=by unfold LK;rw[bk h]
section
variable {w w':UK}{C C':Co}{U U':Ru}{RO RO':List Nat}{K:Kc}{p:aQ}{c:Cp}{t:dZ}{used:Int}{hv hv':UL}{jv kT:Nat->UL}{s s':St}{r r':Rn}{rv:UL}{mb rb:Nat}
def gW(w:UK)(C:Co)(q:Nat):UK:=
 (((w.alloc (QP #[UI C.mb] 35)).alloc (QP #[Y q] 3)).alloc (QP lO 118)).alloc (QP #[Pl] 24)
def cS.hb(h:cS w C U RO K p c t used hv jv s r)(q:Nat):cS (gW w C q) C U ((w.heap.size+1)::w.heap.size::RO) K p c t used hv jv s r/\
 aF (gW w C q) w.heap.size 35 #[UI C.mb]/\aF (gW w C q) (w.heap.size+1) 3 #[Y q]/\aF (gW w C q) (w.heap.size+1+1) 118 lO/\aF (gW w C q) (w.heap.size+1+1+1) 24 #[Pl]/\
 Below w.heap.size w (gW w C q)/\(gW w C q).heap.size=w.heap.size+4:=by
 unfold gW;have h1:=h.box (QP #[UI C.mb] 35);have h2:=h1.box (QP #[Y q] 3);have s1:(w.alloc (QP #[UI C.mb] 35)).heap.size=w.heap.size+1:=by simp
 have s2:((w.alloc (QP #[UI C.mb] 35)).alloc (QP #[Y q] 3)).heap.size=w.heap.size+1+1:=by simp
 have s3:(((w.alloc (QP #[UI C.mb] 35)).alloc (QP #[Y q] 3)).alloc (QP lO 118)).heap.size=w.heap.size+1+1+1:=by simp
 have n1:=aF.new w 35 #[UI C.mb];have n2:=aF.new (w.alloc (QP #[UI C.mb] 35)) 3 #[Y q];have n3:=aF.new ((w.alloc (QP #[UI C.mb] 35)).alloc (QP #[Y q] 3)) 118 lO;have n4:=aF.new (((w.alloc (QP #[UI C.mb] 35)).alloc (QP #[Y q] 3)).alloc (QP lO 118)) 24 #[Pl];have h3:=h2.later (((aB _ _).alloc (aL _) (QP lO 118)).alloc ay (QP #[Pl] 24));rw[s1]at h2 h3 n2;rw[s2]at n3;rw[s3]at n4;exact⟨h3,((n1.alloc _).alloc _).alloc _,(n2.alloc _).alloc _,n3.alloc _,n4,((((aB _ w).alloc (aL _) _).alloc ay _).alloc jz _).alloc jz _,ay⟩
def cS.Qk(h:cS w C U RO K p c t used hv jv s r){l:List Nat}(hl:∀b,b∈l->b<w.heap.size/\b∉C.l/\b∉U.l):cS w C U (l++RO) K p c t used hv jv s r:=by
 induction l with
 |nil=>exact h
 |cons b l ih=>obtain⟨h1,h2,h3⟩:=hl b ay;exact(ih λx hx=>hl x (by simp[hx])).add h1 h2 h3
def Cl(w4 wr:UK)(b:Nat)(A:List Nat)(k:Nat):Prop:=∃av,pT w4 wr b 24 3 1 k (λi=> Y (A.getD i 0:Nat)) av
def Ul{p:Prop}(h:p:=by
 rw[HA.o,e];exact bK (v:= .agg #[.int .u64 y.key,Y (y.tg 0),Y (y.tg 1),Y (y.tg 2),Y (y.tg 3)]) (by simp[results,results219,go_sem,e0,e1,e2,e3,e4]) rfl ⟨rfl,(vb av++[yb,bx+1+1+1]++(bx+1)::bx::RO),λb X=>by simp[X],⟨C,U7,hv,jv7,rfl,Ho.o,HA9.o⟩,HKP.o⟩):p:=h
def J1{p:Prop}(h:p:=by
 intro hc;simp only[dV,fh,List.not_mem_nil,or_false]at hc;rcases hc with(hc|hc|hc)|hc|hc|hc
 ·have:=Ge.o.own _ (aU.1 hc);have:=zH.o;omega
 ·have:=HYL.o;have:=Ge.o.f.size;have:=zH.o;omega
 ·omega
 ·omega
 ·omega
 ·exact F6.o.2.2 hc):p:=h
def Wd(h:cS w C U RO K p c t used hv jv s r)(E:iT K p c s){q n:Nat}(hq:q<p.bw.length)(hn:n∈s.a.ls q)(hj:r.bz.length<1000000):
 Calls prog 219 #[UI C.mb,Y n,Y q] w (cF w C.mb U.rb RO K p c t used (bL (s.a.val n)) (uJ (aC p c) (s,r) n q)):=by
 obtain⟨i0,hi,jn,nQ,qm⟩:=y_ xY;obtain⟨h4,n1,n2,n3,n4,B4,kw⟩:=h.hb q;have gP:=E.inv.wf.nd q hq;have hNX:=eB.GR h4.m.ar hq hn (cK 1);rw[Hn gP hn]at hNX;have m9:(gW w C q).cell? (G C.mb 9)=H (UI C.ab):=h4.mx.reads.1;have e1:=n1.c1;have f6:=h.fresh (b:=w.heap.size+1+1) O;have f7:=h.fresh (b:=w.heap.size+1+1+1) O;have HG:=Z (show Cl (gW w C q) (gW w C q) (w.heap.size+1+1+1) (cy (s.a.ls q) n) 0 from⟨_,pT.start n4⟩);have GU:=Z hNX;have hlen:(cy (s.a.ls q) n).length<=4194304:=by have h1:=LH (s.a.ls q) n;have h2:=E.inv.len q hq;have h3:=(OP E.gM E.g16).2 q hq;omega
 have ai:=Z hlen;have M0:=Z gP;have HN:=Z hn;have H4:=Z h4;have jK:=Z B4;have N1:=Z n1;have N2:=Z n2;have N3:=Z n3;have HE:=Z E;have HJ:=Z hj;have F6:=Z f6;have F7:=Z f7;have dE:=Z h.sep.dO;have zH:=Z kw;have Qf:=Z (λk (hk:k<(cy (s.a.ls q) n).length)=>LG hn hk);have HTN:=Z (λk (hk:k<(cy (s.a.ls q) n).length)=>LM gP hn hk);clear h h4 n1 n2 n3 n4 B4 hn hj E gP hNX f6 f7 hlen kw;have HA:=Z (show uJ (aC p c) (s,r) n q=(gB (aC p c) s q n,r.note (.out q (s.a.val n) (cy (s.a.ls q) n)))from rfl);generalize hA:cy (s.a.ls q) n=A at*;have HAA:=Z hA;clear hA;generalize hy:s.a.val n=y at*;have HY:=Z hy;clear hy;unfold gW lO at*;unfold bL;unfold OR at GU HTN;go_enter func219,ntmps219;go_wp2_with fail;refine GU.o.mono ?_;rintro e w' ⟨rfl,rfl⟩;generalize(((w.alloc (QP #[UI C.mb] 35)).alloc (QP #[Y q] 3)).alloc (QP #[.int .u64 0,Y 0,Y 0,Y 0,Y 0] 118)).alloc (QP #[Pl] 24)=w4 at*;generalize gu:w.heap.size=bx at*;go_wp2_with fail
 go_loopg [8,9] A.length (λf s8 s9 wr=>∃k:Nat,s8=Y (LK A k)/\s9= .bool (decide (k<A.length))/\k+f=A.length/\Hid (Cl w4 wr (bx+1+1+1) A k))
 case atStart=>exact⟨0,rfl,rfl,O,HG⟩
 case round=>
  clear HG GU m9 e1;obtain⟨k,rfl,rfl,hk,HR⟩:=hrel;obtain⟨av,hg⟩:=HR.o;have h7:bx+1+1+1∉C.l/\bx+1+1+1∉U.l/\bx+1+1+1∉(bx+1)::bx::RO:=⟨F7.o.1,F7.o.2.1,λhc=>by
   simp only[fh]at hc;rcases hc with hc|hc|hc
   ·omega
   ·omega
   ·exact F7.o.2.2 hc⟩
  have H7:=Z h7;have f_:∀wx,aA [bx+1+1+1] w4 wx->cS wx C U ((bx+1)::bx::RO) K p c t used hv jv s r:=λwx f=>H4.o.BZ f h7;have zU:=Z f_;by_cases be:k<A.length
  ·have X:decide (k<A.length)=true:=by simpa using be
   have e8:=SO be;have d7:=hg.dS.c1;have Ge:=Z hg;have Js:=Z (HTN.o k be);have HSK:=Z (Qf.o k be);have hlen:=ai.o;have C3:=Z (show k+1<=maxLen by unfold maxLen;omega);have C4:=Z (show(k+1)*8<=140737488355328 by omega);have a0y:bx+1+1+1<wr.heap.size:=hg.dS.lt;have l4:bx+1+1+1<w4.heap.size:=by rw[zH.o];omega
   have n7:C.mb≠bx+1+1+1:=λe=>h7.1 (by simp[Co.l,<-e]);have HN7:=Z n7;clear hg h7 f_ HR;generalize hm:A.getD k 0=m at*;have HM:=Z hm;have sU:=Z (show([Y m]:List UL)=(List.range (1*1)).map λi=> Y (A.getD (k*1+i) 0:Nat)by
    show[_]=[Y ((A.getD (k*1+0) 0:Nat))];rw[Nat.mul_one,Nat.add_zero,hm])
   have EJ:=Z (show bx∉[bx+1+1+1]by simp;omega);clear hm;rw[e8];go_wp2_with ((at_builtin;refine wpList_append_lies _ rfl (.tmp 31) (.tmp 33) 24 rfl 0 3 i0 (Y 0) 1 8 underlying24 hi jn nQ qm rfl bd av _ _ rfl (Ge.o.row.alloc _) (G wr.heap.size 0) 1 1 [Y m] rfl rfl (gR.iF _ [Y m] _ _ ay) (by simp[Value.oneCell']) bd C3.o C4.o ay _ rfl ?_;intro g cap w5 gp gw si AB;obtain⟨b5,f5⟩:=Ge.o.mid l4 ((aB _ _).alloc (aL _) _) gw;have We:=Z (Ge.o.step (m:=1) l4 ((aB _ _).alloc (aL _) _) gw gp si sU.o);have d5:=b5.cell 0;have z5:=b5.frozen;have h6:=zU.o _ We.o.f;have c9:=h6.mx.reads.1;have c1:=(N1.o.aG We.o.f EJ.o).cell 0;have HNT:=Z (eB.GR h6.m.ar hq HSK.o (cK 1));clear b5 f5 gp gw si AB h6));have hnt:=HNT.o;rw[Js.o]at hnt;refine hnt.mono ?_;rintro e w' ⟨rfl,rfl⟩;have lM:Cl w4 (w5.setCell (G (bx+1+1+1) 0) (to (H (G g 0)) (k+1) cap)) (bx+1+1+1) A (k+1):=⟨_,We.o⟩;have Lk:=Z lM;clear lM hnt HNT We c9 c1 d5 z5;go_wp2_with fail
   go_roundg (gk-1)
   case measure=>omega
   case rel=>exact⟨k+1,rfl,rfl,O,Lk⟩
  ·have X:decide (k<A.length)=false:=by simpa using be
   have Dh:k=A.length:=O;have VZ:=Z Dh;have h5:=f_ wr hg.f;have H5:=Z h5;have F5:aA ((bx+1+1+1)::(C.l++U.l)) w4 wr:=hg.f.mono ay;have Og:=Z F5;have m9:UJ wr (G C.mb 9)=H (UI C.ab):=h5.mx.reads.1;have tS:=HE.o.g16;have HU:=Z (eB.Ee h5.m.ar HE.o.AY O hq HN.o);have hbs:bx∉(bx+1+1+1)::(C.l++U.l)/\bx+1∉(bx+1+1+1)::(C.l++U.l)/\bx+1+1∉(bx+1+1+1)::(C.l++U.l):=by have i1:=h5.sep.cr (b:=bx) ay;have i2:=h5.sep.ur (b:=bx) ay;have i3:=h5.sep.cr (b:=bx+1) ay;have i4:=h5.sep.ur (b:=bx+1) ay;have i5:=F6.o.1;have i6:=F6.o.2.1;simp only[fh,dV,not_or];exact⟨⟨O,i1,i2⟩,⟨O,i3,i4⟩,⟨O,i5,i6⟩⟩
   have OS:=Z hbs;have e1:UJ wr (G bx 0)=H (UI C.mb):=(N1.o.aG F5 hbs.1).cell 0;have Ge:=Z hg;clear hg h7 f_ HR h5 F5 hbs tS Dh HTN Qf;rw[HY.o]at HU;unfold bL at HU;go_wp2_with fail;refine HU.o.mono ?_;rintro e w2 ⟨rfl,f2,a2⟩;have M6:=H5.o.mx.BX a2 f2 (λb X=> .inl X);have F3:aA (bp C.ab C.V C.L) wr ((w2.alloc (QP #[.int .u64 y.key,Y (y.tg 0),Y (y.tg 1),Y (y.tg 2),Y (y.tg 3)] 118)).drewN 1):=(f2.alloc _).drewN 1;have B3:Below w2.heap.size w2 ((w2.alloc (QP #[.int .u64 y.key,Y (y.tg 0),Y (y.tg 1),Y (y.tg 2),Y (y.tg 3)] 118)).drewN 1):=((aB _ w2).alloc (aL _) _).trans (az _ _ 1);have A3:=a2.later B3;have X3:=M6.2.2.2.later B3;rw[<-qJ (a:=s.a) hq HN.o]at X3;have Wg:s.f y.key=H n:=(HE.o.inv.idx _ _).2 ⟨q,hq,HN.o,by rw[HY.o]⟩;have HD:=Z (Ix.ss X3 Wg);have hy:=aF.new w2 118 #[.int .u64 y.key,Y (y.tg 0),Y (y.tg 1),Y (y.tg 2),Y (y.tg 3)];have HY3:=Z (hy.drewN 1);have i10:(w2.alloc (QP #[.int .u64 y.key,Y (y.tg 0),Y (y.tg 1),Y (y.tg 2),Y (y.tg 3)] 118)).cell? (G C.mb 10)=H (UI C.xb):=(H5.o.mx.yj (f2.alloc _)).2.1;have y0:=hy.c1;have FF:aA C.l wr ((w2.alloc (QP #[.int .u64 y.key,Y (y.tg 0),Y (y.tg 1),Y (y.tg 2),Y (y.tg 3)] 118)).drewN 1):=F3.mono (by intro x hx;simp[Co.l,hx]);have e3:(w2.alloc (QP #[.int .u64 y.key,Y (y.tg 0),Y (y.tg 1),Y (y.tg 2),Y (y.tg 3)] 118)).cell? (G bx 0)=H (UI C.mb):=(N1.o.aG (Og.o.trans (FF.mono (λx hx=>by simp[hx]))) OS.o.1).cell 0;have hyl:wr.heap.size<=w2.heap.size:=f2.size;have Dl:=Z F3;have Eo:=Z A3;have HFF:=Z FF;have HYL:=Z hyl;clear f2 a2 M6 F3 B3 A3 X3 Wg hy FF m9 e1 HU hyl;go_wp2_with fail;generalize w2.alloc (QP #[.int .u64 y.key,Y (y.tg 0),Y (y.tg 1),Y (y.tg 2),Y (y.tg 3)] 118)=w3 at*;generalize w2.heap.size=yb at*
   go_still_tail 6,bh
   change wpList _ _ _ _ _ (w3.drewN 1);generalize w3.drewN 1=wd at*;go_wp2_with fail;refine HD.o.mono ?_;rintro e we ⟨rfl,f5,x5⟩;obtain⟨VV,G3⟩:=H5.o.mx.both Dl.o Eo.o (λb X=> .inl X) f5 x5;have h8:=H5.o.ou VV G3;have F8:aA C.l wr we:=HFF.o.trans (f5.mono (by intro x hx;simp at hx;rcases hx with rfl|rfl<;>simp[Co.l]));have hyb:yb∉C.l/\yb∉U.l:=⟨(H5.o.fresh HYL.o).1,(H5.o.fresh HYL.o).2.1⟩;have hy8:=HY3.o.aG f5 (λhc=>hyb.1 (by simp at hc;rcases hc with rfl|rfl<;>simp[Co.l]));obtain⟨-,-,g12,g0,gf⟩:=G3.reads;obtain⟨gb,ov,lG,yk,zI⟩:=G3.bw hq;have p1:UJ we (G bx 0)=H (UI C.mb):=(N1.o.aG (Og.o.trans (F8.mono (λx hx=>by simp[hx]))) OS.o.1).cell 0;have p2:UJ we (G (bx+1) 0)=H (Y q):=(N2.o.aG (Og.o.trans (F8.mono (λx hx=>by simp[hx]))) OS.o.2.1).cell 0;rw[lG]at g0;have H8:=Z h8;have HF8:=Z F8;have HY8:=Z hy8;have VX:=Z hyb;have HM8:=Z G3;clear VV G3 h8 F8 hyb hy8 lG yk f5 x5 i10 y0 e3 HD;dsimp only at g12;generalize hgq:p.bw.getD q false=gq at*;have HGQ:=Z hgq;clear hgq;cases gq
   ·
    go_wp2;go_quiet (fail);have q12:(we.drewN nq).cell? (G C.mb 12)=H (Y s.total):=g12;have qf:∀o,(we.drewN nq).frozen? (G C.mb o)=false:=gf;have q1:(we.drewN nq).cell? (G bx 0)=H (UI C.mb):=p1;have H9:=Z (H8.o.drewN nq);have HY9:=Z (HY8.o.drewN nq);have HF9:=Z (HF8.o.drewN nq);clear g12 gf p1 p2 g0 zI;generalize we.drewN nq=wf at*;obtain⟨k1,k2⟩:=H9.o.mx.total (s.total-1);have H10:=Z (H9.o.ou k1 k2);have yH:=Z (HY9.o.aG k1.f VX.o.1);have EK:=Z (HF9.o.trans k1.f);have n1:C.mb≠bx:=λe=>OS.o.1 (by simp[Co.l,<-e]);have r1:(wf.setCell (G C.mb 12) (Y (s.total-1))).cell? (G bx 0)=H (UI C.mb):=(N1.o.aG (Og.o.trans (EK.o.mono (λx hx=>by simp[hx]))) OS.o.1).cell 0;clear k1 k2;have Ye:IntKind.i64.wrap (s.total-1)=s.total-1:=bJ _ ⟨by have:=HE.o.total;omega,by have:=HE.o.total;omega⟩;go_wp2_with fail;generalize wf.setCell (G C.mb 12) (Y (s.total-1))=wg at*;have FX:=Og.o.trans (EK.o.mono (λx hx=>by simp[hx]));have z1:=N1.o.aG FX OS.o.1;have z2:=N2.o.aG FX OS.o.2.1;have z3:=N3.o.aG FX OS.o.2.2;have Yu:∀b,b∈vb av->b∉C.l/\b∉U.l:=λb X=>⟨(H4.o.fresh (Ge.o.own b (aU.1 X))).1,(H4.o.fresh (Ge.o.own b (aU.1 X))).2.1⟩;have z7:=Ge.o.dS.aG EK.o F7.o.1;have zr:=Ge.o.row.aG EK.o (λb X=>(Yu b (aU.2 X)).1);rw[VZ.o]at zr;have OT:=H10.o.Qk (l:=vb av++[yb,bx+1+1+1]) (λb X=>by
     simp only[dV,fh,List.not_mem_nil,or_false]at X;rcases X with X|rfl|rfl
     ·exact⟨(fE zr b (aU.1 X)).2,Yu b X⟩
     ·exact⟨yH.o.lt,VX.o⟩
     ·exact⟨z7.lt,F7.o.1,F7.o.2.1⟩)
    have hu:gK wg C.mb (vb av++[yb,bx+1+1+1]++(bx+1)::bx::RO) (.func (.func 273) #[] #[UI bx,UI (bx+1),UI yb,UI (bx+1+1+1)]) (.out q y A):=
     ⟨_,_,_,_,av,rfl,z1,z2,yH.o,z7,zr,ay,ay,ay,ay,λb X=>by simp[X]⟩
    have HC:=Z (yp OT hu HJ.o);have h6U:bx+1+1∉(vb av++[yb,bx+1+1+1]++(bx+1)::bx::RO):=by exact J1
    have H6U:=Z h6U;have Z3:=Z z3;have ZY:=Z yH.o;have HLG:bx+1+1<wg.heap.size:=z3.lt;have HFX:=Z FX;clear z1 z2 z3 z7 zr OT hu h6U Yu FX;go_wp2_with fail;refine HC.o.mono ?_;rintro e wh ⟨rfl,U7,jv7,OU,A7,f7,g7⟩;have z8:=Z3.o.aG f7 F6.o.2.1;have y8:=yH.o.aG f7 VX.o.2;obtain⟨a0,a1,a2,a3,a4,-⟩:=jY y8;obtain⟨b0,b1,b2,b3,b4,bf⟩:=jY z8;have AK:bx+1+1∉C.l/\bx+1+1∉U7.l/\bx+1+1∉(vb av++[yb,bx+1+1+1]++(bx+1)::bx::RO):=⟨F6.o.1,λhc=>by
     rcases g7 _ hc with hc|hc
     ·exact F6.o.2.1 hc
     ·omega,H6U.o⟩
    have F9:aA [bx+1+1] wh (dL wh (bx+1+1) 0 y):=fZ (aA.refl _ _) ay 0 y;have A9:=A7.BZ F9 AK;have r9:=eB.kD z8 y;have HA9:=Z A9;have Yv:=Z r9;have Ho:=Z OU;have HKP:=Z (show Kept RO w (dL wh (bx+1+1) 0 y)from(Kept.af (RO:=RO) (by rw[gu];exact jK.o) (by rw[gu];exact dE.o)).trans (Kept.dn (S:=(bx+1+1)::(bx+1+1+1)::(C.l++U.l)) (((HFX.o.mono (λx hx=>by simp at hx ⊢;exact .inr hx)).trans (f7.mono (λx hx=>by simp[hx]))).trans (F9.mono (λx hx=>by simp at hx;simp[hx]))) (λb X hc=>by
     simp only[fh,dV]at hc;rcases hc with rfl|rfl|hc|hc
     ·exact F6.o.2.2 X
     ·exact F7.o.2.2 X
     ·exact H4.o.sep.cr (by simp[X]) hc
     ·exact H4.o.sep.ur (by simp[X]) hc) (λb X=>H4.o.sep.dO b (by simp[X]))) (λb X=>X))
    clear HC A7 f7 g7 AK F9 A9 r9 OU z8 y8;go_wp2;change bodyPost _ _ _ _ _ (dL wh (bx+1+1) 0 y);generalize dL wh (bx+1+1) 0 y=wi at*;obtain⟨e0,e1,e2,e3,e4,_⟩:=jY Yv.o;have e:gB (aC p c) s q n=⟨takeN s.a q n,Vm.aR s.f y.key K7,s.vars,s.total-1⟩:=by unfold gB;rw[HY.o,show(aC p c).gh q=false from HGQ.o];rfl
    exact Ul
   ·
    go_wp2;go_quiet (fail);have q12:(we.drewN nq).cell? (G C.mb 12)=H (Y s.total):=g12;have qf:∀o,(we.drewN nq).frozen? (G C.mb o)=false:=gf;have q1:(we.drewN nq).cell? (G bx 0)=H (UI C.mb):=p1;have H9:=Z (H8.o.drewN nq);have HY9:=Z (HY8.o.drewN nq);have HF9:=Z (HF8.o.drewN nq);clear g12 gf p1 p2 g0 zI;generalize we.drewN nq=wf at*;have H10:=H9;have yH:=HY9;have EK:=HF9;have r1:=q1;go_wp2_with fail;generalize wf=wg at*;have FX:=Og.o.trans (EK.o.mono (λx hx=>by simp[hx]));have z1:=N1.o.aG FX OS.o.1;have z2:=N2.o.aG FX OS.o.2.1;have z3:=N3.o.aG FX OS.o.2.2;have Yu:∀b,b∈vb av->b∉C.l/\b∉U.l:=λb X=>⟨(H4.o.fresh (Ge.o.own b (aU.1 X))).1,(H4.o.fresh (Ge.o.own b (aU.1 X))).2.1⟩;have z7:=Ge.o.dS.aG EK.o F7.o.1;have zr:=Ge.o.row.aG EK.o (λb X=>(Yu b (aU.2 X)).1);rw[VZ.o]at zr;have OT:=H10.o.Qk (l:=vb av++[yb,bx+1+1+1]) (λb X=>by
     simp only[dV,fh,List.not_mem_nil,or_false]at X;rcases X with X|rfl|rfl
     ·exact⟨(fE zr b (aU.1 X)).2,Yu b X⟩
     ·exact⟨yH.o.lt,VX.o⟩
     ·exact⟨z7.lt,F7.o.1,F7.o.2.1⟩)
    have hu:gK wg C.mb (vb av++[yb,bx+1+1+1]++(bx+1)::bx::RO) (.func (.func 273) #[] #[UI bx,UI (bx+1),UI yb,UI (bx+1+1+1)]) (.out q y A):=
     ⟨_,_,_,_,av,rfl,z1,z2,yH.o,z7,zr,ay,ay,ay,ay,λb X=>by simp[X]⟩
    have HC:=Z (yp OT hu HJ.o);have h6U:bx+1+1∉(vb av++[yb,bx+1+1+1]++(bx+1)::bx::RO):=by exact J1
    have H6U:=Z h6U;have Z3:=Z z3;have ZY:=Z yH.o;have HLG:bx+1+1<wg.heap.size:=z3.lt;have HFX:=Z FX;clear z1 z2 z3 z7 zr OT hu h6U Yu FX;go_wp2_with fail;refine HC.o.mono ?_;rintro e wh ⟨rfl,U7,jv7,OU,A7,f7,g7⟩;have z8:=Z3.o.aG f7 F6.o.2.1;have y8:=yH.o.aG f7 VX.o.2;obtain⟨a0,a1,a2,a3,a4,-⟩:=jY y8;obtain⟨b0,b1,b2,b3,b4,bf⟩:=jY z8;have AK:bx+1+1∉C.l/\bx+1+1∉U7.l/\bx+1+1∉(vb av++[yb,bx+1+1+1]++(bx+1)::bx::RO):=⟨F6.o.1,λhc=>by
     rcases g7 _ hc with hc|hc
     ·exact F6.o.2.1 hc
     ·omega,H6U.o⟩
    have F9:aA [bx+1+1] wh (dL wh (bx+1+1) 0 y):=fZ (aA.refl _ _) ay 0 y;have A9:=A7.BZ F9 AK;have r9:=eB.kD z8 y;have HA9:=Z A9;have Yv:=Z r9;have Ho:=Z OU;have HKP:=Z (show Kept RO w (dL wh (bx+1+1) 0 y)from(Kept.af (RO:=RO) (by rw[gu];exact jK.o) (by rw[gu];exact dE.o)).trans (Kept.dn (S:=(bx+1+1)::(bx+1+1+1)::(C.l++U.l)) (((HFX.o.mono (λx hx=>by simp at hx ⊢;exact .inr hx)).trans (f7.mono (λx hx=>by simp[hx]))).trans (F9.mono (λx hx=>by simp at hx;simp[hx]))) (λb X hc=>by
     simp only[fh,dV]at hc;rcases hc with rfl|rfl|hc|hc
     ·exact F6.o.2.2 X
     ·exact F7.o.2.2 X
     ·exact H4.o.sep.cr (by simp[X]) hc
     ·exact H4.o.sep.ur (by simp[X]) hc) (λb X=>H4.o.sep.dO b (by simp[X]))) (λb X=>X))
    clear HC A7 f7 g7 AK F9 A9 r9 OU z8 y8;go_wp2;change bodyPost _ _ _ _ _ (dL wh (bx+1+1) 0 y);generalize dL wh (bx+1+1) 0 y=wi at*;obtain⟨e0,e1,e2,e3,e4,_⟩:=jY Yv.o;have e:gB (aC p c) s q n=⟨takeN s.a q n,Vm.aR s.f y.key K7,s.vars,s.total⟩:=by unfold gB;rw[HY.o,show(aC p c).gh q=true from HGQ.o];rfl
    exact Ul
def OV(h:cS w C U RO K p c t used hv jv s r)(E:iT K p c s){q d:Nat}(hq:q<p.bw.length)(he:d<=1)(x:eU)(hx:s.f x.key=K7)(hj:r.bz.length<1000000):
 Calls prog 218 #[UI C.mb,Y q,Y d,bL x] w (cF w C.mb U.rb RO K p c t used (.bool (iZ (aC p c) (s,r) q d x).2) (iZ (aC p c) (s,r) q d x).1):=by
 have xN:=E.gM.q1 q hq;have JG:=E.gM.s1;have F_:(aC p c).cq q=(c.aK.getD q 0).toNat:=rfl;have kw:(aC p c).sz=c.size.toNat:=rfl;have M7:(aC p c).gh q=p.bw.getD q false:=rfl;have hlen:=E.inv.len q hq;unfold iZ;dsimp only;by_cases h1:((s.a.ls q).length:Int)=c.aK.getD q 0
 ·rw[bk (.inl (by rw[F_];omega))];exact LI h E hq he x h1
 ·have be:(s.a.ls q).length<(aC p c).cq q:=O;by_cases h2:p.bw.getD q false=true
  ·rw[aw (by
    rintro(h3|h3)
    ·omega
    ·rw[M7,h2]at h3;simp at h3)]
   exact SK h E hq he x h1 h2 hx (E.room hq be (.inl (by rw[M7];exact h2))) hj
  ·have h2':p.bw.getD q false=false:=by simpa using h2
   by_cases h3:s.total=c.size
   ·rw[bk (.inr ⟨by rw[M7];exact h2',by rw[kw];omega⟩)];exact LJ h E hq he x h1 h2' h3
   ·have h4:s.total<(aC p c).sz:=by have:=E.inv.Jf;have:=E.inv.Rf;omega
    rw[aw (by
     rintro(h5|h5)
     ·omega
     ·omega)]
    exact SN h E hq he x h1 h2' h3 hx (E.room hq be (.inr h4)) hj
def g_(w:UK)(C:Co)(q d:Nat):UK:=
 ((w.alloc (QP #[UI C.mb] 35)).alloc (QP #[Y q] 3)).alloc (QP #[Y d] 3)
def cS.Wh(h:cS w C U RO K p c t used hv jv s r)(q d:Nat):cS (g_ w C q d) C U ((w.heap.size+1+1)::(w.heap.size+1)::w.heap.size::RO) K p c t used hv jv s r/\
 aF (g_ w C q d) w.heap.size 35 #[UI C.mb]/\aF (g_ w C q d) (w.heap.size+1) 3 #[Y q]/\aF (g_ w C q d) (w.heap.size+1+1) 3 #[Y d]/\
 Below w.heap.size w (g_ w C q d):=by
 unfold g_;have h1:=h.box (QP #[UI C.mb] 35);have h2:=h1.box (QP #[Y q] 3);have h3:=h2.box (QP #[Y d] 3);have s1:(w.alloc (QP #[UI C.mb] 35)).heap.size=w.heap.size+1:=by simp
 have s2:((w.alloc (QP #[UI C.mb] 35)).alloc (QP #[Y q] 3)).heap.size=w.heap.size+1+1:=by simp
 have n1:=aF.new w 35 #[UI C.mb];have n2:=aF.new (w.alloc (QP #[UI C.mb] 35)) 3 #[Y q];have n3:=aF.new ((w.alloc (QP #[UI C.mb] 35)).alloc (QP #[Y q] 3)) 3 #[Y d];rw[s1]at h2 h3 n2;rw[s2]at h3 n3;exact⟨h3,(n1.alloc _).alloc _,n2.alloc _,n3,(((aB _ w).alloc (aL _) _).alloc ay _).alloc jz _⟩
def lD(h:cS w C U RO K p c t used hv jv s r){q d:Nat}(hq:q<p.bw.length)(bm:s.a.ls q=[]):
 Calls prog 220 #[UI C.mb,Y q,Y d] w (cF w C.mb U.rb RO K p c t used (.bool false) (s,r.gd 2)):=by
 obtain⟨h4,n1,n2,n3,B4⟩:=h.Wh q d;have tK:=Z (λk=>eB.xP (h4.m.ar.drewN k) hq);rw[bm]at tK;have m9:(g_ w C q d).cell? (G C.mb 9)=H (UI C.ab):=h4.mx.reads.1;have e1:=n1.c1;have e2:=n2.c1;have dE:=Z h.sep.dO;have jK:=Z B4;have H4:=Z h4;clear h h4 n1 n2 n3 B4 bm;unfold g_ at*;go_enter func220,ntmps220;go_wp2_with fail;generalize((w.alloc (QP #[UI C.mb] 35)).alloc (QP #[Y q] 3)).alloc (QP #[Y d] 3)=w4 at*;generalize gu:w.heap.size=bx at*;go_quiet ((go_at_call 204;exact Ci (tK.o _)));have HK:=Z ((Kept.af (RO:=RO) (by rw[gu];exact jK.o) (by rw[gu];exact dE.o)).trans (Kept.af (az w4.heap.size w4 nq) (λb X=>H4.o.sep.dO b (by simp[X]))) (λb X=>X));have H5:=Z (H4.o.drewN nq);have sS:(w4.drewN nq).cell? (G C.mb 60)=H (UI U.rb):=H5.o.m.bg.cell 60;have r6:(w4.drewN nq).cell? (G U.rb 6)=H (Y r.bY):=H5.o.r.dS.cell 6;have rf:∀o,(w4.drewN nq).frozen? (G U.rb o)=false:=H5.o.r.dS.frozen;have i1:(w4.drewN nq).cell? (G bx 0)=H (UI C.mb):=e1;have nI:=Z (Kept.dn (RO:=RO) (S:=U.l) ((aA.refl _ (w4.drewN nq)).setCell (p:=(G U.rb 6)) (by simp[Ru.l]) (Y 2)) (λb X=>H5.o.sep.ur (by simp[X])) (λb X=>H5.o.sep.dO b (by simp[X])));clear e1 e2 m9;generalize w4.drewN nq=w5 at*;go_wp2;go_ret;exact⟨rfl,_,λb X=>by simp[X],(H5.o.jW 6 (Y 2) (r':=r.gd 2) rfl rfl rfl rfl rfl rfl H5.o.r.gP).i_,HK.o.trans nI.o (λb X=>X)⟩
def qR(h:cS w C U RO K p c t used hv jv s r)(E:iT K p c s){q d:Nat}(hq:q<p.bw.length)(he:d<=1)(bm:s.a.ls q≠[])(hj:r.bz.length<1000000):
 Calls prog 220 #[UI C.mb,Y q,Y d] w (cF w C.mb U.rb RO K p c t used (.bool true) (kB (aC p c) s q d,{r.note (.put q d (s.a.val (cN s.a q d)))with hand:=H (s.a.val (cN s.a q d))})):=by
 obtain⟨h4,n1,n2,n3,B4⟩:=h.Wh q d;have tK:=Z (λk=>eB.xP (h4.m.ar.drewN k) hq);have Cm:0<(s.a.ls q).length:=List.length_pos_iff.2 bm;have hz:(((s.a.ls q).length:Int)==0)=false:=by simp;omega
 have m9:(g_ w C q d).cell? (G C.mb 9)=H (UI C.ab):=h4.mx.reads.1;have e1:=n1.c1;have e2:=n2.c1;have e3:=n3.c1;have tS:=E.g16;have Yw:=Z (λk=>VW (h4.mx.drewN k) E.inv E.AY O hq he bm E.total);have dE:=Z h.sep.dO;have jK:=Z B4;have H4:=Z h4;have N1:=Z n1;have N2:=Z n2;have N3:=Z n3;have HJ:=Z hj;clear h h4 n1 n2 n3 B4 bm hj tS E Cm;unfold g_ at*;generalize s.a.val (cN s.a q d)=y at*;unfold bL at Yw;generalize(s.a.ls q).length=ln at*;go_enter func220,ntmps220;go_wp2_with fail;generalize((w.alloc (QP #[UI C.mb] 35)).alloc (QP #[Y q] 3)).alloc (QP #[Y d] 3)=w4 at*;generalize gu:w.heap.size=bx at*;go_quiet ((go_at_call 204;exact Ci (tK.o _)));have HK:=Z ((Kept.af (RO:=RO) (by rw[gu];exact jK.o) (by rw[gu];exact dE.o)).trans (Kept.af (az w4.heap.size w4 nq) (λb X=>H4.o.sep.dO b (by simp[X]))) (λb X=>X));have H5:=Z (H4.o.drewN nq);have HC5:=Z (Yw.o nq);have i1:(w4.drewN nq).cell? (G bx 0)=H (UI C.mb):=e1;have i2:(w4.drewN nq).cell? (G (bx+1) 0)=H (Y q):=e2;have i3:(w4.drewN nq).cell? (G (bx+1+1) 0)=H (Y d):=e3;have M1:=Z (N1.o.drewN nq);have M2:=Z (N2.o.drewN nq);have M3:=Z (N3.o.drewN nq);clear e1 e2 e3 m9 Yw tK hz N1 N2 N3;generalize w4.drewN nq=w5 at*;go_wp2_with fail;refine HC5.o.mono ?_;rintro e w6 ⟨rfl,C6,k1,k2⟩;have h6:=H5.o.ou k1 k2;have x1:bx∈(bx+1+1)::(bx+1)::bx::RO:=by simp
 have x2:bx+1∈(bx+1+1)::(bx+1)::bx::RO:=by simp
 have x3:bx+1+1∈(bx+1+1)::(bx+1)::bx::RO:=by simp
 have p1:=(M1.o.aG k1.f (H5.o.sep.cr x1)).alloc (QP (aP y) 118);have p2:=(M2.o.aG k1.f (H5.o.sep.cr x2)).alloc (QP (aP y) 118);have p3:=(M3.o.aG k1.f (H5.o.sep.cr x3)).alloc (QP (aP y) 118);have oR:=k1.mb;have h7:=h6.box (QP (aP y) 118);have py:=aF.new w6 118 (aP y);have hu:gK (w6.alloc (QP (aP y) 118)) C6.mb (w6.heap.size::(bx+1+1)::(bx+1)::bx::RO) (.func (.func 275) #[] #[UI bx,UI (bx+1),UI (bx+1+1),UI w6.heap.size]) (.put q d y):=by rw[oR];exact⟨_,_,_,_,rfl,p1,p2,p3,py,ay,ay,ay,ay⟩
 have hc:=yp h7 hu HJ.o;rw[oR]at hc;have HC:=Z hc;have VZ:=Z (HK.o.trans (RO':=RO) ((H5.o.kept k1).less (λb X=>by simp[X])) (λb X=>X));have SP:=Z (Kept.af (RO:=RO) ((aB w6.heap.size w6).alloc (aL _) (QP (aP y) 118)) (λb X=>h6.sep.dO b (by simp[X])));have H7:=Z h7;have P1:=Z p1;have PY:=Z py;have wI:=Z oR;have j1:=p1.c1;clear k1 k2 h6 hu p1 p2 p3 x1 x2 x3 HC5 oR hc i1 i2 i3 h7 py M1 M2 M3;unfold aP at*;go_wp2_with fail;generalize w6.alloc (QP #[.int .u64 y.key,Y (y.tg 0),Y (y.tg 1),Y (y.tg 2),Y (y.tg 3)] 118)=w7 at*;generalize w6.heap.size=yb at*;refine HC.o.mono ?_;rintro e w8 ⟨rfl,U8,jv8,LN,A8,f8,g8⟩;have d1:UJ w8 (G bx 0)=H (UI C.mb):=(P1.o.aG f8 (H7.o.sep.ur ay)).cell 0;have d60:UJ w8 (G C.mb 60)=H (UI U.rb):=by rw[<-wI.o,<-LN];exact A8.m.bg.cell 60
 have d4:UJ w8 (G U.rb 4)=H hv:=by rw[<-LN];exact A8.r.dS.cell 4
 have a0z:∀o,w8.frozen? (G U.rb o)=false:=by rw[<-LN];exact A8.r.dS.frozen
 obtain⟨y0,y1,y2,y3,y4,-⟩:=jY (PY.o.aG f8 (H7.o.sep.ur ay));have l1:bx<w8.heap.size:=A8.sep.dO bx ay;have l2:C.mb<w8.heap.size:=by rw[<-wI.o];exact A8.m.bg.lt
 have l3:yb<w8.heap.size:=A8.sep.dO yb ay;have l4:U.rb<w8.heap.size:=by rw[<-LN];exact A8.r.dS.lt
 have Ho:=Z LN;have HA8:=Z A8;have HK8:=Z (Kept.dn (RO:=RO) f8 (λb X=>H7.o.sep.ur (by simp[X])) (λb X=>H7.o.sep.dO b (by simp[X])));clear HC A8 f8 g8 LN j1;go_wp2;go_region;go_wp2;go_ret;have Jd:=aF.new w8 118 (aP y);have A9:=(HA8.o.box (QP (aP y) 118)).jW 4 (to (H (G w8.heap.size 0)) 1 1) (r':={r.note (.put q d y)with hand:=H y}) (hv':=to (H (G w8.heap.size 0)) 1 1) rfl rfl rfl rfl rfl rfl ⟨_,_,rfl,Jd,ay⟩;rw[Ho.o]at A9;have HKA:Kept RO w8 ((w8.alloc (QP (aP y) 118)).setCell (G U.rb 4) (to (H (G w8.heap.size 0)) 1 1)):=Kept.dn (S:=[U.rb]) (((aA.refl _ w8).alloc _).setCell ay _) (λb X hc=>by
  simp at hc;subst hc;exact HA8.o.sep.ur (b:=U.rb) (by simp[X]) (by rw[<-Ho.o];simp[Ru.l])) (λb X=>HA8.o.sep.dO b (by simp[X]))
 rw[World.setCell_alloc_past _ _ _ _ l4]at A9 HKA;refine⟨rfl,_,λb X=>?_,(A9.drewN 1).tJ wI.o Ho.o,(((VZ.o.trans SP.o (λb X=>X)).trans HK8.o (λb X=>X)).trans HKA (λb X=>X)).trans (Kept.af (RO:=RO) (az _ _ 1) (λb X=>A9.sep.dO b (by simp[X]))) (λb X=>X)⟩;simp[X]
def OW:(prog.info? 46).map (λi=>(i.zero,i.size,i.bytes))=H (H (.int .u64 0),1,8):=by kernel_rfl
def agN{α:Type}(x d:α)(l:List α):(∀i,i<l.length->(l++[x]).getD i d=l.getD i d)/\(l++[x]).getD l.length d=x:=by
 constructor
 ·intro i hi;simp[List.getD,DV,hi]
 ·simp[List.getD]
def nK{p:Prop}(h:p:=by
 intro wz fj
 (try dsimp only at fj)
 exact qj):p:=h
def ZX{p:Prop}(h:p:=by
 refine Mk.pt ?_;refine fk (rs:=[22]) bh ay ?_;refine bZ rfl (λK hK=>?_) cz;refine AG _ rfl (.tmp 13) (.tmp 24) 41 rfl 0 46 i0 (.int .u64 0) 1 8 underlying41 hi jn nQ qm rfl bd U.mV _ _ (by simp[Act.eval,Act.put]) (HD.o.r.mV.alloc _) (G w.heap.size 0) 1 1 [.int .u64 key] (by simp[Act.eval,Act.put]) rfl (gR.iF _ [.int .u64 key] _ _ ay) (by simp[Value.oneCell']) bd C3.o C4.o ay _ rfl ?_;intro g cap w4 gp gw si AB;obtain⟨zG,xZ⟩:=Oy (w:=w) (n:=r.told.length+1) (cap:=cap) ((az w.heap.size w 1).alloc (aL _) _) gw si rfl;obtain⟨Wi,c5,f5,Gb⟩:=HSV.o g cap w4 zG;have HO:=Z gp;have HF:=Z zG;have HS:=Z xZ;clear gp gw si AB zG xZ;clear au;refine hK.out _ _ Wi (λau=>?_);clear hK K;refine Mk.pt ?_;refine pP (i:=23) (v:=?_) rfl bh bh bh (λ_ _ _ h=>h) (Or.inl ⟨by rfl,?_⟩) cY ?_;rotate_left
 ·exact nK
 refine Mk.pt ?_;refine pP (i:=24) (v:=?_) rfl bh bh bh (λ_ _ _ h=>h) (Or.inl ⟨by rfl,?_⟩) cY ?_;rotate_left
 ·exact nK
 refine Mk.pt ?_;refine fk (rs:=[25]) bh ay ?_;refine bZ rfl (λK hK=>?_) cz;refine fH ?_;go_simp;refine hK.out _ _ Gb (λau=>?_);clear hK K;refine Mk.pt ?_;refine nW bh ?_ _;clear au Wi Gb;go_wp2;go_ret;obtain⟨q1,q2⟩:=agN key 0 r.told;have bo:=oQ (f':=λi=> .int .u64 ((r.told++[key]).getD i 0:Nat)) HO.o (λi hi=>by show Value.int _ _=Value.int _ _;rw[q1 i hi]) (by show Value.int _ _=Value.int _ _;rw[q2]);have A:=a0f.o.mV HF.o (l:=r.told++[key]) (by rw[qS];exact bo) HS.o;exact⟨rfl,RO,λb X=>X,A.i_,Kept.dn (S:=U.l) ((HF.o.mono (by intro k hk;simp[Ru.l,hk])).setCell (by simp[Ru.l]) _) (λb X=>a0f.o.sep.ur X) a0f.o.sep.dO⟩):p:=h
def Cn(h:cS w C U RO K p c t used hv jv s r){y:eU}(hh:r.hand=H y)(hl:r.told.length<1000000):
 Calls prog 222 #[UI C.mb] w (cF w C.mb U.rb RO K p c t used (.bool true) (s,{r with told:=r.told++[y.key]})):=by
 obtain⟨i0,hi,jn,nQ,qm⟩:=y_ OW;have jI:=h.r.gP;rw[hh]at jI;obtain⟨X,xN,hhv,M_,Re⟩:=jI;have sS:=uL h.m.bg;have r4:UJ w (G U.rb 4)=H hv:=h.r.dS.cell 4;rw[hhv]at r4;have r5:UJ w (G U.rb 5)=H U.mV:=h.r.dS.cell 5;have rf:∀o,w.frozen? (G U.rb o)=false:=h.r.dS.frozen;have k0:=M_.c1;have lm:=h.m.bg.lt;have lr:=h.r.dS.lt;have lh:=M_.lt;have adN:X≠U.rb:=λe=>h.sep.ur Re (by simp[e,Ru.l]);have nm:C.mb≠U.rb:=λe=>h.sep.cu (b:=C.mb) (by simp[Co.l]) (by rw[e];simp[Ru.l]);have HD:=Z (h.drewN 1);have C3:=Z (show r.told.length+1<=maxLen by unfold maxLen;omega);have C4:=Z (show(r.told.length+1)*8<=140737488355328 by omega);have HBK:=Z M_;have HBR:=Z Re;have a0f:=Z h;clear h hhv hh M_ Re;generalize y.key=key at*;have hSv:∀(g cap:Nat) (w4:UK),aA (vb U.mV) w w4->(UJ w4 (G C.mb 60)=H (UI U.rb)/\UJ w4 (G U.rb 4)=H (to (H (G X 0)) 1 xN)/\UJ w4 (G X 0)=H (.int .u64 key))/\UJ w4 (G U.rb 5)=H U.mV/\(∀o,w4.frozen? (G U.rb o)=false)/\
  ((w4.setCell (G U.rb 5) (to (H (G g 0)) (r.told.length+1) cap)).cell? (G C.mb 60)=H (UI U.rb)/\(w4.setCell (G U.rb 5) (to (H (G g 0)) (r.told.length+1) cap)).cell? (G U.rb 4)=H (to (H (G X 0)) 1 xN)/\(w4.setCell (G U.rb 5) (to (H (G g 0)) (r.told.length+1) cap)).cell? (G X 0)=H (.int .u64 key)):=by
  intro g cap w4 f;obtain⟨c5,cf,c60⟩:=a0f.o.Lo f;have b4:=a0f.o.r.dS.aG f a0f.o.sep.u.t;have c4:UJ w4 (G U.rb 4)=UJ w (G U.rb 4):=(b4.cell 4).trans (a0f.o.r.dS.cell 4).symm;have ch:UJ w4 (G X 0)=UJ w (G X 0):=((HBK.o.aG f (λhc=>a0f.o.sep.ur HBR.o (by simp[Ru.l,hc]))).cell 0).trans (HBK.o.cell 0).symm;refine⟨⟨c60,c4.trans r4,ch.trans k0⟩,c5,cf,?_,?_,?_⟩
  ·rw[gD nm];exact c60
  ·rw[World.cell?_setCell_other _ _ _ _ (by intro e;have:=bu Addr.off e;simp at this)];exact c4.trans r4
  ·rw[gD adN];exact ch.trans k0
 have HSV:=Z hSv;clear hSv;go_enter func222,ntmps222;go_wp2_with fail;refine wp_region_held_drew (S:=(λwx=>UJ wx (G C.mb 60)=H (UI U.rb)/\UJ wx (G U.rb 4)=H (to (H (G X 0)) 1 xN)/\UJ wx (G X 0)=H (.int .u64 key))) bh ⟨sS,r4,k0⟩ (λau=>?_);refine pP (i:=0) (v:=?_) rfl bh bh bh (λ_ _ _ h=>h) (Or.inl ⟨by rfl,?_⟩) cY ?_;rotate_left
 ·exact nK
 refine Mk.pt ?_;refine pP (i:=1) (v:=?_) rfl bh bh bh (λ_ _ _ h=>h) (Or.inl ⟨by rfl,?_⟩) cY ?_;rotate_left
 ·exact nK
 refine Mk.pt ?_;refine pP (i:=2) (v:=?_) rfl bh bh bh (λ_ _ _ h=>h) (Or.inl ⟨by rfl,?_⟩) cY ?_;rotate_left
 ·exact nK
 refine Mk.pt ?_;refine pP (i:=3) (v:=?_) rfl bh bh bh (λ_ _ _ h=>h) (Or.inl ⟨by rfl,?_⟩) cY ?_;rotate_left
 ·exact nK
 refine Mk.pt ?_;refine pP (i:=4) (v:=?_) rfl bh bh bh (λ_ _ _ h=>h) (Or.inl ⟨by rfl,?_⟩) cY ?_;rotate_left
 ·exact nK
 refine Mk.pt ?_;refine pP (i:=5) (v:=?_) rfl bh bh bh (λ_ _ _ h=>h) (Or.inl ⟨by rfl,?_⟩) cY ?_;rotate_left
 ·exact nK
 refine Mk.pt ?_;refine pP (i:=6) (v:=?_) rfl bh bh bh (λ_ _ _ h=>h) (Or.inl ⟨by rfl,?_⟩) cY ?_;rotate_left
 ·exact nK
 refine Mk.pt ?_;refine pP (i:=7) (v:=?_) rfl bh bh bh (λ_ _ _ h=>h) (Or.inl ⟨by rfl,?_⟩) cY ?_;rotate_left
 ·exact nK
 refine Mk.pt ?_;refine pP (i:=8) (v:=?_) rfl bh bh bh (λ_ _ _ h=>h) (Or.inl ⟨by rfl,?_⟩) cY ?_;rotate_left
 ·exact nK
 refine Mk.pt ?_;refine pP (i:=9) (v:=?_) rfl bh bh bh (λ_ _ _ h=>h) (Or.inl ⟨by rfl,?_⟩) cY ?_;rotate_left
 ·exact nK
 refine Mk.pt ?_;refine pP (i:=11) (v:=?_) rfl bh bh bh (λ_ _ _ h=>h) (Or.inl ⟨by rfl,?_⟩) cY ?_;rotate_left
 ·exact nK
 refine Mk.pt ?_;refine pP (i:=12) (v:=?_) rfl bh bh bh (λ_ _ _ h=>h) (Or.inl ⟨by rfl,?_⟩) cY ?_;rotate_left
 ·exact nK
 refine Mk.pt ?_;refine pP (i:=13) (v:=?_) rfl bh bh bh (λ_ _ _ h=>h) (Or.inl ⟨by rfl,?_⟩) cY ?_;rotate_left
 ·exact nK
 refine Mk.pt ?_;refine pP (i:=14) (v:=?_) rfl bh bh bh (λ_ _ _ h=>h) (Or.inl ⟨by rfl,?_⟩) cY ?_;rotate_left
 ·exact nK
 refine Mk.pt ?_;refine pP (i:=15) (v:=?_) rfl bh bh bh (λ_ _ _ h=>h) (Or.inl ⟨by rfl,?_⟩) cY ?_;rotate_left
 ·exact nK
 refine Mk.pt ?_;refine pP (i:=16) (v:=?_) rfl bh bh bh (λ_ _ _ h=>h) (Or.inl ⟨by rfl,?_⟩) cY ?_;rotate_left
 ·exact nK
 refine Mk.pt ?_;refine pP (i:=17) (v:=?_) rfl bh bh bh (λ_ _ _ h=>h) (Or.inl ⟨by rfl,?_⟩) cY ?_;rotate_left
 ·exact nK
 refine Mk.pt ?_;refine pP (i:=18) (v:=?_) rfl bh bh bh (λ_ _ _ h=>h) (Or.inl ⟨by rfl,?_⟩) cY ?_;rotate_left
 ·exact nK
 refine Mk.pt ?_;refine pP (i:=19) (v:=?_) rfl bh bh bh (λ_ _ _ h=>h) (Or.inl ⟨by rfl,?_⟩) cY ?_;rotate_left
 ·exact nK
 refine Mk.pt ?_;refine pP (i:=20) (v:=?_) rfl bh bh bh (λ_ _ _ h=>h) (Or.inl ⟨by rfl,?_⟩) cY ?_;rotate_left
 ·exact nK
 refine Mk.pt ?_;refine fk (rs:=[10,21]) bh ay ?_;refine bZ rfl (λK hK=>?_) (bZ rfl (λK hK=>?_) cz)
 ·refine fH ?_;go_simp;refine hK.out _ _ au (λau=>?_);clear hK K;refine Mk.pt ?_;refine fk (rs:=[21]) bh ay ?_;refine bZ rfl (λK hK=>?_) cz;refine fH ?_;go_simp;refine hK.out _ _ (by have:=au;exact⟨by go_simp,by go_simp,by go_simp⟩) (λau=>?_);clear hK K;exact ZX
 ·refine fH ?_;go_simp;refine hK.out _ _ (by have:=au;exact⟨by go_simp,by go_simp,by go_simp⟩) (λau=>?_);clear hK K;refine Mk.pt ?_;refine fk (rs:=[10]) bh ay ?_;refine bZ rfl (λK hK=>?_) cz;refine fH ?_;go_simp;refine hK.out _ _ au (λau=>?_);clear hK K;exact ZX
def tV(h:cS w C U RO K p c t used hv jv s r)(E:iT K p c s){q d:Nat}(hq:q<p.bw.length)(he:d<=1){x:eU}(hh:r.hand=H x)(hx:s.f x.key=K7)(hj:r.bz.length<1000000):
 Calls prog 221 #[UI C.mb,Y q,Y d] w (cF w C.mb U.rb RO K p c t used (.bool (dX (aC p c) (s,r) q d).2) (dX (aC p c) (s,r) q d).1):=by
 have jI:=h.r.gP;rw[hh]at jI;obtain⟨X,xN,hhv,M_,Re⟩:=jI;have sS:=uL h.m.bg;have r4:UJ w (G U.rb 4)=H hv:=h.r.dS.cell 4;rw[hhv]at r4;have rf:∀o,w.frozen? (G U.rb o)=false:=h.r.dS.frozen;have lm:=h.m.bg.lt;have lr:=h.r.dS.lt;have lh:=M_.lt;have Yy:=M_;unfold aP at Yy;obtain⟨e0,e1,e2,e3,e4,-⟩:=jY Yy;have hA:=(h.box (QP (aP x) 118)).jW 4 Pl (r':={r with hand:=K7}) (hv':=Pl) rfl rfl rfl rfl rfl rfl rfl;have hk:Kept RO w ((w.alloc (QP (aP x) 118)).setCell (G U.rb 4) Pl):=Kept.dn (S:=[U.rb]) (((aA.refl _ w).alloc _).setCell ay _) (λb X hc=>by
  simp at hc;subst hc;exact h.sep.ur X (by simp[Ru.l])) h.sep.dO
 have Lj:=((aF.new w 118 (aP x)).other (c:=U.rb) O 4 Pl);rw[World.setCell_alloc_past _ _ _ _ lr]at hA hk Lj;unfold aP at Lj;obtain⟨g0,g1,g2,g3,g4,-⟩:=jY Lj;have HL:=Z (OV hA E hq he x hx hj);have HK:=Z hk;have HE:=Z (show dX (aC p c) (s,r) q d=iZ (aC p c) (s,{r with hand:=K7}) q d x by unfold dX rP;rw[hh];rfl);clear h hA hk Lj M_ Yy hh hx hj hhv E Re;unfold aP at HL HK;unfold bL at HL;rw[HE.o];generalize iZ (aC p c) (s,{r with hand:=K7}) q d x=z at*;go_enter func221,ntmps221;go_wp2_with fail;refine HL.o.mono ?_;intro e w5 hd;have sT:=hd.pre (RO:=RO) HK.o (λb X=>by simp[X]);obtain⟨rfl,mI⟩:=sT;have Dv:=Z mI;clear hd mI HL;go_wp2;go_ret;exact⟨rfl,Dv.o⟩
def adJ(h:cS w C U RO K p c t used hv jv s r)(E:iT K p c s)(i:Ins){q d:Nat}(ha:i.a=q)(iL:i.b=d)(hq:q<p.bw.length)(he:d<=1)(hf:s.f r.key=K7)(hj:r.bz.length<1000000):
 Calls prog 121 #[UI C.mb,aV i] w (cF w C.mb U.rb RO K p c t used (.tuple #[]) (iZ (aC p c) (s,r) q d ⟨r.key,λ_=>0⟩).1):=by
 have h1:=h.box (QP (aI i) 40);have n1:=aF.new w 40 (aI i);have HN:=Z (oX h1 hf);have HB:=Z ((aB w.heap.size w).alloc (aL _) (QP (aI i) 40));have dE:=Z h.sep.dO;have HL:=Z (λm=>OV ((h1.drewN m).drewN 1) E hq he ⟨r.key,λ_=>0⟩ hf hj);have H1:=Z h1;obtain⟨c0,c1,c2,c3,c4⟩:=cD n1;rw[ha]at c1;rw[iL]at c2;have k60:(w.alloc (QP (aI i) 40)).cell? (G C.mb 60)=H (UI U.rb):=h1.m.bg.cell 60;have r0:=h1.r.dS.c1;clear h h1 n1 ha iL hf hj E;unfold bL at HL;generalize iZ (aC p c) (s,r) q d ⟨r.key,λ_=>0⟩=z at*;generalize r.key=key at*;unfold aV;unfold aI at*;go_enter func121,ntmps121;go_wp2_with fail;generalize w.alloc (QP #[Y i.op,Y i.a,Y i.b,Y i.c,Y i.d] 40)=w1 at*;generalize gu:w.heap.size=bx at*;refine HN.o.mono ?_;rintro e w' ⟨rfl,m,rfl⟩;have Ry:=Z (HL.o m);have HK:=Z (Kept.af (RO:=RO) (w:=w) (w':=(w1.drewN m).drewN 1) (by rw[gu];exact(HB.o.trans (az bx w1 m)).trans (az bx (w1.drewN m) 1)) (by rw[gu];exact dE.o));have d1:(w1.drewN m).cell? (G bx 1)=H (Y q):=c1;have d2:(w1.drewN m).cell? (G bx 2)=H (Y d):=c2;have d60:(w1.drewN m).cell? (G C.mb 60)=H (UI U.rb):=k60;have d0:(w1.drewN m).cell? (G U.rb 0)=H (.int .u64 key):=r0;clear HN HL c0 c1 c2 c3 c4 k60 r0;generalize w1.drewN m=w2 at*;go_wp2_with fail
 go_still_tail 13,bh
 change wpList _ _ _ _ _ (w2.drewN 1);generalize w2.drewN 1=w3 at*;go_wp2_with fail;refine Ry.o.mono ?_;intro e w5 hd;have sT:=hd.pre (RO:=RO) HK.o (λb X=>by simp[X]);obtain⟨rfl,RO',ho,fD,hk⟩:=sT;have Dv:=Z (show cF w C.mb U.rb RO K p c t used (.tuple #[]) z.1 (C8 (.tuple #[])) w5 from⟨rfl,RO',ho,fD,hk⟩);clear hd fD hk ho Ry;go_wp2;exact bK (dJ rfl _ _ _) rfl Dv.o
def Qd{p:Prop}(h:p:=by
 go_wp2;exact bK (dJ rfl _ _ _) rfl ⟨rfl,_,λb X=>by simp[X],(HH.o.jW 6 (Y 3) (r':=r.gd 3) rfl rfl rfl rfl rfl rfl HH.o.r.gP).i_,HK.o⟩):p:=h
def Yz{p:Prop}(h:p:=by
 go_wp2_with fail;generalize w.alloc (QP #[Y i.op,Y i.a,Y i.b,Y i.c,Y i.d] 40)=w1 at*;generalize gu:w.heap.size=bx at*;refine HN.o.mono ?_;rintro e w' ⟨rfl,m,rfl⟩;have HH:=Z (H1.o.drewN m);have sS:(w1.drewN m).cell? (G C.mb 60)=H (UI U.rb):=HH.o.m.bg.cell 60;have r6:(w1.drewN m).cell? (G U.rb 6)=H (Y r.bY):=HH.o.r.dS.cell 6;have rf:∀o,(w1.drewN m).frozen? (G U.rb o)=false:=HH.o.r.dS.frozen;have HK:=Z ((Kept.af (RO:=RO) (w:=w) (w':=w1.drewN m) (by rw[gu];exact HB.o.trans (az bx w1 m)) (by rw[gu];exact dE.o)).trans (Kept.dn (RO:=RO) (S:=U.l) ((aA.refl _ (w1.drewN m)).setCell (p:=(G U.rb 6)) (by simp[Ru.l]) (Y 3)) (λb X=>HH.o.sep.ur (by simp[X])) (λb X=>HH.o.sep.dO b (by simp[X]))) (λb X=>X));clear HN;generalize w1.drewN m=w2 at*;exact Qd):p:=h
def adI(h:cS w C U RO K p c t used hv jv s r)(i:Ins){n q:Nat}(hf:s.f r.key=H n)(hq:q<p.bw.length)(hn:n∈s.a.ls q):
 Calls prog 121 #[UI C.mb,aV i] w (cF w C.mb U.rb RO K p c t used (.tuple #[]) (s,r.gd 3)):=by
 have h1:=h.box (QP (aI i) 40);have HN:=Z (mL h1 hf hq hn);have HB:=Z ((aB w.heap.size w).alloc (aL _) (QP (aI i) 40));have dE:=Z h.sep.dO;have H1:=Z h1;clear h h1 hf hn;unfold aV;unfold aI at*;go_enter func121,ntmps121;exact Yz
def adH(h:cS w C U RO K p c t used hv jv s r)(i:Ins)(hf:s.f r.key=K7):
 Calls prog 122 #[UI C.mb,aV i] w (cF w C.mb U.rb RO K p c t used (.tuple #[]) (s,r.gd 3)):=by
 have h1:=h.box (QP (aI i) 40);have HN:=Z (oX h1 hf);have HB:=Z ((aB w.heap.size w).alloc (aL _) (QP (aI i) 40));have dE:=Z h.sep.dO;have H1:=Z h1;clear h h1 hf;unfold aV;unfold aI at*;go_enter func122,ntmps122;exact Yz
def aaq(h:cS w C U RO K p c t used hv jv s r)(i:Ins)(hf:s.f r.key=K7):
 Calls prog 123 #[UI C.mb,aV i] w (cF w C.mb U.rb RO K p c t used (.tuple #[]) (s,r.gd 3)):=by
 have h1:=h.box (QP (aI i) 40);have HN:=Z (oX h1 hf);have HB:=Z ((aB w.heap.size w).alloc (aL _) (QP (aI i) 40));have dE:=Z h.sep.dO;have H1:=Z h1;clear h h1 hf;unfold aV;unfold aI at*;go_enter func123,ntmps123;exact Yz
def adF(h:cS w C U RO K p c t used hv jv s r)(i:Ins){n q:Nat}(hf:s.f r.key=H n)(hq:q<p.bw.length)(hn:n∈s.a.ls q)(hg:p.bw.getD q false=false):
 Calls prog 123 #[UI C.mb,aV i] w (cF w C.mb U.rb RO K p c t used (.tuple #[]) (s,r.gd 3)):=by
 have h1:=h.box (QP (aI i) 40);have HN:=Z (mL h1 hf hq hn);have HB:=Z ((aB w.heap.size w).alloc (aL _) (QP (aI i) 40));have dE:=Z h.sep.dO;have H1:=Z h1;obtain⟨gb,ov,lG,yk,zI⟩:=h1.mx.bw hq;have k0:(w.alloc (QP (aI i) 40)).cell? (G C.mb 0)=H K.g:=h1.m.bg.cell 0;rw[lG]at k0;rw[hg]at zI;clear h h1 hf hn lG yk hg;generalize p.bw.length=ng at*;unfold aV;unfold aI at*;go_enter func123,ntmps123;go_wp2_with fail;generalize w.alloc (QP #[Y i.op,Y i.a,Y i.b,Y i.c,Y i.d] 40)=w1 at*;generalize gu:w.heap.size=bx at*;refine HN.o.mono ?_;rintro e w' ⟨rfl,m,rfl⟩;have HH:=Z (H1.o.drewN m);have sS:(w1.drewN m).cell? (G C.mb 60)=H (UI U.rb):=HH.o.m.bg.cell 60;have r6:(w1.drewN m).cell? (G U.rb 6)=H (Y r.bY):=HH.o.r.dS.cell 6;have rf:∀o,(w1.drewN m).frozen? (G U.rb o)=false:=HH.o.r.dS.frozen;have d0:(w1.drewN m).cell? (G C.mb 0)=H (to (H (G gb 0)) ng ov):=k0;have aap:(w1.drewN m).cell? (G gb q)=H (.bool false):=zI;have HK:=Z ((Kept.af (RO:=RO) (w:=w) (w':=w1.drewN m) (by rw[gu];exact HB.o.trans (az bx w1 m)) (by rw[gu];exact dE.o)).trans (Kept.dn (RO:=RO) (S:=U.l) ((aA.refl _ (w1.drewN m)).setCell (p:=(G U.rb 6)) (by simp[Ru.l]) (Y 3)) (λb X=>HH.o.sep.ur (by simp[X])) (λb X=>HH.o.sep.dO b (by simp[X]))) (λb X=>X));clear HN k0 zI;generalize w1.drewN m=w2 at*;exact Qd
def adE(h:cS w C U RO K p c t used hv jv s r)(E:iT K p c s)(i:Ins){n q:Nat}(hf:s.f r.key=H n)(hq:q<p.bw.length)(hn:n∈s.a.ls q)(hg:p.bw.getD q false=true)(hj:r.bz.length<1000000):
 Calls prog 123 #[UI C.mb,aV i] w (cF w C.mb U.rb RO K p c t used (.tuple #[]) (uJ (aC p c) (s,r) n q)):=by
 have h1:=h.box (QP (aI i) 40);have HN:=Z (mL h1 hf hq hn);have HB:=Z ((aB w.heap.size w).alloc (aL _) (QP (aI i) 40));have dE:=Z h.sep.dO;have Hs:=Z (λm=>Wd (h1.drewN m) E hq hn hj);obtain⟨gb,ov,lG,yk,zI⟩:=h1.mx.bw hq;have k0:(w.alloc (QP (aI i) 40)).cell? (G C.mb 0)=H K.g:=h1.m.bg.cell 0;rw[lG]at k0;rw[hg]at zI;clear h h1 hf hn lG yk hg E;generalize uJ (aC p c) (s,r) n q=z at*;generalize p.bw.length=ng at*;unfold aV;unfold aI at*;go_enter func123,ntmps123;go_wp2_with fail;generalize w.alloc (QP #[Y i.op,Y i.a,Y i.b,Y i.c,Y i.d] 40)=w1 at*;generalize gu:w.heap.size=bx at*;refine HN.o.mono ?_;rintro e w' ⟨rfl,m,rfl⟩;have yL:=Z (Hs.o m);have d0:(w1.drewN m).cell? (G C.mb 0)=H (to (H (G gb 0)) ng ov):=k0;have aap:(w1.drewN m).cell? (G gb q)=H (.bool true):=zI;have HK:=Z (Kept.af (RO:=RO) (w:=w) (w':=w1.drewN m) (by rw[gu];exact HB.o.trans (az bx w1 m)) (by rw[gu];exact dE.o));clear HN k0 zI Hs;generalize w1.drewN m=w2 at*;go_wp2_with fail;refine yL.o.mono ?_;intro e w5 hd;have sT:=hd.pre (RO:=RO) HK.o (λb X=>by simp[X]);obtain⟨rfl,RO',ho,fD,hk⟩:=sT;have Dv:=Z (show cF w C.mb U.rb RO K p c t used (.tuple #[]) z (C8 (.tuple #[])) w5 from⟨rfl,RO',ho,fD,hk⟩);clear hd fD hk ho yL;go_wp2;exact bK (dJ rfl _ _ _) rfl Dv.o
end
end Go.Ma
