import Derived.Test.YtblkblclmbhjiaaGreatX6
import Derived.Laws.Entries
set_option linter.all false
set_option maxHeartbeats 40000000
set_option maxRecDepth 100000
open Go.Proofs.Tryz
open Option renaming some->H,none->K7
open Go renaming Value->UL,World->UK
open Go.Value renaming slice->to
open Go.Obj renaming cells->QP
open Go.Ending renaming returned->C8
open Go.World renaming cell?->UJ
namespace Go.Ma
open Go.RowKit aj.Vm
open aj hiding aR an ak
open eB (bS bL eN)
open Ix (cX)
section
variable {w w' wr:UK}{C C' C1:Co}{U U':Ru}{RO RO' pS:List Nat}{K:Kc}{p:aQ}{c:Cp}{t t':dZ}{used used':Int}{hv hv':UL}{jv kT:Nat->UL}{s s' s0 s1:St}{t0:dZ}{Bb:Int}{r r':Rn}{rv rv':UL}{mb rb bx:Nat}{T:Map}{st:Std}
def oA{p:Prop}(h:p:=by
 intro wz fj
 (try dsimp only at fj)
 exact qj):p:=h
def Bn(M:Gi K C.mb p c)(V:Env p c T)(hS:nw p)(h:Mx w C RO K p c s t used (.pointer K7))(hI:Inv (aC p c) s){key:Nat}(hk:key<18446744073709551616){n q:Nat}(hf:s.f key=H n)(hq:q<p.bw.length)(hn:n∈s.a.ls q){g:Bool}(hg:p.bw.getD q false=g):
 Calls prog 17 #[UI C.mb,.int .u64 key] w (je w C RO K p c t s key):=by
 have z_:∀(fn:Fn) (first cap:Array UL) (w:UK),(Instr.makeFunc fn first cap).run prog w= .ok (.func fn first cap) w:=λ_ _ _ _=>rfl;have m4:UJ w (G C.mb 4)=H (Y p.aT):=h.m.bg.cell 4;have lm:C.mb<w.heap.size:=h.m.bg.lt;have B4:=B7 h key p.aT;have HM:=Z M;have HV:=Z V;have HS:=Z hS;have HI:=Z hI;have HF:=Z hf;have m10:((((w.alloc (QP #[UI C.mb] 35)).alloc (QP #[.bool false,Pl,Y 0] 44)).alloc (QP #[.int .u64 key,Y p.aT,Pl,Pl,Pl,Pl,Y 0,Pl,.bool false] 126)).alloc (QP #[UI (w.heap.size+1+1)] 111)).cell? (G C.mb 10)=H (UI C.xb):=B4.mx.m.bg.cell 10;have HG:=Z (Ix.uH B4.mx.m.ix (key:=key) hf);have jK:=Z B4;have Ud:=Z (show rG p c s key= !g by unfold rG;rw[hf];dsimp only;rw[mT hI.wf hq hn,hg]);have HX:=Z (show OO p c s key=p.on.getD q 0 by unfold OO;rw[hf];dsimp only;rw[mT hI.wf hq hn]);have hqo:q<p.on.length:=by rw[(cE M.check).1.on];exact hq
 have HQ:=Z (And.intro hq hn);have HGH:=Z hg;have HH:=Z h;clear M V hS hI hf B4 h hq hn hg
 go_enter_defers func17,ntmps17
 go_wp2_with fail;refine HG.o.mono ?_;rintro e w5 ⟨rfl,n5,rfl⟩;have B5:=jK.o.draw n5;have nU:=Z B5;clear jK HG m10 m4 lm;generalize gu:w.heap.size=bx at*;generalize World.drewN _ _=w5 at*;clear gu;have HL:=Z (eB.GS B5.mx.m.ar HQ.o.1 HQ.o.2);have d2:=B5.b2.c1;have d5:=B5.b5.c1;have m9:UJ w5 (G C.mb 9)=H (UI C.ab):=B5.mx.m.bg.cell 9;obtain⟨ob,ZZ,hov,RD,Cw,aeB⟩:=B5.mx.m.prog.o.some O;obtain⟨gb,ov,lG,Jo,hg2,aeC⟩:=B5.mx.m.prog.g.some (by have:=HQ.o.1;omega);have m3:UJ w5 (G C.mb 3)=H (to (H (G ob 0)) p.on.length ZZ):=by rw[<-hov];exact B5.mx.m.bg.cell 3
 have m0:UJ w5 (G C.mb 0)=H (to (H (G gb 0)) p.bw.length ov):=by rw[<-lG];exact B5.mx.m.bg.cell 0
 have oq:UJ w5 (G ob q)=H (Y (p.on.getD q 0)):=by have h3:=B5.mx.m.prog.o;rw[hov]at h3;exact h3.cell (o:=q) O
 have gq:UJ w5 (G gb q)=H (.bool g):=by have h3:=B5.mx.m.prog.g;rw[lG]at h3;rw[<-HGH.o];exact h3.cell (o:=q) (by have:=HQ.o.1;omega)
 have hqg:q<p.bw.length:=HQ.o.1;have RX:∀o,w5.frozen? (G (bx+1+1) o)=false:=B5.rb.frozen;have r1:UJ w5 (G (bx+1+1) 1)=H (Y p.aT):=B5.rb.cell 1;have rm:=B5.mx.m.prog.ro;have nob:ob≠bx+1+1:=λe=>B5.no (by have h5:=rm ob (.inr (.inr (.inr (.inl (aU.2 (by rw[hov];rfl))))));rw[e]at h5;exact h5);have ngb:gb≠bx+1+1:=λe=>B5.no (by have h5:=rm gb (.inl (aU.2 (by rw[lG];rfl)));rw[e]at h5;exact h5);have nmb:C.mb≠bx+1+1:=λe=>B5.nc (by rw[<-e];simp[Co.l]);clear B5 hov RD Cw aeB lG Jo hg2 aeC rm;generalize M5:p.on.getD q 0=wN at*;clear M5;generalize p.on.length=ol at*;generalize p.bw.length=gl at*;generalize p.aT=ms at*;go_wp2_with fail;refine HL.o.mono ?_;rintro e w5' ⟨rfl,rfl⟩;have hSS:(w5.drew.setCell (G (bx+1+1) 1) (Y wN)).cell? (G bx 0)=H (UI C.mb)/\(w5.drew.setCell (G (bx+1+1) 1) (Y wN)).cell? (G (bx+1+1+1) 0)=H (UI (bx+1+1))/\(w5.drew.setCell (G (bx+1+1) 1) (Y wN)).cell? (G C.mb 3)=H (to (H (G ob 0)) ol ZZ)/\
  (w5.drew.setCell (G (bx+1+1) 1) (Y wN)).cell? (G C.mb 0)=H (to (H (G gb 0)) gl ov)/\(w5.drew.setCell (G (bx+1+1) 1) (Y wN)).cell? (G ob q)=H (Y wN)/\(w5.drew.setCell (G (bx+1+1) 1) (Y wN)).cell? (G gb q)=H (.bool g):=
  ⟨(bM O).trans d2,(bM O).trans d5,(bM nmb).trans m3,(bM nmb).trans m0,(bM nob).trans oq,(bM ngb).trans gq⟩
 have Gn:=Z hSS;clear hSS nmb nob ngb;go_wp2;refine Mk.bH (S:=(λwx=>UJ wx (G bx 0)=H (UI C.mb)/\UJ wx (G (bx+1+1+1) 0)=H (UI (bx+1+1))/\UJ wx (G C.mb 3)=H (to (H (G ob 0)) ol ZZ)/\UJ wx (G C.mb 0)=H (to (H (G gb 0)) gl ov)/\UJ wx (G ob q)=H (Y wN)/\UJ wx (G gb q)=H (.bool g))) bh ⟨d2,d5,m3,m0,oq,gq⟩ (λau=>?_);refine Mk.tk 0 (v:=?_) rfl ?_ cY ?_;rotate_left
 ·exact oA
 refine Mk.pt ?_;refine Mk.tk 1 (v:=?_) rfl ?_ cY ?_;rotate_left
 ·exact oA
 refine Mk.pt ?_;refine Mk.tk 2 (v:=?_) rfl ?_ cY ?_;rotate_left
 ·exact oA
 refine Mk.pt ?_;refine Mk.tk 3 (v:=?_) rfl ?_ cY ?_;rotate_left
 ·exact oA
 refine Mk.pt ?_;refine Mk.tk 4 (v:=?_) rfl ?_ cY ?_;rotate_left
 ·exact oA
 refine Mk.pt ?_;refine Mk.tk 5 (v:=?_) rfl ?_ cY ?_;rotate_left
 ·exact oA
 refine Mk.pt ?_;refine Mk.tk 6 (v:=?_) rfl ?_ cY ?_;rotate_left
 ·exact oA
 refine Mk.pt ?_;refine Mk.tk 7 (v:=?_) rfl ?_ cY ?_;rotate_left
 ·exact oA
 refine Mk.pt ?_;refine Mk.tk 8 (v:=?_) rfl ?_ cY ?_;rotate_left
 ·exact oA
 refine Mk.pt ?_;refine Mk.tk 9 (v:=?_) rfl ?_ cY ?_;rotate_left
 ·exact oA
 refine Mk.pt ?_;refine Mk.tk 10 (v:=?_) rfl ?_ cY ?_;rotate_left
 ·exact oA
 refine Mk.pt ?_;refine Mk.tk 11 (v:=?_) rfl ?_ cY ?_;rotate_left
 ·exact oA
 refine Mk.pt ?_;refine Mk.tk 12 (v:=?_) rfl ?_ cY ?_;rotate_left
 ·exact oA
 refine Mk.pt ?_;refine Mk.tk 13 (v:=?_) rfl ?_ cY ?_;rotate_left
 ·exact oA
 refine Mk.pt ?_;refine Mk.tk 14 (v:=?_) rfl ?_ cY ?_;rotate_left
 ·exact oA
 refine Mk.pt ?_;refine Mk.tk 15 (v:=?_) rfl ?_ cY ?_;rotate_left
 ·exact oA
 refine Mk.pt ?_;refine Mk.tk 16 (v:=?_) rfl ?_ cY ?_;rotate_left
 ·exact oA
 refine Mk.pt ?_;refine Mk.tk 17 (v:=?_) rfl ?_ cY ?_;rotate_left
 ·exact oA
 refine Mk.pt ?_;refine Mk.tk 18 (v:=?_) rfl ?_ cY ?_;rotate_left
 ·exact oA
 refine Mk.pt ?_;refine Mk.tk 19 (v:=?_) rfl ?_ cY ?_;rotate_left
 ·exact oA
 refine Mk.pt ?_;refine fk (rs:=[20]) bh ay ?_;refine bZ rfl (λK hK=>?_) cz;refine fH ?_;go_simp;refine hK.out _ _ Gn.o (λau=>?_);clear hK K;refine Mk.pt ?_;refine Mk.tk 21 (v:=?_) rfl ?_ cY ?_;rotate_left
 ·exact oA
 refine Mk.pt ?_;refine nW bh ⟨rfl,?_⟩ _;clear au Gn;have B5:=(nU.o.setAt wN).draw 1;change zY w (w5.setCell (G (bx+1+1) 1) (Y wN)).drew bx C K p c s t used key wN (.pointer K7)at B5;clear nU d2 d5 m9 m3 m0 oq gq hqg hqo RX r1 HL;have nU:=Z B5;generalize(w5.setCell (G (bx+1+1) 1) (Y wN)).drew=w5 at*;clear B5;exact zM
end
end Go.Ma
namespace Go.Ma
open Go.RowKit aj.Vm Go.Shelf
open aj hiding aR an ak
def Row.mG{w:UK}{e:TypeId}{size n:Nat}{v:UL}{g:Nat->UL}(h:Row w e size v n g):∃a m cap,v=to a m cap:=by
 rcases h.val with⟨rfl,-⟩|⟨b,cap,rfl,-⟩
 ·exact⟨_,_,_,rfl⟩
 ·exact⟨_,_,_,rfl⟩
def vo{T:List Nat}{W W':UK}(f:aA T W W')(hc:∀b,b∈T->Mk.On W b)(B:Nat):KeepsFrom B W W':=
 ⟨f.size,λk o _ hk ho=>(f.block k (Array.getElem?_eq_some_iff.1 hk).1 (λX=>by
   obtain⟨o',h1,h2⟩:=hc k X;rw[hk]at h1;cases h1;rw[ho]at h2;cases h2)).trans hk⟩
end Go.Ma
namespace Go.Ix
open Go.RowKit aj
open Su (nR xS uG)
open gR (cZ BP Ed)
structure jQ(f:Nat->Option Nat)(L:List (Nat×Nat)):Prop where
 up:L.Pairwise (λa b=>a.1<b.1)
 mem:∀k v,(k,v)∈L↔f k=H v
def jQ.rX{f:Nat->Option Nat}{L L':List (Nat×Nat)}(h:jQ f L)(h':jQ f L'):L=L':=by
 have hm:∀x,x∈L↔x∈L':=λx=>by obtain⟨k,v⟩:=x;rw[h.mem,h'.mem]
 have a:=h.up;have b:=h'.up;clear h h'
 induction L generalizing L' with
 |nil=>
  cases L' with
  |nil=>rfl
  |cons y t=>exact absurd ((hm y).2 ay) ay
 |cons x t ih=>
  cases L' with
  |nil=>exact absurd ((hm x).1 ay) ay
  |cons y t'=>
   obtain⟨a1,a2⟩:=List.pairwise_cons.1 a;obtain⟨b1,b2⟩:=List.pairwise_cons.1 b;have hxy:x=y:=by
    rcases List.mem_cons.1 ((hm x).1 ay)with e|hx
    ·exact e
    rcases List.mem_cons.1 ((hm y).2 ay)with e|hy
    ·exact e.symm
    have:=b1 x hx;have:=a1 y hy;omega
   subst hxy;rw[ih (L':=t') (λz=>?_) a2 b2];constructor
   ·intro hz;rcases List.mem_cons.1 ((hm z).1 (by simp[hz]))with e|h'
    ·subst e;have:=a1 z hz;omega
    ·exact h'
   ·intro hz;rcases List.mem_cons.1 ((hm z).2 (by simp[hz]))with e|h'
    ·subst e;have:=b1 z hz;omega
    ·exact h'
def Fu{S:Tb UL}{n:Nat}{x:Nat×Int}(h:x∈cZ S n):∃i k,i<n/\S i=H (x.1,.int k x.2):=by
 induction n with
 |zero=>simp[cZ]at h
 |succ n ih=>
  unfold cZ at h;rw[List.mem_append]at h;rcases h with h|h
  ·obtain⟨i,k,hi,hs⟩:=ih h;exact⟨i,k,O,hs⟩
  ·split at h
   ·next k kk v hs=>simp at h;subst h;exact⟨n,kk,O,hs⟩
   ·simp at h
def abW{S:Tb UL}{n i k:Nat}{kk:IntKind}{v:Int}(hi:i<n)(h:S i=H (k,.int kk v)):(k,v)∈cZ S n:=by
 induction n with
 |zero=>omega
 |succ n ih=>
  unfold cZ;rw[List.mem_append];by_cases e:i=n
  ·subst e;right;rw[h];simp
  ·left;exact ih O
def abV{S:Tb UL}{n:Nat}(I:Inv n S):∀m,m<=n->(cZ S m).Pairwise (λa b=>a.1≠b.1):=by
 intro m
 induction m with
 |zero=>intro _;exact .nil
 |succ m ih=>
  intro hm;unfold cZ;rw[List.pairwise_append];refine⟨ih O,?_,?_⟩
  ·split<;>simp
  ·intro a ha b X;split at X
   ·next k kk v hs=>simp at X;subst X;obtain⟨i,k',hi,Ea⟩:=Fu ha;intro e;have:=I.rX i m k _ _ O O (by rw[Ea];simp only[]at e;rw[e]) hs;omega
   ·simp at X
def abU{n count aE e:Nat}{S:Tb UL}(T:nR n count aE e S):∀m,m<=n->(cZ S m).length=dr m S:=by
 intro m
 induction m with
 |zero=>intro _;simp[cZ,dr]
 |succ m ih=>
  intro hm;unfold cZ;rw[qS,ih O];cases hS:S m with
  |none=>simp[dr,hS]
  |some p=>obtain⟨k,u⟩:=p;obtain⟨x,rfl⟩:=T.int m k u hS;simp[dr,hS]
def WZ(x:Nat×Nat):Nat×Int:=(x.1,(x.2:Int))
def all'{w:UK}{b s aE count:Nat}{f:Nat->Option Nat}(h:cX w b s aE count f):Calls prog 65 #[UI b] w λr w'=>
 r=C8 (.func (.func 140) #[] #[UI w.heap.size])/\∃L:List (Nat×Nat),jQ f L/\L.length=count/\Ed w (L.map WZ) w':=by
 obtain⟨n,e,S,hI,T,hf,hn⟩:=h;refine(gR.EO hI T.fit.Vq T.int).mono ?_;rintro r w' ⟨rfl,L0,⟨hp,hs⟩,hA⟩;have hv:∀x,x∈L0->∃v:Nat,x.2=v/\f x.1=H v:=λx hx=>by obtain⟨i,kk,hi,hS⟩:=Fu (hp.mem_iff.1 hx);obtain⟨v,hu⟩:=hn i _ _ hi hS;simp at hu;exact⟨v,hu.2,(hf _ _).2 ⟨i,hi,by rw[hS,hu.1,hu.2]⟩⟩
 have hl:(L0.map λx=>(x.1,x.2.toNat)).map WZ=L0:=by rw[List.map_map];refine(List.map_congr_left λx hx=>?_).trans (List.map_id L0);obtain⟨v,h1,-⟩:=hv x hx;obtain⟨k,y⟩:=x;simp only at h1;subst h1;simp[WZ]
 refine⟨rfl,L0.map λx=>(x.1,x.2.toNat),⟨?_,λk v=>?_⟩,?_,by rw[hl];exact hA⟩
 ·rw[List.pairwise_map];have h1:L0.Pairwise (λa b=>a.1≠b.1):=(hp.pairwise_iff (λh=>λe=>h e.symm)).2 (abV T.inv n (aL _));exact(h1.and hs).imp λ⟨a,b⟩=>by simp only;omega
 ·constructor
  ·intro hm;obtain⟨x,hx,Um⟩:=List.mem_map.1 hm;obtain⟨v',h1,h2⟩:=hv x hx;simp at Um;rw[<-Um.1,h2,<-Um.2,h1];simp
  ·intro hm;obtain⟨i,hi,hS⟩:=(hf k v).1 hm;exact List.mem_map.2 ⟨(k,(v:Int)),hp.mem_iff.2 (abW hi hS),ay⟩
 ·rw[List.length_map,hp.length_eq,abU T n (aL _),T.dr]
end Go.Ix
namespace Go.Ma
open Go.RowKit aj.Vm Go.Shelf
open aj hiding aR an ak
open eB (bS bL eN)
open Ix (cX)
def iH(l:List Nat):List Int:=l.map λn:Nat=>(n:Int)
def fV(l:List Nat):(iH l).length=l.length:=by simp[iH]
def Bo(l:List Nat)(x:Nat):iH (l++[x])=iH l++[(x:Int)]:=by simp[iH]
def rA(l:List Nat)(i:Nat):(iH l).getD i 0=((l.getD i 0:Nat):Int):=by
 unfold iH;by_cases h:i<l.length
 ·simp[List.getD,h]
 ·simp[List.getD,h]
def mN{α:Type}(l:List α)(x d:α)(o:Nat):(o<l.length->(l++[x]).getD o d=l.getD o d)/\(o=l.length->(l++[x]).getD o d=x):=by
 constructor
 ·intro h;simp[List.getD,DV,h]
 ·intro h;subst h;simp[List.getD]
def eS.snoc{w w':UK}{lo hi hi':Nat}{v v':UL}{l:List Int}{x:Int}(h:eS w lo hi v l)(hr:Row w' 3 1 v' (l.length+1) (fY (l.length*1) (aX l) λ_=> Y x))(hv:vu lo hi' v'):eS w' lo hi' v' (l++[x]):=by
 refine⟨?_,hv⟩;rw[qS,E0];refine hr.congr λo ho=>?_;unfold fY aX;by_cases h1:o<l.length
 ·rw[bk O,(mN l x 0 o).1 h1]
 ·rw[aw O,(mN l x 0 o).2 O]
def pU(l:List Nat)(i:Nat):UL:= .int .u64 (l.getD i 0:Nat)
structure lV(w:UK)(lo hi:Nat)(v:UL)(l:List Nat):Prop where
 row:Row w 46 1 v l.length (pU l)
 i_:vu lo hi v
def lV.off{w w':UK}{lo hi:Nat}{v:UL}{l:List Nat}{S:List Nat}(h:lV w lo hi v l)(f:aA S w w')(k:oF w lo hi [46] S):lV w' lo hi v l:=⟨Row.off h.row h.i_ ay f k,h.i_⟩
def lV.mono{w:UK}{lo hi tZ hi':Nat}{v:UL}{l:List Nat}(h:lV w lo hi v l)(h1:tZ<=lo)(h2:hi<=hi'):lV w tZ hi' v l:=⟨h.row,h.i_.mono h1 h2⟩
def lV.snoc{w w':UK}{lo hi hi':Nat}{v v':UL}{l:List Nat}{x:Nat}(h:lV w lo hi v l)(hr:Row w' 46 1 v' (l.length+1) (fY (l.length*1) (pU l) λ_=> .int .u64 x))(hv:vu lo hi' v'):lV w' lo hi' v' (l++[x]):=by
 refine⟨?_,hv⟩;rw[qS,E0];refine hr.congr λo ho=>?_;unfold fY pU;by_cases h1:o<l.length
 ·rw[bk O,(mN l x 0 o).1 h1]
 ·rw[aw O,(mN l x 0 o).2 O]
def RR:List TypeId:=[24,3]
structure zu(w:UK)(lo hi:Nat)(v:UL)(P:List (List Nat))(lv:Nat->UL):Prop where
 row:Row w 24 1 v P.length lv
 i_:vu lo hi v
 q:∀q,q<P.length->eS w lo hi (lv q) (iH (P.getD q []))
 sep:∀q q',q<P.length->q'<P.length->q≠q'->(lv q).ownBlock=K7\/(lv q).ownBlock≠(lv q').ownBlock
def zu.off{w w':UK}{lo hi:Nat}{v:UL}{P:List (List Nat)}{lv:Nat->UL}{S:List Nat}(h:zu w lo hi v P lv)(f:aA S w w')(k:oF w lo hi RR S):zu w' lo hi v P lv:=
 ⟨Row.off h.row h.i_ (by simp[RR]) f k,h.i_,λq hq=>(h.q q hq).off f (k.sub (by simp[RR,uX])),h.sep⟩
def zu.mono{w:UK}{lo hi tZ hi':Nat}{v:UL}{P:List (List Nat)}{lv:Nat->UL}(h:zu w lo hi v P lv)(h1:tZ<=lo)(h2:hi<=hi'):zu w tZ hi' v P lv:=⟨h.row,h.i_.mono h1 h2,λq hq=>(h.q q hq).mono h1 h2,h.sep⟩
def zu.snoc{w w':UK}{lo hi:Nat}{v v':UL}{P:List (List Nat)}{lv:Nat->UL}(h:zu w lo hi v P lv){l:List Nat}{ev:UL}(he:eS w' lo w'.heap.size ev (iH l))(hle:hi<=w.heap.size)
 {S:List Nat} (f:aA S w w') (hS:oF w lo hi uX S) (hr:Row w' 24 1 v' (P.length+1) (fY (P.length*1) lv λ_=>ev)) (hv:vu lo w'.heap.size v') (hn:∀b,ev.ownBlock=H b->hi<=b):
 zu w' lo w'.heap.size v' (P++[l]) (λq=>if q<P.length then lv q else ev):=by
 have hlen:(P++[l]).length=P.length+1:=by simp
 refine⟨?_,hv,λq hq=>?_,λq q' hq Q_ bm=>?_⟩
 ·rw[hlen];refine hr.congr λo ho=>?_;unfold fY;dsimp only;by_cases h1:o<P.length
  ·rw[bk O,bk h1]
  ·rw[aw O,aw h1]
 ·rw[hlen]at hq;by_cases h1:q<P.length
  ·rw[bk h1,(mN P l [] q).1 h1];exact((h.q q h1).off f hS).mono (aL _) (cU hle f.size)
  ·rw[aw h1,(mN P l [] q).2 O];exact he
 ·rw[hlen]at hq Q_;by_cases h1:q<P.length
  ·by_cases h2:q'<P.length
   ·rw[bk h1,bk h2];exact h.sep q q' h1 h2 bm
   ·exact qX8
  ·by_cases h2:q'<P.length
   ·exact qX9
   ·omega
structure PL where
 lists:List (List Nat)
 free:List Nat
 keys:List Nat
 nodes:List Int
 deriving DecidableEq
structure mj(w:UK)(lo h1 h2 hi:Nat)(a b c d:UL)(L:PL)(lv:Nat->UL):Prop where
 ls:zu w lo h1 a L.lists lv
 fr:eS w h1 h2 b (iH L.free)
 ks:lV w h2 hi c L.keys
 ns:eS w h2 hi d L.nodes
 le:lo<=h1/\h1<=h2/\h2<=hi
abbrev dT:UL:=Pl
structure K0(w:UK)(xb:Nat)(W:UK)(nd:Nat)(held:Nat->Bool)(cs:Array UL)(Ds:List Nat):Prop where
 rO:Below w.heap.size w W
 low:xb+1<=W.heap.size
 kW:w.heap.size+2<xb
 b2:aF W w.heap.size 52 #[dT,dT,dT,dT]
 b3:aF W (w.heap.size+1) 52 cs
 hr:Row W 4 1 (to (H (G (w.heap.size+2) 0)) nd nd) nd (λn=> .bool (held n))
 hx:aF W (xb) 22 #[to (H (G (w.heap.size+2) 0)) nd nd]
 sV:Mk.Marks W Ds
 ml:∀D,D∈Ds->xb+1<=D
structure K3(w:UK)(xb:Nat)(W:UK)(h1 h2 nd:Nat)(held:Nat->Bool)(a b c d:UL)(P:List (List Nat))(fr ks:List Nat)(ns:List Int)(Ds:List Nat)(lv:Nat->UL):Prop where
 k:K0 w xb W nd held #[a,b,c,d] Ds
 lay:mj W (xb+1) h1 h2 W.heap.size a b c d ⟨P,fr,ks,ns⟩ lv
section
variable {w W W':UK}{xb h1 h2 nd:Nat}{held:Nat->Bool}{a b c d:UL}{P:List (List Nat)}{fr ks:List Nat}{ns:List Int}{Ds:List Nat}{lv:Nat->UL}{cs:Array UL}
def mj.off{w w':UK}{lo hi:Nat}{L:PL}{T:List Nat}(h:mj w lo h1 h2 hi a b c d L lv)(f:aA T w w')(k:oF w lo hi (46::RR) T):mj w' lo h1 h2 hi a b c d L lv:=by
 obtain⟨l1,l2,l3⟩:=h.le;have key:∀x y Es,lo<=x->y<=hi->(∀e,e∈Es->e∈46::RR)->oF w x y Es T:=λx y Es hx hy hE b X=>by
  rcases k b X with h'|⟨E,cs,e1,e2⟩|h'
  ·exact .inl O
  ·exact .inr (.inl ⟨E,cs,e1,λhc=>e2 (hE _ hc)⟩)
  ·exact .inr (.inr h')
 exact⟨h.ls.off f (key _ _ _ (aL _) O (by simp[RR])),h.fr.off f (key _ _ _ l1 l3 (by simp[RR,uX])),h.ks.off f (key _ _ _ O (aL _) ay),h.ns.off f (key _ _ _ O (aL _) (by simp[RR,uX])),h.le⟩
def mj.mono{w:UK}{lo hi hi':Nat}{L:PL}(h:mj w lo h1 h2 hi a b c d L lv)(hh:hi<=hi'):mj w lo h1 h2 hi' a b c d L lv:=
 ⟨h.ls,h.fr,h.ks.mono (aL _) hh,h.ns.mono (aL _) hh,h.le.1,h.le.2.1,cU h.le.2.2 hh⟩
def K0.aG(h:K0 w xb W nd held cs Ds){T:List Nat}(f:aA T W W')(hT:∀x,x∈T->xb+1<=x)(hD:∀D,D∈Ds->D∉T):K0 w xb W' nd held cs Ds:=by
 have kW:=h.kW;have nn:∀k,k<xb+1->k∉T:=λk hk hc=>by have:=hT k hc;omega
 exact⟨h.rO.trans (f.below h.rO.size (λk hk=>by have:=hT k hk;omega)),cU h.low f.size,h.kW,h.b2.aG f (nn _ O),h.b3.aG f (nn _ O),h.hr.aG f (λx hx=>by simp[Value.ownBlock]at hx;subst hx;exact nn _ O),h.hx.aG f (nn _ O),
  h.sV.keeps (λk hk=>f.block k (h.sV.lt hk) (hD k hk)),h.ml⟩
def K0.hold(h:K0 w xb W nd held cs Ds){x:Nat}(hx:x<nd):K0 w xb (W.setCell (G (w.heap.size+2) x) (.bool true)) nd (λn=>held n||n==x) cs Ds:=by
 have kW:=h.kW;have f:aA [w.heap.size+2] W (W.setCell (G (w.heap.size+2) x) (.bool true)):=(aA.refl _ W).setCell ay _;refine⟨h.rO.setCell (by show w.heap.size<=w.heap.size+2;omega) _,cU h.low f.size,h.kW,h.b2.aG f ay,h.b3.aG f ay,?_,h.hx.aG f jz,h.sV.keeps (λk hk=>f.block k (h.sV.lt hk) (by simp;have:=h.ml k hk;omega)),h.ml⟩;refine(h.hr.set (o:=x) O (.bool true)).congr λo ho=>?_;by_cases e:o=x
 ·rw[bk e];simp[e]
 ·rw[aw e];simp[e]
def K0.set(h:K0 w xb W nd held cs Ds)(o:Nat)(v:UL):K0 w xb (W.setCell (G (w.heap.size+1) o) v) nd held (cs.setIfInBounds o v) Ds:=by have kW:=h.kW;have f:aA [w.heap.size+1] W (W.setCell (G (w.heap.size+1) o) v):=(aA.refl _ W).setCell ay _;exact⟨h.rO.setCell (by show w.heap.size<=w.heap.size+1;omega) _,cU h.low f.size,h.kW,h.b2.aG f ay,h.b3.set o v,h.hr.aG f (λx hx=>by simp[Value.ownBlock]at hx;subst hx;simp),h.hx.aG f jz,h.sV.keeps (λk hk=>f.block k (h.sV.lt hk) (by simp;have:=h.ml k hk;omega)),h.ml⟩
def K0.mark(h:K0 w xb W nd held cs Ds){D:Nat}(hD:W.heap[D]? =H (.deferred (H [])))(hn:D∉Ds)(hl:xb+1<=D):K0 w xb W nd held cs (D::Ds):=by
 have kW:=h.kW;exact
 ⟨h.rO,h.low,h.kW,h.b2,h.b3,h.hr,h.hx,h.sV.cons hD hn,λk hk=>by rcases List.mem_cons.1 hk with rfl|hk;exact hl;exact h.ml k hk⟩
def K0.Qm(h:K0 w xb W nd held cs Ds){W_:Nat->Bool}(e:∀n,n<nd->held n=W_ n):K0 w xb W nd W_ cs Ds:=by
 have kW:=h.kW;exact
 ⟨h.rO,h.low,h.kW,h.b2,h.b3,h.hr.congr (λo ho=>by rw[e o O]),h.hx,h.sV,h.ml⟩
def K3.aG(h:K3 w xb W h1 h2 nd held a b c d P fr ks ns Ds lv){T:List Nat}(f:aA T W W')(hT:∀x,x∈T->xb+1<=x/\(W.heap.size<=x\/(∃o:Obj,W.heap[x]? =H o/\o.isCells=false)\/∃E cs,aF W x E cs/\E∉46::RR))(hD:∀D,D∈Ds->D∉T):K3 w xb W' h1 h2 nd held a b c d P fr ks ns Ds lv:=by
 have kW:=h.k.kW;have oo:oF W (xb+1) W.heap.size (46::RR) T:=λx hx=>by
  rcases(hT x hx).2 with h'|h'|h'
  ·exact .inl (.inr h')
  ·exact .inr (.inr h')
  ·exact .inr (.inl h')
 exact⟨h.k.aG f (λx hx=>(hT x hx).1) hD,(h.lay.off f oo).mono f.size⟩
def K3.later(h:K3 w xb W h1 h2 nd held a b c d P fr ks ns Ds lv)(bl:Below W.heap.size W W'):K3 w xb W' h1 h2 nd held a b c d P fr ks ns Ds lv:=h.aG (aA.af (S:=[]) bl) ay ay
def K3.grown(h:K3 w xb W h1 h2 nd held a b c d P fr ks ns Ds lv){B:Nat}(hB:xb+1<=B)(Ae:∀D,D∈Ds->D<B){row:Option Nat}(hg:W.grownBy W' row)(hr:∀r,row=H r->B<=r/\∃o:Obj,W.heap[r]? =H o/\o.isCells=false):K3 w xb W' h1 h2 nd held a b c d P fr ks ns Ds lv:=by have kW:=h.k.kW;have hm:∀x,x∈row.toList->B<=x/\∃o:Obj,W.heap[x]? =H o/\o.isCells=false:=λx hx=>hr x (by simpa using hx);exact h.aG (eK hg) (λx hx=>⟨by have:=(hm x hx).1;omega,.inr (.inl (hm x hx).2)⟩) (λD hD hc=>by have:=(hm D hc).1;have:=Ae D hD;omega)
def K3.hold(h:K3 w xb W h1 h2 nd held a b c d P fr ks ns Ds lv){x:Nat}(hx:x<nd):K3 w xb (W.setCell (G (w.heap.size+2) x) (.bool true)) h1 h2 nd (λn=>held n||n==x) a b c d P fr ks ns Ds lv:=by have kW:=h.k.kW;have f:aA [w.heap.size+2] W (W.setCell (G (w.heap.size+2) x) (.bool true)):=(aA.refl _ W).setCell ay _;exact⟨h.k.hold hx,(h.lay.off f (λy hy=>by simp at hy;subst hy;exact .inl (.inl O))).mono f.size⟩
def K3.of(h:K0 w xb W nd held #[a,b,c,d] Ds)(o:Nat)(v:UL){a' b' c' d':UL}(e:(#[a,b,c,d]:Array UL).setIfInBounds o v=#[a',b',c',d']){h1' h2':Nat}{P':List (List Nat)}{fr' ks':List Nat}{ns':List Int}{lv':Nat->UL}(hl:mj W (xb+1) h1' h2' W.heap.size a' b' c' d' ⟨P',fr',ks',ns'⟩ lv'):
 K3 w xb (W.setCell (G (w.heap.size+1) o) v) h1' h2' nd held a' b' c' d' P' fr' ks' ns' Ds lv':=by
 have kW:=h.kW;have f:aA [w.heap.size+1] W (W.setCell (G (w.heap.size+1) o) v):=(aA.refl _ W).setCell ay _;exact⟨by rw[<-e];exact h.set o v,(hl.off f (λy hy=>by simp at hy;subst hy;exact .inl (.inl O))).mono f.size⟩
structure I1(w:UK)(xb:Nat)(W6 W:UK)(lb h1 nd:Nat)(held:Nat->Bool)(a:UL)(P:List (List Nat))(Ds:List Nat)(lv:Nat->UL)(pre:List Nat)(nv:UL):Prop where
 k:K3 w xb W h1 h1 nd held a dT dT dT P [] [] [] Ds lv
 bx:aF W lb 24 #[nv]
 ns:eS W W6.heap.size W.heap.size nv (iH pre)
 sz:xb+1<=lb/\h1<=lb/\lb<W6.heap.size/\W6.heap.size<=W.heap.size
section
variable {W6:UK}{lb:Nat}{pre:List Nat}{nv:UL}
def I1.grown(h:I1 w xb W6 W lb h1 nd held a P Ds lv pre nv)(Ae:∀D,D∈Ds->D<W6.heap.size){row:Option Nat}(hg:W.grownBy W' row)(hr:∀r,row=H r->W6.heap.size<=r/\∃o:Obj,W.heap[r]? =H o/\o.isCells=false):I1 w xb W6 W' lb h1 nd held a P Ds lv pre nv:=by have kW:=h.k.k.kW;obtain⟨z1,z2,z3,z4⟩:=h.sz;have f:=eK hg;have hm:∀b,b∈row.toList->W6.heap.size<=b/\∃o:Obj,W.heap[b]? =H o/\o.isCells=false:=λb X=>hr b (by simpa using X);exact⟨h.k.grown (B:=W6.heap.size) O Ae hg hr,h.bx.of (Mk.On.grown h.bx.AH hg λr e=>(hr r e).2),(h.ns.off f (λb X=> .inr (.inr (hm b X).2))).mono (aL _) hg.size,z1,z2,z3,cU z4 hg.size⟩
def I1.next(h:I1 w xb W6 W lb h1 nd held a P Ds lv pre nv){w1 w3:UK}(b1:Below W.heap.size W w1)(f3:aA nv.ownBlock.toList w1 w3){v':UL}{x:Nat}(hx:x<nd)(r3:Row w3 3 1 v' (pre.length+1) (fY (pre.length*1) (aX (iH pre)) λ_=> Y x))(i3:v'.ownBlock=nv.ownBlock\/v'.ownBlock=H w1.heap.size):
 I1 w xb W6 ((w3.setCell (G lb 0) v').setCell (G (w.heap.size+2) x) (.bool true)) lb h1 nd (λn=>held n||n==x) a P Ds lv (pre++[x]) v'/\
  aA (lb::(w.heap.size+2)::nv.ownBlock.toList) W ((w3.setCell (G lb 0) v').setCell (G (w.heap.size+2) x) (.bool true))/\(∀k,k∈lb::(w.heap.size+2)::nv.ownBlock.toList->Mk.On W k)/\
  ((∀o,w3.frozen? (G lb o)=false)/\UJ w3 (G lb 0)=H nv/\UJ w3 (G xb 0)=H (to (H (G (w.heap.size+2) 0)) nd nd)/\(∀o,w3.frozen? (G (w.heap.size+2) o)=false)/\UJ w3 (G (w.heap.size+2) x)=H (.bool (held x))):=by
 have kW:=h.k.k.kW;obtain⟨z1,z2,z3,z4⟩:=h.sz;have hn:∀b,b∈nv.ownBlock.toList->nv.ownBlock=H b:=λb X=>by simpa using X
 have F1:aA [] W w1:=aA.af b1;have F3:aA nv.ownBlock.toList W w3:=(F1.mono ay).trans f3;have Qo:∀b,v'.ownBlock=H b->b<w3.heap.size:=λb X=>(fE r3 b X).2;have tJ:vu W6.heap.size w3.heap.size v':=λb X=>⟨by
  rcases i3 with h'|h'
  ·exact(h.ns.i_ b (by rw[<-h',X])).1
  ·rw[X]at h';simp at h';have:=F1.size;omega,Qo b X⟩
 have ns3:eS w3 W6.heap.size w3.heap.size v' (iH (pre++[x])):=by rw[Bo];exact eS.snoc h.ns (by rw[fV];exact r3) tJ
 have nD:∀b,b∈nv.ownBlock.toList->b∉Ds:=λb X=>h.k.k.sV.not (Row.AH h.ns.row (hn b X));have k3:K3 w xb w3 h1 h1 nd held a dT dT dT P [] [] [] Ds lv:=by obtain⟨l1,l2,l3⟩:=h.k.lay.le;refine⟨h.k.k.aG F3 (λb X=>by have:=h.ns.i_ b (hn b X);omega) (λD hD hc=>nD D hc hD),?_⟩;exact⟨h.k.lay.ls.off F3 (λb X=> .inl (.inr (by have:=h.ns.i_ b (hn b X);omega))),⟨Row.nil _ _ _ _,vu.nil _ _⟩,⟨Row.nil _ _ _ _,vu.nil _ _⟩,⟨Row.nil _ _ _ _,vu.nil _ _⟩,l1,l2,by have:=F3.size;omega⟩
 have Qp:aF w3 lb 24 #[nv]:=h.bx.aG F3 (λhc=>by have:=h.ns.i_ lb (hn lb hc);omega);have F4:aA [lb] w3 (w3.setCell (G lb 0) v'):=(aA.refl _ w3).setCell ay _;have k4:K3 w xb (w3.setCell (G lb 0) v') h1 h1 nd held a dT dT dT P [] [] [] Ds lv:=by obtain⟨l1,l2,l3⟩:=k3.lay.le;refine⟨k3.k.aG F4 jz (λD hD hc=>by simp at hc;subst hc;exact k3.k.sV.not Qp.AH hD),?_⟩;exact⟨k3.lay.ls.off F4 (λb X=>by simp at X;subst X;exact .inl (.inr z2)),⟨Row.nil _ _ _ _,vu.nil _ _⟩,⟨Row.nil _ _ _ _,vu.nil _ _⟩,⟨Row.nil _ _ _ _,vu.nil _ _⟩,l1,l2,by have:=F4.size;omega⟩
 have F5:aA [w.heap.size+2] (w3.setCell (G lb 0) v') ((w3.setCell (G lb 0) v').setCell (G (w.heap.size+2) x) (.bool true)):=(aA.refl _ _).setCell ay _;refine⟨⟨k4.hold hx,(Qp.set 0 v').aG F5 jz,?_,z1,z2,z3,by have:=F3.size;have:=F4.size;have:=F5.size;omega⟩,?_,λk hk=>?_,Qp.frozen,Qp.cell 0,k3.k.hx.cell 0,k3.k.hr.frozen,k3.k.hr.cell (o:=x) O⟩
 ·refine((ns3.off F4 (λb X=>by simp at X;subst X;exact .inr (.inl ⟨_,_,Qp,by simp[uX]⟩))).off F5 (λb X=>by simp at X;subst X;exact .inl (.inl O))).mono (aL _) (cU F4.size F5.size)
 ·exact((F3.mono (by intro k hk;simp[hk])).trans (F4.mono (by intro k hk;simp at hk;simp[hk]))).trans (F5.mono (by intro k hk;simp at hk;simp[hk]))
 ·rcases List.mem_cons.1 hk with rfl|hk
  ·exact h.bx.AH
  rcases List.mem_cons.1 hk with rfl|hk
  ·exact Row.AH h.k.k.hr rfl
  ·exact Row.AH h.ns.row (hn k hk)
def I1.list(h:I1 w xb W6 W lb h1 nd held a P Ds lv pre nv){w1 w3:UK}(b1:Below W.heap.size W w1)(f3:aA a.ownBlock.toList w1 w3){v':UL}(r3:Row w3 24 1 v' (P.length+1) (fY (P.length*1) lv λ_=>nv))(i3:v'.ownBlock=a.ownBlock\/v'.ownBlock=H w1.heap.size){D:Nat}(hD:W.heap[D]? =H (.deferred (H [])))(hD6:W6.heap.size<=D)(Ae:∀D,D∈Ds->D<W6.heap.size):
 (∀o,w3.frozen? (G (w.heap.size+1) o)=false)/\UJ w3 (G (w.heap.size+1) 0)=H a/\w.heap.size+1<w3.heap.size/\∃lv',K3 w xb (w3.setCell (G (w.heap.size+1) 0) v') w3.heap.size w3.heap.size nd held v' dT dT dT (P++[pre]) [] [] [] (D::Ds) lv':=by
 have kW:=h.k.k.kW;obtain⟨z1,z2,z3,z4⟩:=h.sz;obtain⟨l1,l2,l3⟩:=h.k.lay.le;have ha:∀b,b∈a.ownBlock.toList->a.ownBlock=H b:=λb X=>by simpa using X
 have F1:aA [] W w1:=aA.af b1;have F3:aA a.ownBlock.toList W w3:=(F1.mono ay).trans f3;have ls1:=h.k.lay.ls.off F1 (oF.nil _ _ _ _);have ns1:=h.ns.off F1 (oF.nil _ _ _ _);have ty:∀lo hi,oF w1 lo hi uX a.ownBlock.toList:=λlo hi b X=>by obtain⟨cs,zB⟩:=ls1.row.Tf (ha b X);exact .inr (.inl ⟨_,cs,zB,by simp[uX]⟩)
 have ns3:=ns1.off f3 (ty _ _);have Qo:∀b,v'.ownBlock=H b->b<w3.heap.size:=λb X=>(fE r3 b X).2;have TF:=h.k.k.low;have tJ:vu (xb+1) w3.heap.size v':=λb X=>⟨by
  rcases i3 with h'|h'
  ·exact(ls1.i_ b (by rw[<-h',X])).1
  ·rw[X]at h';simp at h';have:=F1.size;omega,Qo b X⟩
 have l3':=zu.snoc (w:=w1) (w':=w3) ls1 (ns3.mono O F3.size) (by have:=F1.size;omega) f3 (ty _ _) r3 tJ (λb X=>by have:=h.ns.i_ b X;omega);have afY:∀b,b∈a.ownBlock.toList->b∉Ds:=λb X=>h.k.k.sV.not (Row.AH h.k.lay.ls.row (ha b X));have k3:K0 w xb w3 nd held #[a,dT,dT,dT] Ds:=h.k.k.aG F3 (λb X=>(h.k.lay.ls.i_ b (ha b X)).1) (λD hD hc=>afY D hc hD);have hDn:D∉Ds:=λhc=>by have:=Ae D hc;omega
 have hDa:D∉a.ownBlock.toList:=λhc=>by have:=h.k.lay.ls.i_ D (ha D hc);omega
 have hD3:w3.heap[D]? =H (.deferred (H [])):=(F3.block D (Array.getElem?_eq_some_iff.1 hD).1 hDa).trans hD;refine⟨k3.b3.frozen,k3.b3.cell 0,k3.b3.lt,_,K3.of (k3.mark hD3 hDn O) 0 v' rfl ⟨l3',⟨Row.nil _ _ _ _,vu.nil _ _⟩,⟨Row.nil _ _ _ _,vu.nil _ _⟩,⟨Row.nil _ _ _ _,vu.nil _ _⟩,by have:=k3.low;omega,aL _,aL _⟩⟩
end
def K3.free(h:K3 w xb W h1 h2 nd held a b dT dT P fr [] [] Ds lv){w1 w3:UK}(b1:Below W.heap.size W w1)(f3:aA b.ownBlock.toList w1 w3){v':UL}{x:Nat}(r3:Row w3 3 1 v' (fr.length+1) (fY (fr.length*1) (aX (iH fr)) λ_=> Y x))(i3:v'.ownBlock=b.ownBlock\/v'.ownBlock=H w1.heap.size):
 (∀o,w3.frozen? (G (w.heap.size+1) o)=false)/\UJ w3 (G (w.heap.size+1) 1)=H b/\w.heap.size+1<w3.heap.size/\K3 w xb (w3.setCell (G (w.heap.size+1) 1) v') h1 w3.heap.size nd held a v' dT dT P (fr++[x]) [] [] Ds lv:=by
 have kW:=h.k.kW;obtain⟨l1,l2,l3⟩:=h.lay.le;have X:∀k,k∈b.ownBlock.toList->b.ownBlock=H k:=λk hk=>by simpa using hk
 have F1:aA [] W w1:=aA.af b1;have F3:aA b.ownBlock.toList W w3:=(F1.mono ay).trans f3;have Qo:∀k,v'.ownBlock=H k->k<w3.heap.size:=λk hk=>(fE r3 k hk).2;have tJ:vu h1 w3.heap.size v':=λk hk=>⟨by
  rcases i3 with h'|h'
  ·exact(h.lay.fr.i_ k (by rw[<-h',hk])).1
  ·rw[hk]at h';simp at h';have:=F1.size;omega,Qo k hk⟩
 have fr3:eS w3 h1 w3.heap.size v' (iH (fr++[x])):=by rw[Bo];exact eS.snoc h.lay.fr (by rw[fV];exact r3) tJ
 have bD:∀k,k∈b.ownBlock.toList->k∉Ds:=λk hk=>h.k.sV.not (Row.AH h.lay.fr.row (X k hk));have k3:K0 w xb w3 nd held #[a,b,dT,dT] Ds:=h.k.aG F3 (λk hk=>by have:=h.lay.fr.i_ k (X k hk);omega) (λD hD hc=>bD D hc hD);have ls3:=h.lay.ls.off F3 (λk hk=> .inl (.inr (by have:=h.lay.fr.i_ k (X k hk);omega)));refine⟨k3.b3.frozen,k3.b3.cell 1,k3.b3.lt,K3.of k3 1 v' rfl ⟨ls3,fr3,⟨Row.nil _ _ _ _,vu.nil _ _⟩,⟨Row.nil _ _ _ _,vu.nil _ _⟩,l1,by have:=F3.size;omega,aL _⟩⟩
def K3.Y9(h:K3 w xb W h1 h2 nd held a b c d P fr ks ns Ds lv){w1 wy:UK}(F1:aA c.ownBlock.toList W w1)(b2:Below w1.heap.size w1 wy):Row wy 3 1 d ns.length (aX ns):=by
 refine(h.lay.ns.row.aG F1 λk hk hc=>?_).aG (aA.af (S:=[]) b2) ay;rcases Row.ne h.lay.ns.row h.lay.ks.row bd with h'|h'
 ·rw[hk]at h';cases h'
 ·have XH:c.ownBlock=H k:=by simpa using hc
  exact h' (by rw[hk,XH])
def K3.pair(h:K3 w xb W h1 h2 nd held a b c d P fr ks ns Ds lv){w1 wy w2:UK}{v1 v2:UL}{key:Nat}{n:Int}(F1:aA c.ownBlock.toList W w1)(r1:Row w1 46 1 v1 (ks.length+1) (fY (ks.length*1) (pU ks) λ_=> .int .u64 key))(i1:∀k,v1.ownBlock=H k->c.ownBlock=H k\/W.heap.size<=k)
 (b2:Below w1.heap.size w1 wy) (f2:aA d.ownBlock.toList wy w2) (r2:Row w2 3 1 v2 (ns.length+1) (fY (ns.length*1) (aX ns) λ_=> Y n)) (i2:v2.ownBlock=d.ownBlock\/v2.ownBlock=H wy.heap.size):
 (∀o,w2.frozen? (G (w.heap.size+1) o)=false)/\UJ w2 (G (w.heap.size+1) 2)=H c/\UJ w2 (G (w.heap.size+1) 3)=H d/\w.heap.size+1<w2.heap.size/\
   K3 w xb ((w2.setCell (G (w.heap.size+1) 2) v1).setCell (G (w.heap.size+1) 3) v2) h1 h2 nd held a b v1 v2 P fr (ks++[key]) (ns++[n]) Ds lv/\
   aA ((w.heap.size+1)::(c.ownBlock.toList++d.ownBlock.toList)) W ((w2.setCell (G (w.heap.size+1) 2) v1).setCell (G (w.heap.size+1) 3) v2)/\∀k,k∈(w.heap.size+1)::(c.ownBlock.toList++d.ownBlock.toList)->Mk.On W k:=by
 have kW:=h.k.kW;obtain⟨l1,l2,l3⟩:=h.lay.le;have hc:∀k,k∈c.ownBlock.toList->c.ownBlock=H k:=λk hk=>by simpa using hk
 have hd:∀k,k∈d.ownBlock.toList->d.ownBlock=H k:=λk hk=>by simpa using hk
 have F2:aA (c.ownBlock.toList++d.ownBlock.toList) W w2:=((F1.trans (aA.af (S:=c.ownBlock.toList) b2)).mono (by intro k hk;simp at hk;simp[hk])).trans (f2.mono (by intro k hk;simp at hk;simp[hk]));have fD:∀k,k∈c.ownBlock.toList++d.ownBlock.toList->h2<=k/\Mk.On W k:=λk hk=>by
  rcases List.mem_append.1 hk with hk|hk
  ·exact⟨(h.lay.ks.i_ k (hc k hk)).1,Row.AH h.lay.ks.row (hc k hk)⟩
  ·exact⟨(h.lay.ns.i_ k (hd k hk)).1,Row.AH h.lay.ns.row (hd k hk)⟩
 have lt1:∀k,v1.ownBlock=H k->k<w1.heap.size:=λk hk=>(fE r1 k hk).2;have lt2:∀k,v2.ownBlock=H k->k<w2.heap.size:=λk hk=>(fE r2 k hk).2;have Eu:w1.heap.size<=wy.heap.size:=b2.size;have s22:wy.heap.size<=w2.heap.size:=f2.size;have s01:W.heap.size<=w1.heap.size:=F1.size;have r1y:=r1.aG (aA.af (S:=[]) b2) ay;have rNy:=h.Y9 F1 b2;have r12:Row w2 46 1 v1 (ks.length+1) (fY (ks.length*1) (pU ks) λ_=> .int .u64 key):=r1y.aG f2 (λk hk XH=>by
  rcases Row.ne r1y rNy bd with h'|h'
  ·rw[hk]at h';cases h'
  ·exact h' (by rw[hk,hd k XH]))
 have k2:lV w2 h2 w2.heap.size v1 (ks++[key]):=lV.snoc h.lay.ks r12 (λk hk=>⟨by
  rcases i1 k hk with h'|h'
  ·exact(h.lay.ks.i_ k h').1
  ·omega,by have:=lt1 k hk;omega⟩)
 have n2:eS w2 h2 w2.heap.size v2 (ns++[n]):=eS.snoc h.lay.ns r2 (λk hk=>⟨by
  rcases i2 with h'|h'
  ·exact(h.lay.ns.i_ k (by rw[<-h',hk])).1
  ·rw[hk]at h';simp at h';omega,lt2 k hk⟩)
 have ls2:=h.lay.ls.off F2 (λk hk=> .inl (.inr (by have:=(fD k hk).1;omega)));have fr2:=h.lay.fr.off F2 (λk hk=> .inl (.inr (fD k hk).1));have Gq:K0 w xb w2 nd held #[a,b,c,d] Ds:=h.k.aG F2 (λk hk=>by have:=(fD k hk).1;omega) (λD hD hk=>h.k.sV.not (fD D hk).2 hD);have e1:=K3.of Gq 2 v1 (a':=a) (b':=b) (c':=v1) (d':=d) rfl (lv':=lv) (h1':=h1) (h2':=h2) (P':=P) (fr':=fr) (ks':=ks++[key]) (ns':=[]);have F4:aA [w.heap.size+1] w2 (w2.setCell (G (w.heap.size+1) 2) v1):=(aA.refl _ w2).setCell ay _;have F5:aA [w.heap.size+1] (w2.setCell (G (w.heap.size+1) 2) v1) ((w2.setCell (G (w.heap.size+1) 2) v1).setCell (G (w.heap.size+1) 3) v2):=(aA.refl _ _).setCell ay _;have kk4:=(Gq.set 2 v1).set 3 v2;clear e1;have oo:∀(wz:UK) lo hi Es,xb+1<=lo->oF wz lo hi Es [w.heap.size+1]:=λwz lo hi Es hl k hk=>by simp at hk;subst hk;exact .inl (.inl O)
 have aeD:mj w2 (xb+1) h1 h2 w2.heap.size a b v1 v2 ⟨P,fr,ks++[key],ns++[n]⟩ lv:=⟨ls2,fr2,k2,n2,l1,l2,O⟩;refine⟨Gq.b3.frozen,Gq.b3.cell 2,Gq.b3.cell 3,Gq.b3.lt,⟨kk4,((aeD.off F4 (oo _ _ _ _ (aL _))).off F5 (oo _ _ _ _ (aL _))).mono (cU F4.size F5.size)⟩,?_,λk hk=>?_⟩
 ·exact((F2.mono (by intro k hk;simp at hk ⊢;exact .inr hk)).trans (F4.mono (by intro k hk;simp at hk;simp[hk]))).trans (F5.mono (by intro k hk;simp at hk;simp[hk]))
 ·rcases List.mem_cons.1 hk with rfl|hk
  ·exact h.k.b3.AH
  ·exact(fD k hk).2
end
open eB (Eh wG wS rowsOf)
open Ix (jQ)
open gR (wF dM BO)
attribute [local go_sem] Oper.semAt_some
def iP(s:St)(q n:Nat):Bool:=(List.range q).any λi=>(s.a.ls i).contains n
def abS(s:St)(q n:Nat):iP s (q+1) n=(iP s q n||(s.a.ls q).contains n):=by unfold iP;rw[List.range_succ];simp
def sP{M:Nat}:∀(k:Nat) (f:Nat->Nat),(∀i,i<k->f i<=M)->cT k f<=k*M
 |0,_,_=>by simp[cT]
 |k+1,f,h=>by have h1:=sP k f (λi hi=>h i O);have h2:=h k O;rw[cT,Nat.succ_mul];omega
def abR(l:List Nat)(x n:Nat):(l++[x]).contains n=(l.contains n||n==x):=by rw[pO];simp
def mj.lower{w:UK}{lo tZ h1 h2 hi:Nat}{a b c d:UL}{L:PL}{lv:Nat->UL}(h:mj w lo h1 h2 hi a b c d L lv)(hh:tZ<=lo):mj w tZ h1 h2 hi a b c d L lv:=
 ⟨h.ls.mono hh (aL _),h.fr,h.ks,h.ns,cU hh h.le.1,h.le.2⟩
def gY(p:aQ)(s:St)(nd k:Nat):List Nat:=(List.range k).filter λn=> !(iP s p.bw.length n)
def C_(p:aQ)(s:St)(nd:Nat)(L:List (Nat×Nat)):PL:=⟨(List.range p.bw.length).map s.a.ls,gY p s nd nd,L.map (·.1),iH (L.map (·.2))⟩
def ul(w:UK)(p:aQ)(s:St)(nd:Nat)(e:Ending)(w':UK):Prop:=
 ∃L a b c d h1 h2 lv,jQ s.f L/\e=C8 (.agg #[a,b,c,d])/\Below w.heap.size w w'/\mj w' w.heap.size h1 h2 w'.heap.size a b c d (C_ p s nd L) lv
def abQ:(prog.info? 24).map (λi=>(i.zero,i.size,i.bytes))=H (H Pl,1,24):=by kernel_rfl
def vp:(prog.info? 46).map (λi=>(i.zero,i.size,i.bytes))=H (H (.int .u64 0),1,8):=by kernel_rfl
def FrL(w:UK)(xb mb nq q:Nat)(Ds:List Nat)(a:Act):Prop:=∃J:Nat->UL,a={tmps:=#[UI mb,J 1,UI w.heap.size,UI (w.heap.size+1),UI xb,J 5,J 6,J 7,J 8,J 9,J 10,J 11,J 12,J 13,J 14,J 15,J 16,J 17,J 18,J 19,J 20,J 21,Y nq,Y q,J 24,J 25,J 26,J 27,J 28,J 29,J 30,J 31,J 32,J 33,J 34,J 35,J 36,J 37,J 38,J 39,J 40,J 41,J 42,J 43,J 44,J 45,J 46,J 47,J 48,J 49,J 50,J 51,J 52,J 53,J 54,J 55,J 56,J 57,J 58,J 59,J 60,J 61,J 62,J 63,J 64,J 65,J 66,J 67,J 68,J 69,J 70,J 71,J 72,J 73,J 74,J 75,J 76,J 77,J 78,J 79,J 80,J 81,J 82,J 83],defers:=Mk.marksOf Ds}
def FrM(w:UK)(xb lb x:Nat)(a:Act):Prop:=∃J:Nat->UL,a={tmps:=#[J 0,J 1,UI w.heap.size,UI (w.heap.size+1),UI xb,J 5,UI lb,Y x,J 8,J 9,J 10,J 11,J 12,J 13,J 14,J 15,J 16,J 17,J 18,J 19,J 20,J 21,J 22,J 23,J 24,J 25,J 26,J 27,J 28,J 29,J 30,J 31,J 32,J 33,J 34,J 35,J 36,J 37,J 38,J 39,J 40,J 41,J 42,J 43,J 44,J 45,J 46,J 47,J 48,J 49,J 50,J 51,J 52,J 53,J 54,J 55,J 56,J 57,J 58,J 59,J 60,J 61,J 62,J 63,J 64,J 65,J 66,J 67,J 68,J 69,J 70,J 71,J 72,J 73,J 74,J 75,J 76,J 77,J 78,J 79,J 80,J 81,J 82,J 83],defers:=[]}
def FrN(w:UK)(xb mb nd k:Nat)(Ds:List Nat)(a:Act):Prop:=∃J:Nat->UL,a={tmps:=#[UI mb,J 1,UI w.heap.size,UI (w.heap.size+1),UI xb,J 5,J 6,J 7,J 8,J 9,J 10,J 11,J 12,J 13,J 14,J 15,J 16,J 17,J 18,J 19,J 20,J 21,J 22,J 23,J 24,J 25,J 26,J 27,J 28,J 29,J 30,J 31,J 32,J 33,J 34,J 35,J 36,J 37,J 38,J 39,J 40,J 41,J 42,J 43,J 44,J 45,J 46,J 47,to (H (G (w.heap.size+2) 0)) nd nd,Y nd,Y k,J 51,J 52,J 53,J 54,J 55,J 56,J 57,J 58,J 59,J 60,J 61,J 62,J 63,J 64,J 65,J 66,J 67,J 68,J 69,J 70,J 71,J 72,J 73,J 74,J 75,J 76,J 77,J 78,J 79,J 80,J 81,J 82,J 83],defers:=Mk.marksOf Ds}
def FrO(w:UK)(x:Nat)(y:Int)(a:Act):Prop:=∃J:Nat->UL,a={tmps:=#[J 0,J 1,UI w.heap.size,UI (w.heap.size+1),J 4,J 5,J 6,J 7,J 8,J 9,.int .u64 x,Y y,J 12,J 13,J 14,J 15,J 16,J 17,J 18,J 19,J 20,J 21,J 22,J 23,J 24,J 25,J 26,J 27,J 28,J 29,J 30,J 31,J 32,J 33,J 34,J 35,J 36,J 37,J 38,J 39,J 40,J 41,J 42,J 43,J 44,J 45,J 46,J 47,J 48,J 49,J 50,J 51,J 52,J 53,J 54,J 55,J 56,J 57,J 58,J 59,J 60,J 61,J 62,J 63,J 64,J 65,J 66,J 67,J 68,J 69,J 70,J 71,J 72,J 73,J 74,J 75,J 76,J 77,J 78,J 79,J 80,J 81,J 82,J 83],defers:=[]}
def Gr(w:UK)(c d:UL)(wx:UK):Prop:=UJ wx (G (w.heap.size+1) 2)=H c/\UJ wx (G (w.heap.size+1) 3)=H d
def Gr.aG{w W W':UK}{c d:UL}(h:Gr w c d W){T:List Nat}(f:aA T W W')(h1:w.heap.size+1∉T):Gr w c d W':=by obtain⟨a1,a2⟩:=h;exact⟨(dN (f.block _ (aH a1) h1)).trans a1,(dN (f.block _ (aH a2) h1)).trans a2⟩
def Gr.alloc{w W:UK}{c d:UL}(h:Gr w c d W)(o:Obj):Gr w c d (W.alloc o):=h.aG ((aA.refl [] W).alloc o) ay
section
variable {w W W':UK}{xb h1 h2 nd:Nat}{held:Nat->Bool}{a b c d:UL}{P:List (List Nat)}{fr ks:List Nat}{ns:List Int}{Ds:List Nat}{lv:Nat->UL}
def K3.up(h:K3 w xb W h1 h2 nd held a b dT dT P fr [] [] Ds lv):K3 w xb W h1 W.heap.size nd held a b dT dT P fr [] [] Ds lv:=
 ⟨h.k,⟨h.lay.ls,h.lay.fr.mono (aL _) h.lay.le.2.2,⟨Row.nil _ _ _ _,vu.nil _ _⟩,⟨Row.nil _ _ _ _,vu.nil _ _⟩,h.lay.le.1,cU h.lay.le.2.1 h.lay.le.2.2,aL _⟩⟩
def K3.lst(h:K3 w xb W h1 h2 nd held a b c d P fr ks ns Ds lv):Gr w c d W:=⟨h.k.b3.cell 2,h.k.b3.cell 3⟩
structure Keyed(w:UK)(xb:Nat)(W w1:UK)(h1 h2 nd:Nat)(held:Nat->Bool)(a b c d v1:UL)(P:List (List Nat))(fr ks:List Nat)(ns:List Int)(Ds:List Nat)(lv:Nat->UL)(key:Nat)(n:Int)(FB:List Nat)(B:Nat):Prop where
 at_:∀wy,Below w1.heap.size w1 wy->Gr w c d wy/\Row wy 3 1 d ns.length (aX ns)
 fin:∀wy,Below w1.heap.size w1 wy->∀v2 w2,Row w2 3 1 v2 (ns.length+1) (fY (ns.length*1) (aX ns) λ_=> Y n)->aA d.ownBlock.toList wy w2->(v2.ownBlock=d.ownBlock\/v2.ownBlock=H wy.heap.size)->
  Gr w c d w2/\(∀o,w2.frozen? (G (w.heap.size+1) o)=false)/\w.heap.size+1<w2.heap.size/\
   KeepsFrom B W ((w2.setCell (G (w.heap.size+1) 2) v1).setCell (G (w.heap.size+1) 3) v2)/\wF FB W ((w2.setCell (G (w.heap.size+1) 2) v1).setCell (G (w.heap.size+1) 3) v2)/\
   K3 w xb ((w2.setCell (G (w.heap.size+1) 2) v1).setCell (G (w.heap.size+1) 3) v2) h1 h2 nd held a b v1 v2 P fr (ks++[key]) (ns++[n]) Ds lv
def K3.keyed(h:K3 w xb W h1 h2 nd held a b c d P fr ks ns Ds lv){V w1:UK}(b1:Below W.heap.size W V){v1:UL}{key:Nat}(n:Int)(r1:Row w1 46 1 v1 (ks.length+1) (fY (ks.length*1) (pU ks) λ_=> .int .u64 key))(f1:aA c.ownBlock.toList V w1)(i1:v1.ownBlock=c.ownBlock\/v1.ownBlock=H V.heap.size)
 {FB:List Nat} (Qq:∀k,k∈FB->k<W.heap.size/\k<h2/\k≠w.heap.size+1) (B:Nat):Gr w c d w1/\Keyed w xb W w1 h1 h2 nd held a b c d v1 P fr ks ns Ds lv key n FB B:=by
 have kW:=h.k.kW;obtain⟨l1,l2,l3⟩:=h.lay.le;have F0:aA c.ownBlock.toList W V:=aA.af b1;have F1:aA c.ownBlock.toList W w1:=F0.trans f1;have nc:w.heap.size+1∉c.ownBlock.toList:=λhc=>by have:=h.lay.ks.i_ _ (by simpa using hc);omega
 have nd':w.heap.size+1∉d.ownBlock.toList:=λhc=>by have:=h.lay.ns.i_ _ (by simpa using hc);omega
 have s1:=h.lst.aG F1 nc;have abP:∀wy,Below w1.heap.size w1 wy->Gr w c d wy:=λwy b2=>s1.aG (aA.af (S:=[]) b2) ay;refine⟨s1,λwy b2=>⟨abP wy b2,h.Y9 F1 b2⟩,λwy b2 v2 w2 r2 f2 i2=>?_⟩;obtain⟨p1,p2,p3,p4,p5,p6,p7⟩:=h.pair F1 r1 (λk hk=>by
  rcases i1 with h'|h'
  ·exact .inl (by rw[<-h',hk])
  ·rw[hk]at h';simp at h';subst h';exact .inr F0.size) b2 f2 r2 i2
 refine⟨⟨p2,p3⟩,p1,p4,vo p6 p7 B,λk hk=>p6.block k (Qq k hk).1 (λhc=>?_),p5⟩;obtain⟨q1,q2,q3⟩:=Qq k hk;rcases List.mem_cons.1 hc with hc|hc
 ·exact q3 hc
 rcases List.mem_append.1 hc with hc|hc
 ·have:=h.lay.ks.i_ k (by simpa using hc);omega
 ·have:=h.lay.ns.i_ k (by simpa using hc);omega
def acO(w:UK)(xb mb nd:Nat)(p:aQ)(s:St)(m:Nat)(a:Act)(W:UK):Prop:=
 ∃(q:Nat) (Ds:List Nat) (av:UL) (lv:Nat->UL) (h1:Nat),q<=p.bw.length/\m+q=p.bw.length+1/\FrL w xb mb p.bw.length q Ds a/\Hid (K3 w xb W h1 h1 nd (iP s q) av dT dT dT ((List.range q).map s.a.ls) [] [] [] Ds lv)
def acP(w:UK)(xb mb nd:Nat)(p:aQ)(s:St)(m:Nat)(a:Act)(W:UK):Prop:=
 ∃(k:Nat) (Ds:List Nat) (av bv:UL) (lv:Nat->UL) (h1 h2:Nat),k<=nd/\m+k=nd+1/\FrN w xb mb nd k Ds a/\Hid (K3 w xb W h1 h2 nd (iP s p.bw.length) av bv dT dT ((List.range p.bw.length).map s.a.ls) (gY p s nd k) [] [] Ds lv)
end
section
variable {w w':UK}{C C':Co}{RO RO':List Nat}{K:Kc}{p:aQ}{c:Cp}{t t':dZ}{used used':Int}{s s':St}{rv rv':UL}
def Z6{p:Prop}(h:p:=by
 intro wz fj
 (try dsimp only at fj)
 exact qj):p:=h
def CJ{p:Prop}(h:p:=by
 intro v2 w2 r2 f2 i2;obtain⟨WU,WV,WW,rfl⟩:=Row.mG r2;obtain⟨RI,ff,QN,gm,jZ,l8⟩:=M8.o.fin w1 (aB _ _) _ w2 r2 f2 i2;exact Mp):p:=h
def Mp{p:Prop}(h:p:=by
 obtain⟨e2,e3⟩:=id RI;have E7:=Z gm;have Ay:=Z jZ;have Dl:=Z l8;clear r2 f2 i2 gm jZ l8;clear au;refine hK.out _ _ ⟨trivial,RI⟩ (λau=>?_);clear hK K;refine Mk.pt ?_;refine Gd.ready (rs:=[11]) bh ay ?_;refine Gd.eC.last rfl bh (λK hK=>?_) Gd.eC.nil;refine fH ?_;go_simp;refine hK.out _ _ trivial ?_;clear hK K;refine Mk.pt ?_;refine Gd.ready (rs:=[12]) bh ay ?_;refine Gd.eC.last rfl bh (λK hK=>?_) Gd.eC.nil;refine fH ?_;go_simp;refine hK.out _ _ trivial ?_;clear hK K;refine Mk.pt ?_;refine Gd.ready (rs:=[13]) bh ay ?_;refine Gd.eC.last rfl bh (λK hK=>?_) Gd.eC.nil;refine fH ?_;go_simp;refine hK.out _ _ trivial ?_;clear hK K;refine Mk.pt ?_;refine Gd.done bh ⟨rfl,?_⟩ _;clear e2 e3 ff QN RI
 gi_wp2_with fail
 exact⟨E7.o,Ay.o,_,_,by rw[List.map_append,List.map_append,HPK.o,HPN.o];exact Dl.o⟩):p:=h
def acq(h:Mx w C RO K p c s t used rv)(tb:tM p)(gP:K.nd<=4194304):
 Calls prog 19 #[UI C.mb] w (ul w p s K.nd):=by
 have m8:UJ w (G C.mb 8)=H (Y K.nd):=h.m.bg.cell 8;have lm:=h.m.bg.lt;have a0f:=Z h;have HT:=Z tb;have zt:=tb.g;obtain⟨ga,gn,gc,lG⟩:=Row.mG h.m.prog.g;have AB:gn=p.bw.length:=by
  rcases h.m.prog.g.val with⟨h,h'⟩|⟨b,cap,h,-⟩
  ·rw[lG]at h;simp at h;omega
  ·rw[lG]at h;simp at h;omega
 obtain rfl:=AB;have HGV:=Z lG;have HN:=Z (show 1*K.nd<=281474976710656/\K.nd<=maxLen by unfold maxLen;omega);clear h tb lG;generalize Mo:K.nd=nd at*;have Un:=Z Mo;clear Mo;refine(callsIn_wide (n:=9)).1 ?_;refine callsIn_of_wp_marks func19 rfl trivial ?_ rfl;simp only[ntmps19,List.size_toArray,List.length_cons,List.length_nil,Nat.reduceAdd,Nat.reduceSub,Array.replicate_succ,Array.replicate_zero,List.push_toArray,List.append_toArray,List.nil_append,List.cons_append];refine wpIn_wide.2 ?_;go_wp2_with (refine jr rfl (.tmp 15) (.tmp 15) 22 rfl 4 underlying22 Vf.sK rfl .i64 .i64 _ _ nd rfl rfl rfl rfl HN.o.1 HN.o.2 ?_);intro w2 bo Uo;have dC:Below w.heap.size w w2:=(((aB _ w).alloc (aL _) _).alloc ay _).trans (Uo.mono O);have kb2:aF w2 w.heap.size 52 #[dT,dT,dT,dT]:=((aF.new w _ _).alloc _).of (Uo.block _ O);have kb3:aF w2 (w.heap.size+1) 52 #[dT,dT,dT,dT]:=by have:=aF.new (w.alloc (QP #[dT,dT,dT,dT] 52)) 52 #[dT,dT,dT,dT];rw[aM]at this;exact this.of (Uo.block _ O)
 have pZ:w.heap.size+2<w2.heap.size:=by have:=(fE bo (w.heap.size+1+1) rfl).2;omega
 have k3:K3 w w2.heap.size (w2.alloc (QP #[to (H (G (w.heap.size+2) 0)) nd nd] 22)) (w2.heap.size+1) (w2.heap.size+1) nd (iP s 0) dT dT dT dT [] [] [] [] [] (λ_=>dT):=by refine⟨⟨dC.alloc dC.size _,ay,pZ,kb2.alloc _,kb3.alloc _,(bo.alloc _).congr (λo ho=>by simp[iP]),aF.new w2 _ _,Mk.Marks.nil _,ay⟩,?_⟩;refine⟨⟨Row.nil _ _ _ _,vu.nil _ _,λq hq=>absurd hq ay,λq q' hq=>absurd hq ay⟩,⟨Row.nil _ _ _ _,vu.nil _ _⟩,⟨Row.nil _ _ _ _,vu.nil _ _⟩,⟨Row.nil _ _ _ _,vu.nil _ _⟩,aL _,aL _,ay⟩
 have Dw:=Z k3;have m0:UJ w2 (G C.mb 0)=H (to ga p.bw.length gc):=by rw[<-HGV.o];exact(a0f.o.later dC).m.bg.cell 0
 have ZP:C.mb<w2.heap.size:=O;clear bo Uo dC kb2 kb3 pZ k3 m8;go_wp2;refine Mk.aN (acO w w2.heap.size C.mb nd p s) (p.bw.length+1) ?start ?zero ?round
 case start=>exact⟨0,[],_,_,_,cK _,O,qi rfl,Dw⟩
 case zero=>exact λa W hh=>by obtain⟨q,_,_,_,_,h1,h2,_⟩:=hh;omega
 clear Dw m0 ZP HN;generalize w2.heap.size=xb;clear w2
 case round=>
  rintro m a W ⟨q,Ds,av,lv,h1,hq,hm,⟨J,rfl⟩,hk⟩;have MW:=a0f.o.later hk.o.k.rO;have ZP:C.mb<W.heap.size:=MW.m.bg.lt;have kW:=hk.o.k.kW;by_cases be:q<p.bw.length
  ·have m9:UJ W (G C.mb 9)=H (UI C.ab):=MW.m.bg.cell 9;obtain⟨wA,Qt⟩:∃wA,wA=W.alloc (QP #[Pl] 24):=⟨_,rfl⟩;have bA:Below W.heap.size W wA:=by rw[Qt];exact(aB _ _).alloc (aL _) _
   have Ke:=Z (MW.later bA);have RJ:=Z (hk.o.later bA);have kw:wA.heap.size=W.heap.size+1:=by rw[Qt];simp
   have kl:aF wA W.heap.size 24 #[Pl]:=by rw[Qt];exact aF.new W _ _
   have HL:=Z (eB.VL Ke.o.m.ar (by rw[Un.o];exact gP) be);have Xa:=Z kl;have jo:=hk.o.lay.le;have zH:=Z kw;clear MW bA kw kl;go_wp2_with fail;rw[<-Qt];clear Qt;refine HL.o.mono ?_;rintro e w6 ⟨rfl,Qu,AR⟩;have VF:W.heap.size+1=wA.heap.size:=zH.o.symm;have TF:=hk.o.k.low;generalize W.heap.size=lb at*;have oM:=Ke.o.m.ar.tB be;have hlen:(rowsOf s.a (s.a.ls q)).length<=4194304:=by rw[eB.kR];have:=oM.1;rw[Un.o]at this;omega
   have fD:∀y,y∈rowsOf s.a (s.a.ls q)->y.1<nd:=by intro y hy;unfold rowsOf at hy;obtain⟨n,hn,rfl⟩:=List.mem_map.1 hy;obtain⟨_,_,a1d,-,g1,g2,-⟩:=Ke.o.m.ar.node be hn;rw[Un.o]at g2;exact eJ g1 g2
   have b6:=AR.rO;have Qv:wA.heap.size<w6.heap.size:=AR.box.lt;have HR6:=Z (wS AR);have uS:∀k,k∈dM Qu->wA.heap.size<=k/\k<w6.heap.size:=by
    intro k hk;rcases AR.own.2 with⟨rfl,_⟩|⟨g,cap,zF,rfl,g1,g2,_⟩
    ·simp[dM]at hk
    ·simp[dM]at hk;subst hk;exact⟨g1,(Array.getElem?_eq_some_iff.1 g2).1⟩
   have Qw:(rowsOf s.a (s.a.ls q)).attach.map (λy=>y.val)=rowsOf s.a (s.a.ls q):=List.attach_map_subtype_val _;have oC:(rowsOf s.a (s.a.ls q)).attach.map (λy=>y.val.1)=s.a.ls q:=by
    have e1:(rowsOf s.a (s.a.ls q)).attach.map (λy=>y.val.1)=((rowsOf s.a (s.a.ls q)).attach.map (λy=>y.val)).map (·.1):=by rw[List.map_map];rfl
    rw[e1,Qw];unfold rowsOf;rw[List.map_map];exact List.map_id _
   have Fw:=Z (eB.abX (α:={y // y∈rowsOf s.a (s.a.ls q)}) (λy=>y.val) Fence.wide 8 trivial rfl O wA.heap.size wA.heap.size Qu (rowsOf s.a (s.a.ls q)).attach (by rw[List.length_attach];omega) w6 AR.box (by rw[Qw];exact HR6.o) (λk hk=>(uS k hk).2));have No:=Z (RJ.o.later b6);have Ng:=Z (Xa.o.of (b6.block _ O));have HLS:=Z oC;have aeX:(rowsOf s.a (s.a.ls q)).attach.length<=4194304:=by rw[List.length_attach];exact hlen
   have me:=Z fD;have Ae:∀D,D∈Ds->D<w6.heap.size:=λD hD=>No.o.k.sV.lt hD;have Up:=Z Ae;clear oC Qw AR b6 HL RJ Xa Ke HR6 oM fD Ae hlen;generalize(rowsOf s.a (s.a.ls q)).attach=L at*;go_wp2_with fail;refine(wpIn_wide (n:=9)).1 ?_;refine wpIn_rangeFunc_ownH (n:=9) (F:=Fence.wide) rfl O (gf:=136) (lb:=#[UI wA.heap.size]) rfl trivial (Proofs.enters_of func136 bh rfl) Fw.o wF.t
    (wF.b (by intro k hk;rcases List.mem_cons.1 hk with rfl|hk;exact Qv;exact(uS k hk).2)) (aB _ _) (λ_=>rfl)
    (λpre W=>∃nv,Hid (I1 w xb w6 W lb h1 nd (λn=>iP s q n||(pre.map λy=>y.val.1).contains n) av ((List.range q).map s.a.ls) Ds lv (pre.map λy=>y.val.1) nv))
    (λc pre W=>False) ?hI ?hIx ?h0 (λx a' W=>FrM w xb lb x.val.1 a') (λx a' _ W W' row hs hg hr=>hs) ?assign ?body ?done ?stop
   case hI=>exact λpre W W' row ⟨nv,hh⟩ hg hr=>⟨nv,hh.o.grown Up.o hg hr⟩
   case hIx=>exact λc pre W W' row hh _ _=>hh
   case h0=>exact⟨dT,⟨by have h6:=No.o;exact⟨h6.k.Qm (λn _=>by simp),h6.lay⟩,Ng.o,⟨Row.nil _ _ _ _,vu.nil _ _⟩,O,O,O,aL _⟩⟩
   case assign=>
    rintro l pre x W K ⟨nv,jh⟩ hK
    gi_wp2
    exact hK _ _ (KeepsFrom.refl _ _) (λ_ _=>rfl) ⟨nv,jh⟩ (qi rfl)
   case stop=>exact λD c pre W _ _ hh _=>absurd hh ay
   case body=>
    rintro l pre ⟨x,hx⟩ a' W hl hr ⟨nv,jh⟩ ⟨J2,rfl⟩ pZ;dsimp only;have hxn:=me.o x hx;generalize Um:x.1=xn at*;have HXE:=Z Um;clear Um;have c6:=jh.o.bx.c1;have abI:=jh.o.bx.lt;have bB:Below W.heap.size W (W.alloc (QP #[Y xn] 3)):=(aB _ _).alloc (aL _) _;have hpl:(pre.map (λy=>y.val.1)).length<L.length:=by rw[List.length_map];exact pZ
    generalize Ra:pre.map (λy=>y.val.1)=lp at*;have HPE:=Z Ra;have pY:=Z (show Row (W.alloc (QP #[Y xn] 3)) 3 1 nv lp.length (aX (iH lp))by have:=jh.o.ns.row.aG (aA.af (S:=[]) bB) ay;rw[fV]at this;exact this);have sD:=Z (show lp.length+1<=maxLen/\(lp.length+1)*8<=140737488355328 by unfold maxLen;omega);have XW:=λv' w3 r3 f3 i3=>jh.o.next (w1:=W.alloc (QP #[Y xn] 3)) (w3:=w3) (v':=v') (x:=xn) bB f3 hxn r3 i3;have GU:=Z XW;have hKB:∀k,k∈wA.heap.size::dM Qu->k<W.heap.size/\k≠lb/\k≠w.heap.size+2/\nv.ownBlock≠H k:=by
     intro k hk;have z:=jh.o.sz;have jZ:wA.heap.size<=k/\k<w6.heap.size:=by
      rcases List.mem_cons.1 hk with rfl|hk
      ·exact⟨aL _,Qv⟩
      ·exact uS k hk
     exact⟨O,O,O,λe=>by have:=jh.o.ns.i_ k e;omega⟩
    have SF:=Z hKB;clear Ra XW hKB bB jh pZ
    gi_wp2_with (gi_at_builtin;refine acD rfl _ _ 24 rfl 3 underlying24 Vf.ck rfl bd nv lp.length (aX (iH lp)) rfl pY.o (G W.heap.size 0) 1 1 (λ_=> Y xn) rfl ?zZ ?Ut ?Da ?Ii ?_)
    case zZ=>intro j hj;obtain rfl:j=0:=O;exact(aF.new W 3 #[Y xn]).cell 0
    case Ut=>exact λj _=>rfl
    case Da=>exact sD.o.1
    case Ii=>exact sD.o.2
    intro v' w3 r3 f3 i3;obtain⟨va3,vn3,vc3,rfl⟩:=Row.mG r3;obtain⟨n1,n2,n3,n4,n5,n6,n7,n8⟩:=GU.o _ w3 (by rw[Nat.mul_one];exact r3) f3 (by rw[aM];exact i3);have N1:=Z n1;have N2:=Z n2;have N3:=Z n3;have nne:lb≠w.heap.size+2:=O;have afk:lb≠xb:=O;clear r3 f3 i3 n1 n2 n3 c6 abI
    gi_wp2_with fail
    refine⟨vo N2.o N3.o _,λk hk=>N2.o.block k (SF.o k hk).1 (λhc=>?_),to va3 vn3 vc3,?_⟩
    ·obtain⟨-,g2,g3,g4⟩:=SF.o k hk;simp only[fh,Option.mem_toList]at hc;rcases hc with hc|hc|hc
     ·exact g2 hc
     ·exact g3 hc
     ·exact g4 hc
    ·have h9:=N1.o;rw[List.map_append,HPE.o,List.map_cons,List.map_nil,HXE.o];exact⟨⟨h9.k.k.Qm (λn _=>by rw[abR,Bool.or_assoc]),h9.k.lay⟩,h9.bx,h9.ns,h9.sz⟩
   case done=>
    rintro D ys W hD rfl ⟨nv,jh⟩ Xb;rw[HLS.o]at jh;have r0:=jh.o.k.k.b3.c1;have r1:=jh.o.bx.c1;have l3:=jh.o.k.k.b3.lt;have l4:=jh.o.bx.lt;have lsl:w.heap.size+1≠lb:=O;have bB:Below W.heap.size W (W.alloc (QP #[nv] 24)):=(aB _ _).alloc (aL _) _;have bo:=jh.o.k.lay.ls.row.aG (aA.af (S:=[]) bB) (λ_ _=>by simp);have Z7:((List.range q).map s.a.ls).length=q:=by simp
    dsimp only at bo;rw[Z7]at bo;have pY:=Z bo;obtain⟨ea,en,ec,rfl⟩:=Row.mG jh.o.ns.row;have Ro:=Z (show q+1<=maxLen/\(q+1)*24<=140737488355328 by unfold maxLen;omega);have DA:=λv' w3 r3 f3 i3=>jh.o.list (w1:=W.alloc (QP #[to ea en ec] 24)) (w3:=w3) (v':=v') bB f3 r3 i3 Xb hD Up.o;rw[Z7]at DA;have Dl:=Z DA;clear jh bo bB DA Z7 Xb Fw HLS;go_wp2_with (at_builtin;refine bX rfl _ _ 50 rfl 24 underlying50 abQ rfl bd av q lv rfl pY.o (G W.heap.size 0) 1 1 (λ_=> to ea en ec) rfl ?zZ ?Ut ?Da ?Ii ?_)
    case zZ=>intro j hj;obtain rfl:j=0:=O;exact(aF.new W 24 #[to ea en ec]).cell 0
    case Ut=>exact λj _=>rfl
    case Da=>exact Ro.o.1
    case Ii=>exact Ro.o.2
    intro v' w3 r3 f3 i3;obtain⟨va3,vn3,vc3,rfl⟩:=Row.mG r3;obtain⟨g1,g2,g3,lv',g4⟩:=Dl.o _ w3 (by rw[Nat.mul_one];exact r3) f3 (by rw[aM];exact i3);have HG:=Z g4;clear r3 f3 i3 g4;go_wp2;refine⟨q+1,D::Ds,to va3 vn3 vc3,lv',w3.heap.size,O,O,qi rfl,Z ?_⟩;have h9:=HG.o;rw[List.range_succ,List.map_append];exact⟨h9.k.Qm (λn _=>(abS s q n).symm),h9.lay⟩
  ·obtain rfl:q=p.bw.length:=O;have x0:=hk.o.k.hx.c1;have lx:=hk.o.k.hx.lt;clear MW;go_wp2_with fail;have K0':Hid (K3 w xb W h1 h1 nd (iP s p.bw.length) av dT dT dT ((List.range p.bw.length).map s.a.ls) (gY p s nd 0) [] [] Ds lv):=hk;refine Mk.aN (acP w xb C.mb nd p s) (nd+1) ?yX ?E8 ?yY
   case yX=>exact⟨0,Ds,_,_,lv,_,_,cK _,O,qi rfl,K0'⟩
   case E8=>exact λa W hh=>by obtain⟨q,_,_,_,_,_,_,h1,h2,_⟩:=hh;omega
   clear K0' x0 lx hk ZP
   case yY=>
    rintro m2 a2 W2 ⟨k,Xc,av2,bv,Ze,g1,g2,gm,jZ,⟨J2,rfl⟩,wC⟩;have x1:UJ W2 (G (w.heap.size+2) k)=H (.bool (iP s p.bw.length k))\/¬k<nd:=by
     by_cases h:k<nd
     ·exact .inl (wC.o.k.hr.cell (o:=k) O)
     ·exact .inr h
    by_cases pZ:k<nd
    ·have x2:UJ W2 (G (w.heap.size+2) k)=H (.bool (iP s p.bw.length k)):=by
      rcases x1 with h|h
      ·exact h
      ·exact absurd pZ h
     have Vn:gY p s nd (k+1)=if iP s p.bw.length k=true then gY p s nd k else gY p s nd k++[k]:=by unfold gY;rw[List.range_succ,List.filter_append];cases hh:iP s p.bw.length k<;>simp[hh]
     clear x1;cases hh:iP s p.bw.length k with
     |true=>rw[hh]at x2 Vn;rw[bk rfl]at Vn;have Z8:=Z Vn;have zT:=Z (show K3 w xb W2 g1 g2 nd (iP s p.bw.length) av2 bv dT dT ((List.range p.bw.length).map s.a.ls) (gY p s nd (k+1)) [] [] Xc Ze by rw[Vn];exact wC.o);clear hh Vn wC;go_wp2;exact⟨k+1,Xc,_,_,Ze,g1,g2,O,O,qi rfl,zT⟩
     |false=>
      rw[hh]at x2 Vn;rw[aw bd]at Vn;have Z8:=Z Vn;have HHH:=Z hh;have r1:UJ W2 (G (w.heap.size+1) 1)=H bv:=wC.o.k.b3.cell 1;have l3:=wC.o.k.b3.lt;have bB:Below W2.heap.size W2 (W2.alloc (QP #[Y k] 3)):=(aB _ _).alloc (aL _) _;have hfl:(gY p s nd k).length<=k:=by unfold gY;exact cU (List.length_filter_le _ _) ay
      have pY:=Z (show Row (W2.alloc (QP #[Y k] 3)) 3 1 bv (gY p s nd k).length (aX (iH (gY p s nd k)))by have:=wC.o.lay.fr.row.aG (aA.af (S:=[]) bB) (λ_ _=>by simp);rw[fV]at this;exact this);have sD:=Z (show(gY p s nd k).length+1<=maxLen/\((gY p s nd k).length+1)*8<=140737488355328 by unfold maxLen;omega);have XW:=λv' w3 r3 f3 i3=>wC.o.free (w1:=W2.alloc (QP #[Y k] 3)) (w3:=w3) (v':=v') (x:=k) bB f3 r3 i3;have GU:=Z XW;clear hh Vn wC XW bB hfl;generalize gY p s nd k=fl at*;go_wp2_with (at_builtin;refine bX rfl _ _ 24 rfl 3 underlying24 Vf.ck rfl bd bv fl.length (aX (iH fl)) rfl pY.o (G W2.heap.size 0) 1 1 (λ_=> Y k) rfl ?zZ ?Ut ?Da ?Ii ?_)
      case zZ=>intro j hj;obtain rfl:j=0:=O;exact(aF.new W2 3 #[Y k]).cell 0
      case Ut=>exact λj _=>rfl
      case Da=>exact sD.o.1
      case Ii=>exact sD.o.2
      intro v' w3 r3 f3 i3;obtain⟨va3,vn3,vc3,rfl⟩:=Row.mG r3;obtain⟨n1,n2,n3,n4⟩:=GU.o _ w3 (by rw[Nat.mul_one];exact r3) f3 (by rw[aM];exact i3);have N4:=Z n4;clear r3 f3 i3 n4;go_wp2;exact⟨k+1,Xc,_,_,Ze,g1,_,O,O,qi rfl,by rw[Z8.o];exact N4⟩
    ·obtain rfl:k=nd:=O;have MW2:=a0f.o.later wC.o.k.rO;have m10:UJ W2 (G C.mb 10)=H (UI C.xb):=MW2.m.bg.cell 10;have HA:=Z (Ix.all' MW2.m.ix);have afl:e_ p s.a<=4294967296:=by have h1:=sP (M:=4194304) p.bw.length (λq=>(s.a.ls q).length) (λq hq=>by have:=(MW2.m.ar.tB hq).1;rw[Un.o]at this;omega);have h2:p.bw.length*4194304<=16*4194304:=Nat.mul_le_mul_right _ zt;show cT p.bw.length (λq=>(s.a.ls q).length)<=_;omega
     have zT:=Z wC.o;clear x1 MW2 wC;go_wp2_with fail;refine HA.o.mono ?_;rintro e w7 ⟨rfl,L,hKS,hLl,hAA⟩;obtain⟨bA,hsA,Qu,gu,bo⟩:=hAA;have uS:∀k,k∈dM Qu->W2.heap.size+1<=k/\k<w7.heap.size:=by
      intro k hk;rcases bo with⟨_,rfl⟩|⟨g,cap,rfl,e1,e2,-⟩
      ·simp[dM]at hk
      ·simp[dM]at hk;subst hk;exact⟨e1,e2⟩
     have HS7:=Z (zT.o.later bA);have TF:=zT.o.k.low;have Ae:∀D,D∈Xc->D<w7.heap.size:=λD hD=>HS7.o.k.sV.lt hD;have Up:=Z Ae;have Fw:=Z (gR.sq Fence.wide 8 trivial rfl O W2.heap.size (W2.heap.size+1) Qu (L.map Ix.WZ) (by rw[List.length_map];omega) w7 gu bo (λk hk=>(uS k hk).2));have HKS:=Z hKS;have La:(L.map Ix.WZ).length<=4294967296:=by rw[List.length_map];omega
     have Jl:(L.map Ix.WZ).map (·.1)=L.map (·.1):=by rw[List.map_map];rfl
     have rD:(L.map Ix.WZ).map (·.2)=iH (L.map (·.2)):=by unfold iH;rw[List.map_map,List.map_map];rfl
     have Dn:=Z Jl;have J_:=Z rD;clear Jl rD Ae bo gu bA HA zT m10;generalize hLu:L.map Ix.WZ=Lu at*;clear hLu;go_wp2_with fail;refine(wpIn_wide (n:=9)).1 ?_;refine wpIn_rangeFunc_ownH (n:=9) (F:=Fence.wide) rfl O (gf:=140) (lb:=#[UI W2.heap.size]) rfl trivial (Proofs.enters_of func140 bh rfl) Fw.o wF.t
      (wF.b (by intro k hk;rcases List.mem_cons.1 hk with rfl|hk;exact hsA;exact(uS k hk).2)) (aB _ _) (λ_=>rfl)
      (λpre W=>∃cv dv,Hid (K3 w xb W g1 w7.heap.size k (iP s p.bw.length) av2 bv cv dv ((List.range p.bw.length).map s.a.ls) (gY p s k k) (pre.map (·.1)) (pre.map (·.2)) Xc Ze))
      (λc pre W=>False) ?hI ?hIx ?h0 (λx a' W=>FrO w x.1 x.2 a') (λx a' _ W W' row hs hg hr=>hs) ?assign ?body ?done ?stop
     case hI=>exact λpre W W' row ⟨cv,dv,hh⟩ hg hr=>⟨cv,dv,hh.o.grown O Up.o hg hr⟩
     case hIx=>exact λc pre W W' row hh _ _=>hh
     case h0=>exact⟨_,_,HS7.o.up⟩
     case assign=>
      rintro l pre x W K ⟨cv,dv,jh⟩ hK
      gi_wp2
      exact hK _ _ (KeepsFrom.refl _ _) (λ_ _=>rfl) ⟨cv,dv,jh⟩ (qi rfl)
     case stop=>exact λD c pre W _ _ hh _=>absurd hh ay
     case body=>
      rintro l pre x a' W hl hr ⟨cv,dv,jh⟩ ⟨J2,rfl⟩ pZ;have Xy:(pre.map (·.1)).length<Lu.length:=by rw[List.length_map];exact pZ
      have hpn:(pre.map (·.2)).length<Lu.length:=by rw[List.length_map];exact pZ
      obtain⟨xk,xn⟩:=x;have Qq:∀k,k∈W2.heap.size::dM Qu->k<W.heap.size/\k<w7.heap.size/\k≠w.heap.size+1:=by
       intro k hk;have hg:=jh.o.lay.le;have jZ:W2.heap.size<=k/\k<w7.heap.size:=by
        rcases List.mem_cons.1 hk with rfl|hk
        ·exact⟨aL _,hsA⟩
        ·exact⟨by have:=uS k hk;omega,(uS k hk).2⟩
       have:=jh.o.k.kW;exact⟨O,jZ.2,O⟩
      have HK:=Z (λV w1 v1 b1 r1 f1 i1=>jh.o.keyed (V:=V) (w1:=w1) (v1:=v1) (key:=xk) b1 xn r1 f1 i1 Qq w7.heap.size);have uj:=Z (show(pre.map (·.1)).length+1<=maxLen/\((pre.map (·.1)).length+1)*8<=140737488355328 by unfold maxLen;omega);have sD:=Z (show(pre.map (·.2)).length+1<=maxLen/\((pre.map (·.2)).length+1)*8<=140737488355328 by unfold maxLen;omega);have HRK:=Z (λV (b1:Below W.heap.size W V)=>jh.o.lay.ks.row.aG (aA.af (S:=[]) b1) ay);have ru:=jh.o.lst;have HCN:=Z (show∀b,b∈cv.ownBlock.toList->b<W.drew.heap.size from λb X=>(jh.o.lay.ks.i_ b (by simpa using X)).2);have bD:Below W.heap.size W W.drew:=az _ W 1;have jn:W.drew.heap.size=W.heap.size:=rfl;generalize Np:pre.map (λy:Nat×Int=>y.1)=lk at*;generalize CO:pre.map (λy:Nat×Int=>y.2)=ln at*;have HPK:=Z Np;have HPN:=Z CO;clear Np CO jh Qq pZ Xy hpn
      gi_wp2_with fail
      refine Gd.pA [11,13] (λ_=>True) (λwx=>UJ wx (G (w.heap.size+1) 2)=H cv/\UJ wx (G (w.heap.size+1) 3)=H dv) bh bh ⟨trivial,ru⟩ (λau=>?_);generalize W.drew=V at*;have Xd:=Z bD;have HZ:=Z jn;clear bD jn ru;refine Mk.Dm 0 ?_;refine Mk.Dm 1 ?_;refine Mk.Dm 2 ?_;refine Mk.Dm 5 ?_;refine Mk.Dm 6 ?_;refine Mk.Dm 7 ?_;refine Gd.ready (rs:=[3,8]) bh ay ?_;refine Gd.eC.cons rfl (λK hK=>?_) (Gd.eC.cons rfl (λK hK=>?_) Gd.eC.nil)
      ·refine fH ?_;go_simp;refine hK.out _ _ ⟨trivial,Gr.alloc au.2 _⟩ (λau=>?_);clear hK K;refine Mk.pt ?_;refine Gd.ready (rs:=[4,8]) bh ay ?_;refine Gd.eC.cons rfl (λK hK=>?_) (Gd.eC.cons rfl (λK hK=>?_) Gd.eC.nil)
       ·have cR:=Z (show Below W.heap.size W (V.alloc (QP #[.int .u64 xk] 46))from Xd.o.alloc Xd.o.size _);refine cJ rfl (.tmp 72) (.tmp 74) 41 rfl 46 underlying41 vp rfl bd cv lk.length (pU lk) (by simp[Act.eval,Act.put]) (HRK.o _ cR.o) (G V.heap.size 0) 1 1 (λ_=> .int .u64 xk) (by simp[Act.eval,Act.put]) ?_ (λj _=>rfl) uj.o.1 uj.o.2 ?_
        ·intro j hj;obtain rfl:j=0:=O;exact(aF.new V 46 #[.int .u64 xk]).cell 0
        intro v1 w1 r1 f1 i1;obtain⟨Z9,Z_,MH,rfl⟩:=Row.mG r1;obtain⟨wY,Xe⟩:=HK.o _ w1 _ cR.o r1 f1 i1;have M8:=Z Xe;clear r1 f1 i1 Xe cR;clear au;refine hK.out _ _ ⟨trivial,wY⟩ (λau=>?_);clear hK K;refine Mk.pt ?_;refine Gd.Ot (i:=10) (v:=?_) rfl bh bh bh bh bh (λ_ _ _ h=>Mk.jx h) (Or.inl ⟨by rfl,?_⟩) cY ?_;rotate_left
        ·exact Z6
        refine Mk.pt ?_;refine Gd.ready (rs:=[8]) bh ay ?_;refine Gd.eC.cons rfl (λK hK=>?_) Gd.eC.nil;refine fH ?_;go_simp;refine hK.out _ _ ⟨trivial,Gr.alloc au.2 _⟩ (λau=>?_);clear hK K;refine Mk.pt ?_;refine Gd.ready (rs:=[9]) bh ay ?_;refine Gd.eC.cons rfl (λK hK=>?_) Gd.eC.nil;refine cJ rfl (.tmp 77) (.tmp 79) 24 rfl 3 underlying24 Vf.ck rfl bd dv ln.length (aX ln) (by simp[Act.eval,Act.put]) (M8.o.at_ (w1.alloc (QP #[Y xn] 3)) ((aB _ _).alloc (aL _) _)).2 (G w1.heap.size 0) 1 1 (λ_=> Y xn) (by simp[Act.eval,Act.put]) ?_ (λj _=>rfl) sD.o.1 sD.o.2 ?_
        ·intro j hj;obtain rfl:j=0:=O;exact(aF.new w1 3 #[Y xn]).cell 0
        intro v2 w2 r2 f2 i2;obtain⟨WU,WV,WW,rfl⟩:=Row.mG r2;obtain⟨RI,ff,QN,gm,jZ,l8⟩:=M8.o.fin (w1.alloc (QP #[Y xn] 3)) ((aB _ _).alloc (aL _) _) _ w2 r2 f2 i2;exact Mp
       ·refine fH ?_;go_simp;refine hK.out _ _ ⟨trivial,Gr.alloc au.2 _⟩ (λau=>?_);clear hK K;refine Mk.pt ?_;refine Gd.ready (rs:=[4]) bh ay ?_;refine Gd.eC.cons rfl (λK hK=>?_) Gd.eC.nil;have cR:=Z (show Below W.heap.size W ((V.alloc (QP #[.int .u64 xk] 46)).alloc (QP #[Y xn] 3))from(Xd.o.alloc Xd.o.size _).alloc (by rw[aM];have:=Xd.o.size;omega) _);refine cJ rfl (.tmp 72) (.tmp 74) 41 rfl 46 underlying41 vp rfl bd cv lk.length (pU lk) (by simp[Act.eval,Act.put]) (HRK.o _ cR.o) (G V.heap.size 0) 1 1 (λ_=> .int .u64 xk) (by simp[Act.eval,Act.put]) ?_ (λj _=>rfl) uj.o.1 uj.o.2 ?_
        ·intro j hj;obtain rfl:j=0:=O;exact((aF.new V 46 #[.int .u64 xk]).alloc (QP #[Y xn] 3)).cell 0
        intro v1 w1 r1 f1 i1;obtain⟨Z9,Z_,MH,rfl⟩:=Row.mG r1;obtain⟨wY,Xe⟩:=HK.o _ w1 _ cR.o r1 f1 i1;have M8:=Z Xe;have Rl:=Z (show aF w1 (V.heap.size+1) 3 #[Y xn]by have:=(aF.new (V.alloc (QP #[.int .u64 xk] 46)) 3 #[Y xn]).aG f1 (λhc=>by have:=HCN.o _ hc;rw[aM]at this;omega);rw[aM]at this;exact this);clear r1 f1 i1 Xe cR;clear au;refine hK.out _ _ ⟨trivial,wY⟩ (λau=>?_);clear hK K;refine Mk.pt ?_;refine Gd.Ot (i:=10) (v:=?_) rfl bh bh bh bh bh (λ_ _ _ h=>Mk.jx h) (Or.inl ⟨by rfl,?_⟩) cY ?_;rotate_left
        ·exact Z6
        refine Mk.pt ?_;refine Gd.ready (rs:=[9]) bh ay ?_;refine Gd.eC.cons rfl (λK hK=>?_) Gd.eC.nil;refine cJ rfl (.tmp 77) (.tmp 79) 24 rfl 3 underlying24 Vf.ck rfl bd dv ln.length (aX ln) (by simp[Act.eval,Act.put]) (M8.o.at_ w1 (aB _ _)).2 (G (V.heap.size+1) 0) 1 1 (λ_=> Y xn) (by simp[Act.eval,Act.put]) ?_ (λj _=>rfl) sD.o.1 sD.o.2 ?_
        ·intro j hj;obtain rfl:j=0:=O;exact Rl.o.cell 0
        exact CJ
      ·refine fH ?_;go_simp;refine hK.out _ _ ⟨trivial,Gr.alloc au.2 _⟩ (λau=>?_);clear hK K;refine Mk.pt ?_;refine Gd.ready (rs:=[3]) bh ay ?_;refine Gd.eC.cons rfl (λK hK=>?_) Gd.eC.nil;refine fH ?_;go_simp;refine hK.out _ _ ⟨trivial,Gr.alloc au.2 _⟩ (λau=>?_);clear hK K;refine Mk.pt ?_;refine Gd.ready (rs:=[4]) bh ay ?_;refine Gd.eC.cons rfl (λK hK=>?_) Gd.eC.nil;have cR:=Z (show Below W.heap.size W ((V.alloc (QP #[Y xn] 3)).alloc (QP #[.int .u64 xk] 46))from(Xd.o.alloc Xd.o.size _).alloc (by rw[aM];have:=Xd.o.size;omega) _);refine cJ rfl (.tmp 72) (.tmp 74) 41 rfl 46 underlying41 vp rfl bd cv lk.length (pU lk) (by simp[Act.eval,Act.put]) (HRK.o _ cR.o) (G (V.heap.size+1) 0) 1 1 (λ_=> .int .u64 xk) (by simp[Act.eval,Act.put]) ?_ (λj _=>rfl) uj.o.1 uj.o.2 ?_
       ·intro j hj;obtain rfl:j=0:=O;have:=(aF.new (V.alloc (QP #[Y xn] 3)) 46 #[.int .u64 xk]).cell 0;rw[aM]at this;exact this
       intro v1 w1 r1 f1 i1;obtain⟨Z9,Z_,MH,rfl⟩:=Row.mG r1;obtain⟨wY,Xe⟩:=HK.o _ w1 _ cR.o r1 f1 i1;have M8:=Z Xe;have Rl:=Z (show aF w1 V.heap.size 3 #[Y xn]from((aF.new V 3 #[Y xn]).alloc (QP #[.int .u64 xk] 46)).aG f1 (λhc=>by have:=HCN.o _ hc;omega));clear r1 f1 i1 Xe cR;clear au;refine hK.out _ _ ⟨trivial,wY⟩ (λau=>?_);clear hK K;refine Mk.pt ?_;refine Gd.Ot (i:=10) (v:=?_) rfl bh bh bh bh bh (λ_ _ _ h=>Mk.jx h) (Or.inl ⟨by rfl,?_⟩) cY ?_;rotate_left
       ·exact Z6
       refine Mk.pt ?_;refine Gd.ready (rs:=[9]) bh ay ?_;refine Gd.eC.cons rfl (λK hK=>?_) Gd.eC.nil;refine cJ rfl (.tmp 77) (.tmp 79) 24 rfl 3 underlying24 Vf.ck rfl bd dv ln.length (aX ln) (by simp[Act.eval,Act.put]) (M8.o.at_ w1 (aB _ _)).2 (G V.heap.size 0) 1 1 (λ_=> Y xn) (by simp[Act.eval,Act.put]) ?_ (λj _=>rfl) sD.o.1 sD.o.2 ?_
       ·intro j hj;obtain rfl:j=0:=O;exact Rl.o.cell 0
       exact CJ
     case done=>
      rintro D ys W hD rfl ⟨cv,dv,jh⟩ Xb;rw[Dn.o,J_.o]at jh;obtain⟨r0,r1,r2,r3⟩:=jh.o.k.b3.c4;obtain⟨s0,s1,s2,s3⟩:=jh.o.k.b2.c4;have abE:=jh.o.k.b2.frozen;have l2:=jh.o.k.b2.lt;have l3:=jh.o.k.b3.lt;have hDl:D<W.heap.size:=(Array.getElem?_eq_some_iff.1 Xb).1;have afm:=jh.o.k.kW;have hDn:D∉Xc:=λhc=>by have:=Up.o D hc;omega
      have kk:=jh.o.k.mark Xb hDn (by have:=jh.o.lay.le;omega);have lay:=jh.o.lay;obtain⟨a1,a2,a3,rfl⟩:=Row.mG lay.ls.row;obtain⟨b1,b2,b3,rfl⟩:=Row.mG lay.fr.row;obtain⟨c1,c2,c3,rfl⟩:=Row.mG lay.ks.row;obtain⟨d1,d2,d3,rfl⟩:=Row.mG lay.ns.row;clear jh Fw;go_wp2_with fail;have F9:∀v0 v1 v2 v3,aA [w.heap.size] W ((((W.setCell (G w.heap.size 0) v0).setCell (G w.heap.size 1) v1).setCell (G w.heap.size 2) v2).setCell (G w.heap.size 3) v3):=λv0 v1 v2 v3=>((((aA.refl [w.heap.size] W).setCell ay _).setCell ay _).setCell ay _).setCell ay _;have E9:∀v0 v1 v2 v3,aF ((((W.setCell (G w.heap.size 0) v0).setCell (G w.heap.size 1) v1).setCell (G w.heap.size 2) v2).setCell (G w.heap.size 3) v3) w.heap.size 52 #[v0,v1,v2,v3]:=λv0 v1 v2 v3=>(((kk.b2.set 0 v0).set 1 v1).set 2 v2).set 3 v3;have G9:∀v0 v1 v2 v3,Below w.heap.size w ((((W.setCell (G w.heap.size 0) v0).setCell (G w.heap.size 1) v1).setCell (G w.heap.size 2) v2).setCell (G w.heap.size 3) v3):=λv0 v1 v2 v3=>(((kk.rO.setCell (aL _) _).setCell (aL _) _).setCell (aL _) _).setCell (aL _) _;replace F9:=F9 (to a1 a2 a3) (to b1 b2 b3) (to c1 c2 c3) (to d1 d2 d3);replace E9:=E9 (to a1 a2 a3) (to b1 b2 b3) (to c1 c2 c3) (to d1 d2 d3);replace G9:=G9 (to a1 a2 a3) (to b1 b2 b3) (to c1 c2 c3) (to d1 d2 d3);have nlo:∀D',D'∈D::Xc->xb+1<=D':=kk.ml;have M9:=kk.sV.keeps λk hk=>F9.block k (kk.sV.lt hk) (by simp;have:=nlo k hk;omega);have abC:=lay.off F9 (λb X=>by simp at X;subst X;exact .inl (.inl O));have abz:=F9.size;generalize(((W.setCell (G w.heap.size 0) (to a1 a2 a3)).setCell (G w.heap.size 1) (to b1 b2 b3)).setCell (G w.heap.size 2) (to c1 c2 c3)).setCell (G w.heap.size 3) (to d1 d2 d3)=W9 at*;refine Mk.tC (D::Xc) _ M9 λW' Ei=>?_;have b':aF W' w.heap.size 52 #[to a1 a2 a3,to b1 b2 b3,to c1 c2 c3,to d1 d2 d3]:=E9.of (Ei.cells M9 E9.AH);have L':=abC.off Ei.aG (λb X=> .inr (.inr ⟨_,M9.at_ b X,rfl⟩));obtain⟨i0,i1,i2,i3⟩:=b'.c4;refine⟨.agg #[to a1 a2 a3,to b1 b2 b3,to c1 c2 c3,to d1 d2 d3],by simp[results,results19,go_sem,i0,i1,i2,i3],?_⟩;refine⟨L,_,_,_,_,g1,w7.heap.size,Ze,HKS.o,rfl,G9.trans (Ei.below λD' hD'=>by have:=nlo D' hD';omega),?_⟩;have aby:=L'.mono (hi':=W'.heap.size) (by rw[Ei.size];exact abz);exact aby.lower O
end
end Go.Ma
namespace Go.Ma
open Go.RowKit aj.Vm
open aj hiding aR an ak
open Vf (Kp fW pV aZ cV)
def iI(w:UK)(C:Co)(lo:Nat)(p:aQ)(c:Cp)(s:St)(t:dZ)(used:Int):Prop:=∃(RO:List Nat) (K:Kc) (T:Map),Mx w C RO K p c s t used (.pointer K7)/\Gi K C.mb p c/\Env p c T/\nw p/\Inv (aC p c) s/\(∀b,b∈C.l++RO->lo<=b)
section
variable {w w':UK}{C:Co}{lo:Nat}{p:aQ}{c:Cp}{s:St}{t:dZ}{used:Int}
def iI.later(h:iI w C lo p c s t used)(b:Below w.heap.size w w'):iI w' C lo p c s t used:=by obtain⟨RO,K,T,h1,h2⟩:=h;exact⟨RO,K,T,h1.later b,h2⟩
def iI.lt(h:iI w C lo p c s t used){b:Nat}(X:b∈C.l):lo<=b/\b<w.heap.size:=by obtain⟨RO,K,T,h1,-,-,-,-,h2⟩:=h;exact⟨h2 b (by simp[X]),h1.sep.lt b X⟩
def iI.aeE(h:iI w C lo p c s t used):tM p:=by obtain⟨RO,K,T,-,h2,-⟩:=h;exact(cE h2.check).1
def iI.inv(h:iI w C lo p c s t used):Inv (aC p c) s:=by obtain⟨RO,K,T,-,-,-,-,h2,-⟩:=h;exact h2
def bT.low{C':Co}(k:bT w w' C C')(h:∀b,b∈C.l->lo<=b)(hs:lo<=w.heap.size):Below lo w w':=k.f.below hs h
def aeF(w:UK)(C:Co)(lo:Nat)(p:aQ)(c:Cp)(s:St)(t:dZ)(key:Nat)(e:Ending)(w':UK):Prop:=
 ∃(tv:UL) (C':Co),e=C8 (.agg #[.bool (if jc p c s key=0 then rG p c s key else false),tv,Y (jc p c s key)])/\bT w w' C C'/\
  iI w' C' lo p c (nr p c s key) (if jc p c s key=0 then tX t (rG p c s key) (rR p c s key)else t) (uz p c s key).1/\
  yP w' tv (if jc p c s key=0 then rR p c s key else[])/\∀b,b∈vb tv->b∉C'.l/\b∉Ma.rest w C
def abw(h:iI w C lo p c s t used)(hl:lo<=w.heap.size){key:Nat}(hk:key<18446744073709551616):
 Calls prog 17 #[UI C.mb,.int .u64 key] w (aeF w C lo p c s t key):=by
 obtain⟨RO,K,T,h1,M,V,hS,hI,jo⟩:=h;have IX:Calls prog 17 #[UI C.mb,.int .u64 key] w (je w C RO K p c t s key):=by
  cases hf:s.f key with
  |none=>exact wm M V hS h1 hI hk hf
  |some n=>obtain⟨q,hq,hn,-⟩:=(hI.idx key n).1 hf;exact Bn M V hS h1 hI hk hf hq hn rfl
 refine IX.mono ?_;rintro e w' ⟨tv,C',rfl,k,m,ht,X⟩;refine⟨tv,C',rfl,k,⟨RO,K,T,m,by rw[k.mb];exact M,V,hS,oW V hS hI hk,λb jV=>?_⟩,ht,X⟩;rw[dV]at jV;rcases jV with jV|jV
 ·rcases k.c b jV with h2|h2
  ·exact jo b (by simp[h2])
  ·omega
 ·exact jo b (by simp[jV])
def IK(h:iI w C lo p c s t used):Calls prog 19 #[UI C.mb] w (ul w p s (dw (aC p c))):=by obtain⟨RO,K,T,h1,M,V,hS,hI,jo⟩:=h;have:=acq h1 (cE M.check).1 M.AY;rw[M.nd]at this;exact this
def Km(h:iI w C lo p c s t used):Calls prog 28 #[UI C.mb] w (λe w'=>e=C8 (Y used)/\w'=w):=by obtain⟨RO,K,T,h1,-⟩:=h;exact(Qj h1).mono λe w' hh=>⟨hh.1,hh.2.symm⟩
def UN(w:UK)(p:aQ)(c:Cp)(e:Ending)(w':UK):Prop:=Below w.heap.size w w'/\
 ((¬((aW p).1=0/\mi p c=true)/\∃er:Int,er≠0/\e=C8 (.tuple #[.pointer K7,Y er]))\/
  ((aW p).1=0/\mi p c=true/\∃C:Co,e=C8 (.tuple #[UI C.mb,Y 0])/\iI w' C w.heap.size p c (zs p) ⟨0,0,0,0⟩ 0))
def Qy{p:aQ}{c:Cp}(hv:(aW p).1=0)(yv:mi p c=true):∃T,Env p c T:=by obtain⟨hc,T,hT,-⟩:=tL rfl hv;have h:=yv;unfold mi at h;simp only[fp]at h;exact⟨T,hT,hc,Vf.Bl h.1⟩
def IM{K:Kp}{qv:UL}(h:fW w K p)(hq:aZ w 1 qv c.aK.length (aX c.aK))(hS:(aW p).1=0->mi p c=true->nw p):Calls prog 16 #[pV K p,cV c qv] w (UN w p c):=by
 refine(Ef h hq).mono ?_;rintro e w' ⟨X,h1|h1|h1⟩
 ·exact⟨X,.inl ⟨λh=>h1.1 h.1,_,h1.1,h1.2⟩⟩
 ·exact⟨X,.inl ⟨λh=>by rw[h.2]at h1;exact absurd h1.2.1 ay,45,bd,h1.2.2⟩⟩
 ·obtain⟨hv,yv,C,RO,K',rfl,m,M,jo⟩:=h1;obtain⟨T,V⟩:=Qy hv yv;exact⟨X,.inr ⟨hv,yv,C,rfl,RO,K',T,m,M,V,hS hv yv,Kl c (cE M.check).1,jo⟩⟩
end
end Go.Ma
namespace Go.Ma
open Go.RowKit aj.Vm Go.Shelf
open aj hiding aR an ak
open eB (bS bL eN Eh wG wS rowsOf)
open Ix (cX)
open gR (wF dM)
attribute [local go_sem] Oper.semAt_some
def ph(w:UK)(S:PS)(e:Ending)(w':UK):Prop:=
 ∃qv vv lv tv,e=C8 (.agg #[qv,vv])/\Below w.heap.size w w'/\jM w' w.heap.size w'.heap.size qv vv S lv tv
def abv:(prog.info? 62).map (λi=>(i.zero,i.size,i.bytes))=H (H (.agg #[.int .u64 0,Pl]),2,32):=by kernel_rfl
def abu:(prog.info? 60).map (λi=>(i.zero,i.size,i.bytes))=H (H Pl,1,24):=by kernel_rfl
structure SL(w W:UK)(sb hi mb:Nat)(va qv:UL)(S:PS)(Ds:List Nat)(lv:Nat->UL)(tv:Nat->Nat->UL):Prop where
 rO:Below w.heap.size w W
 lo:w.heap.size+1<sb/\sb<hi/\hi<=W.heap.size
 b1:aF W w.heap.size 35 #[UI mb]
 b2:aF W (w.heap.size+1) 56 #[Pl,Pl]
 b3:aF W sb 56 #[qv,va]
 st:jM W w.heap.size hi qv va S lv tv
 sV:Mk.Marks W Ds
 ml:∀D,D∈Ds->w.heap.size<=D
def SL.aG{w W W':UK}{sb hi mb:Nat}{va qv:UL}{S:PS}{Ds:List Nat}{lv:Nat->UL}{tv:Nat->Nat->UL}{T:List Nat}(h:SL w W sb hi mb va qv S Ds lv tv)(f:aA T W W')(hT:∀b,b∈T->hi<=b)(hD:∀D,D∈Ds->D∉T):SL w W' sb hi mb va qv S Ds lv tv:=by
 obtain⟨l1,l2,l3⟩:=h.lo;have hs:=h.rO.size;refine⟨h.rO.trans (f.below hs (λk hk=>by have:=hT k hk;omega)),⟨l1,l2,cU l3 f.size⟩,?_,?_,?_,h.st.off f (oF.range λb X=> .inr (hT b X)),h.sV.keeps (λk hk=>f.block k (h.sV.lt hk) (hD k hk)),h.ml⟩
 ·exact h.b1.aG f (λhc=>by have:=hT _ hc;omega)
 ·exact h.b2.aG f (λhc=>by have:=hT _ hc;omega)
 ·exact h.b3.aG f (λhc=>by have:=hT _ hc;omega)
def SL.later{w W W':UK}{sb hi mb:Nat}{va qv:UL}{S:PS}{Ds:List Nat}{lv:Nat->UL}{tv:Nat->Nat->UL}(h:SL w W sb hi mb va qv S Ds lv tv)(b:Below W.heap.size W W'):SL w W' sb hi mb va qv S Ds lv tv:=
 h.aG (aA.af (S:=[]) b) ay ay
def SL.up{w W:UK}{sb hi mb:Nat}{va qv:UL}{S:PS}{Ds:List Nat}{lv:Nat->UL}{tv:Nat->Nat->UL}(h:SL w W sb hi mb va qv S Ds lv tv){hi':Nat}(h1:hi<=hi')(h2:hi'<=W.heap.size):SL w W sb hi' mb va qv S Ds lv tv:=
 ⟨h.rO,⟨h.lo.1,by have:=h.lo;omega,h2⟩,h.b1,h.b2,h.b3,h.st.mono (aL _) h1,h.sV,h.ml⟩
structure IL(w W6 W:UK)(sb lb mb:Nat)(va qv:UL)(S:PS)(Ds:List Nat)(lv:Nat->UL)(tv:Nat->Nat->UL)(l:List PE)(ev:UL)(te:Nat->UL):Prop where
 sl:SL w W sb lb mb va qv S Ds lv tv
 bx:aF W lb 60 #[ev]
 es:kJ W W6.heap.size W.heap.size ev l te
 sz:lb<W6.heap.size/\W6.heap.size<=W.heap.size
def IL.grown{w W6 W W':UK}{sb lb mb:Nat}{va qv:UL}{S:PS}{Ds:List Nat}{lv:Nat->UL}{tv:Nat->Nat->UL}{l:List PE}{ev:UL}{te:Nat->UL}(h:IL w W6 W sb lb mb va qv S Ds lv tv l ev te)
 (Ae:∀D,D∈Ds->D<W6.heap.size) {row:Option Nat} (hg:W.grownBy W' row) (hr:∀r,row=H r->W6.heap.size<=r/\∃o:Obj,W.heap[r]? =H o/\o.isCells=false):IL w W6 W' sb lb mb va qv S Ds lv tv l ev te:=by
 have f:=eK hg;have hm:∀b,b∈row.toList->W6.heap.size<=b/\∃o:Obj,W.heap[b]? =H o/\o.isCells=false:=λb X=>hr b (by simpa using X);have h1:=h.sz;refine⟨h.sl.aG f (λb X=>by have:=(hm b X).1;omega) (λD hD hc=>by have:=(hm D hc).1;have:=Ae D hD;omega),h.bx.aG f (λhc=>by have:=(hm _ hc).1;omega),?_,⟨h1.1,cU h1.2 hg.size⟩⟩;exact(h.es.off f (λb X=> .inr (.inr (hm b X).2))).mono (aL _) hg.size
def FrQ(w:UK)(sb nq q:Nat)(Ds:List Nat)(a:Act):Prop:=∃J:Nat->UL,a={tmps:=#[J 0,UI w.heap.size,UI (w.heap.size+1),UI sb,J 4,J 5,J 6,J 7,J 8,J 9,J 10,J 11,J 12,J 13,J 14,J 15,J 16,J 17,J 18,J 19,Y nq,Y q,J 22,J 23,J 24,J 25,J 26,J 27,J 28,J 29,J 30,J 31,J 32,J 33,J 34,J 35,J 36,J 37,J 38,J 39,J 40,J 41,J 42,J 43,J 44,J 45,J 46,J 47,J 48,J 49,J 50,J 51,J 52,J 53,J 54,J 55,J 56],defers:=Mk.marksOf Ds}
def FrB(w:UK)(lb eb:Nat)(a:Act):Prop:=∃J:Nat->UL,a={tmps:=#[J 0,UI w.heap.size,J 2,J 3,J 4,UI lb,J 6,UI eb,J 8,J 9,J 10,J 11,J 12,J 13,J 14,J 15,J 16,J 17,J 18,J 19,J 20,J 21,J 22,J 23,J 24,J 25,J 26,J 27,J 28,J 29,J 30,J 31,J 32,J 33,J 34,J 35,J 36,J 37,J 38,J 39,J 40,J 41,J 42,J 43,J 44,J 45,J 46,J 47,J 48,J 49,J 50,J 51,J 52,J 53,J 54,J 55,J 56],defers:=[]}
def IL.later{w W6 W W':UK}{sb lb mb:Nat}{va qv:UL}{S:PS}{Ds:List Nat}{lv:Nat->UL}{tv:Nat->Nat->UL}{l:List PE}{ev:UL}{te:Nat->UL}(h:IL w W6 W sb lb mb va qv S Ds lv tv l ev te)(b:Below W.heap.size W W'):IL w W6 W' sb lb mb va qv S Ds lv tv l ev te:=
 ⟨h.sl.later b,h.bx.of (b.block _ h.bx.lt),(h.es.off (aA.af (S:=[]) b) (oF.nil _ _ _ _)).mono (aL _) b.size,h.sz.1,cU h.sz.2 b.size⟩
def AxS(w w6:UK)(lb:Nat)(x:Nat×eU)(a:Act)(W:UK):Prop:=∃eb,FrB w lb eb a/\aF W eb 118 (aP x.2)/\w6.heap.size<=eb
def AxS.grown{w w6 W W':UK}{lb:Nat}{x:Nat×eU}{a:Act}(h:AxS w w6 lb x a W){row:Option Nat}(hg:W.grownBy W' row)(hr:∀r,row=H r->w6.heap.size<=r/\∃o:Obj,W.heap[r]? =H o/\o.isCells=false):AxS w w6 lb x a W':=by obtain⟨eb,h1,h2,h3⟩:=h;exact⟨eb,h1,h2.of (Mk.On.grown h2.AH hg λr e=>(hr r e).2),h3⟩
def acT(w:UK)(sb mb:Nat)(va:UL)(p:aQ)(s:St)(m:Nat)(a:Act)(W:UK):Prop:=
 ∃(q:Nat) (Ds:List Nat) (qv:UL) (lv:Nat->UL) (tv:Nat->Nat->UL) (hi:Nat),q<=p.bw.length/\m+q=p.bw.length+1/\FrQ w sb p.bw.length q Ds a/\Hid (SL w W sb hi mb va qv ⟨(List.range q).map (nz p s),(List.range p.vars.length).map s.vars⟩ Ds lv tv)
section
variable {w w':UK}{C C':Co}{RO RO':List Nat}{K:Kc}{p:aQ}{c:Cp}{t t':dZ}{used used':Int}{s s':St}{rv rv':UL}
def IL.told{W6 W V w1 w2 w3:UK}{sb lb mb:Nat}{va qv:UL}{S:PS}{Ds:List Nat}{lv:Nat->UL}{tv:Nat->Nat->UL}{l:List PE}{ev:UL}{te:Nat->UL}(h:IL w W6 W sb lb mb va qv S Ds lv tv l ev te)
 (Ae:∀D,D∈Ds->D<W6.heap.size) (hV:Below W.heap.size W V) {zb:Nat} (hz:W.heap.size<=zb) (f1:aA [zb] V w1) {v1:UL} {x:PE} (r1:Row w1 3 1 v1 x.aS.length (aX x.aS)) (i1:∀b,v1.ownBlock=H b->W.heap.size<=b)
 (h2:Below w1.heap.size w1 w2) (f3:aA ev.ownBlock.toList w2 w3) {v':UL} (r3:Row w3 62 2 v' (l.length+1) (fY (l.length*2) (RE l te) λj=>if j % 2=0 then .int .u64 x.key else v1)) (i3:v'.ownBlock=ev.ownBlock\/v'.ownBlock=H w2.heap.size):
 ∃te',IL w W6 (w3.setCell (G lb 0) v') sb lb mb va qv S Ds lv tv (l++[x]) v' te'/\aA (lb::ev.ownBlock.toList) W (w3.setCell (G lb 0) v'):=by
 obtain⟨z1,z2⟩:=h.sz;have F1:aA [] W w1:=(aA.af (S:=[zb]) hV).trans f1 |>.Nx (by intro k hk;simp at hk;subst hk;exact .inr hz);have F2:aA [] W w2:=F1.trans (aA.af h2);have F3:aA ev.ownBlock.toList W w3:=(F2.mono ay).trans f3;have F4:aA (lb::ev.ownBlock.toList) W (w3.setCell (G lb 0) v'):=(F3.mono (by intro k hk;simp[hk])).setCell ay _;have sO:∀b,b∈ev.ownBlock.toList->ev.ownBlock=H b:=λb X=>by simpa using X
 have es2:=h.es.off F2 (oF.nil _ _ _ _);have r12:Row w2 3 1 v1 x.aS.length (aX x.aS):=r1.aG (aA.af (S:=[]) h2) ay;have r13:Row w3 3 1 v1 x.aS.length (aX x.aS):=r12.aG f3 (λb X hc=>by
  rcases Row.ne r12 es2.row bd with h'|h'
  ·rw[X]at h';cases h'
  ·exact h' (by rw[X,sO b hc]))
 have lt1:∀b,v1.ownBlock=H b->b<w3.heap.size:=λb X=>(fE r13 b X).2;have Qo:∀b,v'.ownBlock=H b->b<w3.heap.size:=λb X=>(fE r3 b X).2;have hx:eS w3 W6.heap.size w3.heap.size v1 x.aS:=⟨r13,λb X=>⟨by have:=i1 b X;omega,lt1 b X⟩⟩;have tJ:vu W6.heap.size w3.heap.size v':=λb X=>⟨by
  rcases i3 with h'|h'
  ·exact(h.es.i_ b (by rw[<-h',X])).1
  ·rw[X]at h';simp at h';have:=F2.size;omega,Qo b X⟩
 have e3:=kJ.snoc es2 hx F2.size f3 (λb X=>by
  obtain⟨cs,zB⟩:=es2.row.Tf (sO b X);exact .inr (.inl ⟨_,cs,zB,by simp[uX]⟩)) r3 tJ
 have Qp:aF w3 lb 60 #[ev]:=(h.bx.aG F3 (λhc=>by have:=h.es.i_ lb (sO lb hc);omega));have e4:=e3.off ((aA.refl [lb] w3).setCell (p:=(G lb 0)) ay v') (λb X=>by simp at X;subst X;exact .inr (.inl ⟨_,_,Qp,by simp[LZ]⟩));refine⟨_,⟨h.sl.aG F4 (λb X=>?_) (λD hD hc=>?_),Qp.set 0 v',by simpa[World.setCell]using e4,⟨z1,by have:=F4.size;omega⟩⟩,F4⟩
 ·rcases List.mem_cons.1 X with rfl|X
  ·exact aL _
  ·have:=h.es.i_ b (sO b X);omega
 ·rcases List.mem_cons.1 hc with rfl|hc
  ·exact h.sl.sV.not h.bx.AH hD
  ·exact h.sl.sV.not (Row.AH h.es.row (sO D hc)) hD
def SL.next{W6 W w1 w3:UK}{sb lb mb D:Nat}{va qv:UL}{S:PS}{Ds:List Nat}{lv:Nat->UL}{tv:Nat->Nat->UL}{l:List PE}{ev:UL}{te:Nat->UL}(h:IL w W6 W sb lb mb va qv S Ds lv tv l ev te)
 (Ae:∀D,D∈Ds->D<W6.heap.size) (b1:Below W.heap.size W w1) (f3:aA qv.ownBlock.toList w1 w3) {v':UL} (r3:Row w3 60 1 v' (S.aK.length+1) (fY (S.aK.length*1) lv λ_=>ev)) (i3:v'.ownBlock=qv.ownBlock\/v'.ownBlock=H w1.heap.size)
 (hD:W.heap[D]? =H (.deferred (H []))) (hD6:W6.heap.size<=D):
 ∃lv' RS,SL w (w3.setCell (G sb 0) v') sb w3.heap.size mb va v' ⟨S.aK++[l],S.vars⟩ (D::Ds) lv' RS:=by
 obtain⟨z1,z2⟩:=h.sz;obtain⟨l1,l2,l3⟩:=h.sl.lo;have hq:∀b,b∈qv.ownBlock.toList->qv.ownBlock=H b:=λb X=>by simpa using X
 have F1:aA [] W w1:=aA.af b1;have F3:aA qv.ownBlock.toList W w3:=(F1.mono ay).trans f3;have qs1:=h.sl.st.qs.off F1 (oF.nil _ _ _ _);have es1:=h.es.off F1 (oF.nil _ _ _ _);have ty:∀Es:List TypeId,60∉Es->∀lo hi,oF w1 lo hi Es qv.ownBlock.toList:=λEs hE lo hi b X=>by obtain⟨cs,zB⟩:=qs1.row.Tf (hq b X);exact .inr (.inl ⟨_,cs,zB,hE⟩)
 have es3:=es1.off f3 (ty _ bd _ _);have Qo:∀b,v'.ownBlock=H b->b<w3.heap.size:=λb X=>(fE r3 b X).2;have hw:=h.sl.rO.size;have tJ:vu w.heap.size w3.heap.size v':=λb X=>⟨by
  rcases i3 with h'|h'
  ·exact(qs1.i_ b (by rw[<-h',X])).1
  ·rw[X]at h';simp at h';have:=F1.size;omega,Qo b X⟩
 have q3:=uY.snoc (w:=w1) (w':=w3) qs1 (es3.mono O F3.size) (by have:=F1.size;omega) f3 (ty _ bd _ _) r3 tJ (λb X=>by have:=h.es.i_ b X;omega);have nb:∀b,b∈qv.ownBlock.toList->b≠w.heap.size/\b≠w.heap.size+1/\b≠sb:=λb X=>by obtain⟨cs,zB⟩:=h.sl.st.qs.row.Tf (hq b X);exact⟨λe=>by subst e;exact aF.ne zB h.sl.b1 bd rfl,λe=>by subst e;exact aF.ne zB h.sl.b2 bd rfl,λe=>by subst e;exact aF.ne zB h.sl.b3 bd rfl⟩
 have b3:aF w3 sb 56 #[qv,va]:=h.sl.b3.aG F3 (λhc=>(nb _ hc).2.2 rfl);have Uu:aA [sb] w3 (w3.setCell (G sb 0) v'):=(aA.refl [sb] w3).setCell (p:=(G sb 0)) ay v';have oS:∀Es:List TypeId,56∉Es->∀lo hi,oF w3 lo hi Es [sb]:=λEs hE lo hi b X=>by simp at X;subst X;exact .inr (.inl ⟨_,_,b3,hE⟩)
 have vs3:eS w3 w.heap.size lb va S.vars:=h.sl.st.vs.off F3 (λb X=>by
  obtain⟨cs,zB⟩:=h.sl.st.qs.row.Tf (hq b X);exact .inr (.inl ⟨_,cs,zB,bd⟩))
 have hDn:D∉Ds:=λhc=>by have:=Ae D hc;omega
 have nD:∀k,k∈D::Ds->k∉qv.ownBlock.toList/\k≠sb:=λk hk=>by
  have hM:W.heap[k]? =H (.deferred (H [])):=by
   rcases List.mem_cons.1 hk with rfl|hk
   ·exact hD
   ·exact h.sl.sV.at_ k hk
  refine⟨λhc=>?_,λe=>?_⟩
  ·obtain⟨cs,zB⟩:=h.sl.st.qs.row.Tf (hq k hc);unfold aF at zB;rw[hM]at zB;cases zB
  ·subst e;have:=h.sl.b3;unfold aF at this;rw[hM]at this;cases this
 refine⟨_,_,⟨?_,⟨l1,by have:=F3.size;omega,by have:=Uu.size;omega⟩,?_,?_,b3.set 0 v',⟨by have:=q3.off Uu (oS _ bd _ _);exact this,?_⟩,⟨List.nodup_cons.2 ⟨hDn,h.sl.sV.nd⟩,λk hk=>?_⟩,λk hk=>?_⟩⟩
 ·exact(h.sl.rO.trans (F3.below hw (λk hk=>(h.sl.st.qs.i_ k (hq k hk)).1))).setCell (by show w.heap.size<=sb;omega) v'
 ·exact(h.sl.b1.aG F3 (λhc=>(nb _ hc).1 rfl)).aG Uu jz
 ·exact(h.sl.b2.aG F3 (λhc=>(nb _ hc).2.1 rfl)).aG Uu jz
 ·exact(vs3.off Uu (oS _ bd _ _)).mono (aL _) (by have:=F3.size;omega)
 ·have hM:W.heap[k]? =H (.deferred (H [])):=by
   rcases List.mem_cons.1 hk with rfl|hk
   ·exact hD
   ·exact h.sl.sV.at_ k hk
  obtain⟨n1,n2⟩:=nD k hk;have gm:k<W.heap.size:=(Array.getElem?_eq_some_iff.1 hM).1;exact(Uu.block k (by have:=F3.size;omega) (by simp;exact n2)).trans ((F3.block k gm n1).trans hM)
 ·rcases List.mem_cons.1 hk with rfl|hk
  ·omega
  ·exact h.sl.ml k hk
def Kn(w:UK)(mb eb key:Nat)(tv:UL)(wx:UK):Prop:=UJ wx (G eb 0)=H (.int .u64 key)/\UJ wx (G w.heap.size 0)=H (UI mb)/\UJ wx (G mb 2)=H tv
def Kn.aG{w W W':UK}{mb eb key:Nat}{tv:UL}(h:Kn w mb eb key tv W){T:List Nat}(f:aA T W W')(h1:eb∉T)(h2:w.heap.size∉T)(h3:mb∉T):Kn w mb eb key tv W':=by obtain⟨a1,a2,a3⟩:=h;exact⟨(dN (f.block eb (aH a1) h1)).trans a1,(dN (f.block _ (aH a2) h2)).trans a2,(dN (f.block _ (aH a3) h3)).trans a3⟩
def Kn.alloc{w W:UK}{mb eb key:Nat}{tv:UL}(h:Kn w mb eb key tv W)(o:Obj):Kn w mb eb key tv (W.alloc o):=h.aG ((aA.refl [] W).alloc o) ay ay ay
structure acU(w W6 W w1:UK)(sb lb mb:Nat)(va qv:UL)(S:PS)(Ds FB:List Nat)(lv:Nat->UL)(tv:Nat->Nat->UL)(l:List PE)(ev:UL)(te:Nat->UL)(x:PE)(v1:UL)(SS:UK->Prop):Prop where
 row:Row (w1.alloc (QP #[.int .u64 x.key,v1] 62)) 62 2 ev l.length (RE l te)
 news:∀j,j<1*2->(w1.alloc (QP #[.int .u64 x.key,v1] 62)).cell? (Addr.add (G w1.heap.size 0) j)=H (if j % 2=0 then .int .u64 x.key else v1)
 one:∀j,j<1*2->(if j % 2=0 then Value.int .u64 x.key else v1).oneCell'=true
 fin:∀v' w3,Row w3 62 2 v' (l.length+1) (fY (l.length*2) (RE l te) λj=>if j % 2=0 then .int .u64 x.key else v1)->aA ev.ownBlock.toList (w1.alloc (QP #[.int .u64 x.key,v1] 62)) w3->(v'.ownBlock=ev.ownBlock\/v'.ownBlock=H (w1.alloc (QP #[.int .u64 x.key,v1] 62)).heap.size)->
  SS w3/\(∀o,w3.frozen? (G lb o)=false)/\UJ w3 (G lb 0)=H ev/\SS (w3.setCell (G lb 0) v')/\KeepsFrom W6.heap.size W (w3.setCell (G lb 0) v')/\wF FB W (w3.setCell (G lb 0) v')/\∃ev' te',IL w W6 (w3.setCell (G lb 0) v') sb lb mb va qv S Ds lv tv (l++[x]) ev' te'
def abq(tb nt:Nat)(h:nt<=4)(w:UK):(Instr.sliceAt 116 (UI tb) K7 (H (Y nt)) K7).run prog w= .ok (to (H (G tb 0)) nt 4) w:=by
 have hl:prog.arrayLen 116=4:=by kernel_rfl
 have hs:∀w,(sizeOf (prog.elem 116)).run prog w= .ok 1 w:=λ_=>by kernel_rfl
 rw[run_sliceAt_array_h w 116 (G tb 0) bh .i64 nt O O,hs,hl];simp[slicedAt,Addr.add]
def Qz(x:eU):Array UL:=#[Y (x.tg 0),Y (x.tg 1),Y (x.tg 2),Y (x.tg 3)]
def jR(W:UK)(x:eU):UK:=(W.alloc (QP (Qz x) 116)).drew
def pK(W:UK)(x:eU):UK:=(jR W x).alloc (QP #[] 3)
structure abp(w W6 W:UK)(sb lb mb eb nt:Nat)(va qv:UL)(S:PS)(Ds FB:List Nat)(lv:Nat->UL)(tv:Nat->Nat->UL)(l:List PE)(ev:UL)(te:Nat->UL)(x:eU)(y:PE)(SS:UK->Prop):Prop where
 s0:SS (jR W x)
 c0:(jR W x).cell? (G lb 0)=H ev
 l0:lb<(jR W x).heap.size
 row:Row (pK W x) 3 1 (to (H (G ((jR W x).heap.size) 0)) 0 0) 0 (λ_=> Y 0)
 news:∀j,j<nt*1->(pK W x).cell? (Addr.add (G W.heap.size 0) j)=H (Y (x.tg j))
 w1:∀v1 w1,Row w1 3 1 v1 (0+nt) (fY (0*1) (λ_=> Y 0) λj=> Y (x.tg j))->aA (Value.slice (H (G ((jR W x).heap.size) 0)) 0 0).ownBlock.toList (pK W x) w1->
  (v1.ownBlock=(Value.slice (H (G ((jR W x).heap.size) 0)) 0 0).ownBlock\/v1.ownBlock=H (pK W x).heap.size)->SS w1/\UJ w1 (G lb 0)=H ev/\lb<w1.heap.size/\acU w W6 W w1 sb lb mb va qv S Ds FB lv tv l ev te y v1 SS
def IL.region{W6 W:UK}{sb lb mb eb:Nat}{va qv:UL}{S:PS}{Ds FB:List Nat}{lv:Nat->UL}{tv:Nat->Nat->UL}{l:List PE}{ev:UL}{te:Nat->UL}(h:IL w W6 W sb lb mb va qv S Ds lv tv l ev te)
 (Ae:∀D,D∈Ds->D<W6.heap.size) {x:eU} (heb:aF W eb 118 (aP x)) (hle:W6.heap.size<=eb) (hnt:p.aS.length<=4) (Qq:∀k,k∈FB->k<W6.heap.size/\k≠lb) {tvv:UL} (m2:UJ W (G mb 2)=H tvv) (oR:mb<w.heap.size):
 abp w W6 W sb lb mb eb p.aS.length va qv S Ds FB lv tv l ev te x (tY p x) (Kn w mb eb x.key tvv):=by
 obtain⟨z1,z2⟩:=h.sz;have hw:=h.sl.rO.size;have jo:=h.sl.lo;have bV:Below W.heap.size W (jR W x):=((aB _ W).alloc (aL _) _).trans (az _ _ 1);have zV:(jR W x).heap.size=W.heap.size+1:=by unfold jR;simp
 have FV:aA [] W (jR W x):=aA.af bV;have F2:aA [] W (pK W x):=FV.alloc _;have s0:Kn w mb eb x.key tvv W:=⟨heb.cell 0,h.sl.b1.cell 0,m2⟩;have sO:∀b,b∈ev.ownBlock.toList->ev.ownBlock=H b:=λb X=>by simpa using X
 have rE2:=h.es.row.aG F2 ay;refine⟨s0.aG FV ay ay ay,(h.bx.aG FV ay).cell 0,by have:=h.bx.lt;omega,?_,λj hj=>?_,λv1 w1 r1 f1 b1=>?_⟩
 ·have:=Zi (e:=3) (size:=1) (jR W x) #[] 0 (cK _) (cK _) ay;exact this
 ·rw[Addr.add_lit,Nat.zero_add];have X:aF (pK W x) W.heap.size 116 (Qz x):=((aF.new W _ _).drewN 1).alloc _;rw[X.cell j];unfold Qz;have:j=0\/j=1\/j=2\/j=3:=O;rcases this with rfl|rfl|rfl|rfl<;>rfl
 ·have f1':aA [W.heap.size+1] (pK W x) w1:=f1.mono (by intro k hk;rw[zV]at hk;simpa[Value.ownBlock]using hk);have D7:Below W.heap.size W (pK W x):=bV.alloc bV.size _;have F1:aA [] W w1:=(F2.mono (T:=[W.heap.size+1]) ay).trans f1' |>.Nx (by intro k hk;simp at hk;subst hk;exact .inr O);have s1:=s0.aG F1 ay ay ay;have bx1:=h.bx.aG F1 ay;have hlen:(tY p x).aS.length=p.aS.length:=by simp[tY]
  have r1':Row w1 3 1 v1 (tY p x).aS.length (aX (tY p x).aS):=by rw[hlen];rw[Nat.zero_add]at r1;refine r1.congr λo ho=>?_;unfold fY aX tY;rw[aw O];dsimp only;rw[jL _ _ O];congr 1
  have i1:∀b,v1.ownBlock=H b->W.heap.size<=b:=λb X=>by
   rcases b1 with h'|h'<;>rw[X]at h'<;>simp[Value.ownBlock]at h'
   ·rw[zV]at h';omega
   ·have:=F2.size;omega
  have b2:Below w1.heap.size w1 (w1.alloc (QP #[.int .u64 x.key,v1] 62)):=(aB _ _).alloc (aL _) _;obtain⟨Z9,Z_,MH,rfl⟩:=Row.mG r1;refine⟨s1,bx1.cell 0,bx1.lt,⟨(h.es.row.aG F1 ay).aG (aA.af (S:=[]) b2) ay,λj hj=>?_,λj hj=>?_,λv' w3 r3 f3 b3=>?_⟩⟩
  ·rw[Addr.add_lit,Nat.zero_add,(aF.new w1 62 #[.int .u64 (tY p x).key,to Z9 Z_ MH]).cell j];have:j=0\/j=1:=O;rcases this with rfl|rfl<;>rfl
  ·have:j=0\/j=1:=O;rcases this with rfl|rfl<;>rfl
  ·obtain⟨te',hI,hF⟩:=h.told (x:=tY p x) Ae D7 O f1' r1' i1 b2 f3 r3 b3;have F3:aA ev.ownBlock.toList W w3:=((F1.trans (aA.af b2)).mono ay).trans f3;have ne1:∀b,b∈ev.ownBlock.toList->b≠eb/\b≠w.heap.size/\b≠mb/\b≠lb:=λb X=>by have jV:=sO b X;have:=h.es.i_ b jV;obtain⟨cs,zB⟩:=h.es.row.Tf jV;refine⟨λe=>?_,O,O,O⟩;subst e;exact aF.ne zB heb bd rfl
   have s3:=s0.aG F3 (λhc=>(ne1 _ hc).1 rfl) (λhc=>(ne1 _ hc).2.1 rfl) (λhc=>(ne1 _ hc).2.2.1 rfl);have Qp:=h.bx.aG F3 (λhc=>(ne1 _ hc).2.2.2 rfl);have s4:Kn w mb eb x.key tvv (w3.setCell (G lb 0) v'):=s3.aG ((aA.refl [lb] w3).setCell (p:=(G lb 0)) ay v') jz jz jz;have hc:∀b,b∈lb::ev.ownBlock.toList->Mk.On W b:=λb X=>by
    rcases List.mem_cons.1 X with rfl|X
    ·exact h.bx.AH
    ·exact Row.AH h.es.row (sO b X)
   refine⟨s3,Qp.frozen,Qp.cell 0,s4,vo hF hc _,λk hk=>hF.block k (by have:=(Qq k hk).1;omega) (λhc=>?_),_,_,hI⟩;have h1:=Qq k hk;rcases List.mem_cons.1 hc with rfl|hc
   ·exact h1.2 rfl
   ·have:=h.es.i_ k (sO k hc);omega
def zw{p:Prop}(h:p:=by
 intro wz fj
 (try dsimp only at fj)
 exact qj):p:=h
def Mn{p:Prop}(h:p:=by
 refine Mk.pt ?_;refine fk (rs:=[13]) bh ay ?_;refine bZ rfl (λK hK=>?_) cz;refine fH ?_;go_simp;refine hK.out _ _ (Kn.alloc au _) (λau=>?_);clear hK K;exact Mm):p:=h
def Tz{p:Prop}(h:p:=by
 refine Mk.pt ?_;refine fk (rs:=[11]) bh ay ?_;refine bZ rfl (λK hK=>?_) cz;refine cJ rfl (.tmp 37) (.tmp 44) 24 rfl 3 underlying24 Vf.ck rfl bd (to (H (G V.heap.size 0)) 0 0) 0 (λ_=> Y 0) (by simp[Act.eval,Act.put]) Xf.o (G tbx 0) nt 4 (λj=> Y (xe.tg j)) (by simp[Act.eval,Act.put]) Xg.o (λj _=>rfl) Ko.o.1 Ko.o.2 ?_;intro v1 w1 r1 f1 b1;obtain⟨Z9,Z_,MH,rfl⟩:=Row.mG r1;obtain⟨wY,c1,l1,sT⟩:=HW1.o _ w1 r1 f1 b1;have Nq:=Z sT;clear r1 f1 b1 sT;clear au;refine hK.out _ _ wY (λau=>?_);clear hK K;refine Mk.pt ?_;refine Mk.tk 12 (v:=?_) rfl ?_ cY ?_;rotate_left
 ·exact zw
 exact Mn):p:=h
def Mm{p:Prop}(h:p:=by
 refine Mk.pt ?_;refine fk (rs:=[14]) bh ay ?_;refine bZ rfl (λK hK=>?_) cz;refine cJ rfl (.tmp 34) (.tmp 47) 60 rfl 62 underlying60 abv rfl bd ev lp.length (RE lp te) (by simp[Act.eval,Act.put]) (Nq.o.row) (G w1.heap.size 0) 1 1 (λj=>if j % 2=0 then .int .u64 xe.key else to Z9 Z_ MH) (by simp[Act.eval,Act.put]) Nq.o.news Nq.o.one Xh.o.1 Xh.o.2 ?_;intro v' w3 r3 f3 b3;obtain⟨va3,vn3,vc3,rfl⟩:=Row.mG r3;obtain⟨ET,f5,c5,Gb,Ov⟩:=Nq.o.fin _ w3 r3 f3 b3;have aeG:=Z Ov;clear r3 f3 b3 Ov;clear au;refine hK.out _ _ ET (λau=>?_);clear hK K;refine Mk.pt ?_;refine fk (rs:=[15]) bh ay ?_;refine bZ rfl (λK hK=>?_) cz;refine fH ?_;go_simp;refine hK.out _ _ Gb (λau=>?_);clear hK K;refine Mk.pt ?_;refine nW bh ⟨rfl,?_⟩ _;clear au ET Gb
 gi_wp2_with fail
 obtain⟨k1,k2,ev2,te2,hI2⟩:=aeG.o;exact⟨k1,k2,ev2,te2,by rw[List.map_append,HLP.o,List.map_cons,List.map_nil,HXE.o];exact hI2⟩):p:=h
def Kq(h:Mx w C RO K p c s t used rv)(tb:tM p)(gP:K.nd<=4194304):
 Calls prog 20 #[UI C.mb] w (ph w (nA p s)):=by
 have b0:Below w.heap.size w ((w.alloc (QP #[UI C.mb] 35)).alloc (QP #[Pl,Pl] 56)):=((aB _ _).alloc (aL _) _).alloc ay _;have h0:=h.later b0;have m11:((w.alloc (QP #[UI C.mb] 35)).alloc (QP #[Pl,Pl] 56)).cell? (G C.mb 11)=H C.vs:=h0.m.bg.cell 11;have HC:=Z (Vf.mM (Vf.aZ.vd h0.m.vs) (by have:=tb.v;omega) (λj _=>rfl));have lm:=h.m.bg.lt;have a0f:=Z h;have HT:=Z tb;have eV:=Z b0;clear h tb b0 h0;refine(callsIn_wide (n:=9)).1 ?_;refine callsIn_of_wp_marks func20 rfl trivial ?_ rfl;simp only[ntmps20,List.size_toArray,List.length_cons,List.length_nil,Nat.reduceAdd,Nat.reduceSub,Array.replicate_succ,Array.replicate_zero,List.push_toArray,List.append_toArray,List.nil_append,List.cons_append];refine wpIn_wide.2 ?_;go_wp2_with fail;refine HC.o.mono ?_;rintro e w2 ⟨vv,rfl,rV,bV,iV⟩;obtain⟨va,vn,vc,rfl⟩:=Row.mG rV;have bW:=eV.o.trans (bV.mono (by simp only[aM];omega));have k2:aF w2 w.heap.size 35 #[UI C.mb]:=((aF.new w _ _).alloc _).of (bV.block _ (by simp only[aM];omega));have k3:aF w2 (w.heap.size+1) 56 #[Pl,Pl]:=by have:=aF.new (w.alloc (QP #[UI C.mb] 35)) 56 #[Pl,Pl];rw[aM]at this;exact this.of (bV.block _ (by simp only[aM];omega))
 have J_:=Z (a0f.o.later bW);have sl3:SL w (w2.alloc (QP #[Pl,to va vn vc] 56)) w2.heap.size (w2.heap.size+1) C.mb (to va vn vc) Pl ⟨[],(List.range p.vars.length).map s.vars⟩ [] (λ_=> Pl) (λ_ _=> Pl):=by
  have Bj:=bV.size;simp only[aM]at Bj;refine⟨bW.alloc bW.size _,⟨O,O,ay⟩,k2.alloc _,k3.alloc _,aF.new w2 _ _,⟨⟨Row.nil _ _ _ _,vu.nil _ _,λq hq=>absurd hq ay,λq q' hq=>absurd hq ay⟩,⟨?_,λb X=>?_⟩⟩,Mk.Marks.nil _,ay⟩
  ·have e:(List.map s.vars (List.range p.vars.length)).length=p.vars.length:=by simp
   show Row _ _ 1 _ (List.map s.vars (List.range p.vars.length)).length (aX (List.map s.vars (List.range p.vars.length)));rw[e];refine(rV.alloc _).congr λo ho=>?_;unfold aX;rw[jL _ _ O]
  ·have:=iV b X;simp only[aM]at this;omega
 have HSL:=Z sl3;have d2:=k2.c1;have m0:UJ w2 (G C.mb 0)=H K.g:=J_.o.m.bg.cell 0;obtain⟨ga,gn,gc,lG⟩:=Row.mG J_.o.m.prog.g;rw[lG]at m0;have AB:gn=p.bw.length:=by
  rcases J_.o.m.prog.g.val with⟨h,h'⟩|⟨b,cap,h,-⟩
  ·rw[lG]at h;simp at h;omega
  ·rw[lG]at h;simp at h;omega
 obtain rfl:=AB;have l2:=k2.lt;have ZP:=J_.o.m.bg.lt;have zt:=HT.o.g;clear rV iV bV bW m11 HC lm lG eV k2 k3 sl3;go_wp2;refine Mk.aN (acT w w2.heap.size C.mb (to va vn vc) p s) (p.bw.length+1) ?start ?zero ?round
 case start=>exact⟨0,[],_,_,_,_,cK _,O,qi rfl,HSL⟩
 case zero=>exact λa W hh=>by obtain⟨q,_,_,_,_,_,h1,h2,_⟩:=hh;omega
 clear HSL J_ d2 m0 l2 ZP;generalize w2.heap.size=sb
 case round=>
  rintro m a W ⟨q,Ds,qv,lv,tv,hi,hq,hm,⟨J,rfl⟩,rF⟩;have MW:=a0f.o.later rF.o.rO;have d2:=rF.o.b1.c1;have m9:UJ W (G C.mb 9)=H (UI C.ab):=MW.m.bg.cell 9;have l1:=rF.o.b1.lt;have lm:=MW.m.bg.lt;by_cases be:q<p.bw.length
  ·obtain⟨wA,Qt⟩:∃wA,wA=W.alloc (QP #[Pl] 60):=⟨_,rfl⟩;have bA:Below W.heap.size W wA:=by rw[Qt];exact(aB _ _).alloc (aL _) _
   have Ke:=Z (MW.later bA);have RJ:=Z (rF.o.later bA);have kw:wA.heap.size=W.heap.size+1:=by rw[Qt];simp
   have kl:aF wA W.heap.size 60 #[Pl]:=by rw[Qt];exact aF.new W _ _
   have HL:=Z (eB.VL Ke.o.m.ar gP be);have Xa:=Z kl;have zH:=Z kw;clear MW bA kw kl;go_wp2_with fail;rw[<-Qt];clear Qt;refine HL.o.mono ?_;rintro e w6 ⟨rfl,Qu,AR⟩;have VF:W.heap.size+1=wA.heap.size:=zH.o.symm;have hhl:=rF.o.lo;generalize W.heap.size=lb at*;have hqL:((rowsOf s.a (s.a.ls q)).map λy=>tY p y.2)=nz p s q:=by unfold rowsOf nz;rw[List.map_map];rfl
   have oM:=Ke.o.m.ar.tB be;have hlen:(rowsOf s.a (s.a.ls q)).length<=4194304:=by rw[eB.kR];have:=oM.1;omega
   have b6:=AR.rO;have Qv:wA.heap.size<w6.heap.size:=AR.box.lt;have HR6:=Z (wS AR);have uS:∀k,k∈dM Qu->wA.heap.size<=k/\k<w6.heap.size:=by
    intro k hk;rcases AR.own.2 with⟨rfl,_⟩|⟨g,cap,zF,rfl,h1,h2,_⟩
    ·simp[dM]at hk
    ·simp[dM]at hk;subst hk;exact⟨h1,(Array.getElem?_eq_some_iff.1 h2).1⟩
   have Fw:=Z (eB.sq Fence.wide 8 trivial rfl O wA.heap.size wA.heap.size Qu (rowsOf s.a (s.a.ls q)) O w6 AR.box HR6.o (λk hk=>(uS k hk).2));have No:=Z (RJ.o.later b6);have Ng:=Z (Xa.o.of (b6.block _ O));have Uc:=Z (Ke.o.later b6);have HQL:=Z hqL;have qC:=AR.box.lt;clear hqL AR b6 HL RJ Xa Ke HR6 oM;generalize rowsOf s.a (s.a.ls q)=L at*;have Ae:∀D,D∈Ds->D<w6.heap.size:=λD hD=>No.o.sV.lt hD;have m2:UJ w6 (G C.mb 2)=H K.t:=Uc.o.m.bg.cell 2;obtain⟨ta,tn,tc,VY⟩:=Row.mG Uc.o.m.prog.t;rw[VY]at m2;have htl:tn=p.aS.length:=by
    rcases Uc.o.m.prog.t.val with⟨h,h'⟩|⟨b,cap,h,-⟩
    ·rw[VY]at h;simp at h;omega
    ·rw[VY]at h;simp at h;omega
   obtain rfl:=htl;have HTV:=Z VY;have Up:=Z Ae;have J_:=Z m2;clear m2 VY Ae;go_wp2_with fail;refine(wpIn_wide (n:=9)).1 ?_;refine wpIn_rangeFunc_ownH (n:=9) (F:=Fence.wide) rfl O (gf:=136) (lb:=#[UI wA.heap.size]) rfl trivial (Proofs.enters_of func136 bh rfl) Fw.o wF.t
    (wF.b (by intro k hk;rcases List.mem_cons.1 hk with rfl|hk;exact Qv;exact(uS k hk).2)) (aB _ _) (λ_=>rfl)
    (λpre W=>∃ev te,Hid (IL w w6 W sb lb C.mb (to va vn vc) qv ⟨(List.range q).map (nz p s),(List.range p.vars.length).map s.vars⟩ Ds lv tv (pre.map λy=>tY p y.2) ev te))
    (λc pre W=>False) ?hI ?hIx ?h0 (λx a' W=>AxS w w6 lb x a' W) (λx a' _ W W' row hs hg hr=>hs.grown hg hr) ?assign ?body ?done ?stop
   case hI=>exact λpre W W' row ⟨ev,te,hh⟩ hg hr=>⟨ev,te,hh.o.grown Up.o hg hr⟩
   case hIx=>exact λc pre W W' row hh _ _=>hh
   case h0=>exact⟨Pl,λ_=> Pl,⟨No.o.up hhl.2.2 O,Ng.o,⟨Row.nil _ _ _ _,vu.nil _ _,λi hi=>absurd hi ay⟩,O,aL _⟩⟩
   case assign=>
    rintro l pre x W K ⟨ev,te,jh⟩ hK;unfold bL
    gi_wp2
    have bB:Below W.heap.size W (W.alloc (QP (aP x.2) 118)):=(aB _ _).alloc (aL _) _;refine hK _ _ ((KeepsOthers.alloc _ _).from _) (λk hk=>bB.block k ?_) ⟨ev,te,jh.o.later bB⟩ ⟨W.heap.size,qi rfl,aF.new W _ _,jh.o.sz.2⟩;have:=jh.o.sz.2;rcases List.mem_cons.1 hk with rfl|hk
    ·omega
    ·have:=(uS k hk).2;omega
   case stop=>exact λD c pre W _ _ hh _=>absurd hh ay
   case body=>
    rintro l pre x a' W hl hr ⟨ev,te,jh⟩ ⟨eb,⟨J2,rfl⟩,heb,hle⟩ pZ;have d2:=jh.o.sl.b1.c1;have l2:=jh.o.sl.b1.lt;obtain⟨e0,e1,e2,e3,e4⟩:=heb.c5;have Qq:∀k,k∈wA.heap.size::dM Qu->k<w6.heap.size/\k≠lb:=by
     intro k hk;rcases List.mem_cons.1 hk with rfl|hk
     ·exact⟨Qv,O⟩
     ·have:=uS k hk;exact⟨this.2,O⟩
    have m2:UJ W (G C.mb 2)=H (to ta p.aS.length tc):=by rw[<-HTV.o];exact(a0f.o.later jh.o.sl.rO).m.bg.cell 2
    have RG:=jh.o.region Up.o heb hle HT.o.t Qq m2 a0f.o.m.bg.lt;have EB:(pre.map (λy:Nat×eU=>tY p y.2)).length<L.length:=by rw[List.length_map];exact pZ
    have hnt:=HT.o.t;generalize Ty:pre.map (λy:Nat×eU=>tY p y.2)=lp at*;have HLP:=Z Ty;have Ko:=Z (show 0+p.aS.length<=maxLen/\(0+p.aS.length)*8<=140737488355328 by unfold maxLen;omega);have Xh:=Z (show lp.length+1<=maxLen/\(lp.length+1)*32<=140737488355328 by unfold maxLen;omega);clear Ty Qq m2 jh heb pZ
    gi_wp2_with fail
    clear d2 l2 e0 e1 e2 e3 e4;obtain⟨ru,c0,l0,QA,QB,jF⟩:=RG;unfold pK at QA QB jF;refine Mk.pA (S:=(λwx=>UJ wx (G eb 0)=H (.int .u64 x.2.key)/\UJ wx (G w.heap.size 0)=H (UI C.mb)/\UJ wx (G C.mb 2)=H (to ta p.aS.length tc))) bh bh ru (λau=>?_);change wpAnyH _ _ _ _ _ _ _ _ (jR W x.2);replace au:=ru;unfold Kn at au;clear ru;generalize jR W x.2=V at*;generalize W.heap.size=tbx at*;generalize Um:x.2=xe at*;have HXE:=Z Um;clear Um;generalize afn:p.aS.length=nt at*;have Xf:=Z QA;have Xg:=Z QB;have HW1:=Z jF;clear QA QB jF;have xZ:=abq tbx nt hnt;refine Mk.tk 1 (v:=?_) rfl ?_ cY ?_;rotate_left
    ·exact zw
    refine Mk.pt ?_;refine Mk.tk 2 (v:=?_) rfl ?_ cY ?_;rotate_left
    ·exact zw
    refine Mk.pt ?_;refine Mk.tk 4 (v:=?_) rfl ?_ cY ?_;rotate_left
    ·exact zw
    refine Mk.pt ?_;refine Mk.tk 5 (v:=?_) rfl ?_ cY ?_;rotate_left
    ·exact zw
    refine Mk.pt ?_;refine Mk.tk 6 (v:=?_) rfl ?_ cY ?_;rotate_left
    ·exact zw
    refine Mk.pt ?_;refine Mk.tk 7 (v:=?_) rfl ?_ cY ?_;rotate_left
    ·exact zw
    refine Mk.pt ?_;refine Mk.tk 8 (v:=?_) rfl ?_ cY ?_;rotate_left
    ·exact zw
    refine Mk.pt ?_;refine Mk.tk 9 (v:=?_) rfl ?_ cY ?_;rotate_left
    ·exact zw
    refine Mk.pt ?_;refine Mk.tk 10 (v:=?_) rfl ?_ cY ?_;rotate_left
    ·exact zw
    refine Mk.pt ?_;refine fk (rs:=[0,3]) bh ay ?_;refine bZ rfl (λK hK=>?_) (bZ rfl (λK hK=>?_) cz)
    ·refine fH ?_;go_simp;refine hK.out _ _ au (λau=>?_);clear hK K;refine Mk.pt ?_;refine fk (rs:=[3]) bh ay ?_;refine bZ rfl (λK hK=>?_) cz;refine fH ?_;go_simp;refine hK.out _ _ (Kn.alloc au _) (λau=>?_);clear hK K;exact Tz
    ·refine fH ?_;go_simp;refine hK.out _ _ (Kn.alloc au _) (λau=>?_);clear hK K;refine Mk.pt ?_;refine fk (rs:=[0,11]) bh ay ?_;refine bZ rfl (λK hK=>?_) (bZ rfl (λK hK=>?_) cz)
     ·refine fH ?_;go_simp;refine hK.out _ _ au (λau=>?_);clear hK K;exact Tz
     ·refine cJ rfl (.tmp 37) (.tmp 44) 24 rfl 3 underlying24 Vf.ck rfl bd (to (H (G V.heap.size 0)) 0 0) 0 (λ_=> Y 0) (by simp[Act.eval,Act.put]) Xf.o (G tbx 0) nt 4 (λj=> Y (xe.tg j)) (by simp[Act.eval,Act.put]) Xg.o (λj _=>rfl) Ko.o.1 Ko.o.2 ?_;intro v1 w1 r1 f1 b1;obtain⟨Z9,Z_,MH,rfl⟩:=Row.mG r1;obtain⟨wY,c1,l1,sT⟩:=HW1.o _ w1 r1 f1 b1;have Nq:=Z sT;clear r1 f1 b1 sT;clear au;refine hK.out _ _ wY (λau=>?_);clear hK K;refine Mk.pt ?_;refine Mk.tk 12 (v:=?_) rfl ?_ cY ?_;rotate_left
      ·exact zw
      refine Mk.pt ?_;refine fk (rs:=[0,13]) bh ay ?_;refine bZ rfl (λK hK=>?_) (bZ rfl (λK hK=>?_) cz)
      ·refine fH ?_;go_simp;refine hK.out _ _ au (λau=>?_);clear hK K;exact Mn
      ·refine fH ?_;go_simp;refine hK.out _ _ (Kn.alloc au _) (λau=>?_);clear hK K;refine Mk.pt ?_;refine fk (rs:=[0]) bh ay ?_;refine bZ rfl (λK hK=>?_) cz;refine fH ?_;go_simp;refine hK.out _ _ au (λau=>?_);clear hK K;exact Mm
   case done=>
    rintro D ys W hD rfl ⟨ev,te,jh⟩ Xb;rw[HQL.o]at jh;have r0:=jh.o.sl.b3.c1;have r1:=jh.o.bx.c1;have l3:=jh.o.sl.b3.lt;have l4:=jh.o.bx.lt;have lsl:sb≠lb:=O;have bB:Below W.heap.size W (W.alloc (QP #[ev] 60)):=(aB _ _).alloc (aL _) _;have bo:=jh.o.sl.st.qs.row.aG (aA.af (S:=[]) bB) ay;have uS:((List.range q).map (nz p s)).length=q:=by simp
    rw[uS]at bo;have pY:=Z bo;obtain⟨ea,en,ec,rfl⟩:=Row.mG jh.o.es.row;have Ro:=Z (show q+1<=maxLen/\(q+1)*24<=140737488355328 by unfold maxLen;omega);have DA:∀v' w3,Row w3 60 1 v' (q+1) (fY (q*1) lv λ_=> to ea en ec)->aA qv.ownBlock.toList (W.alloc (QP #[to ea en ec] 60)) w3->(v'.ownBlock=qv.ownBlock\/v'.ownBlock=H (W.alloc (QP #[to ea en ec] 60)).heap.size)->
     (∀o,w3.frozen? (G sb o)=false)/\UJ w3 (G sb 0)=H qv/\sb<w3.heap.size/\∃lv' RS,SL w (w3.setCell (G sb 0) v') sb w3.heap.size C.mb (to va vn vc) v' ⟨(List.range (q+1)).map (nz p s),(List.range p.vars.length).map s.vars⟩ (D::Ds) lv' RS:=by
     intro v' w3 r3 f3 i3;have r3':=r3;rw[<-uS]at r3;obtain⟨lv',RS,hn⟩:=SL.next jh.o Up.o bB f3 r3 i3 Xb hD;have nb:sb∉qv.ownBlock.toList:=λhc=>by obtain⟨cs,zB⟩:=jh.o.sl.st.qs.row.Tf (b:=sb) (by simpa using hc);exact aF.ne zB jh.o.sl.b3 bd rfl
     have b3:=(jh.o.sl.b3.aG (aA.af (S:=[]) bB) ay).aG f3 nb;refine⟨b3.frozen,b3.cell 0,b3.lt,lv',RS,?_⟩;rw[List.range_succ,List.map_append];exact hn
    have Dl:=Z DA;clear jh bo bB DA uS Xb Fw HQL;go_wp2_with (at_builtin;refine bX rfl _ _ 54 rfl 60 underlying54 abu rfl bd qv q lv rfl pY.o (G W.heap.size 0) 1 1 (λ_=> to ea en ec) rfl ?zZ ?Ut ?Da ?Ii ?_)
    case zZ=>intro j hj;obtain rfl:j=0:=O;exact(aF.new W 60 #[to ea en ec]).cell 0
    case Ut=>exact λj _=>rfl
    case Da=>exact Ro.o.1
    case Ii=>exact Ro.o.2
    intro v' w3 r3 f3 i3;obtain⟨va3,vn3,vc3,rfl⟩:=Row.mG r3;obtain⟨g1,g2,g3,lv',RS,g4⟩:=Dl.o _ w3 (by rw[Nat.mul_one];exact r3) f3 (by rw[aM];exact i3);have HG:=Z g4;clear r3 f3 i3 g4;go_wp2;exact⟨q+1,D::Ds,_,lv',RS,_,O,O,qi rfl,HG⟩
  ·obtain rfl:q=p.bw.length:=O;obtain⟨r0,r1⟩:=rF.o.b3.c2;obtain⟨s0,s1⟩:=rF.o.b2.c2;have abE:=rF.o.b2.frozen;have l2:=rF.o.b2.lt;have l3:=rF.o.b3.lt;have jo:=rF.o.lo;obtain⟨qa,qn,qc,rfl⟩:=Row.mG rF.o.st.qs.row;clear MW d2 m9;go_wp2_with fail;have F9:aA [w.heap.size+1] W ((W.setCell (G (w.heap.size+1) 0) (to qa qn qc)).setCell (G (w.heap.size+1) 1) (to va vn vc)):=((aA.refl [w.heap.size+1] W).setCell (p:=(G (w.heap.size+1) 0)) ay _).setCell (p:=(G (w.heap.size+1) 1)) ay _;have b9:aF ((W.setCell (G (w.heap.size+1) 0) (to qa qn qc)).setCell (G (w.heap.size+1) 1) (to va vn vc)) (w.heap.size+1) 56 #[to qa qn qc,to va vn vc]:=(rF.o.b2.set 0 _).set 1 _;have st9:=rF.o.st.off F9 (λb X=>by simp at X;subst X;exact .inr (.inl ⟨_,_,rF.o.b2,bd⟩));have aeH:Below w.heap.size w ((W.setCell (G (w.heap.size+1) 0) (to qa qn qc)).setCell (G (w.heap.size+1) 1) (to va vn vc)):=(rF.o.rO.setCell (by show w.heap.size<=w.heap.size+1;omega) _).setCell (by show w.heap.size<=w.heap.size+1;omega) _;have mk9:Mk.Marks ((W.setCell (G (w.heap.size+1) 0) (to qa qn qc)).setCell (G (w.heap.size+1) 1) (to va vn vc)) Ds:=rF.o.sV.keeps λk hk=>F9.block k (rF.o.sV.lt hk) (by simp;intro e;subst e;exact rF.o.sV.not rF.o.b2.AH hk);have hs9:=F9.size;generalize(W.setCell (G (w.heap.size+1) 0) (to qa qn qc)).setCell (G (w.heap.size+1) 1) (to va vn vc)=W9 at*;refine Mk.tC Ds _ mk9 λW' Ei=>?_;have b':aF W' (w.heap.size+1) 56 #[to qa qn qc,to va vn vc]:=b9.of (Ei.cells mk9 b9.AH);have st':=st9.off Ei.aG (λb X=> .inr (.inr ⟨_,mk9.at_ b X,rfl⟩));obtain⟨i0,i1⟩:=b'.c2;refine⟨.agg #[to qa qn qc,to va vn vc],by simp[results,results20,go_sem,i0,i1],?_⟩;exact⟨_,_,lv,tv,rfl,aeH.trans (Ei.below rF.o.ml),st'.mono (aL _) (by rw[Ei.size];omega)⟩
end
end Go.Ma
namespace Go.Ma
open Go.RowKit aj.Vm
open aj hiding aR an ak
def iW{w:UK}{e:TypeId}{size n:Nat}{v:UL}{g:Nat->UL}(h:Row w e size v n g):∃a c,v=to a n c/\n<=c/\c<=maxLen:=by
 rcases h.val with⟨e,rfl⟩|⟨_,_,e,h1,h2,-⟩
 ·exact⟨_,_,e,aL _,cK _⟩
 ·exact⟨_,_,e,h1,h2⟩
section
variable {w:UK}{a b:UL}{l:List Int}
variable {lo h1 h2 hi tZ h1' h2' hi':Nat}{c d a' b' c' d':UL}{L:PL}{lv lv':Nat->UL}
def FX(J:Nat->UL):Act:={tmps:=#[J 0,J 1,J 2,J 3,J 4,J 5,J 6,J 7,J 8,J 9,J 10,J 11,J 12,J 13,J 14,J 15,J 16,J 17,J 18,J 19,J 20,J 21,J 22,J 23,J 24,J 25,J 26,J 27,J 28,J 29,J 30,J 31,J 32,J 33,J 34,J 35,J 36,J 37,J 38,J 39,J 40,J 41,J 42,J 43,J 44,J 45,J 46,J 47,J 48,J 49,J 50,J 51,J 52,J 53,J 54,J 55,J 56,J 57,J 58,J 59,J 60,J 61,J 62,J 63,J 64,J 65,J 66,J 67,J 68,J 69,J 70,J 71,J 72,J 73,J 74,J 75,J 76,J 77,J 78,J 79,J 80,J 81,J 82,J 83,J 84,J 85,J 86,J 87,J 88,J 89,J 90,J 91,J 92,J 93,J 94,J 95,J 96,J 97,J 98,J 99,J 100,J 101,J 102,J 103,J 104,J 105,J 106,J 107,J 108,J 109,J 110,J 111,J 112,J 113,J 114,J 115,J 116,J 117,J 118,J 119,J 120,J 121,J 122],defers:=[]}
def FX.of(A:Array UL)(h:A=(FX λk=>A.getD k undef).tmps):({tmps:=A,defers:=[]}:Act)=FX λk=>A.getD k undef:=by rw[h];rfl
def SS1(W0:UK)(x y n:Nat)(m:Nat)(a:Act)(W:UK):Prop:=∃(J:Nat->UL) (i:Nat),a=FX J/\J 2=UI x/\J 3=UI y/\J 5=Y i/\i<=n/\m+i=n+1/\Hid (∃k,W=W0.drewN k)
def SS2(W0:UK)(x y n:Nat)(m:Nat)(a:Act)(W:UK):Prop:=∃(J:Nat->UL) (i:Nat),a=FX J/\J 2=UI x/\J 3=UI y/\J 6=Y i/\i<=n/\m+i=n+1/\Hid (Below W0.heap.size W0 W)
def SS3(W0:UK)(x y q n:Nat)(m:Nat)(a:Act)(W:UK):Prop:=∃(J:Nat->UL) (i:Nat),a=FX J/\J 2=UI x/\J 3=UI y/\J 6=Y q/\J 7=Y i/\i<=n/\m+i=n+1/\Hid (Below W0.heap.size W0 W)
def SS4(W0:UK)(x y q j xb yb n:Nat)(m:Nat)(a:Act)(W:UK):Prop:=∃(J:Nat->UL) (i:Nat),a=FX J/\J 2=UI x/\J 3=UI y/\J 6=Y q/\J 7=Y j/\J 8=UI xb/\J 9=UI yb/\J 10=Y i/\i<=n/\m+i=n+1/\Hid (∃k,W=W0.drewN k)
def Kr{w:UK}{v:UL}{l:List PE}{tv:Nat->UL}(h:Row w 62 2 v l.length (RE l tv)){i:Nat}(hi':i<l.length):∃b cap,v=to (H (G b 0)) l.length cap/\b<w.heap.size/\UJ w (G b (i*2))=H (.int .u64 (l.getD i ⟨0,[]⟩).key)/\UJ w (G b (i*2+1))=H (tv i):=by obtain⟨b,cap,e,h1,h2,h3⟩:=h.some O;subst e;have c0:=h.cell (o:=i*2) O;have c1:=h.cell (o:=i*2+1) O;unfold RE at c0 c1;rw[bk O,show i*2 / 2=i by omega]at c0;rw[aw O,show(i*2+1) / 2=i by omega]at c1;exact⟨b,cap,rfl,h3,c0,c1⟩
variable {qv vv qv' vv':UL}{S:PS}{tv RS:Nat->Nat->UL}
def IP(hx:jM w lo hi qv vv S lv tv)(hy:jM w tZ hi' qv' vv' S lv' RS):Calls prog 23 #[.agg #[qv,vv],.agg #[qv',vv']] w (λe w'=>e=C8 (.bool true)/\Below w.heap.size w w'):=by
 obtain⟨qa,qc,rfl,q1,q2⟩:=iW hx.qs.row;obtain⟨ra,rc,rfl,r1,r2⟩:=iW hx.vs.row;obtain⟨qa',qc',rfl,-,-⟩:=iW hy.qs.row;obtain⟨ra',rc',rfl,-,-⟩:=iW hy.vs.row;have HX:=Z hx;have HY:=Z hy;obtain⟨W0,kX⟩:∃W0,W0=(w.alloc (QP #[to qa S.aK.length qc,to ra S.vars.length rc] 56)).alloc (QP #[to qa' S.aK.length qc',to ra' S.vars.length rc'] 56):=⟨_,rfl⟩;have uw:=Z (show aF W0 w.heap.size 56 #[to qa S.aK.length qc,to ra S.vars.length rc]by rw[kX];exact(aF.new _ _ _).alloc _);have nI:=Z (show aF W0 (w.heap.size+1) 56 #[to qa' S.aK.length qc',to ra' S.vars.length rc']by rw[kX];exact aF.bR ay);have eV:=Z (show Below w.heap.size w W0 by rw[kX];exact((aB _ _).alloc (aL _) _).alloc ay _);clear hx hy;go_enter func23,ntmps23;go_wp2_with fail;rw[<-kX];clear kX;refine Mk.aN (SS1 W0 w.heap.size (w.heap.size+1) S.vars.length) (S.vars.length+1) ⟨_,0,FX.of _ rfl,rfl,rfl,rfl,cK _,O,Z ⟨0,rfl⟩⟩ (λa W hh=>by obtain⟨J,i,-,-,-,-,h1,h2,-⟩:=hh;omega) ?_;rintro m a W ⟨J,i,rfl,j2,j3,j5,hi,hm,HW⟩;obtain⟨k,rfl⟩:=HW.o;unfold FX;rw[j2,j3,j5];clear j2 j3 j5;have k1:UJ W0 (G w.heap.size 1)=H (to ra S.vars.length rc):=uw.o.cell 1;have l1:=uw.o.lt;by_cases be:i<S.vars.length
 ·have w2:IntKind.i64.wrap ((i:Int)+1)=((i+1:Nat):Int):=by unfold maxLen at r2;rw[bJ _ lI];omega
  have n1:UJ W0 (G (w.heap.size+1) 1)=H (to ra' S.vars.length rc'):=nI.o.cell 1;have l2:=nI.o.lt;have ha:=HX.o.vs.row.aG (aA.af (S:=[]) eV.o) ay;have X:=HY.o.vs.row.aG (aA.af (S:=[]) eV.o) ay;obtain⟨xa,xc,ea,-,-,la⟩:=ha.some O;obtain⟨ya,yc,eb,-,-,lb⟩:=X.some O;simp only[cM]at ea eb;obtain⟨rfl,-,rfl⟩:=ea;obtain⟨rfl,-,rfl⟩:=eb;have c0:UJ W0 (G xa i)=H (Y (S.vars.getD i 0)):=ha.cell (o:=i) O;have c1:UJ W0 (G ya i)=H (Y (S.vars.getD i 0)):=X.cell (o:=i) O;have dE:=Z be;generalize S.vars.getD i 0=z at*;clear ha X;go_wp2;go_quiet (fail);go_wp2;refine⟨_,i+1,FX.of _ rfl,rfl,rfl,?_,dE.o,O,Z ⟨_,by first|rfl|rw[Jn]⟩⟩;exact QC
 ·obtain rfl:i=S.vars.length:=O;clear be hi hm HW;have Fa:=Z (uw.o.drewN k);have Uq:=Z (nI.o.drewN k);have eF:=Z (eV.o.trans (az _ W0 k));go_wp2_with fail;clear k1 l1 uw nI eV;generalize W0.drewN k=W2 at*;refine Mk.aN (SS2 W2 w.heap.size (w.heap.size+1) S.aK.length) (S.aK.length+1) ⟨_,0,FX.of _ rfl,rfl,rfl,rfl,cK _,O,Z (aB _ _)⟩ (λa W hh=>by obtain⟨J,i,-,-,-,-,h1,h2,-⟩:=hh;omega) ?_;rintro m a W ⟨J,q,rfl,j2,j3,j6,hi,hm,HW⟩;unfold FX;rw[j2,j3,j6];clear j2 j3 j6;have Ur:=Fa.o.of (HW.o.block _ Fa.o.lt);have k0:=Ur.c1;have l1:=Ur.lt;by_cases be:q<S.aK.length
  ·have w2:IntKind.i64.wrap ((q:Int)+1)=((q+1:Nat):Int):=by unfold maxLen at q2;rw[bJ _ lI];omega
   have Gq:=Uq.o.of (HW.o.block _ Uq.o.lt);have n0:=Gq.c1;have l2:=Gq.lt;have hbW:=eF.o.trans (HW.o.mono eF.o.size);have ha:=HX.o.qs.row.aG (aA.af (S:=[]) hbW) ay;have X:=HY.o.qs.row.aG (aA.af (S:=[]) hbW) ay;obtain⟨xa,xc,ea,-,-,la⟩:=ha.some O;obtain⟨ya,yc,eb,-,-,lb⟩:=X.some O;simp only[cM]at ea eb;obtain⟨rfl,-,rfl⟩:=ea;obtain⟨rfl,-,rfl⟩:=eb;have c0:UJ W (G xa q)=H (lv q):=ha.cell (o:=q) O;have c1:UJ W (G ya q)=H (lv' q):=X.cell (o:=q) O;have hE:=HX.o.qs.q q be;have hE':=HY.o.qs.q q be;obtain⟨ea,ec,ev,e1,e2⟩:=iW hE.row;obtain⟨fa,fc,fv,f1,f2⟩:=iW hE'.row;rw[ev]at c0 hE;rw[fv]at c1 hE';have HE:=Z hE;have HE':=Z hE';have HC0:=Z c0;have Xi:=Z c1;have dE:=Z be;generalize S.aK.getD q []=L at*;generalize tv q=tq at*;generalize RS q=tq' at*;have KK1:=Z Ur;have KK2:=Z Gq;have CP:=Z hbW;clear ha X Ur Gq hE hE' ev fv hbW;go_wp2;go_quiet (fail);go_wp2_with fail;generalize hWd:W.drewN _=W3 at*;have pz:Below W.heap.size W W3:=by rw[<-hWd];exact az _ _ _
   have iy:=Z (CP.o.trans (pz.mono CP.o.size));have HW3:=Z (HW.o.trans (pz.mono HW.o.size));have xI:=Z (KK1.o.of (pz.block _ KK1.o.lt));have lF:=Z (KK2.o.of (pz.block _ KK2.o.lt));have HD0:=Z ((dN (pz.block _ la)).trans HC0.o);have Nq:=Z ((dN (pz.block _ lb)).trans Xi.o);have Nr:=Z (And.intro (eJ la pz.size) (eJ lb pz.size));clear hWd pz k0 l1 l2 n0 c0 c1 la lb KK1 KK2 CP HC0 Xi;refine Mk.aN (SS3 W3 w.heap.size (w.heap.size+1) q L.length) (L.length+1) ⟨_,0,FX.of _ rfl,rfl,rfl,rfl,rfl,cK _,O,Z (aB _ _)⟩ (λa W hh=>by obtain⟨J,i,-,-,-,-,-,h1,h2,-⟩:=hh;omega) ?_;rintro m a W4 ⟨J,i,rfl,j2,j3,j6,j7,hi,hm,HV⟩;unfold FX;rw[j2,j3,j6,j7];clear j2 j3 j6 j7;have Ur:=xI.o.of (HV.o.block _ xI.o.lt);have k0:=Ur.c1;have l1:=Ur.lt;have be:=dE.o;have d0:UJ W4 (G xa q)=H (to ea L.length ec):=(dN (HV.o.block _ Nr.o.1)).trans HD0.o;have la:xa<W4.heap.size:=aH d0;by_cases vG:i<L.length
   ·have w3:IntKind.i64.wrap ((i:Int)+1)=((i+1:Nat):Int):=by unfold maxLen at e2;rw[bJ _ lI];omega
    have Gq:=lF.o.of (HV.o.block _ lF.o.lt);have n0:=Gq.c1;have l2:=Gq.lt;have d1:UJ W4 (G ya q)=H (to fa L.length fc):=(dN (HV.o.block _ Nr.o.2)).trans Nq.o;have lb:ya<W4.heap.size:=aH d1;have wM:=iy.o.trans (HV.o.mono iy.o.size);obtain⟨xe,xec,ee,le,x0,x1⟩:=Kr (HE.o.row.aG (aA.af (S:=[]) wM) ay) vG;obtain⟨ye,yec,ef,lf,y0,y1⟩:=Kr (HE'.o.row.aG (aA.af (S:=[]) wM) ay) vG;simp only[cM]at ee ef;obtain⟨rfl,-,rfl⟩:=ee;obtain⟨rfl,-,rfl⟩:=ef;have hT:=HE.o.aS i vG;have hT':=HE'.o.aS i vG;obtain⟨ta,tc,et,t1,t2⟩:=iW hT.row;obtain⟨ua,uc,eu,u1,u2⟩:=iW hT'.row;rw[et]at x1 hT;rw[eu]at y1 hT';have HT:=Z hT.row;have HT':=Z hT'.row;have YY:=Z vG;have jK:=Z wM;have KK1:=Z Ur;have KK2:=Z Gq;generalize L.getD i ⟨0,[]⟩=E at*;clear hT hT' et eu wM Ur Gq;go_wp2_with fail;have KB1:=Z (show aF ((W4.alloc (QP #[.int .u64 E.key,to ta E.aS.length tc] 62)).alloc (QP #[.int .u64 E.key,to ua E.aS.length uc] 62)) W4.heap.size 62 #[.int .u64 E.key,to ta E.aS.length tc]from(aF.new _ _ _).alloc _);have KB2:=Z (show aF ((W4.alloc (QP #[.int .u64 E.key,to ta E.aS.length tc] 62)).alloc (QP #[.int .u64 E.key,to ua E.aS.length uc] 62)) (W4.heap.size+1) 62 #[.int .u64 E.key,to ua E.aS.length uc]from aF.bR ay);have DB:=Z (show Below W4.heap.size W4 ((W4.alloc (QP #[.int .u64 E.key,to ta E.aS.length tc] 62)).alloc (QP #[.int .u64 E.key,to ua E.aS.length uc] 62))from((aB _ _).alloc (aL _) _).alloc ay _);generalize(W4.alloc (QP #[.int .u64 E.key,to ta E.aS.length tc] 62)).alloc (QP #[.int .u64 E.key,to ua E.aS.length uc] 62)=V0 at*;clear k0 l1 d0 d1 n0 l2 la lb le lf x0 x1 y0 y1;refine Mk.aN (SS4 V0 w.heap.size (w.heap.size+1) q i W4.heap.size (W4.heap.size+1) E.aS.length) (E.aS.length+1) ⟨_,0,FX.of _ rfl,rfl,rfl,rfl,rfl,rfl,rfl,rfl,cK _,O,Z ⟨0,rfl⟩⟩ (λa W hh=>by obtain⟨J,i,-,-,-,-,-,-,-,-,h1,h2,-⟩:=hh;omega) ?_;rintro m' a V ⟨J,k,rfl,j2,j3,j6,j7,j8,j9,nM,hk,iY,HN⟩;obtain⟨abo,rfl⟩:=HN.o;unfold FX;rw[j2,j3,j6,j7,j8,j9,nM];clear j2 j3 j6 j7 j8 j9 nM;have z1:UJ V0 (G W4.heap.size 1)=H (to ta E.aS.length tc):=KB1.o.cell 1;have a1e:=KB1.o.lt;by_cases jZ:k<E.aS.length
    ·have w4:IntKind.i64.wrap ((k:Int)+1)=((k+1:Nat):Int):=by unfold maxLen at t2;rw[bJ _ lI];omega
     have z2:UJ V0 (G (W4.heap.size+1) 1)=H (to ua E.aS.length uc):=KB2.o.cell 1;have zl2:=KB2.o.lt;have uM:=jK.o.trans (DB.o.mono jK.o.size);have ha:=HT.o.aG (aA.af (S:=[]) uM) ay;have X:=HT'.o.aG (aA.af (S:=[]) uM) ay;obtain⟨xt,xtc,e8,-,-,la⟩:=ha.some O;obtain⟨abn,ytc,e9,-,-,lb⟩:=X.some O;simp only[cM]at e8 e9;obtain⟨rfl,-,rfl⟩:=e8;obtain⟨rfl,-,rfl⟩:=e9;have c0:UJ V0 (G xt k)=H (Y (E.aS.getD k 0)):=ha.cell (o:=k) O;have c1:UJ V0 (G abn k)=H (Y (E.aS.getD k 0)):=X.cell (o:=k) O;have Uq:=Z jZ;generalize E.aS.getD k 0=z at*;clear ha X uM;go_wp2;go_quiet (fail);go_wp2;refine⟨_,k+1,FX.of _ rfl,rfl,rfl,rfl,rfl,rfl,rfl,?_,Uq.o,O,Z ⟨_,by first|rfl|rw[Jn]⟩⟩
     first|rfl|exact bu (Value.int .i64) (show(k:Int)+1=((k+1:Nat):Int)by omega)
    ·obtain rfl:k=E.aS.length:=O;clear jZ hk iY;go_wp2;refine⟨_,i+1,FX.of _ rfl,rfl,rfl,rfl,?_,YY.o,O,Z (HV.o.trans (((DB.o).trans (az _ _ _)).mono HV.o.size))⟩;exact QC
   ·obtain rfl:i=L.length:=O;clear vG hm hi;go_wp2;refine⟨_,q+1,FX.of _ rfl,rfl,rfl,?_,dE.o,O,Z (HW3.o.trans (HV.o.mono HW3.o.size))⟩;exact MO
  ·obtain rfl:q=S.aK.length:=O;clear be;go_wp2
   first|refine Vf.fy (P:=prog) (fn:=Proofs.Tryz.f23) rfl ?_|(rw[Exit.noGoto_ret];refine Vf.fy (P:=prog) (fn:=Proofs.Tryz.f23) rfl ?_)
   exact⟨rfl,eF.o.trans (HW.o.mono eF.o.size)⟩
structure MR where
 C:Co
 R:List Nat
 s:St
 t:dZ
 u:Int
def MR.at_(x:MR)(w:UK)(p:aQ)(c:Cp):Prop:=∃K T,Mx w x.C x.R K p c x.s x.t x.u (.pointer K7)/\Gi K x.C.mb p c/\Env p c T/\nw p/\Inv (aC p c) x.s
structure IQ(w:UK)(lo:Nat)(p:aQ)(c:Cp)(n:Nat)(F:Nat->MR):Prop where
 m:∀i,i<n->(F i).at_ w p c
 ap:∀i j,i<n->j<n->i≠j->∀b,b∈(F i).C.l->b∉(F j).C.l++(F j).R
 low:∀i,i<n->∀b,b∈(F i).C.l++(F i).R->lo<=b
 sz:lo<=w.heap.size
def DF(p:aQ)(c:Cp)(kind:Int)(key:Nat)(z:St×dZ×Int):St×dZ×Int:=
 if kind=1 then(jJ p c z.1 key,(if jd p c z.1 key=0 then z.2.1 else{z.2.1 with qG:=wrap64 (z.2.1.qG+1)}),z.2.2)
 else if kind=0 then(nr p c z.1 key,(if jc p c z.1 key=0 then tX z.2.1 (rG p c z.1 key) (rR p c z.1 key)else z.2.1),((uz p c z.1 key).1:Nat))
 else z
def MR.z(x:MR):St×dZ×Int:=(x.s,x.t,x.u)
def vq(F:Nat->MR)(i:Nat)(x:MR):Nat->MR:=λj=>if j=i then x else F j
end
section
variable {w w':UK}{lo n i:Nat}{p:aQ}{c:Cp}{F:Nat->MR}{C':Co}
def MR.at_.later{x:MR}(h:x.at_ w p c)(b:Below w.heap.size w w'):x.at_ w' p c:=by obtain⟨K,T,h1,h2⟩:=h;exact⟨K,T,h1.later b,h2⟩
def MR.at_.lt{x:MR}(h:x.at_ w p c){b:Nat}(X:b∈x.C.l++x.R):b<w.heap.size:=by
 obtain⟨K,T,h1,-⟩:=h;rcases List.mem_append.1 X with X|X
 ·exact h1.sep.lt b X
 ·exact h1.sep.dO b X
def IQ.later(h:IQ w lo p c n F)(b:Below w.heap.size w w'):IQ w' lo p c n F:=⟨λi hi=>(h.m i hi).later b,h.ap,h.low,cU h.sz b.size⟩
def IQ.ou(h:IQ w lo p c n F)(hi:i<n){s':St}{t':dZ}{u':Int}(k:bT w w' (F i).C C')(m:(MR.mk C' (F i).R s' t' u').at_ w' p c):IQ w' lo p c n (vq F i ⟨C',(F i).R,s',t',u'⟩)/\Below lo w w':=by
 have X:Below lo w w':=k.low (λb X=>h.low i hi b (by simp[X])) h.sz;have kw:w.heap.size<=w'.heap.size:=k.f.size;refine⟨⟨λj hj=>?_,λa b ha jV bm x hx=>?_,λj hj x hx=>?_,cU h.sz X.size⟩,X⟩
 ·unfold vq;split
  ·exact m
  ·next bm=>obtain⟨K,T,h1,h2⟩:=h.m j hj;exact⟨K,T,h1.aG k.f (λb X hc=>h.ap i j hi hj (λe=>bm e.symm) b hc (by simp[X])) (λb X hc=>h.ap i j hi hj (λe=>bm e.symm) b hc (by simp[X])),h2⟩
 ·unfold vq at hx ⊢;by_cases ea:a=i
  ·rw[bk ea]at hx;rw[aw (λe=>bm (ea.trans e.symm))];intro hc;rcases k.c x hx with h1|h1
   ·exact h.ap i b hi jV (λe=>bm (ea.trans e)) x h1 hc
   ·have:=(h.m b jV).lt hc;omega
  ·rw[aw ea]at hx;by_cases eb:b=i
   ·rw[bk eb];intro hc;rcases List.mem_append.1 hc with hc|hc
    ·rcases k.c x hc with h1|h1
     ·exact h.ap i a hi ha (λe=>ea e.symm) x h1 (by simp[hx])
     ·have:=(h.m a ha).lt (b:=x) (by simp[hx]);omega
    ·exact h.ap a i ha hi ea x hx (by simp[hc])
   ·rw[aw eb];exact h.ap a b ha jV bm x hx
 ·unfold vq at hx;split at hx
  ·rcases List.mem_append.1 hx with hx|hx
   ·rcases k.c x hx with h1|h1
    ·exact h.low i hi x (by simp[h1])
    ·have:=h.sz;omega
   ·exact h.low i hi x (by simp[hx])
  ·exact h.low j hj x hx
variable {j mb mb2:Nat}{x:MR}
def MR.at_.state(h:x.at_ w p c)(hm:x.C.mb=mb):Calls prog 20 #[UI mb] w (ph w (nA p x.s)):=by subst hm;obtain⟨K,T,h1,M,-⟩:=h;exact Kq h1 (cE M.check).1 M.AY
def MR.at_.tX(h:x.at_ w p c)(hm:x.C.mb=mb):Calls prog 29 #[UI mb] w (λe w'=>e=C8 (Uk x.t)/\Below w.heap.size w w'):=by subst hm;obtain⟨K,T,h1,M,-⟩:=h;exact ab0 h1
def MR.at_.used(h:x.at_ w p c)(hm:x.C.mb=mb):Calls prog 28 #[UI mb] w (λe w'=>e=C8 (Y x.u)/\w=w'):=by subst hm;obtain⟨K,T,h1,M,-⟩:=h;exact Qj h1
def zx(h:IQ w lo p c n F)(hi:i<n)(hj:j<n)(hz:(F i).z=(F j).z)(hm:(F i).C.mb=mb)(rD:(F j).C.mb=mb2):Calls prog 24 #[UI mb,UI mb2] w (λe w'=>e=C8 (.bool true)/\Below w.heap.size w w'):=by have nQ:(F i).s=(F j).s:=bu (·.1) hz;have qm:(F i).t=(F j).t:=bu (·.2.1) hz;have ZK:(F i).u=(F j).u:=bu (·.2.2) hz;have HA:=Z (show(F i).at_ w p c/\(F i).C.mb=mb from⟨h.m i hi,hm⟩);have HB:=Z (show(F j).at_ w p c/\(F j).C.mb=mb2 from⟨h.m j hj,rD⟩);have HZ:=Z (show _/\_/\_ from⟨nQ,qm,ZK⟩);clear h hi hj hz hm rD nQ qm ZK;go_enter func24,ntmps24;go_wp2_with fail;refine(HA.o.1.state HA.o.2).mono ?_;rintro e w1 ⟨q1,v1,l1,t1,rfl,b1,s1⟩;have cR:=Z b1;have tu:=Z s1;clear b1 s1;go_wp2_with fail;refine((HB.o.1.later cR.o).state HB.o.2).mono ?_;rintro e w2 ⟨q2,v2,l2,t2,rfl,b2,s2⟩;rw[<-HZ.o.1]at s2;have wL:=Z (show _/\_ from⟨tu.o.off (aA.af (S:=[]) b2) (oF.nil _ _ _ _),s2⟩);have eF:=Z (cR.o.trans (b2.mono cR.o.size));clear b2 s2 tu;go_wp2_with fail;refine(IP wL.o.1 wL.o.2).mono ?_;rintro e w3 ⟨rfl,b3⟩;have iy:=Z (eF.o.trans (b3.mono eF.o.size));clear b3;go_wp2_with fail;refine((HA.o.1.later iy.o).tX HA.o.2).mono ?_;rintro e w4 ⟨rfl,b4⟩;have jK:=Z (iy.o.trans (b4.mono iy.o.size));clear b4;go_wp2_with fail;refine((HB.o.1.later jK.o).tX HB.o.2).mono ?_;rintro e w5 ⟨rfl,b5⟩;have nU:=Z (jK.o.trans (b5.mono jK.o.size));clear b5;rw[<-HZ.o.2.1];unfold Uk;go_wp2_with fail;refine((HA.o.1.later nU.o).used HA.o.2).mono ?_;rintro e w6 ⟨rfl,rfl⟩;go_wp2_with fail;refine((HB.o.1.later nU.o).used HB.o.2).mono ?_;rintro e w7 ⟨rfl,rfl⟩;rw[<-HZ.o.2.2];go_wp2;go_ret;exact⟨rfl,nU.o⟩
def wo{α:Type}(f:Nat->α)(j:Nat)(x:α):Nat->α:=λi=>if i=j then x else f i
def TG(w:UK)(lo:Nat)(p:aQ)(c:Cp)(n:Nat)(M:Nat->Nat)(a0b:Nat->St×dZ×Int):Prop:=∃F,(∀j,j<n->(F j).C.mb=M j/\(F j).z=a0b j)/\IQ w lo p c n F
variable {M:Nat->Nat}{a0b:Nat->St×dZ×Int}
def TG.later(h:TG w lo p c n M a0b)(b:Below w.heap.size w w'):TG w' lo p c n M a0b:=by obtain⟨F,h1,h2⟩:=h;exact⟨F,h1,h2.later b⟩
def TG.IT{M':Nat->Nat}{Z':Nat->St×dZ×Int}(h:TG w lo p c n M a0b)(e:∀j,j<n->M j=M' j/\a0b j=Z' j):TG w lo p c n M' Z':=by obtain⟨F,h1,h2⟩:=h;exact⟨F,λj hj=>⟨(h1 j hj).1.trans (e j hj).1,(h1 j hj).2.trans (e j hj).2⟩,h2⟩
def IQ.vm(h:IQ w lo p c n F)(hi:i<n):iI w (F i).C lo p c (F i).s (F i).t (F i).u:=by obtain⟨K,T,h1,h2,h3,h4,h5⟩:=h.m i hi;exact⟨(F i).R,K,T,h1,h2,h3,h4,h5,h.low i hi⟩
def TG.vm(h:TG w lo p c n M a0b)(hi:i<n):∃C,C.mb=M i/\iI w C lo p c (a0b i).1 (a0b i).2.1 (a0b i).2.2:=by obtain⟨F,h1,h2⟩:=h;have h3:=h2.vm hi;have e:=(h1 i hi).2;rw[<-e];exact⟨(F i).C,(h1 i hi).1,h3⟩
def TG.zx(h:TG w lo p c n M a0b)(hi:i<n)(hj:j<n)(hz:a0b i=a0b j):Calls prog 24 #[UI (M i),UI (M j)] w (λe w'=>e=C8 (.bool true)/\Below w.heap.size w w'):=by obtain⟨F,h1,h2⟩:=h;exact Ma.zx h2 hi hj ((h1 i hi).2.trans (hz.trans (h1 j hj).2.symm)) (h1 i hi).1 (h1 j hj).1
end
open Vf (Kp fW pV aZ cV)
def UM(p:aQ)(c:Cp)(s:St)(key:Nat):Bool:=if jc p c s key=0 then rG p c s key else false
def Tr(p:aQ)(c:Cp)(s:St)(key:Nat):List Nat:=if jc p c s key=0 then rR p c s key else[]
def VmR(w:UK)(C:Co)(RO:List Nat)(p:aQ)(c:Cp)(s:St)(used:Int):Prop:=∃(K:Kc) (T:Map) (t:dZ),Mx w C RO K p c s t used (.pointer K7)/\Gi K C.mb p c/\Env p c T/\nw p/\Inv (aC p c) s
section
variable {w w':UK}{C C':Co}{RO:List Nat}{lo:Nat}{p:aQ}{c:Cp}{s:St}{t:dZ}{used:Int}
def iI.r(h:iI w C lo p c s t used):∃RO,VmR w C RO p c s used/\∀b,b∈C.l++RO->lo<=b:=by obtain⟨RO,K,T,h1,h2,h3,h4,h5,h6⟩:=h;exact⟨RO,⟨K,T,t,h1,h2,h3,h4,h5⟩,h6⟩
variable {CA CA' CB CB':Co}{RA RB:List Nat}{abl sA' abk sB':St}{abi uA' abh uB':Int}{tv:UL}
def qZ{w:UK}{b n size:Nat}{E:TypeId}{cs:Array UL}{g:Nat->UL}(h:aF w b E cs)(hc:cs=((List.range (n*size)).map g).toArray)(hm:n<=maxLen):aZ w size (to (H (G b 0)) n n) n g:=by refine .inr ⟨_,_,rfl,aL _,hm,λo ho=>⟨rfl,?_⟩⟩;rw[h.cell,hc,Nat.zero_add];simp[ho]
def aaz(w:UK)(e:Ending)(w':UK):Prop:=∃xg xo xc,e=C8 (pV ⟨to xg 1 1,Pl,Pl,to xo 1 1,to xc 9 9⟩ gX)/\fW w' ⟨to xg 1 1,Pl,Pl,to xo 1 1,to xc 9 9⟩ gX/\Below w.heap.size w w'
def ac0(w:UK):Calls prog 51 #[] w (aaz w):=by
 obtain⟨Wf,Q7⟩:∃Wf,Wf=(((w.alloc (QP #[to (H (G (w.heap.size+1) 0)) 1 1,Pl,Pl,to (H (G (w.heap.size+1+1) 0)) 1 1,Y 2,to (H (G (w.heap.size+1+1+1) 0)) 9 9] 27)).alloc (QP #[.bool false] 4)).alloc (QP #[Y 0] 3)).alloc (QP #[Y 32,Y 0,Y 0,Y 0,Y 0,Y 0,Y 0,Y 0,Y 0,Y 0,Y 4,Y 0,Y 0,Y 0,Y 0,Y 5,Y 0,Y 0,Y 0,Y 0,Y 19,Y 0,Y 0,Y 0,Y 0,Y 23,Y 7,Y 0,Y 0,Y 0,Y 40,Y 0,Y 1,Y 0,Y 0,Y 31,Y 0,Y 0,Y 0,Y 0,Y 0,Y 0,Y 0,Y 0,Y 0] 40):=⟨_,rfl⟩;have k0:aF Wf w.heap.size 27 #[to (H (G (w.heap.size+1) 0)) 1 1,Pl,Pl,to (H (G (w.heap.size+1+1) 0)) 1 1,Y 2,to (H (G (w.heap.size+1+1+1) 0)) 9 9]:=by rw[Q7];exact(((aF.new _ _ _).alloc _).alloc _).alloc _
 have k1:aF Wf (w.heap.size+1) 4 #[.bool false]:=by rw[Q7];exact((aF.bR ay).alloc _).alloc _
 have k2:aF Wf (w.heap.size+1+1) 3 #[Y 0]:=by rw[Q7];exact(aF.bR ay).alloc _
 have k3:aF Wf (w.heap.size+1+1+1) 40 #[Y 32,Y 0,Y 0,Y 0,Y 0,Y 0,Y 0,Y 0,Y 0,Y 0,Y 4,Y 0,Y 0,Y 0,Y 0,Y 5,Y 0,Y 0,Y 0,Y 0,Y 19,Y 0,Y 0,Y 0,Y 0,Y 23,Y 7,Y 0,Y 0,Y 0,Y 40,Y 0,Y 1,Y 0,Y 0,Y 31,Y 0,Y 0,Y 0,Y 0,Y 0,Y 0,Y 0,Y 0,Y 0]:=by rw[Q7];exact aF.bR ay
 have X:Below w.heap.size w Wf:=by rw[Q7];exact((((aB _ _).alloc (aL _) _).alloc ay _).alloc jz _).alloc jz _
 obtain⟨c0,c1,c2,c3,c4,c5⟩:=k0.c6;go_enter func51,ntmps51;go_wp2_with fail;rw[<-Q7];clear Q7;refine bK (v:= .agg #[to (H (G (w.heap.size+1) 0)) 1 1,Pl,Pl,to (H (G (w.heap.size+1+1) 0)) 1 1,Y 2,to (H (G (w.heap.size+1+1+1) 0)) 9 9]) ?_ rfl ⟨_,_,_,rfl,⟨qZ k1 rfl bd,.inl ⟨rfl,rfl⟩,.inl ⟨rfl,rfl⟩,qZ k2 rfl bd,qZ k3 bh bd⟩,X⟩;simp[results,results51,go_sem,c0,c1,c2,c3,c4,c5]
def ac1:(aW gX).1=0:=by rw[Bm]
def aay:mi gX jP=true:=by decide
def ac2:dw (aC gX jP)=2:=by decide
def OZ:(aW noP).1≠0:=by rw[acg];decide
def adP:C_ gX k4 2 [(7,0),(9,1)]=⟨[[1,0]],[],[7,9],[0,1]⟩:=by decide
def aaw{L:List (Nat×Nat)}(h:Ix.jQ k4.f L):L=[(7,0),(9,1)]:=h.rX ⟨ay,λk v=>by
 rw[ach];simp⟩
def ag5{w:UK}{v:UL}{l:List Nat}(h:yP w v l):∃x n c,v=to x n c:=by rcases h with⟨h,-⟩|⟨b,cs,h,-⟩<;>exact⟨_,_,_,h⟩
def ag2{w:UK}{v:UL}{x:Nat}(h:yP w v [x]):∃b cs,v=to (H (G b 0)) 1 1/\aF w b 46 cs/\cs[0]? =H (.int .u64 x):=by
 rcases h with⟨-,h⟩|⟨b,cs,h,hk,hc⟩
 ·cases h
 ·exact⟨b,cs,h,hk,hc 0 ay⟩
def xp{w:UK}{C:Co}{lo:Nat}{p:aQ}{c:Cp}{s:St}(h:∃t u,iI w C lo p c s t u)(hl:lo<=w.heap.size){key:Nat}(hk:key<18446744073709551616){mb:Nat}(hm:C.mb=mb):
 Calls prog 17 #[UI mb,.int .u64 key] w (λe w'=>∃(hit:Bool) (tv:UL) (bY used:Int) (C':Co),e=C8 (.agg #[.bool hit,tv,Y bY])/\C'.mb=mb/\Below lo w w'/\(∃x n c,tv=to x n c)/\(∃t,iI w' C' lo p c (nr p c s key) t used)/\
  Hid (hit=(if jc p c s key=0 then rG p c s key else false)/\bY=jc p c s key/\used=(uz p c s key).1/\yP w' tv (if jc p c s key=0 then rR p c s key else[])/\bT w w' C C')):=by
 obtain⟨t,u,h⟩:=h;subst hm;refine(abw h hl hk).mono ?_;rintro e w' ⟨tv,C',rfl,k,v,ht,-⟩;exact⟨_,tv,_,_,C',rfl,k.mb,k.low (λb X=>(h.lt X).1) hl,ag5 ht,⟨_,v⟩,Z ⟨rfl,rfl,rfl,ht,k⟩⟩
def agJ(w:UK):Calls prog 11 #[] w (λe w'=>e=C8 (.bool true)/\Below w.heap.size w w'):=by
 go_enter func11,ntmps11;go_wp2_with fail;refine(ac0 w).mono ?_;rintro e W1 ⟨xg,xo,xc,rfl,hp,fI⟩;have hq:aZ (W1.alloc (QP #[Y 2] 3)) 1 (to (H (G W1.heap.size 0)) 1 1) jP.aK.length (aX jP.aK):=qZ (n:=1) (aF.new _ _ _) rfl bd;have HN:=IM (w:=W1.alloc (QP #[Y 2] 3)) (c:=jP) (hp.aG ((aA.refl [] _).alloc _)) hq (λ_ _=>qY);have cR:=Z (fI.alloc fI.size (QP #[Y 2] 3));unfold pV cV at HN;unfold pV;dsimp only[gX,jP]at HN ⊢;change Calls _ _ _ _ (UN _ gX jP)at HN;have tW:=Z HN;clear hq hp fI HN;go_wp2_with fail;refine tW.o.mono ?_;rintro e W2 ⟨dC,⟨h1,-⟩|⟨-,-,C,rfl,hv⟩⟩
 ·exact absurd ⟨ac1,aay⟩ h1
 have eF:=Z (cR.o.trans (dC.mono cR.o.size));have jo:(W1.alloc (QP #[Y 2] 3)).heap.size=W1.heap.size+1:=by simp
 rw[jo]at hv;have Hl:=Z (show w.heap.size<=W1.heap.size+1/\W1.heap.size+1<=W2.heap.size from⟨by have:=cR.o.size;simp only[aM]at this;exact this,by have:=dC.size;simp only[aM]at this;exact this⟩);generalize W1.heap.size+1=lo at*;have HV:=Z hv;clear dC hv jo cR tW;have hp2:fW (W2.alloc (QP #[Y 1,Y 0,Y 0,Y 0,Y 0] 40)) ⟨Pl,Pl,Pl,Pl,to (H (G W2.heap.size 0)) 1 1⟩ noP:=⟨.inl ⟨rfl,rfl⟩,.inl ⟨rfl,rfl⟩,.inl ⟨rfl,rfl⟩,.inl ⟨rfl,rfl⟩,qZ (n:=1) (aF.new _ _ _) rfl bd⟩;have Hu:=IM (c:=⟨1,[]⟩) (qv:=Pl) hp2 (.inl ⟨rfl,rfl⟩) (λh _=>absurd h OZ);unfold pV cV at Hu;dsimp only[noP]at Hu;change Calls _ _ _ _ (UN _ noP ⟨1,[]⟩)at Hu;have tW:=Z Hu;have LR:=Z ((aB W2.heap.size W2).alloc (aL _) (QP #[Y 1,Y 0,Y 0,Y 0,Y 0] 40));clear hp2 Hu;go_wp2_with fail;refine tW.o.mono ?_;rintro e W3 ⟨pz,hn3⟩;obtain⟨er,XD,rfl⟩:∃er:Int,er≠0/\e=C8 (.tuple #[.pointer K7,Y er]):=by
  rcases hn3 with⟨-,h⟩|⟨h1,-⟩
  ·exact h
  ·exact absurd h1 OZ
 clear hn3;have Uv:=LR.o.trans (pz.mono LR.o.size);have iy:=Z (eF.o.trans (Uv.mono eF.o.size));have Nr:=Z (cU Hl.o.2 Uv.size);have HV3:=Z (show∃t u,iI W3 C lo gX jP (zs gX) t u from⟨_,_,HV.o.later Uv⟩);have he0:(er==0)=false:=by simpa using XD
 obtain⟨mb,oR⟩:∃mb,C.mb=mb:=⟨_,rfl⟩;rw[oR];have wI:=Z oR;clear pz Uv XD oR tW LR HV;go_wp2_with fail;refine(xp HV3.o Nr.o bd wI.o).mono ?_;rintro e W4 ⟨afo,tv4,tr4,us4,C4,rfl,hm4,wM,⟨xa4,xb4,xc4,rfl⟩,⟨t4,v4⟩,-⟩;have jK:=Z (iy.o.trans (wM.mono Hl.o.1));have HL4:=Z (cU Nr.o wM.size);have HV4:=Z (show∃t u,iI W4 C4 lo gX jP k1 t u from⟨_,_,v4⟩);have HM4:=Z hm4;clear hm4 wM v4 HV3 wI;go_wp2_with fail;refine(xp HV4.o HL4.o bd HM4.o).mono ?_;rintro e W5 ⟨afp,tv5,tr5,us5,C5,rfl,WS,uM,⟨xa5,xb5,xc5,rfl⟩,⟨t5,v5⟩,-⟩;have nU:=Z (jK.o.trans (uM.mono Hl.o.1));have I0:=Z (cU HL4.o uM.size);have HV5:=Z (show∃t u,iI W5 C5 lo gX jP k2 t u from⟨_,_,v5⟩);have HM5:=Z WS;clear WS uM v5 HV4 HM4;go_wp2_with fail;refine(xp HV5.o I0.o bd HM5.o).mono ?_;rintro e W6 ⟨afq,tv6,Uw,us6,C6,rfl,hm6,AK,⟨Ux,Uy,Uz,rfl⟩,⟨t6,v6⟩,hx6⟩;obtain⟨e1,-,e3,-,-⟩:=hx6.o;rw[vj.2.2,bk rfl,vj.1]at e1;rw[vj.2.1]at e3;subst e1 e3;have wk:=Z (nU.o.trans (AK.mono Hl.o.1));have HL6:=Z (cU I0.o AK.size);have kE:=Z ((aB W6.heap.size W6).alloc (aL _) (QP #[.bool true,to Ux Uy Uz,Y Uw] 44));have HV6:=Z (show∃t,iI (W6.alloc (QP #[.bool true,to Ux Uy Uz,Y Uw] 44)) C6 lo gX jP k3 t (2:Nat)from⟨_,v6.later kE.o⟩);have HU6:=Z (show Calls prog 28 #[UI mb] (W6.alloc (QP #[.bool true,to Ux Uy Uz,Y Uw] 44)) (λe w'=>e=C8 (Y 2)/\w'=W6.alloc (QP #[.bool true,to Ux Uy Uz,Y Uw] 44))by
  obtain⟨t,hv⟩:=HV6.o;rw[<-hm6];exact Km hv)
 have HC6:=Z (show∀b,b∈C6.l->b<W6.heap.size from λb X=>(v6.lt X).2);have K6:=Z (aF.new W6 44 #[.bool true,to Ux Uy Uz,Y Uw]);have Uc:=Z hm6;have EJ:=Z (wk.o.trans (kE.o.mono wk.o.size));have HL7:=Z (show lo<=(W6.alloc (QP #[.bool true,to Ux Uy Uz,Y Uw] 44)).heap.size by simp only[aM];have:=HL6.o;omega);clear hm6 AK v6 HV5 HM5 hx6;go_wp2_with fail;refine HU6.o.mono ?_;rintro e W7 ⟨rfl,rfl⟩;have No:=Z (show W6.heap.size<(W6.alloc (QP #[.bool true,to Ux Uy Uz,Y Uw] 44)).heap.size by simp);generalize W6.alloc (QP #[.bool true,to Ux Uy Uz,Y Uw] 44)=W7 at*;clear HU6;go_wp2_with fail;refine(xp (by obtain⟨t,h⟩:=HV6.o;exact⟨_,_,h⟩) HL7.o bd Uc.o).mono ?_;rintro e W8 ⟨afr,tv8,tr8,us8,ag4,rfl,hm8,OK,-,⟨t8,v8⟩,hx8⟩;obtain⟨e1,-,e3,e4,k8⟩:=hx8.o;rw[nB.2.2.1,bk rfl,nB.1]at e1;rw[nB.2.1]at e3;rw[nB.2.2.1,bk rfl,nB.2.2.2]at e4;obtain⟨tb,ts,rfl,Ks,htc⟩:=ag2 e4;subst e1 e3;have P0:=Z (EJ.o.trans (OK.mono Hl.o.1));have HS8:=Z (show W6.heap.size<W8.heap.size from eJ No.o OK.size);obtain⟨WX,hWX⟩:∃WX,WX=W8.alloc (QP #[.bool false,to (H (G tb 0)) 1 1,Y tr8] 44):=⟨_,rfl⟩;have kE:=Z (show Below W8.heap.size W8 WX by rw[hWX];exact(aB _ _).alloc (aL _) _);have a0g:=Z (show aF WX W6.heap.size 44 #[.bool true,to Ux Uy Uz,Y Uw]by rw[hWX];exact(K6.o.aG k8.f λhc=>absurd (HC6.o _ hc) (Nat.lt_irrefl _)).alloc _);have K8:=Z (show aF WX W8.heap.size 44 #[.bool false,to (H (G tb 0)) 1 1,Y tr8]by rw[hWX];exact aF.new _ _ _);have K9:=Z (show aF WX tb 46 ts by rw[hWX];exact Ks.alloc _);have HV9:=Z (show∃t,iI WX ag4 lo gX jP k4 t (7:Nat)from⟨_,v8.later kE.o⟩);have HLY:=Z (show Calls prog 19 #[UI mb] WX (ul WX gX k4 2)by
  obtain⟨t,hv⟩:=HV9.o;rw[<-hm8,<-ac2];exact IK hv)
 have IA:=Z (P0.o.trans (kE.o.mono P0.o.size));have HM8:=Z hm8;have HTC:=Z htc;clear hm8 OK v8 HV6 Uc hx8 e4 k8 Ks htc K6;go_wp2_with fail;rw[<-hWX];clear hWX kE;refine HLY.o.mono ?_;rintro e W9 ⟨L,a,b,c,d,h1,h2,lv,Gs,rfl,wZ,hl⟩;rw[aaw Gs,adP]at hl;have r0:Row W9 24 1 a 1 lv:=hl.ls.row;have r1:Row W9 3 1 b 0 (aX []):=hl.fr.row;have r2:Row W9 46 1 c 2 (pU [7,9]):=hl.ks.row;have r3:Row W9 3 1 d 2 (aX [0,1]):=hl.ns.row;have r4:Row W9 3 1 (lv 0) 2 (aX [1,0]):=(hl.ls.q 0 bd).row;obtain⟨xa,ya,rfl,-,-,-⟩:=r0.some bd;obtain⟨xb,yb,rfl,-,-⟩:=iW r1;obtain⟨xc,yc,rfl,-,-,-⟩:=r2.some bd;obtain⟨xd,yd,rfl,-,-,-⟩:=r3.some bd;obtain⟨xe,ye,ee,-,-,-⟩:=r4.some bd;rw[ee]at r4;obtain⟨WY,UA⟩:∃WY,WY=W9.alloc (QP #[to (H (G xa 0)) 1 ya,to xb 0 yb,to (H (G xc 0)) 2 yc,to (H (G xd 0)) 2 yd] 52):=⟨_,rfl⟩;have FJ:=Z (show Below WX.heap.size WX WY by rw[UA];exact wZ.alloc wZ.size _);have f0:UJ WY (G W6.heap.size 0)=H (.bool true):=(a0g.o.aG (aA.af (S:=[]) FJ.o) ay).cell 0;have f1:UJ WY (G W8.heap.size 0)=H (.bool false):=(K8.o.aG (aA.af (S:=[]) FJ.o) ay).cell 0;have f2:UJ WY (G W8.heap.size 1)=H (to (H (G tb 0)) 1 1):=(K8.o.aG (aA.af (S:=[]) FJ.o) ay).cell 1;have f3:UJ WY (G tb 0)=H (.int .u64 8):=((K9.o.aG (aA.af (S:=[]) FJ.o) ay).cell 0).trans HTC.o;have f4:UJ WY (G xa 0)=H (to (H (G xe 0)) 2 ye):=by rw[UA,<-ee];exact(r0.alloc _).cell (o:=0) bd
 have f5:UJ WY (G xe 0)=H (Y 1):=by rw[UA];exact(r4.alloc _).cell (o:=0) bd
 have f6:UJ WY (G xc 0)=H (.int .u64 7):=by rw[UA];exact(r2.alloc _).cell (o:=0) bd
 have f7:UJ WY (G xc 1)=H (.int .u64 9):=by rw[UA];exact(r2.alloc _).cell (o:=1) bd
 have f8:UJ WY (G xd 1)=H (Y 1):=by rw[UA];exact(r3.alloc _).cell (o:=1) bd
 have Rl:aF WY W9.heap.size 52 #[to (H (G xa 0)) 1 ya,to xb 0 yb,to (H (G xc 0)) 2 yc,to (H (G xd 0)) 2 yd]:=by rw[UA];exact aF.new _ _ _
 obtain⟨g0,g1,g2,g3⟩:=Rl.c4;have HU:=Z (show Calls prog 28 #[UI mb] WY.drew (λe w'=>e=C8 (Y 7)/\w'=WY.drew)by
  obtain⟨t,hv⟩:=HV9.o;rw[<-HM8.o];exact Km (hv.later (FJ.o.drew)))
 have HBZ:=Z (IA.o.trans (FJ.o.mono IA.o.size));clear Rl hl wZ r0 r1 r2 r3 r4 ee FJ Gs;go_wp2_with fail;rw[<-UA];clear UA;refine wp_region_still_tail 82 bh bh ?_;simp only[List.append_eq,List.cons_append,List.nil_append];simp only[List.take_succ_cons,List.take_zero,List.drop_succ_cons,List.drop_zero]
 iterate 26 still_step
 still_call HU.o
 iterate 55 still_step
 refine wpStill_nil ?_;change wpList _ _ _ _ _ (WY.drewN 1);go_wp2;refine Vf.fy rfl ⟨rfl,HBZ.o.drew⟩
end
end Go.Ma
namespace Go.Ma
open Go.RowKit aj.Vm
open aj hiding aR an ak
def peK(κ:Nat->Nat)(tv:Nat->UL)(o:Nat):UL:=if o % 2=0 then .int .u64 (κ (o / 2))else tv (o / 2)
section
variable {w w':UK}{lo hi:Nat}{qv vv:UL}{S S':PS}{κ Pw:Nat->Nat->Nat}{lv:Nat->UL}{tv:Nat->Nat->UL}
end
open Vf (aZ)
def MK(g:Nat->Nat)(i:Nat):UL:= .int .u64 (g i)
def FZ(J:Nat->UL):Act:={tmps:=#[J 0,J 1,J 2,J 3,J 4,J 5,J 6,J 7,J 8,J 9,J 10,J 11,J 12,J 13,J 14,J 15,J 16,J 17,J 18,J 19,J 20,J 21,J 22,J 23,J 24,J 25,J 26,J 27,J 28,J 29,J 30,J 31,J 32,J 33,J 34,J 35,J 36,J 37,J 38,J 39,J 40,J 41,J 42,J 43,J 44],defers:=[]}
def FZ.of(A:Array UL)(h:A=(FZ λk=>A.getD k undef).tmps):({tmps:=A,defers:=[]}:Act)=FZ λk=>A.getD k undef:=by rw[h];rfl
def SA1(W0:UK)(x y n:Nat)(m:Nat)(a:Act)(W:UK):Prop:=∃(J:Nat->UL) (i:Nat),a=FZ J/\J 2=UI x/\J 3=UI y/\J 5=Y i/\i<=n/\m+i=n+1/\Hid (∃k,W=W0.drewN k)
section
variable {w:UK}{va vb:UL}{n:Nat}{g:Nat->Nat}{h:Bool}{t:Int}
def afJ(ha:aZ w 1 va n (MK g))(X:aZ w 1 vb n (MK g)):Calls prog 18 #[.agg #[.bool h,va,Y t],.agg #[.bool h,vb,Y t]] w (λe w'=>e=C8 (.bool true)/\Below w.heap.size w w'):=by
 obtain⟨aa,ac,rfl,a1,a2⟩:=ha.val;obtain⟨ba,bc,rfl,b1,b2⟩:=X.val;obtain⟨W0,kX⟩:∃W0,W0=(w.alloc (QP #[.bool h,to aa n ac,Y t] 44)).alloc (QP #[.bool h,to ba n bc,Y t] 44):=⟨_,rfl⟩;have uw:=Z (show aF W0 w.heap.size 44 #[.bool h,to aa n ac,Y t]by rw[kX];exact(aF.new _ _ _).alloc _);have nI:=Z (show aF W0 (w.heap.size+1) 44 #[.bool h,to ba n bc,Y t]by rw[kX];exact aF.bR ay);have ep:Below w.heap.size w W0:=by rw[kX];exact((aB _ _).alloc (aL _) _).alloc ay _
 have HA:=Z (ha.aG (aA.af (S:=[]) ep));have HB:=Z (X.aG (aA.af (S:=[]) ep));have eV:=Z ep;clear ha X ep;go_enter func18,ntmps18;go_wp2_with fail;rw[<-kX];clear kX;refine Mk.aN (SA1 W0 w.heap.size (w.heap.size+1) n) (n+1) ⟨_,0,FZ.of _ rfl,rfl,rfl,rfl,cK _,O,Z ⟨0,rfl⟩⟩ (λa W hh=>by obtain⟨J,i,-,-,-,-,h1,h2,-⟩:=hh;omega) ?_;rintro m a W ⟨J,i,rfl,j2,j3,j5,hi,hm,HW⟩;obtain⟨k,rfl⟩:=HW.o;unfold FZ;rw[j2,j3,j5];clear j2 j3 j5;have k1:UJ W0 (G w.heap.size 1)=H (to aa n ac):=uw.o.cell 1;have l1:=uw.o.lt;by_cases be:i<n
 ·have w2:IntKind.i64.wrap ((i:Int)+1)=((i+1:Nat):Int):=by unfold maxLen at a2;rw[bJ _ lI];omega
  have n1:UJ W0 (G (w.heap.size+1) 1)=H (to ba n bc):=nI.o.cell 1;have l2:=nI.o.lt;obtain⟨xa,xo,xc,ea,-,-,-,la⟩:=HA.o.some O O;obtain⟨ya,abg,yc,eb,-,-,-,lb⟩:=HB.o.some O O;simp only[cM]at ea eb;obtain⟨rfl,-,rfl⟩:=ea;obtain⟨rfl,-,rfl⟩:=eb;have c0:UJ W0 (G xa (xo+i))=H (.int .u64 (g i)):=la i O;have c1:UJ W0 (G ya (abg+i))=H (.int .u64 (g i)):=lb i O;have dE:=Z be;generalize g i=z at*;clear la lb;go_wp2;go_quiet (fail);go_wp2;refine⟨_,i+1,FZ.of _ rfl,rfl,rfl,?_,dE.o,O,Z ⟨_,by first|rfl|rw[Jn]⟩⟩;exact QC
 ·obtain rfl:i=n:=O;clear be;go_wp2
  first|refine Vf.fy (P:=prog) (fn:=Proofs.Tryz.f18) rfl ?_|(rw[Exit.noGoto_ret];refine Vf.fy (P:=prog) (fn:=Proofs.Tryz.f18) rfl ?_)
  exact⟨rfl,eV.o.trans (az _ _ _)⟩
end
end Go.Ma
namespace Go.Ma
open Go.RowKit aj.Vm
open aj hiding aR an ak
def TK(W:UK)(tv:UL)(n:Nat)(f:Nat->Nat):Prop:=(tv=Pl/\n=0)\/∃b cs,tv=to (H (G b 0)) n n/\aF W b 46 cs/\∀i,i<n->cs[i]? =H (.int .u64 (f i))
def TK.of{W:UK}{tv:UL}{l:List Nat}(h:yP W tv l):TK W tv l.length (λi=>l.getD i 0):=by
 rcases h with⟨h1,h2⟩|h
 ·exact .inl ⟨h1,by rw[h2];rfl⟩
 ·exact .inr h
def TK.aG{W W':UK}{tv:UL}{n:Nat}{f:Nat->Nat}{S:List Nat}(h:TK W tv n f)(k:aA S W W')(hs:∀b,b∈vb tv->b∉S):TK W' tv n f:=by
 rcases h with h|⟨b,cs,rfl,X,hc⟩
 ·exact .inl h
 ·exact .inr ⟨b,cs,rfl,X.aG k (hs b (by simp[vb,Value.ownBlock])),hc⟩
def TK.row{W:UK}{tv:UL}{n:Nat}{f:Nat->Nat}(h:TK W tv n f)(hn:n<=maxLen):Vf.aZ W 1 tv n (MK f):=by
 rcases h with h|⟨b,cs,rfl,X,hc⟩
 ·exact .inl h
 ·exact .inr ⟨(G b 0),n,rfl,aL _,hn,λo ho=>⟨rfl,by rw[Nat.zero_add];exact(X.cell o).trans (hc o O)⟩⟩
section
variable {Q:Exit->Act->UK->Prop}{W0:UK}{x2 x9 xz x13 x15 tv:UL}{k bb n:Nat}{g:Nat->Nat}{h:Bool}{tr:Int}
end
section
variable {Q:Exit->Act->UK->Prop}{W0:UK}{x2 x9 xz x13 x15 qv vv:UL}{k sb lo hi:Nat}{S:PS}{κ:Nat->Nat->Nat}{lv:Nat->UL}{tv:Nat->Nat->UL}
def jM.later{w w':UK}{lo hi:Nat}{qv vv:UL}{S:PS}{lv:Nat->UL}{tv:Nat->Nat->UL}(h:jM w lo hi qv vv S lv tv)(b:Below w.heap.size w w'):jM w' lo hi qv vv S lv tv:=by have f:=aA.af (S:=[]) b;exact⟨⟨h.qs.row.aG f ay,h.qs.i_,λq hq=>⟨(h.qs.q q hq).row.aG f ay,(h.qs.q q hq).i_,λi hi=>⟨((h.qs.q q hq).aS i hi).row.aG f ay,((h.qs.q q hq).aS i hi).i_⟩⟩,h.qs.sep⟩,⟨h.vs.row.aG f ay,h.vs.i_⟩⟩
def TK.agi{W W':UK}{tv:UL}{n:Nat}{f:Nat->Nat}(h:TK W tv n f)(X:∀b,b∈vb tv->W'.heap[b]? =W.heap[b]?):TK W' tv n f:=by
 rcases h with h|⟨b,cs,rfl,hk,hc⟩
 ·exact .inl h
 ·exact .inr ⟨b,cs,rfl,hk.of (X b (by simp[vb,Value.ownBlock])),hc⟩
end
section
variable {V V':UK}{lo:Nat}{CA CA' CB CB':Co}{RA RB:List Nat}{p:aQ}{c:Cp}{abl sA' abk sB':St}{abi uA' abh uB':Int}{tv:UL}{Bx:List Nat}
def af0{C:Co}{RO:List Nat}{s:St}{used:Int}(h:VmR V C RO p c s used){key:Nat}(hk:key<18446744073709551616):(Tr p c s key).length<=20000/\∀x,x∈Tr p c s key->x<18446744073709551616:=by
 obtain⟨K,T,t,h1,M,E,hS,hI⟩:=h;obtain⟨z1,z2,-,-,z5,-⟩:=QS E hS hI hk;unfold Tr;split
 ·refine⟨?_,z1.told⟩;have:=z5.told;unfold jC at z2;unfold rR;omega
 ·exact⟨ay,λx hx=>by simp at hx⟩
end
end Go.Ma
