import Derived.WalkKit
import Derived.WalkSpells
import Derived.WalkLawsBesides
import Derived.Laws.BitsLemmas
import Derived.Lib.BitFns
import Derived.OpenShut
import Derived.Deep.Draws
import Derived.OwnWalk
import Derived.Deep.DeepAppendWide
import Derived.Deep.AppendLies
import Derived.Deep.RegionHeld3
import Derived.OwnWalkIn
set_option linter.unusedVariables false
set_option linter.unusedSimpArgs false
set_option maxHeartbeats 40000000
set_option maxRecDepth 100000
theorem omm {p:Prop} (h:p:=by omega):p:=h
theorem smm {p:Prop} (h:p:=by simp):p:=h
theorem dee {p:Prop} (h:p:=by decide):p:=h
theorem coo {p:Prop} (h:p:=by constructor<;>omega):p:=h
theorem sso {p:Prop} (h:p:=by simp;omega):p:=h
theorem aas {p:Prop} (h:p:=by assumption):p:=h
abbrev afG:=@Go.World.cell?_of_block
abbrev afQ:=@Nat.lt_of_lt_of_le
abbrev agq:=@Go.World.drewN_drewN
abbrev agv:=@Go.RowKit.Below.heap_setCell
abbrev agC:=@Array.getElem?_setIfInBounds
theorem agJ {p:Prop} (h:p:=by
 go_ret;exact ⟨rfl,rfl⟩):p:=h
abbrev afL:=@Go.RowKit.Below.refl
abbrev afO:=@Nat.zero_le
abbrev afU:=@Go.IntWalk.i64_in
abbrev af3:=@Go.World.ownsRow.lt
theorem agR {p:Prop} (h:p:=by
 rcases Nat.lt_or_ge j (m*size) with a8|uR
 ·exact a8
 ·rw [List.getElem?_eq_none (by rw [eM];exact uR)] at hu;cases hu):p:=h
section

end
namespace ak
def nx (n i:Nat):Nat:=if i+1=n then 0 else i+1
def cA (n a b:Nat):Nat:=if a<=b then b - a else b+n - a
def aL {β:Type} (f:Nat->β) (i:Nat) (x:β):Nat->β:=fun j=>if j=i then x else f j
theorem an {β:Type} (f:Nat->β) (i:Nat) (x:β):aL f i x i=x:=by simp [aL]
theorem aj {β:Type} (f:Nat->β) {i j:Nat} (x:β) (h:j≠i):aL f i x j=f j:=by simp [aL,h]
def yM:Nat:=11400714819323198485
def Nj:Nat:=18446744073709551616
def home (n key:Nat):Nat:=key*yM % Nj*n / Nj
theorem jB {n:Nat} (hn:0 < n) (key:Nat):home n key < n:=by unfold home;rw [Nat.div_lt_iff_lt_mul dee];have h:key*yM % Nj < Nj:=Nat.mod_lt _ dee;rw [Nat.mul_comm n Nj];exact Nat.mul_lt_mul_of_pos_right h hn
theorem dc (n a b:Nat):(a<=b/\cA n a b=b - a)\/(b < a/\cA n a b=b+n - a):=by
 unfold cA;split
 ·left;exact ⟨by assumption,rfl⟩
 ·right;exact ⟨omm,rfl⟩
theorem nc (n i:Nat):(i+1=n/\nx n i=0)\/(i+1≠n/\nx n i=i+1):=by
 unfold nx;split
 ·left;exact ⟨by assumption,rfl⟩
 ·right;exact ⟨by assumption,rfl⟩
theorem jf {n i:Nat} (h:i < n):nx n i < n:=by unfold nx;split<;>omega
theorem Sg {n i:Nat} (h:i < n):(i+1) % n=nx n i:=by
 unfold nx;split
 ·next e=>rw [e];exact Nat.mod_self n
 ·exact Nat.mod_eq_of_lt omm
section
variable {α:Type}
abbrev Tb (α:Type):=Nat->Option (Nat×α)
def fC (S:Tb α) (key at_:Nat):Bool:=match S at_ with|none=>true|some (k,_)=>k==key
def fU (n:Nat) (S:Tb α) (key:Nat):Nat->Nat->Nat
 |0,a=>a
 |f+1,a=>if fC S key a then a else fU n S key f (nx n a)
def find (n:Nat) (S:Tb α) (key:Nat):Nat:=fU n S key n (home n key)
theorem xB {n:Nat} (S:Tb α) (key:Nat):∀f a,a < n->fU n S key f a < n:=by
 intro f
 induction f with
 |zero=>intro a h;exact h
 |succ f ih=>intro a h;unfold fU;split;exact h;exact ih _ (jf h)
theorem iQ {n:Nat} (hn:0 < n) (S:Tb α) (key:Nat):find n S key < n:=xB S key n _ (jB hn key)
theorem tu {n:Nat} {S:Tb α} {key a:Nat} (h:fC S key a=true) (f:Nat):fU n S key f a=a:=by
 cases f<;>simp [fU,h]
theorem xC {n:Nat} {S:Tb α} {key a:Nat} (h:fC S key a=false) (f:Nat):fU n S key (f+1) a=fU n S key f (nx n a):=by simp [fU,h]
theorem AN {n:Nat} {S:Tb α} {key e:Nat} (he:e < n) (hs:fC S key e=true):
 ∀f a,a < n->cA n a e<=f->fC S key (fU n S key f a)=true/\cA n a (fU n S key f a)<=cA n a e/\
  ∀x,x < n->cA n a x < cA n a (fU n S key f a)->fC S key x=false:=by
 intro f
 induction f with
 |zero=>
  intro a ha hd;have:a=e:=by unfold cA at hd;split at hd<;>omega
  subst this;refine ⟨hs,Nat.le_refl _,fun x hx h=>?_⟩;simp only [fU] at h;have:cA n a a=0:=by unfold cA;simp
  omega
 |succ f ih=>
  intro a ha hd;by_cases h:fC S key a=true
  ·rw [tu h];have:cA n a a=0:=by unfold cA;simp
   exact ⟨h,omm,fun x hx a8=>omm⟩
  ·have h':fC S key a=false:=by simpa using h
   rw [xC h'];have bz:a≠e:=fun e'=>by rw [e'] at h;exact h hs
   have pR:cA n (nx n a) e<=f:=by unfold cA nx at*;split at hd<;>split<;>(try split)<;>omega
   obtain ⟨h1,h2,h3⟩:=ih (nx n a) (jf ha) pR;have hl:fU n S key f (nx n a) < n:=xB S key f _ (jf ha);generalize fU n S key f (nx n a)=p at h1 h2 h3 hl;have hpa:p≠a:=fun e'=>by rw [e'] at h1;exact h h1
   have step:∀y,y < n->y≠a->cA n a y=cA n (nx n a) y+1:=by intro y hy hya;unfold cA nx;split<;>split<;>(try split)<;>omega
   refine ⟨h1,?_,fun x hx a8=>?_⟩
   ·rw [step p hl hpa,step e he (fun e'=>bz e'.symm)];omega
   ·by_cases wT:x=a
    ·rw [wT];exact h'
    ·rw [step p hl hpa,step x hx wT] at a8;exact h3 x hx omm
theorem qZ {n a b:Nat} (ha:a < n) (hb:b < n):cA n a b < n:=by unfold cA;split<;>omega
theorem pA (n a:Nat):cA n a a=0:=by unfold cA;simp
theorem q8 {n a b:Nat} (ha:a < n) (hb:b < n) (h:a≠b):0 < cA n a b:=by unfold cA;split<;>omega
theorem uE {n a b c:Nat} (hb:b < n) (hc:c < n) (ha:a < n) (h:cA n a b=cA n a c):b=c:=by unfold cA at h;split at h<;>split at h<;>omega
theorem iA {n a e:Nat} (ha:a < n) (he:e < n) (h:a≠e):cA n a e=cA n (nx n a) e+1:=by unfold cA nx;split<;>split<;>(try split)<;>omega
theorem pB {n:Nat} {S:Tb α} {e:Nat} (he:e < n) (hs:S e=none) (key:Nat):
 fC S key (find n S key)=true/\∀x,x < n->cA n (home n key) x < cA n (home n key) (find n S key)->fC S key x=false:=by
 have hn:0 < n:=omm;obtain ⟨h1,_,h3⟩:=AN (S:=S) (key:=key) he (by simp [fC,hs]) n (home n key) (jB hn key) (Nat.le_of_lt (qZ (jB hn key) he));exact ⟨h1,h3⟩
structure Inv (n:Nat) (S:Tb α):Prop where
 path:∀p k v,p < n->S p=some (k,v)->∀x,x < n->cA n (home n k) x < cA n (home n k) p->S x≠none
 pS:∀p q k v u,p < n->q < n->S p=some (k,v)->S q=some (k,u)->p=q
theorem Inv.empty (n:Nat):Inv (α:=α) n (fun _=>none):=⟨fun _ _ _ _ h=>by simp at h,fun _ _ _ _ _ _ _ h=>by simp at h⟩
theorem Inv.yN {n:Nat} {S:Tb α} (I:Inv n S) {e:Nat} (he:e < n) (hs:S e=none) {p k:Nat} {v:α} (hp:p < n) (h:S p=some (k,v)):find n S k=p:=by
 have hn:0 < n:=omm;obtain ⟨h1,h2⟩:=pB he hs k;have hl:=iQ hn S k;have hh:=jB hn k;generalize find n S k=q at h1 h2 hl;rcases Nat.lt_trichotomy (cA n (home n k) q) (cA n (home n k) p) with a8|uF|hgt
 ·have:=I.path p k v hp h q hl a8;unfold fC at h1;cases hq:S q with
  |none=>exact absurd hq this
  |some x=>rw [hq] at h1;obtain ⟨k',u⟩:=x;simp at h1;subst h1;exact I.pS q p k' u v hl hp hq h
 ·exact uE hl hp hh uF
 ·have:=h2 p hp hgt;simp [fC,h] at this
theorem AO {S:Tb α} {key p k:Nat} {v:α} (h:fC S key p=true) (hp:S p=some (k,v)):k=key:=by unfold fC at h;rw [hp] at h;simpa using h
def putAt (n:Nat) (S:Tb α) (key:Nat) (v:α):Tb α:=aL S (find n S key) (some (key,v))
theorem Inv.put {n:Nat} {S:Tb α} (I:Inv n S) {e:Nat} (he:e < n) (hs:S e=none) (key:Nat) (v:α):Inv n (putAt n S key v):=by
 have hn:0 < n:=omm;obtain ⟨h1,h2⟩:=pB he hs key;have hl:=iQ hn S key;unfold putAt;have hq:∀q k u,q < n->S q=some (k,u)->k=key->q=find n S key:=by intro q k u hq h e';subst e';exact (I.yN he hs hq h).symm
 generalize find n S key=f at*;refine ⟨fun p k u hp h x hx hd=>?_,fun p q k u u' hp Sh h h'=>?_⟩
 ·by_cases hxf:x=f
  ·rw [hxf,an];simp
  ·rw [aj _ _ hxf];by_cases Oq:p=f
   ·rw [Oq,an] at h;simp at h;obtain ⟨rfl,rfl⟩:=h;rw [Oq] at hd;have:=h2 x hx hd;intro hn';simp [fC,hn'] at this
   ·rw [aj _ _ Oq] at h;exact I.path p k u hp h x hx hd
 ·by_cases Oq:p=f<;>by_cases Wv:q=f
  ·rw [Oq,Wv]
  ·rw [Oq,an] at h;rw [aj _ _ Wv] at h';simp at h;exact absurd (hq q k u' Sh h' h.1.symm) Wv
  ·rw [Wv,an] at h';rw [aj _ _ Oq] at h;simp at h';exact absurd (hq p k u hp h h'.1.symm) Oq
  ·rw [aj _ _ Oq] at h;rw [aj _ _ Wv] at h';exact I.pS p q k u u' hp Sh h h'
def fV (n:Nat):Nat->Tb α->Nat->Nat->Tb α
 |0,S,_,_=>S
 |f+1,S,i,k=>match S k with
  |none=>S
  |some (y,_)=>if cA n i k<=cA n (home n y) k then fV n f (aL (aL S i (S k)) k none) k (nx n k) else fV n f S i (nx n k)
def ke (n:Nat) (S:Tb α) (p:Nat):Tb α:=fV n n (aL S p none) p (nx n p)
structure xD (n:Nat) (S:Tb α) (i k e:Nat):Prop where
 li:i < n
 lk:k < n
 le:e < n
 tV:S i=none
 wU:S e=none
 ie:i≠e
 ik:i≠k
 JM:cA n i k+cA n k e=cA n i e
 pS:∀p q x v u,p < n->q < n->S p=some (x,v)->S q=some (x,u)->p=q
 path:∀p x v,p < n->S p=some (x,v)->∀y,y < n->cA n (home n x) y < cA n (home n x) p->S y≠none\/(y=i/\cA n i k<=cA n i p)
theorem xD.start {n:Nat} {S:Tb α} (I:Inv n S) {p e:Nat} (hp:p < n) (he:e < n) (hs:S e=none) (NG:p≠e):xD n (aL S p none) p (nx n p) e:=by
 have yO:nx n p≠p:=by unfold nx;split<;>omega
 refine ⟨hp,jf hp,he,an _ _ _,?_,NG,fun h=>yO h.symm,?_,?_,?_⟩
 ·rw [aj _ _ (fun h=>NG h.symm)];exact hs
 ·rw [iA hp he NG];rw [iA hp (jf hp) (fun h=>yO h.symm),pA];omega
 ·intro a b x v u ha hb h1 h2;have h1':S a=some (x,v):=by unfold aL at h1;split at h1<;>simp_all
  have h2':S b=some (x,u):=by unfold aL at h2;split at h2<;>simp_all
  exact I.pS a b x v u ha hb h1' h2'
 ·intro a x v ha h y hy hd;have hap:a≠p:=fun e'=>by rw [e',an] at h;simp at h
  rw [aj _ _ hap] at h;by_cases hyp:y=p
  ·right;refine ⟨hyp,?_⟩;rw [iA hp (jf hp) (fun h=>yO h.symm),pA];have:=q8 hp ha (fun h=>hap h.symm);omega
  ·left;rw [aj _ _ hyp];exact I.path a x v ha h y hy hd
theorem xD.move {n:Nat} {S:Tb α} {i k e:Nat} (D:xD n S i k e) {x:Nat} {v:α} (hk:S k=some (x,v)) (hh:cA n i k<=cA n (home n x) k):
 xD n (aL (aL S i (S k)) k none) k (nx n k) e:=by
 have hn:0 < n:=by have:=D.li;omega
 have AC:k≠e:=fun h=>by rw [h,D.wU] at hk;simp at hk
 have hki:k≠i:=fun h=>D.ik h.symm;have Vd:nx n k≠k:=by have:=D.li;have:=D.ik;have:=D.lk;unfold nx;split<;>omega
 have hxh:=jB hn x;have Ww:=q8 D.li D.lk D.ik;refine ⟨D.lk,jf D.lk,D.le,an _ _ _,?_,AC,fun h=>Vd h.symm,?_,?_,?_⟩
 ·rw [aj _ _ (fun h=>AC h.symm),aj _ _ (fun h=>D.ie h.symm)];exact D.wU
 ·rw [iA D.lk D.le AC];rw [iA D.lk (jf D.lk) (fun h=>Vd h.symm),pA];omega
 ·have key:∀a y u,a < n->aL (aL S i (S k)) k none a=some (y,u)->∃b,b < n/\S b=some (y,u)/\(a=i/\b=k\/a≠i/\b=a/\a≠k):=by
   intro a y u ha h;by_cases JN:a=k
   ·rw [JN,an] at h;simp at h
   ·rw [aj _ _ JN] at h;by_cases QY:a=i
    ·rw [QY,an] at h;exact ⟨k,D.lk,h,.inl ⟨QY,rfl⟩⟩
    ·rw [aj _ _ QY] at h;exact ⟨a,ha,h,.inr ⟨QY,rfl,JN⟩⟩
  intro a b y u u' ha hb h1 h2;obtain ⟨a',ha',h1',c1⟩:=key a y u ha h1;obtain ⟨b',iN,h2',c2⟩:=key b y u' hb h2;have:=D.pS a' b' y u u' ha' iN h1' h2';rcases c1 with ⟨r1,r2⟩|⟨r1,r2,r3⟩<;>rcases c2 with ⟨t1,t2⟩|⟨t1,t2,t3⟩
  ·rw [r1,t1]
  ·exact absurd (by rw [<-t2,<-this,r2]) t3
  ·exact absurd (by rw [<-r2,this,t2]) r3
  ·rw [<-r2,<-t2];exact this
 ·intro a y u ha h z hz hd;have JN:a≠k:=fun e'=>by rw [e',an] at h;simp at h
  rw [aj _ _ JN] at h;have d1:cA n k (nx n k)=1:=by rw [iA D.lk (jf D.lk) (fun h=>Vd h.symm),pA]
  by_cases Γ:z=k
  ·right;refine ⟨Γ,?_⟩;rw [d1];exact q8 D.lk ha (fun h=>JN h.symm)
  ·left;rw [aj _ _ Γ];by_cases AP:z=i
   ·rw [AP,an,hk];simp
   ·rw [aj _ _ AP];by_cases QY:a=i
    ·rw [QY,an,hk] at h;simp at h;obtain ⟨rfl,rfl⟩:=h;rw [QY] at hd;have a8:cA n (home n x) z < cA n (home n x) k:=by have:=D.li;have:=D.lk;have:=dc n (home n x) z;have:=dc n (home n x) i;have:=dc n (home n x) k;have:=dc n i k;omega
     rcases D.path k x v D.lk hk z hz a8 with h'|⟨h',_⟩
     ·exact h'
     ·exact absurd h' AP
    ·rw [aj _ _ QY] at h;rcases D.path a y u ha h z hz hd with h'|⟨h',_⟩
     ·exact h'
     ·exact absurd h' AP
theorem xD.stay {n:Nat} {S:Tb α} {i k e:Nat} (D:xD n S i k e) {x:Nat} {v:α} (hk:S k=some (x,v)) (hh:¬cA n i k<=cA n (home n x) k):xD n S i (nx n k) e:=by
 have hn:0 < n:=by have:=D.li;omega
 have AC:k≠e:=fun h=>by rw [h,D.wU] at hk;simp at hk
 have hxh:=jB hn x;have Ww:=q8 D.li D.lk D.ik;have h1:=D.li;have h2:=D.lk;have h3:=D.le;have h4:=D.JM;have h5:=D.ie;have h6:=D.ik;have Vd:i≠nx n k:=by have:=dc n i k;have:=dc n k e;have:=dc n i e;have:=nc n k;omega
 have hw:cA n i (nx n k)=cA n i k+1:=by have:=dc n i k;have:=dc n k e;have:=dc n i e;have:=nc n k;have:=dc n i (nx n k);omega
 refine ⟨D.li,jf D.lk,D.le,D.tV,D.wU,D.ie,Vd,?_,D.pS,?_⟩
 ·rw [hw];rw [iA D.lk D.le AC] at h4;omega
 ·intro a y u ha h z hz hd;rcases D.path a y u ha h z hz hd with h'|⟨h',hle⟩
  ·exact .inl h'
  ·by_cases JN:a=k
   ·exfalso;rw [JN] at h hd;rw [hk] at h;simp at h;obtain ⟨rfl,rfl⟩:=h;rw [h'] at hd;apply hh;have:=dc n (home n x) i;have:=dc n (home n x) k;have:=dc n i k;omega
   ·right;refine ⟨h',?_⟩;rw [hw];have:cA n i a≠cA n i k:=fun e'=>JN (uE ha D.lk D.li e');omega
theorem xD.done {n:Nat} {S:Tb α} {i k e:Nat} (D:xD n S i k e) (hk:S k=none):Inv n S:=by
 have hn:0 < n:=by have:=D.li;omega
 refine ⟨fun a y u ha h z hz hd=>?_,D.pS⟩;rcases D.path a y u ha h z hz hd with h'|⟨h',hle⟩
 ·exact h'
 ·exfalso;rw [h'] at hd;have JN:a≠k:=fun e'=>by rw [e',hk] at h;simp at h
  have h1:=D.li;have h2:=D.lk;have h6:=D.ik;have hyh:=jB hn y;have:cA n i a≠cA n i k:=fun e'=>JN (uE ha D.lk D.li e');have a8:cA n (home n y) k < cA n (home n y) a:=by have:=dc n (home n y) i;have:=dc n (home n y) k;have:=dc n (home n y) a;have:=dc n i k;have:=dc n i a;omega
  rcases D.path a y u ha h k D.lk a8 with Ve|⟨Ve,_⟩
  ·exact Ve hk
  ·exact h6 Ve.symm
theorem Dv {n:Nat}:∀f (S:Tb α) i k e,xD n S i k e->cA n k e<=f->Inv n (fV n f S i k)/\fV n f S i k e=none:=by
 intro f
 induction f with
 |zero=>
  intro S i k e D hd;have:k=e:=by have:=D.lk;have:=D.le;unfold cA at hd;split at hd<;>omega
  subst this;exact ⟨D.done D.wU,D.wU⟩
 |succ f ih=>
  intro S i k e D hd;unfold fV;cases hk:S k with
  |none=>exact ⟨D.done hk,D.wU⟩
  |some x=>
   obtain ⟨y,v⟩:=x;have AC:k≠e:=fun h=>by rw [h,D.wU] at hk;simp at hk
   have pR:cA n (nx n k) e<=f:=by rw [iA D.lk D.le AC] at hd;omega
   simp only [];split
   ·next h=>have:=ih _ _ _ e (D.move hk h) pR;rw [hk] at this;exact this
   ·next h=>exact ih _ _ _ e (D.stay hk h) pR
theorem Dw {n:Nat} {S:Tb α} (I:Inv n S) {p e:Nat} (hp:p < n) (he:e < n) (hs:S e=none) (NG:p≠e):Inv n (ke n S p)/\ke n S p e=none:=
 Dv n _ _ _ e (xD.start I hp he hs NG) (Nat.le_of_lt (qZ (jf hp) he))
theorem Dx {n:Nat}:∀f (S:Tb α) i k e,xD n S i k e->cA n k e<=f->∀x:Nat×α,(∃p,p < n/\fV n f S i k p=some x)↔(∃p,p < n/\S p=some x):=by
 intro f
 induction f with
 |zero=>intro S i k e D hd x;exact Iff.rfl
 |succ f ih=>
  intro S i k e D hd x;unfold fV;cases hk:S k with
  |none=>exact Iff.rfl
  |some y=>
   obtain ⟨y,v⟩:=y;have AC:k≠e:=fun h=>by rw [h,D.wU] at hk;simp at hk
   have pR:cA n (nx n k) e<=f:=by rw [iA D.lk D.le AC] at hd;omega
   simp only [];split
   ·next h=>
    have:=ih _ _ _ e (D.move hk h) pR x;rw [hk] at this;rw [this];constructor
    ·rintro ⟨p,hp,h1⟩;unfold aL at h1;split at h1
     ·simp at h1
     ·split at h1
      ·exact ⟨k,D.lk,by rw [hk];exact h1⟩
      ·exact ⟨p,hp,h1⟩
    ·rintro ⟨p,hp,h1⟩;by_cases Si:p=k
     ·refine ⟨i,D.li,?_⟩;rw [aj _ _ D.ik,an,<-hk,<-Si];exact h1
     ·have hpi:p≠i:=fun e'=>by rw [e',D.tV] at h1;simp at h1
      exact ⟨p,hp,by rw [aj _ _ Si,aj _ _ hpi];exact h1⟩
   ·next h=>exact ih _ _ _ e (D.stay hk h) pR x
def cR:Nat->Tb α->Nat
 |0,_=>0
 |n+1,S=>cR n S+(if (S n).isSome then 1 else 0)
theorem GX {n:Nat} {S S':Tb α} (h:∀i,i < n->(S i).isSome=(S' i).isSome):cR n S=cR n S':=by
 induction n with
 |zero=>rfl
 |succ n ih=>unfold cR;rw [ih (fun i hi=>h i omm),h n omm]
theorem JO (n:Nat):cR n (fun _=>none:Tb α)=0:=by
 induction n with
 |zero=>rfl
 |succ n ih=>unfold cR;simp [ih]
theorem uk {n p:Nat} (S:Tb α) (x:Option (Nat×α)) (h:p < n):cR n (aL S p x)+(if (S p).isSome then 1 else 0)=cR n S+(if x.isSome then 1 else 0):=by
 induction n with
 |zero=>omega
 |succ n ih=>
  unfold cR;by_cases hp:p=n
  ·rw [hp,an];have:cR n (aL S n x)=cR n S:=GX fun i hi=>by rw [aj _ _ omm]
   rw [this];omega
  ·rw [aj _ _ (fun e=>hp e.symm)];have:=ih omm;omega
theorem yP {n:Nat} {S:Tb α} (h:cR n S < n):∃e,e < n/\S e=none:=by
 induction n with
 |zero=>omega
 |succ n ih=>
  unfold cR at h;cases hs:S n with
  |none=>exact ⟨n,omm,hs⟩
  |some x=>rw [hs] at h;simp at h;obtain ⟨e,h1,h2⟩:=ih omm;exact ⟨e,omm,h2⟩
theorem JP {n i k:Nat} {S:Tb α} (hi:i < n) (hk:k < n) (Ww:i≠k) (h0:S i=none) (h1:S k≠none):cR n (aL (aL S i (S k)) k none)=cR n S:=by
 have a:=uk (aL S i (S k)) none hk;have b:=uk S (S k) hi;rw [aj _ _ (fun e=>Ww e.symm)] at a;rw [h0] at b;have:(S k).isSome=true:=by cases h:S k with|none=>exact absurd h h1|some _=>rfl
 simp [this] at a b;omega
theorem Dy {n:Nat}:∀f (S:Tb α) i k e,xD n S i k e->cA n k e<=f->cR n (fV n f S i k)=cR n S:=by
 intro f
 induction f with
 |zero=>intro S i k e D hd;rfl
 |succ f ih=>
  intro S i k e D hd;unfold fV;cases hk:S k with
  |none=>rfl
  |some x=>
   obtain ⟨y,v⟩:=x;have AC:k≠e:=fun h=>by rw [h,D.wU] at hk;simp at hk
   have pR:cA n (nx n k) e<=f:=by rw [iA D.lk D.le AC] at hd;omega
   simp only [];split
   ·next h=>have a:=ih _ _ _ e (D.move hk h) pR;rw [hk] at a;rw [a,<-hk];exact JP D.li D.lk D.ik D.tV (by rw [hk];simp)
   ·next h=>exact ih _ _ _ e (D.stay hk h) pR
theorem Dz {n:Nat} {S:Tb α} (I:Inv n S) {p e:Nat} (hp:p < n) (he:e < n) (hs:S e=none) (ht:S p≠none):cR n (ke n S p)+1=cR n S:=by
 have NG:p≠e:=fun h=>ht (by rw [h];exact hs);have a:=Dy n _ _ _ e (xD.start I hp he hs NG) (Nat.le_of_lt (qZ (jf hp) he));have b:=uk S none hp;have:(S p).isSome=true:=by cases h:S p with|none=>exact absurd h ht|some _=>rfl
 simp [this] at b;unfold ke;omega
theorem wV {n:Nat} {S:Tb α} {key:Nat} {v:α} (hn:0 < n) (h:S (find n S key)=none):cR n (putAt n S key v)=cR n S+1:=by have b:=uk S (some (key,v)) (iQ hn S key);rw [h] at b;simpa [putAt] using b
end
end ak
section
abbrev ι (x:Int):Go.Value:= .int .i64 x
abbrev π (b o:Nat):Go.Addr:=⟨b,o,none⟩
abbrev ρ (b:Nat):Go.Value:= .pointer (some ⟨b,0,none⟩)
abbrev ν:Go.Value:= .slice none 0 0
theorem Go.RowKit.Hid.o {p:Prop} (h:Hid p):p:=h
theorem krr {p:Prop} (h:p:=by kernel_rfl):p:=h
namespace ak
open Go Go.RowKit
theorem ae {p:Prop} (h:p):Hid p:=h
structure da (S:List Nat) (w w':World):Prop where
 os:w'.os=w.os
 tape:w'.tape=w.tape
 output:w'.output=w.output
 size:w.heap.size<=w'.heap.size
 block:∀k,k < w.heap.size->k∉S->w'.heap[k]? =w.heap[k]?
theorem da.refl (S:List Nat) (w:World):da S w w:=⟨rfl,rfl,rfl,Nat.le_refl _,fun _ _ _=>rfl⟩
theorem da.trans {S:List Nat} {a b c:World} (h:da S a b) (k:da S b c):da S a c:=
 ⟨k.os.trans h.os,k.tape.trans h.tape,k.output.trans h.output,Nat.le_trans h.size k.size,fun i hi hs=>(k.block i (afQ hi h.size) hs).trans (h.block i hi hs)⟩
theorem da.mono {S T:List Nat} {a b:World} (h:da S a b) (hs:∀k,k∈S->k∈T):da T a b:=
 ⟨h.os,h.tape,h.output,h.size,fun i hi ht=>h.block i hi fun h'=>ht (hs i h')⟩
theorem da.drewN {S:List Nat} {a b:World} (h:da S a b) (n:Nat):da S a (b.drewN n):=⟨h.os,h.tape,h.output,h.size,h.block⟩
theorem da.drew {S:List Nat} {a b:World} (h:da S a b):da S a b.drew:=⟨h.os,h.tape,h.output,h.size,h.block⟩
theorem da.alloc {S:List Nat} {a b:World} (h:da S a b) (o:Obj):da S a (b.alloc o):=
 h.trans ⟨rfl,rfl,rfl,smm,fun k hk _=>Below.heap_alloc _ _ _ hk⟩
theorem da.setCell {S:List Nat} {a b:World} (h:da S a b) {p:Addr} (hp:p.block∈S) (v:Value):da S a (b.setCell p v):=
 h.trans ⟨rfl,rfl,rfl,by simp [World.setCell],fun k _ hs=>agv _ _ _ _ (fun e=>hs (e▸hp))⟩
theorem da.qz {S:List Nat} {a b:World} (h:da S a b) {p:Addr} (hp:a.heap.size<=p.block) (v:Value):da S a (b.setCell p v):=
 ⟨h.os,h.tape,h.output,by simpa [World.setCell] using h.size,fun k hk hs=>(agv _ _ _ _ omm).trans (h.block k hk hs)⟩
theorem da.below {S:List Nat} {a b:World} (h:da S a b) {B:Nat} (hB:B<=a.heap.size) (hs:∀k,k∈S->B<=k):Below B a b:=
 ⟨h.os,h.tape,h.output,h.size,fun k hk=>h.block k omm fun h'=>by have:=hs k h';omega⟩
theorem da.ah {S:List Nat} {a b:World} (h:Below a.heap.size a b):da S a b:=⟨h.os,h.tape,h.output,h.size,fun k hk _=>h.block k hk⟩
theorem da.Wx {S T:List Nat} {a b:World} (h:da S a b) (hs:∀k,k∈S->k∈T\/a.heap.size<=k):da T a b:=
 ⟨h.os,h.tape,h.output,h.size,fun i hi ht=>h.block i hi fun h'=>by rcases hs i h' with Ve|Ve;exact ht Ve;omega⟩
theorem aS {w:World} {b o:Nat} {v:Value} (h:w.cell? (π b o)=some v):b < w.heap.size:=by
 unfold World.cell? at h;split at h
 ·next h'=>exact (Array.getElem?_eq_some_iff.1 h').1
 ·simp at h
theorem gG {w:World} {b o:Nat} {v u:Value} (h:w.cell? (π b o)=some u):(w.setCell (π b o) v).cell? (π b o)=some v:=World.cell?_setCell_same' _ _ _ (by rw [h];rfl)
theorem aX {w:World} {b o c p:Nat} {v:Value} (h:c≠b):(w.setCell (π b o) v).cell? (π c p)=w.cell? (π c p):=by simp only [World.cell?];rw [agv _ _ _ _ h]
theorem bg {w:World} {b o c p:Nat} {v:Value} (h:p≠o):(w.setCell (π b o) v).cell? (π c p)=w.cell? (π c p):=by
 by_cases hc:c=b
 ·subst hc;simp only [World.cell?,World.setCell,Array.getElem?_modify];cases w.heap[c]? with
  |none=>simp
  |some x=>cases x<;>simp [agC];intro e;exact absurd e.symm h
 ·exact aX hc
structure dH (w:World) (b s az count n:Nat) (D:Nat->Bool×Nat×Value):Prop where
 ne:b≠s
 c0:w.cell? (π b 0)=some (ι az)
 c1:w.cell? (π b 1)=some (ι count)
 c2:∃cp,w.cell? (π b 2)=some (.slice (some (π s 0)) n cp)
 fb:∀o,w.frozen? (π b o)=false
 fs:∀o,w.frozen? (π s o)=false
 pos:0 < n
 k0:∀i,i < n->w.cell? (π s (i*3))=some (.bool (D i).1)
 k1:∀i,i < n->w.cell? (π s (i*3+1))=some (.int .u64 (D i).2.1)
 k2:∀i,i < n->w.cell? (π s (i*3+2))=some (D i).2.2
theorem dH.lb {w:World} {b s az count n:Nat} {D:Nat->Bool×Nat×Value} (h:dH w b s az count n D):b < w.heap.size:=aS h.c0
theorem dH.ls {w:World} {b s az count n:Nat} {D:Nat->Bool×Nat×Value} (h:dH w b s az count n D):s < w.heap.size:=aS (h.k0 0 h.pos)
theorem dH.iK {w w':World} {b s az count n:Nat} {D:Nat->Bool×Nat×Value} (h:dH w b s az count n D) (hb:w'.heap[b]? =w.heap[b]?) (hs:w'.heap[s]? =w.heap[s]?):dH w' b s az count n D:=by
 have cb:∀o,w'.cell? (π b o)=w.cell? (π b o):=fun o=>afG hb;have cs:∀o,w'.cell? (π s o)=w.cell? (π s o):=fun o=>afG hs;have gb:∀o,w'.frozen? (π b o)=w.frozen? (π b o):=fun o=>World.frozen?_of_block hb;have gs:∀o,w'.frozen? (π s o)=w.frozen? (π s o):=fun o=>World.frozen?_of_block hs;exact ⟨h.ne,by rw [cb];exact h.c0,by rw [cb];exact h.c1,by rw [cb];exact h.c2,fun o=>by rw [gb];exact h.fb o,fun o=>by rw [gs];exact h.fs o,h.pos,
  fun i hi=>by rw [cs];exact h.k0 i hi,fun i hi=>by rw [cs];exact h.k1 i hi,fun i hi=>by rw [cs];exact h.k2 i hi⟩
theorem dH.aB {S:List Nat} {w w':World} {b s az count n:Nat} {D:Nat->Bool×Nat×Value} (h:dH w b s az count n D) (f:da S w w') (hb:b∉S) (hs:s∉S):dH w' b s az count n D:=
 h.iK (f.block b h.lb hb) (f.block s h.ls hs)
theorem dH.drewN {w:World} {b s az count n:Nat} {D:Nat->Bool×Nat×Value} (h:dH w b s az count n D) (m:Nat):dH (w.drewN m) b s az count n D:=h.iK rfl rfl
theorem dH.AQ {w:World} {b s az count n:Nat} {D:Nat->Bool×Nat×Value} (h:dH w b s az count n D) (c:Nat):dH (w.setCell (π b 1) (ι c)) b s az c n D:=by
 have e:∀o,(w.setCell (π b 1) (ι c)).cell? (π s o)=w.cell? (π s o):=fun o=>aX (fun e=>h.ne e.symm);exact ⟨h.ne,by rw [bg dee];exact h.c0,gG h.c1,by rw [bg dee];exact h.c2,
  fun o=>by rw [World.frozen?_setCell];exact h.fb o,fun o=>by rw [World.frozen?_setCell];exact h.fs o,h.pos,
  fun i hi=>by rw [e];exact h.k0 i hi,fun i hi=>by rw [e];exact h.k1 i hi,fun i hi=>by rw [e];exact h.k2 i hi⟩
theorem dH.nQ {w:World} {b s az count n:Nat} {D:Nat->Bool×Nat×Value} (h:dH w b s az count n D) {i:Nat} (hi:i < n) (t:Bool) (k:Nat) (v:Value):
 dH (((w.setCell (π s (i*3)) (.bool t)).setCell (π s (i*3+1)) (.int .u64 k)).setCell (π s (i*3+2)) v) b s az count n (aL D i (t,k,v)):=by
 have eb:∀o,(((w.setCell (π s (i*3)) (.bool t)).setCell (π s (i*3+1)) (.int .u64 k)).setCell (π s (i*3+2)) v).cell? (π b o)=w.cell? (π b o):=fun o=>by rw [aX h.ne,aX h.ne,aX h.ne]
 refine ⟨h.ne,by rw [eb];exact h.c0,by rw [eb];exact h.c1,by rw [eb];exact h.c2,fun o=>?_,fun o=>?_,h.pos,fun j hj=>?_,fun j hj=>?_,fun j hj=>?_⟩
 ·rw [World.frozen?_setCell,World.frozen?_setCell,World.frozen?_setCell];exact h.fb o
 ·rw [World.frozen?_setCell,World.frozen?_setCell,World.frozen?_setCell];exact h.fs o
 ·by_cases e:j=i
  ·subst e;rw [an,bg omm,bg omm];exact gG (h.k0 j hj)
  ·rw [aj _ _ e,bg omm,bg omm,bg omm];exact h.k0 j hj
 ·by_cases e:j=i
  ·subst e;rw [an,bg omm];exact gG (u:= .int .u64 (D j).2.1) (by rw [bg omm];exact h.k1 j hj)
  ·rw [aj _ _ e,bg omm,bg omm,bg omm];exact h.k1 j hj
 ·by_cases e:j=i
  ·subst e;rw [an];exact gG (u:=(D j).2.2) (by rw [bg omm,bg omm];exact h.k2 j hj)
  ·rw [aj _ _ e,bg omm,bg omm,bg omm];exact h.k2 j hj
theorem da.nQ {S:List Nat} {a w:World} {s i:Nat} (f:da S a w) (hs:s∈S) (t k v:Value):
 da S a (((w.setCell (π s (i*3)) t).setCell (π s (i*3+1)) k).setCell (π s (i*3+2)) v):=
 ((f.setCell hs _).setCell hs _).setCell hs _
def dB (z:Value) (S:Tb Value) (i:Nat):Bool×Nat×Value:=match S i with|none=>(false,0,z)|some (k,v)=>(true,k,v)
theorem JQ (z:Value) (S:Tb Value) (i:Nat) (x:Option (Nat×Value)):dB z (aL S i x)=aL (dB z S) i (match x with|none=>(false,0,z)|some (k,v)=>(true,k,v)):=by
 funext j;by_cases h:j=i
 ·subst h;rw [an];unfold dB;rw [an]
 ·rw [aj _ _ h];unfold dB;rw [aj _ _ h]
structure xE (n e:Nat):Prop where
 n:n=2 ^ e
 le:1<=e
 ge:e<=40
theorem xE.pos {n e:Nat} (g:xE n e):0 < n:=by rw [g.n];exact Nat.two_pow_pos e
theorem xE.small {n e:Nat} (g:xE n e):n<=1099511627776:=by rw [g.n];exact Nat.pow_le_pow_right dee g.ge
theorem DA:∀e,e<=40->Lib.bitLen (2 ^ e)=e+1:=by
 intro e he;have:∀f:Fin 41,Lib.bitLen (2 ^ f.val)=f.val+1:=by decide+kernel
 exact this ⟨e,omm⟩
theorem DB {n e:Nat} (g:xE n e) (key:Nat):key*yM % Nj / 2 ^ (64 - e)=home n key:=by
 unfold home;have h2:Nj=2 ^ (64 - e)*n:=by rw [g.n,<-Nat.pow_add,show 64 - e+e=64 from by have:=g.ge;omega];rfl
 generalize key*yM % Nj=x;rw [h2,Nat.mul_div_mul_right _ _ g.pos]
theorem Fl (x:Int) {n e:Nat} (g:xE n e):bits .and .i64 x ((n:Int) - 1)=x % (n:Int):=by
 have uG:(BitVec.ofInt 64 ((n:Int) - 1)).toNat=2 ^ e - 1:=by
  have hs:=g.small;have hp:=g.pos;rw [BitVec.toNat_ofInt,<-g.n];have hc:((2 ^ 64:Nat):Int)=18446744073709551616:=by decide
  have:((n:Int) - 1) % ((2 ^ 64:Nat):Int)=(n:Int) - 1:=by rw [hc];exact Int.emod_eq_of_lt omm omm
  rw [this];omega
 have key:(BitVec.ofInt 64 x&&& BitVec.ofInt 64 ((n:Int) - 1)).toNat=(x % ((2 ^ 64:Nat):Int)).toNat % 2 ^ e:=by rw [BitVec.toNat_and,BitVec.toNat_ofInt,uG,Nat.and_two_pow_sub_one_eq_mod]
 show IntKind.i64.wrap ((BitVec.ofInt 64 x&&& BitVec.ofInt 64 ((n:Int) - 1)).toNat:Nat)=x % (n:Int);rw [key,IntKind.wrap_i64,<-g.n];have hs:=g.small;have hp:=g.pos;have hd:((n:Int))∣((2 ^ 64:Nat):Int):=by refine Int.natCast_dvd_natCast.2 ?_;rw [g.n];exact Nat.pow_dvd_pow 2 (by have:=g.ge;omega)
 have h1:((x % ((2 ^ 64:Nat):Int)).toNat % n:Nat)=(x % (n:Int)):=by rw [Int.natCast_emod,Int.toNat_of_nonneg (Int.emod_nonneg _ dee),Int.emod_emod_of_dvd _ hd]
 rw [h1];have h2:=Int.emod_nonneg x (b:=(n:Int)) omm;have h3:=Int.emod_lt_of_pos x (b:=(n:Int)) omm;omega
theorem AS {n e:Nat} (g:xE n e) {a b:Nat} (ha:a < n) (hb:b < n):bits .and .i64 ((b:Int) - (a:Int)) ((n:Int) - 1)=((cA n a b:Nat):Int):=by
 rw [Fl _ g];have hp:=g.pos;rcases dc n a b with ⟨h1,h2⟩|⟨h1,h2⟩
 ·rw [h2,Int.emod_eq_of_lt omm omm];omega
 ·rw [h2];have:((b:Int) - a) % n=((b:Int) - a+n) % n:=by simp
  rw [this,Int.emod_eq_of_lt omm omm];omega
theorem Sj {n e:Nat} (g:xE n e) {i:Nat} (hi:i < n):bits .and .i64 ((i:Int)+1) ((n:Int) - 1)=((nx n i:Nat):Int):=by rw [Fl _ g,<-Sg hi];rfl
structure Fit (az n e:Nat):Prop where
 Sk:xE n e
 ge:2*az<=n
 lt:n=2\/n < 4*az
theorem iB (x y z:Value) (n i:Nat) (hi:i < n):(madeCells #[x,y,z] (n*3))[i*3]? =some x/\(madeCells #[x,y,z] (n*3))[i*3+1]? =some y/\(madeCells #[x,y,z] (n*3))[i*3+2]? =some z:=by
 unfold madeCells;have h0:(i*3) % 3=0:=omm;have h1:(i*3+1) % 3=1:=omm;have h2:(i*3+2) % 3=2:=omm;refine ⟨?_,?_,?_⟩
 ·rw [Array.getElem?_map,Array.getElem?_range];simp [h0,show i*3 < n*3 from by omega]
 ·rw [Array.getElem?_map,Array.getElem?_range];simp [h1,show i*3+1 < n*3 from by omega]
 ·rw [Array.getElem?_map,Array.getElem?_range];simp [h2,show i*3+2 < n*3 from by omega]
theorem aE (w:World) (o:Obj):(w.alloc o).heap.size=w.heap.size+1:=by simp
theorem q_ (w:World) (o:Obj):(w.alloc o).heap[w.heap.size]? =some o:=by show (w.heap.push o)[w.heap.size]? =_;simp
theorem dR {w:World} {b:Nat} {c:Array Value} {t:TypeId} {z:Nat×Nat} (h:w.heap[b]? =some (.cells c t z)) (o:Nat):w.cell? (π b o)=c[o]? :=by simp [World.cell?,h]
theorem iC {w:World} {b:Nat} {c:Array Value} {t:TypeId} (h:w.heap[b]? =some (.cells c t (0,0))) (o:Nat):w.frozen? (π b o)=false:=by simp [World.frozen?,h]
theorem dH.made {w:World} {b s az n:Nat} {z:Value} {t u:TypeId} (Wy:b≠s) (hn:0 < n) (hb:w.heap[b]? =some (.cells #[ι az,ι 0,.slice (some (π s 0)) n n] t))
 (hs:w.heap[s]? =some (.cells (madeCells #[.bool false,.int .u64 0,z] (n*3)) u)):dH w b s az 0 n (dB z fun _=>none):=by
 refine ⟨Wy,?_,?_,?_,fun o=>iC hb o,fun o=>iC hs o,hn,fun i hi=>?_,fun i hi=>?_,fun i hi=>?_⟩
 ·rw [dR hb];rfl
 ·rw [dR hb];rfl
 ·exact ⟨n,by rw [dR hb];rfl⟩
 ·rw [dR hs];exact (iB _ _ _ n i hi).1
 ·rw [dR hs];exact (iB _ _ _ n i hi).2.1
 ·rw [dR hs];exact (iB _ _ _ n i hi).2.2
theorem DC {P:Program} {f:FuncId} {args:Array Value} {w:World} {v:Value} {n:Nat} (h:Calls P f args (w.drewN n) fun e w'=>e= .returned v/\∃m,w'=(w.drewN n).drewN m):
 Calls P f args (w.drewN n) fun e w''=>e= .returned v/\∃m,w''=w.drewN m:=h.mono fun e w' ⟨a,m,b⟩=>⟨a,n+m,by rw [b,agq]⟩
theorem au (B:Nat) (w:World) (n:Nat):Below B w (w.drewN n):=⟨rfl,rfl,rfl,Nat.le_refl _,fun _ _=>rfl⟩
end ak
end
namespace ak.Vm
open Go Go.RowKit
theorem pC {A:Array Value}{D:List Deferred}{g:(Nat->Value)->Act}(h:({tmps:=A,defers:=D}:Act)=g fun i=>A.getD i undef):∃J,({tmps:=A,defers:=D}:Act)=g J:=⟨_,h⟩
theorem QX {p q:Prop} (hq:q) (h:q->p:=by
 intro hq
 (try simp only [List.getElem_toArray,List.getElem_cons_zero,List.getElem_cons_succ])
 exact hq):p:=h hq
theorem qU {p:Prop} (h:p:=by
 (try simp only [List.getElem_toArray,List.getElem_cons_zero,List.getElem_cons_succ])
 first|(go_simp;done)|(go_simp;with_reducible rfl)):p:=h
theorem ag6 (w:World) (cs:Array Value) (T:TypeId):Below w.heap.size w (w.alloc (.cells cs T)):=(afL _ _).alloc (Nat.le_refl _) _
theorem ag7 (w:World) (cs:Array Value) (T:TypeId) (mV:Array Value) (T2:TypeId):Below w.heap.size w ((w.alloc (.cells cs T)).alloc (.cells mV T2)):=((afL _ _).alloc (Nat.le_refl _) _).alloc smm _
theorem ag5 (i:Nat) (h:i < 4611686018427387904):IntKind.i64.wrap ((i:Int)+1)=((i+1:Nat):Int):=by rw [afU _ coo];omega
def ay (w:World) (b:Nat) (T:TypeId) (cs:Array Value):Prop:=w.heap[b]? =some (.cells cs T (0,0))
theorem nR (w:World) (b o:Nat) (v:Value) (k:Nat):(w.setCell ⟨b,o,none⟩ v).heap[k]? =if k=b then (w.heap[k]?).map (fun x=>match x with| .cells cs t z=> .cells (cs.setIfInBounds o v) t z|y=>y) else w.heap[k]? :=by
 by_cases h:k=b
 ·subst h;rw [if_pos rfl];simp only [World.setCell,Array.getElem?_modify,if_pos];cases w.heap[k]? with
  |none=>rfl
  |some x=>cases x<;>rfl
 ·rw [if_neg h];exact agv _ _ _ _ h
section
variable {w w':World} {b c o:Nat} {T U:TypeId} {cs ds:Array Value} {v:Value}
theorem ay.lt (h:ay w b T cs):b < w.heap.size:=(Array.getElem?_eq_some_iff.1 h).1
theorem ay.cell (h:ay w b T cs) (o:Nat):w.cell? (π b o)=cs[o]? :=dR h o
theorem ay.c1 {l:List Value}{x0:Value}(h:ay w b T (x0::l).toArray):w.cell? (π b 0)=some x0:=h.cell 0
theorem ay.c2 {l:List Value}{x0 x1:Value}(h:ay w b T (x0::x1::l).toArray):w.cell? (π b 0)=some x0/\w.cell? (π b 1)=some x1:=⟨h.cell 0,h.cell 1⟩
theorem ay.c3 {l:List Value}{x0 x1 x2:Value}(h:ay w b T (x0::x1::x2::l).toArray):w.cell? (π b 0)=some x0/\w.cell? (π b 1)=some x1/\w.cell? (π b 2)=some x2:=⟨h.cell 0,h.cell 1,h.cell 2⟩
theorem ay.c4 {l:List Value}{x0 x1 x2 x3:Value}(h:ay w b T (x0::x1::x2::x3::l).toArray):w.cell? (π b 0)=some x0/\w.cell? (π b 1)=some x1/\w.cell? (π b 2)=some x2/\w.cell? (π b 3)=some x3:=⟨h.cell 0,h.cell 1,h.cell 2,h.cell 3⟩
theorem ay.c5 {l:List Value}{x0 x1 x2 x3 x4:Value}(h:ay w b T (x0::x1::x2::x3::x4::l).toArray):w.cell? (π b 0)=some x0/\w.cell? (π b 1)=some x1/\w.cell? (π b 2)=some x2/\w.cell? (π b 3)=some x3/\w.cell? (π b 4)=some x4:=⟨h.cell 0,h.cell 1,h.cell 2,h.cell 3,h.cell 4⟩
theorem ay.c6 {l:List Value}{x0 x1 x2 x3 x4 x5:Value}(h:ay w b T (x0::x1::x2::x3::x4::x5::l).toArray):w.cell? (π b 0)=some x0/\w.cell? (π b 1)=some x1/\w.cell? (π b 2)=some x2/\w.cell? (π b 3)=some x3/\w.cell? (π b 4)=some x4/\w.cell? (π b 5)=some x5:=⟨h.cell 0,h.cell 1,h.cell 2,h.cell 3,h.cell 4,h.cell 5⟩
theorem ay.c7 {l:List Value}{x0 x1 x2 x3 x4 x5 x6:Value}(h:ay w b T (x0::x1::x2::x3::x4::x5::x6::l).toArray):w.cell? (π b 0)=some x0/\w.cell? (π b 1)=some x1/\w.cell? (π b 2)=some x2/\w.cell? (π b 3)=some x3/\w.cell? (π b 4)=some x4/\w.cell? (π b 5)=some x5/\w.cell? (π b 6)=some x6:=⟨h.cell 0,h.cell 1,h.cell 2,h.cell 3,h.cell 4,h.cell 5,h.cell 6⟩
theorem ay.c8 {l:List Value}{x0 x1 x2 x3 x4 x5 x6 x7:Value}(h:ay w b T (x0::x1::x2::x3::x4::x5::x6::x7::l).toArray):w.cell? (π b 0)=some x0/\w.cell? (π b 1)=some x1/\w.cell? (π b 2)=some x2/\w.cell? (π b 3)=some x3/\w.cell? (π b 4)=some x4/\w.cell? (π b 5)=some x5/\w.cell? (π b 6)=some x6/\w.cell? (π b 7)=some x7:=⟨h.cell 0,h.cell 1,h.cell 2,h.cell 3,h.cell 4,h.cell 5,h.cell 6,h.cell 7⟩
theorem ay.c9 {l:List Value}{x0 x1 x2 x3 x4 x5 x6 x7 x8:Value}(h:ay w b T (x0::x1::x2::x3::x4::x5::x6::x7::x8::l).toArray):w.cell? (π b 0)=some x0/\w.cell? (π b 1)=some x1/\w.cell? (π b 2)=some x2/\w.cell? (π b 3)=some x3/\w.cell? (π b 4)=some x4/\w.cell? (π b 5)=some x5/\w.cell? (π b 6)=some x6/\w.cell? (π b 7)=some x7/\w.cell? (π b 8)=some x8:=⟨h.cell 0,h.cell 1,h.cell 2,h.cell 3,h.cell 4,h.cell 5,h.cell 6,h.cell 7,h.cell 8⟩
theorem ay.nN {l:List Value}{x0 x1 x2 x3 x4 x5 x6 x7 x8 x9 Ot x11 WA:Value}(h:ay w b T (x0::x1::x2::x3::x4::x5::x6::x7::x8::x9::Ot::x11::WA::l).toArray):w.cell? (π b 0)=some x0/\w.cell? (π b 1)=some x1/\w.cell? (π b 2)=some x2/\w.cell? (π b 3)=some x3/\w.cell? (π b 4)=some x4/\w.cell? (π b 5)=some x5/\w.cell? (π b 6)=some x6/\w.cell? (π b 7)=some x7/\w.cell? (π b 8)=some x8/\w.cell? (π b 9)=some x9/\w.cell? (π b 10)=some Ot/\w.cell? (π b 11)=some x11/\w.cell? (π b 12)=some WA:=⟨h.cell 0,h.cell 1,h.cell 2,h.cell 3,h.cell 4,h.cell 5,h.cell 6,h.cell 7,h.cell 8,h.cell 9,h.cell 10,h.cell 11,h.cell 12⟩
theorem ay.c14 {l:List Value}{x0 x1 x2 x3 x4 x5 x6 x7 x8 x9 Ot x11 WA x13:Value}(h:ay w b T (x0::x1::x2::x3::x4::x5::x6::x7::x8::x9::Ot::x11::WA::x13::l).toArray):w.cell? (π b 0)=some x0/\w.cell? (π b 1)=some x1/\w.cell? (π b 2)=some x2/\w.cell? (π b 3)=some x3/\w.cell? (π b 4)=some x4/\w.cell? (π b 5)=some x5/\w.cell? (π b 6)=some x6/\w.cell? (π b 7)=some x7/\w.cell? (π b 8)=some x8/\w.cell? (π b 9)=some x9/\w.cell? (π b 10)=some Ot/\w.cell? (π b 11)=some x11/\w.cell? (π b 12)=some WA/\w.cell? (π b 13)=some x13:=⟨h.cell 0,h.cell 1,h.cell 2,h.cell 3,h.cell 4,h.cell 5,h.cell 6,h.cell 7,h.cell 8,h.cell 9,h.cell 10,h.cell 11,h.cell 12,h.cell 13⟩
theorem ay.frozen (h:ay w b T cs) (o:Nat):w.frozen? (π b o)=false:=iC h o
theorem ay.set (h:ay w b T cs) (o:Nat) (v:Value):ay (w.setCell (π b o) v) b T (cs.setIfInBounds o v):=by unfold ay at h ⊢;rw [nR,if_pos rfl,h];rfl
theorem ay.other (h:ay w b T cs) (hc:b≠c) (o:Nat) (v:Value):ay (w.setCell (π c o) v) b T cs:=by unfold ay at h ⊢;rw [nR,if_neg hc];exact h
theorem ay.ne (h:ay w b T cs) (k:ay w c U ds) (ht:T≠U):b≠c:=by intro e;subst e;unfold ay at h k;rw [h] at k;simp at k;exact ht k.2
theorem ay.of (h:ay w b T cs) (hb:w'.heap[b]? =w.heap[b]?):ay w' b T cs:=hb.trans h
theorem ay.aB {S:List Nat} (h:ay w b T cs) (f:da S w w') (hb:b∉S):ay w' b T cs:=h.of (f.block b h.lt hb)
theorem ay.drewN (h:ay w b T cs) (n:Nat):ay (w.drewN n) b T cs:=h
theorem ay.new (w:World) (T:TypeId) (cs:Array Value):ay (w.alloc (.cells cs T)) w.heap.size T cs:=q_ w _
theorem ay.a_ {w:World} {b:Nat} {T:TypeId} {cs:Array Value} (h:b=w.heap.size):ay (w.alloc (.cells cs T)) b T cs:=by subst h;exact ay.new w T cs
theorem ay.alloc (h:ay w b T cs) (x:Obj):ay (w.alloc x) b T cs:=h.of (Below.heap_alloc _ _ _ h.lt)
theorem ay.grown (h:ay w b T cs) {row:Option Nat} (g:w.grownBy w' row) (hr:some b≠row):ay w' b T cs:=h.of (g.block b h.lt hr)
def eE (n:Nat) (g:Nat->Value):List Value:=(List.range n).map g
theorem eM (n:Nat) (g:Nat->Value):(eE n g).length=n:=by simp [eE]
theorem lR {n o:Nat} (g:Nat->Value) (h:o < n):(eE n g)[o]? =some (g o):=by simp [eE,h]
theorem pD (n m:Nat) (g:Nat->Value):eE (n+m) g=eE n g++(List.range m).map fun i=>g (n+i):=by unfold eE;rw [List.range_add,List.map_append,List.map_map];rfl
theorem nS {n:Nat} {f g:Nat->Value} (h:∀o,o < n->f o=g o):eE n f=eE n g:=by unfold eE;exact List.map_congr_left fun o ho=>h o (List.mem_range.1 ho)
def Row (w:World) (e:TypeId) (size:Nat) (v:Value) (n:Nat) (g:Nat->Value):Prop:=w.ownsRow 0 e size v n (eE (n*size) g)
variable {e:TypeId} {size n:Nat} {g f:Nat->Value}
theorem Row.nil (w:World) (e:TypeId) (size:Nat) (g:Nat->Value):Row w e size ν 0 g:=⟨by simp [eE],.inl ⟨rfl,rfl⟩⟩
theorem Row.congr (h:Row w e size v n g) (hg:∀o,o < n*size->g o=f o):Row w e size v n f:=by unfold Row at h ⊢;rw [<-nS hg];exact h
theorem Row.val (h:Row w e size v n g):(v=ν/\n=0)\/∃b cap,v= .slice (some (π b 0)) n cap/\n<=cap/\cap<=maxLen/\b < w.heap.size:=by
 rcases h.2 with h|⟨b,cap,yQ,hv,_,hb,h1,h2,_⟩
 ·exact .inl h
 ·exact .inr ⟨b,cap,hv,h1,h2,(Array.getElem?_eq_some_iff.1 hb).1⟩
theorem Row.some (h:Row w e size v n g) (hn:0 < n):∃b cap,v= .slice (.some (π b 0)) n cap/\n<=cap/\cap<=maxLen/\b < w.heap.size:=by
 rcases h.val with ⟨_,h⟩|h
 ·omega
 ·exact h
theorem Row.slice {b m cap:Nat} (h:Row w e size (.slice (.some (π b 0)) m cap) n g):m=n/\n<=cap/\cap<=maxLen/\b < w.heap.size:=by
 rcases h.val with ⟨h,_⟩|⟨b',mI,hv,h1,h2,h3⟩
 ·simp at h
 ·simp at hv;obtain ⟨rfl,rfl,rfl⟩:=hv;exact ⟨rfl,h1,h2,h3⟩
theorem Row.cell {b m cap:Nat} (h:Row w e size (.slice (.some (π b 0)) m cap) n g) {o:Nat} (ho:o < n*size):w.cell? (π b o)= .some (g o):=by have:=World.ownsRow.cells h (g:=b) rfl o (g o) (lR g ho);rwa [show ((π b 0):Addr).add o=(π b o) by unfold Addr.add;split<;>simp_all] at this
theorem Row.c_ {b m cap:Nat} (h:Row w e size (.slice (.some (π b 0)) m cap) n g):∃cs,ay w b e cs:=by
 rcases h.2 with ⟨h,_⟩|⟨b',mI,yQ,hv,_,hb,_⟩
 ·simp at h
 ·simp at hv;obtain ⟨rfl,_,_⟩:=hv;exact ⟨yQ,hb⟩
theorem Row.frozen {b m cap:Nat} (h:Row w e size (.slice (.some (π b 0)) m cap) n g) (o:Nat):w.frozen? (π b o)=false:=by obtain ⟨cs,hb⟩:=h.c_;exact hb.frozen o
theorem Row.of (h:Row w e size v n g) (hb:∀b,v.ownBlock= .some b->w'.heap[b]? =w.heap[b]?):Row w' e size v n g:=by
 refine ⟨h.1,?_⟩;rcases h.2 with h0|⟨b,cap,yQ,rfl,h1,h2,h3⟩
 ·exact .inl h0
 ·exact .inr ⟨b,cap,yQ,rfl,h1,(hb b rfl).trans h2,h3⟩
theorem Row.aB {S:List Nat} (h:Row w e size v n g) (f:da S w w') (hb:∀b,v.ownBlock= .some b->b∉S):Row w' e size v n g:=
 h.of fun b hv=>f.block b (af3 h b hv).2 (hb b hv)
theorem Row.drewN (h:Row w e size v n g) (k:Nat):Row (w.drewN k) e size v n g:=h.of fun _ _=>rfl
theorem Row.alloc (h:Row w e size v n g) (x:Obj):Row (w.alloc x) e size v n g:=World.ownsRow.alloc h x
theorem Row.grown (h:Row w e size v n g) {row:Option Nat} (k:w.grownBy w' row) (bz:v.ownBlock=none\/v.ownBlock≠row):Row w' e size v n g:=World.ownsRow.kept h k bz
theorem Row.other (h:Row w e size v n g) {c:Nat} (hc:v.ownBlock≠.some c) (o:Nat) (x:Value):Row (w.setCell (π c o) x) e size v n g:=
 h.of fun b hb=>agv _ _ _ _ (fun e'=>hc (by rw [hb,e']))
theorem Row.set {b m cap:Nat} (h:Row w e size (.slice (.some (π b 0)) m cap) n g) {o:Nat} (ho:o < n*size) (x:Value):Row (w.setCell (π b o) x) e size (.slice (.some (π b 0)) m cap) n (fun i=>if i=o then x else g i):=by
 refine ⟨by rw [eM],?_⟩;rcases h.2 with ⟨h,_⟩|⟨b',mI,yQ,hv,h1,hb,h2,h3,h4,h5⟩
 ·simp at h
 ·simp at hv;obtain ⟨rfl,rfl,rfl⟩:=hv;refine .inr ⟨b,cap,yQ.setIfInBounds o x,rfl,h1,ay.set (T:=e) hb o x,h2,h3,by simpa using h4,?_⟩;rw [Array.toList_setIfInBounds,List.take_set,h5];refine List.ext_getElem? fun i=>?_;rw [List.getElem?_set];by_cases hi:i < m*size
  ·rw [lR _ hi];by_cases e':o=i
   ·subst e';rw [if_pos rfl,eM,if_pos hi,lR _ hi,if_pos rfl]
   ·rw [if_neg e',lR _ hi,if_neg (fun e''=>e' e''.symm)]
  ·have a1:(eE (m*size) g)[i]? =none:=by simp [eE];omega
   have a2:(eE (m*size) (fun i=>if i=o then x else g i))[i]? =none:=by simp [eE];omega
   rw [a1,a2];split
   ·rename_i e';subst e';omega
   ·rfl
theorem Row.less {b m cap k:Nat} (h:Row w e size (.slice (.some (π b 0)) m cap) n g) (hk:k<=n):Row w e size (.slice (.some (π b 0)) k cap) k g:=by
 refine ⟨by rw [eM],?_⟩;rcases h.2 with ⟨h,_⟩|⟨b',mI,yQ,hv,h1,hb,h2,h3,h4,h5⟩
 ·simp at h
 ·simp at hv;obtain ⟨rfl,rfl,rfl⟩:=hv;refine .inr ⟨b,cap,yQ,rfl,h1,hb,omm,h3,h4,?_⟩;have:=congrArg (List.take (k*size)) h5;rw [List.take_take,Nat.min_eq_left (Nat.mul_le_mul_right _ hk)] at this;rw [this];unfold eE;rw [<-List.map_take,List.take_range,Nat.min_eq_left (Nat.mul_le_mul_right _ hk)]
theorem Row.eF {b:Nat} {T:TypeId} {cs:Array Value} (h:Row w e size v n g) (k:ay w b T cs) (ht:e≠T):v.ownBlock≠.some b:=by
 intro hv;rcases h.2 with ⟨rfl,_⟩|⟨b',mI,yQ,rfl,_,hb,_⟩
 ·simp [Value.ownBlock] at hv
 ·simp [Value.ownBlock] at hv;subst hv;exact ay.ne (T:=e) hb k ht rfl
theorem Row.ne {e':TypeId} {WB n':Nat} {v':Value} {g':Nat->Value} (h:Row w e size v n g) (k:Row w e' WB v' n' g') (ht:e≠e'):v.ownBlock=none\/v.ownBlock≠v'.ownBlock:=by
 rcases k.2 with ⟨rfl,_⟩|⟨b',mI,yQ,rfl,_,hb,_⟩
 ·cases hv:v.ownBlock with
  |none=>exact .inl rfl
  |some x=>right;simp [Value.ownBlock]
 ·right;exact h.eF (T:=e') hb ht
theorem Row.made {b cap:Nat} {cs:Array Value} (h:ay w b e cs) (hs:cs.size=cap*size) (hm:cap<=maxLen) (hg:∀o,o < cap*size->cs[o]? = .some (g o)):Row w e size (.slice (.some (π b 0)) cap cap) cap g:=by
 refine ⟨by rw [eM],.inr ⟨b,cap,cs,rfl,afO _,h,Nat.le_refl _,hm,hs,?_⟩⟩;refine List.ext_getElem? fun i=>?_;by_cases hi:i < cap*size
 ·rw [lR _ hi,List.getElem?_take,if_pos hi,Array.getElem?_toList];exact hg i hi
 ·have a1:(eE (cap*size) g)[i]? =none:=by simp [eE];omega
  rw [a1,List.getElem?_take,if_neg hi]
theorem eJ {w w':World} {row:Option Nat} (g:w.grownBy w' row):da row.toList w w':=
 ⟨g.os,g.tape,g.output,g.size,fun k hk hs=>g.block k hk (fun e=>hs (by rw [<-e];simp))⟩
def gU (N:Nat) (g f:Nat->Value) (i:Nat):Value:=if i < N then g i else f (i - N)
theorem vF (N M:Nat) (g f:Nat->Value):eE (N+M) (gU N g f)=eE N g++eE M f:=by
 rw [pD];congr 1
 ·exact nS fun o ho=>by unfold gU;rw [if_pos ho]
 ·unfold eE;exact List.map_congr_left fun o ho=>by unfold gU;rw [if_neg omm];congr 1;omega
variable {P:Program}
theorem qp {o:Oper} {a:Act} {K:Act->World->Prop} {Q:Exit->Act->World->Prop} (s x:Operand) (t:TypeId)
 (ho:o.op= .call {callee:= .builtin .append,args:=#[s,x],argTypes:=#[t,t]})
 (e:TypeId) {size bytes:Nat} {z:Value} (ht:P.underlying t=some (.slice e)) (hi:(P.info? e).map (fun i=>(i.zero,i.size,i.bytes))=some (some z,size,bytes)) (O7:z.cells.size=size) (kN:0 < size)
 (v:Value) (n:Nat) (g:Nat->Value) (hs:a.eval s=v) (bq:Row w e size v n g)
 (ad:Addr) (m c:Nat) (f:Nat->Value) (hx:a.eval x= .slice (some ad) m c) (oZ:∀j,j < m*size->w.cell? (ad.add j)=some (f j)) (h1:∀j,j < m*size->(f j).oneCell'=true)
 (O_:n+m<=maxLen) (og:(n+m)*bytes<=140737488355328)
 (h:∀v' w',Row w' e size v' (n+m) (gU (n*size) g f)->da v.ownBlock.toList w w'->(v'.ownBlock=v.ownBlock\/v'.ownBlock=some w.heap.size)->K (a.put o.dst v') w'):o.wp P a w K Q:=by
 obtain ⟨i,NT,AH,NU,NV⟩:=info_parts hi;obtain ⟨v',w',hr,h2,h3,-,h5⟩:=run_append_own_at (P:=P) w 0 t o.type e i z size bytes ht NT AH NU NV O7 kN v n (eE (n*size) g) bq ad m c (eE (m*size) f) (by rw [eM])
  (fun j u hu=>by
    have hj:j < m*size:=by exact agR
    rw [lR f hj] at hu;cases hu;exact oZ j hj)
  (fun u hu=>by
    unfold eE at hu;obtain ⟨j,hj,rfl⟩:=List.mem_map.1 hu;exact h1 j (List.mem_range.1 hj)) O_ og (afO _)
 unfold Oper.wp execOp;simp only [ho,resolve,invoke,builtin,Sem.run_bind,Sem.run_pure,Result.andThen_ok,List.map_toArray,List.map_cons,List.map_nil,hs,hx,hr];refine h v' w' ?_ (eJ h3) h5;unfold Row;rw [Nat.add_mul,vF];exact h2
theorem cz {ops:Array Oper} {rest:List Oper} {o:Oper} {a:Act} {Q:Exit->Act->World->Prop} (Ie:o.guard=none) (s x:Operand) (t:TypeId)
 (ho:o.op= .call {callee:= .builtin .append,args:=#[s,x],argTypes:=#[t,t]})
 (e:TypeId) {size bytes:Nat} {z:Value} (ht:P.underlying t=some (.slice e)) (hi:(P.info? e).map (fun i=>(i.zero,i.size,i.bytes))=some (some z,size,bytes)) (O7:z.cells.size=size) (kN:0 < size)
 (v:Value) (n:Nat) (g:Nat->Value) (hs:a.eval s=v) (bq:Row w e size v n g)
 (ad:Addr) (m c:Nat) (f:Nat->Value) (hx:a.eval x= .slice (some ad) m c) (oZ:∀j,j < m*size->w.cell? (ad.add j)=some (f j)) (h1:∀j,j < m*size->(f j).oneCell'=true)
 (O_:n+m<=maxLen) (og:(n+m)*bytes<=140737488355328)
 (h:∀v' w',Row w' e size v' (n+m) (gU (n*size) g f)->da v.ownBlock.toList w w'->(v'.ownBlock=v.ownBlock\/v'.ownBlock=some w.heap.size)->wpList P ops Q rest (a.put o.dst v') w'):wpList P ops Q (o::rest) a w:=
 wpList_plain Ie fun _ hK=>qp s x t ho e ht hi O7 kN v n g hs bq ad m c f hx oZ h1 O_ og fun v' w' h2 h3 h4=>hK _ _ (h v' w' h2 h3 h4)
theorem dq {ops:Array Oper} {o:Oper} {a:Act} {K:Act->World->Prop} {Q:Exit->Act->World->Prop} {E:Prop} (Ie:o.guard=none) (s x:Operand) (t:TypeId)
 (ho:o.op= .call {callee:= .builtin .append,args:=#[s,x],argTypes:=#[t,t]})
 (e:TypeId) {size bytes:Nat} {z:Value} (ht:P.underlying t=some (.slice e)) (hi:(P.info? e).map (fun i=>(i.zero,i.size,i.bytes))=some (some z,size,bytes)) (O7:z.cells.size=size) (kN:0 < size)
 (v:Value) (n:Nat) (g:Nat->Value) (hs:a.eval s=v) (bq:Row w e size v n g)
 (ad:Addr) (m c:Nat) (f:Nat->Value) (hx:a.eval x= .slice (some ad) m c) (oZ:∀j,j < m*size->w.cell? (ad.add j)=some (f j)) (h1:∀j,j < m*size->(f j).oneCell'=true)
 (O_:n+m<=maxLen) (og:(n+m)*bytes<=140737488355328)
 (h:∀v' w',Row w' e size v' (n+m) (gU (n*size) g f)->da v.ownBlock.toList w w'->(v'.ownBlock=v.ownBlock\/v'.ownBlock=some w.heap.size)->K (a.put o.dst v') w'):
 if Region.wanted o (yielded ops a.tmps)=true then Oper.wp P o a w K Q else E:=by
 have hw:Region.wanted o (yielded ops a.tmps)=true:=by simp [Region.wanted,Ie]
 rw [if_pos hw];exact qp s x t ho e ht hi O7 kN v n g hs bq ad m c f hx oZ h1 O_ og h
theorem qb {F:Fence} {nn:Nat} {P:Program} {w:World} {ops:Array Oper} {rest:List Oper} {o:Oper} {a:Act} {Q:Exit->Act->World->Prop} (Ie:o.guard=none) (s x:Operand) (t:TypeId)
 (ho:o.op= .call {callee:= .builtin .append,args:=#[s,x],argTypes:=#[t,t]})
 (e:TypeId) {size bytes:Nat} {z:Value} (ht:P.underlying t=some (.slice e)) (hi:(P.info? e).map (fun i=>(i.zero,i.size,i.bytes))=some (some z,size,bytes)) (O7:z.cells.size=size) (kN:0 < size)
 (v:Value) (n:Nat) (g:Nat->Value) (hs:a.eval s=v) (bq:Row w e size v n g)
 (ad:Addr) (m c:Nat) (f:Nat->Value) (hx:a.eval x= .slice (some ad) m c) (oZ:∀j,j < m*size->w.cell? (ad.add j)=some (f j)) (h1:∀j,j < m*size->(f j).oneCell'=true)
 (O_:n+m<=maxLen) (og:(n+m)*bytes<=140737488355328)
 (h:∀v' w',Row w' e size v' (n+m) (gU (n*size) g f)->da v.ownBlock.toList w w'->(v'.ownBlock=v.ownBlock\/v'.ownBlock=some w.heap.size)->wpListIn F nn P ops Q rest (a.put o.dst v') w'):wpListIn F nn P ops Q (o::rest) a w:=by
 refine wpListIn_plain Ie fun K YA=>?_;obtain ⟨i,NT,AH,NU,NV⟩:=info_parts hi;obtain ⟨v',w',hr,h2,h3,-,h5⟩:=run_append_own_at (P:=P) w 0 t o.type e i z size bytes ht NT AH NU NV O7 kN v n (eE (n*size) g) bq ad m c (eE (m*size) f) (by rw [eM])
  (fun j u hu=>by
    have hj:j < m*size:=by exact agR
    rw [lR f hj] at hu;cases hu;exact oZ j hj)
  (fun u hu=>by
    unfold eE at hu;obtain ⟨j,hj,rfl⟩:=List.mem_map.1 hu;exact h1 j (List.mem_range.1 hj)) O_ og (afO _)
 unfold Oper.wpIn;refine ⟨?_,?_⟩
 ·simp [Oper.about,ho,resolve,Target.leads,Sem.run_pure]
 ·rw [Oper.semAt_plain F _ _ (by rw [ho];intro c Ss;cases Ss)];simp [execOp,ho,resolve,invoke,builtin,hs,hx,hr,Result.andThen];refine YA _ _ (h v' w' ?_ (eJ h3) h5);unfold Row;rw [Nat.add_mul,vF];exact h2
theorem kz {P:Program} {w:World} {ops:Array Oper} {rest:List Oper} {o:Oper} {a:Act} {Q:Exit->Act->World->Prop}
 (hg:o.guard=none) (l c:Operand) (t:TypeId) (cW:o.op=Op.makeSlice t l c)
 (e:TypeId) {bytes:Nat} {z:Value} (h1:P.underlying t=some (.slice e)) (hi:(P.info? e).map (fun i=>(i.zero,i.size,i.bytes))=some (some z,1,bytes)) (hz:z.cells=#[z])
 (kl kc:IntKind) (L C:Int) (n:Nat) (hl:a.eval l= .int kl L) (hc:a.eval c= .int kc C) (hL:L=(n:Int)) (hC:C=(n:Int)) (b2:bytes*n<=281474976710656) (b3:n<=maxLen)
 (hK:∀w',Row w' e 1 (.slice (some (π w.heap.size 0)) n n) n (fun _=>z)->Below w.heap.size w w'->wpList P ops Q rest (a.put o.dst (.slice (some (π w.heap.size 0)) n n)) w'):
 wpList P ops Q (o::rest) a w:=by
 obtain ⟨i,NT,AH,NU,NV⟩:=info_parts hi;refine wpList_make_full w hg l c t cW 0 e i z 1 h1 NT AH NU kl kc L C n hl hc hL hC (by rw [NV];exact b2) b3 (afO _) fun w' hw vM=>hK w' ?_ ?_
 ·unfold Row;have:(madeCells z.cells (n*1)).toList=eE (n*1) (fun _=>z):=by rw [hz];unfold madeCells eE;simp;intro a _;rw [Nat.mod_one];rfl
  rw [<-this];exact hw
 ·have F:=eJ vM;exact F.below (Nat.le_refl _) smm
end
end ak.Vm
