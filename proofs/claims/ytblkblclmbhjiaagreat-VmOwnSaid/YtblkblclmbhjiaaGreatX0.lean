import Derived.WalkKit
import Derived.WalkSpells
import Derived.WalkLawsBesides
import Derived.Laws.BitsLemmas
import Derived.Lib.BitFns
import Derived.OpenShut
import Derived.Deep.Draws
import Derived.OwnWalk
import Derived.Deep.DeepAppendWide
set_option linter.all false
set_option maxHeartbeats 40000000
set_option maxRecDepth 100000
open Option renaming some->H,none->K7
open Go renaming Value->UL,World->UK
open Go.Value renaming slice->to
open Go.Obj renaming cells->QP
open Go.Ending renaming returned->C8
open Go.World renaming cell?->UJ
abbrev dN:=@Go.World.cell?_of_block
abbrev eJ:=@Nat.lt_of_lt_of_le
abbrev Jn:=@Go.World.drewN_drewN
abbrev DJ:=@Go.RowKit.Below.heap_setCell
abbrev aB:=@Go.RowKit.Below.refl
abbrev cK:=@Nat.zero_le
abbrev bJ:=@Go.IntWalk.i64_in
abbrev fE:=@Go.World.ownsRow.lt
abbrev aw:=@if_neg
abbrev aL:=@Nat.le_refl
abbrev bk:=@if_pos
abbrev vH:=@List.nodup_append
abbrev sd:=@Option.some.inj
abbrev An:=@List.length_erase_of_mem
abbrev yR:=@List.length_pos_of_mem
abbrev fp:=@Bool.and_eq_true
abbrev qM:=@List.all_eq_true
abbrev aY:=@List.getD_eq_getElem?_getD
abbrev fq:=@List.getElem?_eq_getElem
abbrev ft:=@decide_eq_true_eq
abbrev jO:=@List.getElem_mem
section
def O{p:Prop}(h:p:=by omega):p:=h
def ay{p:Prop}(h:p:=by simp):p:=h
def bd{p:Prop}(h:p:=by decide):p:=h
def lI{p:Prop}(h:p:=by constructor<;>omega):p:=h
def jz{p:Prop}(h:p:=by simp;omega):p:=h
def cY{p:Prop}(h:p:=by assumption):p:=h
end
namespace aj
def nx(n i:Nat):Nat:=if i+1=n then 0 else i+1
def cO(n a b:Nat):Nat:=if a<=b then b-a else b+n-a
def aR{β:Type}(f:Nat->β)(i:Nat)(x:β):Nat->β:=λj=>if j=i then x else f j
def an{β:Type}(f:Nat->β)(i:Nat)(x:β):aR f i x i=x:=by simp[aR]
def ak{β:Type}(f:Nat->β){i j:Nat}(x:β)(h:j≠i):aR f i x j=f j:=by simp[aR,h]
def Bv:Nat:=11400714819323198485
def vD:Nat:=18446744073709551616
def home(n key:Nat):Nat:=key*Bv % vD*n / vD
def kN{n:Nat}(hn:0<n)(key:Nat):home n key<n:=by unfold home;rw[Nat.div_lt_iff_lt_mul bd];have h:key*Bv % vD<vD:=Nat.mod_lt _ bd;rw[Nat.mul_comm n vD];exact Nat.mul_lt_mul_of_pos_right h hn
def dc(n a b:Nat):(a<=b/\cO n a b=b-a)\/(b<a/\cO n a b=b+n-a):=by
 unfold cO;split
 ·left;exact⟨by assumption,rfl⟩
 ·right;exact⟨O,rfl⟩
def nc(n i:Nat):(i+1=n/\nx n i=0)\/(i+1≠n/\nx n i=i+1):=by
 unfold nx;split
 ·left;exact⟨by assumption,rfl⟩
 ·right;exact⟨by assumption,rfl⟩
def km{n i:Nat}(h:i<n):nx n i<n:=by unfold nx;split<;>omega
def Xx{n i:Nat}(h:i<n):(i+1) % n=nx n i:=by
 unfold nx;split
 ·next e=>rw[e];exact Nat.mod_self n
 ·exact Nat.mod_eq_of_lt O
section
variable {α:Type}
abbrev Tb(α:Type):=Nat->Option (Nat×α)
def fX(S:Tb α)(key at_:Nat):Bool:=match S at_ with|none=>true|some (k,_)=>k==key
def gG(n:Nat)(S:Tb α)(key:Nat):Nat->Nat->Nat
 |0,a=>a
 |f+1,a=>if fX S key a then a else gG n S key f (nx n a)
def find(n:Nat)(S:Tb α)(key:Nat):Nat:=gG n S key n (home n key)
def Ag{n:Nat}(S:Tb α)(key:Nat):∀f a,a<n->gG n S key f a<n:=by
 intro f
 induction f with
 |zero=>intro a h;exact h
 |succ f ih=>intro a h;unfold gG;split;exact h;exact ih _ (km h)
def jD{n:Nat}(hn:0<n)(S:Tb α)(key:Nat):find n S key<n:=Ag S key n _ (kN hn key)
def vE{n:Nat}{S:Tb α}{key a:Nat}(h:fX S key a=true)(f:Nat):gG n S key f a=a:=by
 cases f<;>simp[gG,h]
def Ah{n:Nat}{S:Tb α}{key a:Nat}(h:fX S key a=false)(f:Nat):gG n S key (f+1) a=gG n S key f (nx n a):=by simp[gG,h]
def DG{n:Nat}{S:Tb α}{key e:Nat}(he:e<n)(hs:fX S key e=true):
 ∀f a,a<n->cO n a e<=f->fX S key (gG n S key f a)=true/\cO n a (gG n S key f a)<=cO n a e/\
  ∀x,x<n->cO n a x<cO n a (gG n S key f a)->fX S key x=false:=by
 intro f
 induction f with
 |zero=>
  intro a ha hd;have:a=e:=by unfold cO at hd;split at hd<;>omega
  subst this;refine⟨hs,Nat.le_refl _,λx hx h=>?_⟩;simp only[gG]at h;have:cO n a a=0:=by unfold cO;simp
  omega
 |succ f ih=>
  intro a ha hd;by_cases h:fX S key a=true
  ·rw[vE h];have:cO n a a=0:=by unfold cO;simp
   exact⟨h,O,λx hx be=>O⟩
  ·have h':fX S key a=false:=by simpa using h
   rw[Ah h'];have bm:a≠e:=λe'=>by rw[e']at h;exact h hs
   have rC:cO n (nx n a) e<=f:=by unfold cO nx at*;split at hd<;>split<;>(try split)<;>omega
   obtain⟨h1,h2,h3⟩:=ih (nx n a) (km ha) rC;have hl:gG n S key f (nx n a)<n:=Ag S key f _ (km ha);generalize gG n S key f (nx n a)=p at h1 h2 h3 hl;have hpa:p≠a:=λe'=>by rw[e']at h1;exact h h1
   have step:∀y,y<n->y≠a->cO n a y=cO n (nx n a) y+1:=by intro y hy hya;unfold cO nx;split<;>split<;>(try split)<;>omega
   refine⟨h1,?_,λx hx be=>?_⟩
   ·rw[step p hl hpa,step e he (λe'=>bm e'.symm)];omega
   ·by_cases zJ:x=a
    ·rw[zJ];exact h'
    ·rw[step p hl hpa,step x hx zJ]at be;exact h3 x hx O
def sW{n a b:Nat}(ha:a<n)(X:b<n):cO n a b<n:=by unfold cO;split<;>omega
def re(n a:Nat):cO n a a=0:=by unfold cO;simp
def sX{n a b:Nat}(ha:a<n)(X:b<n)(h:a≠b):0<cO n a b:=by unfold cO;split<;>omega
def xr{n a b c:Nat}(X:b<n)(hc:c<n)(ha:a<n)(h:cO n a b=cO n a c):b=c:=by unfold cO at h;split at h<;>split at h<;>omega
def jj{n a e:Nat}(ha:a<n)(he:e<n)(h:a≠e):cO n a e=cO n (nx n a) e+1:=by unfold cO nx;split<;>split<;>(try split)<;>omega
def rh{n:Nat}{S:Tb α}{e:Nat}(he:e<n)(hs:S e=none)(key:Nat):
 fX S key (find n S key)=true/\∀x,x<n->cO n (home n key) x<cO n (home n key) (find n S key)->fX S key x=false:=by
 have hn:0<n:=O;obtain⟨h1,_,h3⟩:=DG (S:=S) (key:=key) he (by simp[fX,hs]) n (home n key) (kN hn key) (Nat.le_of_lt (sW (kN hn key) he));exact⟨h1,h3⟩
structure Inv(n:Nat)(S:Tb α):Prop where
 path:∀p k v,p<n->S p=some (k,v)->∀x,x<n->cO n (home n k) x<cO n (home n k) p->S x≠none
 rX:∀p q k v u,p<n->q<n->S p=some (k,v)->S q=some (k,u)->p=q
def Inv.empty(n:Nat):Inv (α:=α) n (λ_=>none):=⟨λ_ _ _ _ h=>by simp at h,λ_ _ _ _ _ _ _ h=>by simp at h⟩
def Inv.Bw{n:Nat}{S:Tb α}(I:Inv n S){e:Nat}(he:e<n)(hs:S e=none){p k:Nat}{v:α}(hp:p<n)(h:S p=some (k,v)):find n S k=p:=by
 have hn:0<n:=O;obtain⟨h1,h2⟩:=rh he hs k;have hl:=jD hn S k;have hh:=kN hn k;generalize find n S k=q at h1 h2 hl;rcases Nat.lt_trichotomy (cO n (home n k) q) (cO n (home n k) p)with be|xu|hgt
 ·have:=I.path p k v hp h q hl be;unfold fX at h1;cases hq:S q with
  |none=>exact absurd hq this
  |some x=>rw[hq]at h1;obtain⟨k',u⟩:=x;simp at h1;subst h1;exact I.rX q p k' u v hl hp hq h
 ·exact xr hl hp hh xu
 ·have:=h2 p hp hgt;simp[fX,h]at this
def DH{S:Tb α}{key p k:Nat}{v:α}(h:fX S key p=true)(hp:S p=some (k,v)):k=key:=by unfold fX at h;rw[hp]at h;simpa using h
def putAt(n:Nat)(S:Tb α)(key:Nat)(v:α):Tb α:=aR S (find n S key) (some (key,v))
def Inv.put{n:Nat}{S:Tb α}(I:Inv n S){e:Nat}(he:e<n)(hs:S e=none)(key:Nat)(v:α):Inv n (putAt n S key v):=by
 have hn:0<n:=O;obtain⟨h1,h2⟩:=rh he hs key;have hl:=jD hn S key;unfold putAt;have hq:∀q k u,q<n->S q=some (k,u)->k=key->q=find n S key:=by intro q k u hq h e';subst e';exact(I.Bw he hs hq h).symm
 generalize find n S key=f at*;refine⟨λp k u hp h x hx hd=>?_,λp q k u u' hp Q_ h h'=>?_⟩
 ·by_cases hxf:x=f
  ·rw[hxf,an];simp
  ·rw[ak _ _ hxf];by_cases RT:p=f
   ·rw[RT,an]at h;simp at h;obtain⟨rfl,rfl⟩:=h;rw[RT]at hd;have:=h2 x hx hd;intro hn';simp[fX,hn']at this
   ·rw[ak _ _ RT]at h;exact I.path p k u hp h x hx hd
 ·by_cases RT:p=f<;>by_cases hqf:q=f
  ·rw[RT,hqf]
  ·rw[RT,an]at h;rw[ak _ _ hqf]at h';simp at h;exact absurd (hq q k u' Q_ h' h.1.symm) hqf
  ·rw[hqf,an]at h';rw[ak _ _ RT]at h;simp at h';exact absurd (hq p k u hp h h'.1.symm) RT
  ·rw[ak _ _ RT]at h;rw[ak _ _ hqf]at h';exact I.rX p q k u u' hp Q_ h h'
def gH(n:Nat):Nat->Tb α->Nat->Nat->Tb α
 |0,S,_,_=>S
 |f+1,S,i,k=>match S k with
  |none=>S
  |some (y,_)=>if cO n i k<=cO n (home n y) k then gH n f (aR (aR S i (S k)) k none) k (nx n k)else gH n f S i (nx n k)
def lJ(n:Nat)(S:Tb α)(p:Nat):Tb α:=gH n n (aR S p none) p (nx n p)
structure Ai(n:Nat)(S:Tb α)(i k e:Nat):Prop where
 li:i<n
 lk:k<n
 le:e<n
 ww:S i=none
 zK:S e=none
 ie:i≠e
 ik:i≠k
 Nt:cO n i k+cO n k e=cO n i e
 rX:∀p q x v u,p<n->q<n->S p=some (x,v)->S q=some (x,u)->p=q
 path:∀p x v,p<n->S p=some (x,v)->∀y,y<n->cO n (home n x) y<cO n (home n x) p->S y≠none\/(y=i/\cO n i k<=cO n i p)
def Ai.start{n:Nat}{S:Tb α}(I:Inv n S){p e:Nat}(hp:p<n)(he:e<n)(hs:S e=none)(Ra:p≠e):Ai n (aR S p none) p (nx n p) e:=by
 have XW:nx n p≠p:=by unfold nx;split<;>omega
 refine⟨hp,km hp,he,an _ _ _,?_,Ra,λh=>XW h.symm,?_,?_,?_⟩
 ·rw[ak _ _ (λh=>Ra h.symm)];exact hs
 ·rw[jj hp he Ra];rw[jj hp (km hp) (λh=>XW h.symm),re];omega
 ·intro a b x v u ha X h1 h2;have h1':S a=some (x,v):=by unfold aR at h1;split at h1<;>simp_all
  have h2':S b=some (x,u):=by unfold aR at h2;split at h2<;>simp_all
  exact I.rX a b x v u ha X h1' h2'
 ·intro a x v ha h y hy hd;have hap:a≠p:=λe'=>by rw[e',an]at h;simp at h
  rw[ak _ _ hap]at h;by_cases hyp:y=p
  ·right;refine⟨hyp,?_⟩;rw[jj hp (km hp) (λh=>XW h.symm),re];have:=sX hp ha (λh=>hap h.symm);omega
  ·left;rw[ak _ _ hyp];exact I.path a x v ha h y hy hd
def Ai.move{n:Nat}{S:Tb α}{i k e:Nat}(D:Ai n S i k e){x:Nat}{v:α}(hk:S k=some (x,v))(hh:cO n i k<=cO n (home n x) k):
 Ai n (aR (aR S i (S k)) k none) k (nx n k) e:=by
 have hn:0<n:=by have:=D.li;omega
 have Dh:k≠e:=λh=>by rw[h,D.zK]at hk;simp at hk
 have hki:k≠i:=λh=>D.ik h.symm;have hnk:nx n k≠k:=by have:=D.li;have:=D.ik;have:=D.lk;unfold nx;split<;>omega
 have hxh:=kN hn x;have hik:=sX D.li D.lk D.ik;refine⟨D.lk,km D.lk,D.le,an _ _ _,?_,Dh,λh=>hnk h.symm,?_,?_,?_⟩
 ·rw[ak _ _ (λh=>Dh h.symm),ak _ _ (λh=>D.ie h.symm)];exact D.zK
 ·rw[jj D.lk D.le Dh];rw[jj D.lk (km D.lk) (λh=>hnk h.symm),re];omega
 ·have key:∀a y u,a<n->aR (aR S i (S k)) k none a=some (y,u)->∃b,b<n/\S b=some (y,u)/\(a=i/\b=k\/a≠i/\b=a/\a≠k):=by
   intro a y u ha h;by_cases Nu:a=k
   ·rw[Nu,an]at h;simp at h
   ·rw[ak _ _ Nu]at h;by_cases Vp:a=i
    ·rw[Vp,an]at h;exact⟨k,D.lk,h,.inl ⟨Vp,rfl⟩⟩
    ·rw[ak _ _ Vp]at h;exact⟨a,ha,h,.inr ⟨Vp,rfl,Nu⟩⟩
  intro a b y u u' ha X h1 h2;obtain⟨a',ha',h1',c1⟩:=key a y u ha h1;obtain⟨b',jV,h2',c2⟩:=key b y u' X h2;have:=D.rX a' b' y u u' ha' jV h1' h2';rcases c1 with⟨r1,r2⟩|⟨r1,r2,r3⟩<;>rcases c2 with⟨t1,t2⟩|⟨t1,t2,t3⟩
  ·rw[r1,t1]
  ·exact absurd (by rw[<-t2,<-this,r2]) t3
  ·exact absurd (by rw[<-r2,this,t2]) r3
  ·rw[<-r2,<-t2];exact this
 ·intro a y u ha h z hz hd;have Nu:a≠k:=λe'=>by rw[e',an]at h;simp at h
  rw[ak _ _ Nu]at h;have d1:cO n k (nx n k)=1:=by rw[jj D.lk (km D.lk) (λh=>hnk h.symm),re]
  by_cases hzk:z=k
  ·right;refine⟨hzk,?_⟩;rw[d1];exact sX D.lk ha (λh=>Nu h.symm)
  ·left;rw[ak _ _ hzk];by_cases DI:z=i
   ·rw[DI,an,hk];simp
   ·rw[ak _ _ DI];by_cases Vp:a=i
    ·rw[Vp,an,hk]at h;simp at h;obtain⟨rfl,rfl⟩:=h;rw[Vp]at hd;have be:cO n (home n x) z<cO n (home n x) k:=by have:=D.li;have:=D.lk;have:=dc n (home n x) z;have:=dc n (home n x) i;have:=dc n (home n x) k;have:=dc n i k;omega
     rcases D.path k x v D.lk hk z hz be with h'|⟨h',_⟩
     ·exact h'
     ·exact absurd h' DI
    ·rw[ak _ _ Vp]at h;rcases D.path a y u ha h z hz hd with h'|⟨h',_⟩
     ·exact h'
     ·exact absurd h' DI
def Ai.stay{n:Nat}{S:Tb α}{i k e:Nat}(D:Ai n S i k e){x:Nat}{v:α}(hk:S k=some (x,v))(hh:¬cO n i k<=cO n (home n x) k):Ai n S i (nx n k) e:=by
 have hn:0<n:=by have:=D.li;omega
 have Dh:k≠e:=λh=>by rw[h,D.zK]at hk;simp at hk
 have hxh:=kN hn x;have hik:=sX D.li D.lk D.ik;have h1:=D.li;have h2:=D.lk;have h3:=D.le;have h4:=D.Nt;have h5:=D.ie;have h6:=D.ik;have hnk:i≠nx n k:=by have:=dc n i k;have:=dc n k e;have:=dc n i e;have:=nc n k;omega
 have hw:cO n i (nx n k)=cO n i k+1:=by have:=dc n i k;have:=dc n k e;have:=dc n i e;have:=nc n k;have:=dc n i (nx n k);omega
 refine⟨D.li,km D.lk,D.le,D.ww,D.zK,D.ie,hnk,?_,D.rX,?_⟩
 ·rw[hw];rw[jj D.lk D.le Dh]at h4;omega
 ·intro a y u ha h z hz hd;rcases D.path a y u ha h z hz hd with h'|⟨h',hle⟩
  ·exact .inl h'
  ·by_cases Nu:a=k
   ·exfalso;rw[Nu]at h hd;rw[hk]at h;simp at h;obtain⟨rfl,rfl⟩:=h;rw[h']at hd;apply hh;have:=dc n (home n x) i;have:=dc n (home n x) k;have:=dc n i k;omega
   ·right;refine⟨h',?_⟩;rw[hw];have:cO n i a≠cO n i k:=λe'=>Nu (xr ha D.lk D.li e');omega
def Ai.done{n:Nat}{S:Tb α}{i k e:Nat}(D:Ai n S i k e)(hk:S k=none):Inv n S:=by
 have hn:0<n:=by have:=D.li;omega
 refine⟨λa y u ha h z hz hd=>?_,D.rX⟩;rcases D.path a y u ha h z hz hd with h'|⟨h',hle⟩
 ·exact h'
 ·exfalso;rw[h']at hd;have Nu:a≠k:=λe'=>by rw[e',hk]at h;simp at h
  have h1:=D.li;have h2:=D.lk;have h6:=D.ik;have hyh:=kN hn y;have:cO n i a≠cO n i k:=λe'=>Nu (xr ha D.lk D.li e');have be:cO n (home n y) k<cO n (home n y) a:=by have:=dc n (home n y) i;have:=dc n (home n y) k;have:=dc n (home n y) a;have:=dc n i k;have:=dc n i a;omega
  rcases D.path a y u ha h k D.lk be with h''|⟨h'',_⟩
  ·exact h'' hk
  ·exact h6 h''.symm
def Gt{n:Nat}:∀f (S:Tb α) i k e,Ai n S i k e->cO n k e<=f->Inv n (gH n f S i k)/\gH n f S i k e=none:=by
 intro f
 induction f with
 |zero=>
  intro S i k e D hd;have:k=e:=by have:=D.lk;have:=D.le;unfold cO at hd;split at hd<;>omega
  subst this;exact⟨D.done D.zK,D.zK⟩
 |succ f ih=>
  intro S i k e D hd;unfold gH;cases hk:S k with
  |none=>exact⟨D.done hk,D.zK⟩
  |some x=>
   obtain⟨y,v⟩:=x;have Dh:k≠e:=λh=>by rw[h,D.zK]at hk;simp at hk
   have rC:cO n (nx n k) e<=f:=by rw[jj D.lk D.le Dh]at hd;omega
   simp only[];split
   ·next h=>have:=ih _ _ _ e (D.move hk h) rC;rw[hk]at this;exact this
   ·next h=>exact ih _ _ _ e (D.stay hk h) rC
def Gu{n:Nat}{S:Tb α}(I:Inv n S){p e:Nat}(hp:p<n)(he:e<n)(hs:S e=none)(Ra:p≠e):Inv n (lJ n S p)/\lJ n S p e=none:=
 Gt n _ _ _ e (Ai.start I hp he hs Ra) (Nat.le_of_lt (sW (km hp) he))
def Gv{n:Nat}:∀f (S:Tb α) i k e,Ai n S i k e->cO n k e<=f->∀x:Nat×α,(∃p,p<n/\gH n f S i k p=some x)↔(∃p,p<n/\S p=some x):=by
 intro f
 induction f with
 |zero=>intro S i k e D hd x;exact Iff.rfl
 |succ f ih=>
  intro S i k e D hd x;unfold gH;cases hk:S k with
  |none=>exact Iff.rfl
  |some y=>
   obtain⟨y,v⟩:=y;have Dh:k≠e:=λh=>by rw[h,D.zK]at hk;simp at hk
   have rC:cO n (nx n k) e<=f:=by rw[jj D.lk D.le Dh]at hd;omega
   simp only[];split
   ·next h=>
    have:=ih _ _ _ e (D.move hk h) rC x;rw[hk]at this;rw[this];constructor
    ·rintro⟨p,hp,h1⟩;unfold aR at h1;split at h1
     ·simp at h1
     ·split at h1
      ·exact⟨k,D.lk,by rw[hk];exact h1⟩
      ·exact⟨p,hp,h1⟩
    ·rintro⟨p,hp,h1⟩;by_cases Xy:p=k
     ·refine⟨i,D.li,?_⟩;rw[ak _ _ D.ik,an,<-hk,<-Xy];exact h1
     ·have hpi:p≠i:=λe'=>by rw[e',D.ww]at h1;simp at h1
      exact⟨p,hp,by rw[ak _ _ Xy,ak _ _ hpi];exact h1⟩
   ·next h=>exact ih _ _ _ e (D.stay hk h) rC x
def dr:Nat->Tb α->Nat
 |0,_=>0
 |n+1,S=>dr n S+(if(S n).isSome then 1 else 0)
def KI{n:Nat}{S S':Tb α}(h:∀i,i<n->(S i).isSome=(S' i).isSome):dr n S=dr n S':=by
 induction n with
 |zero=>rfl
 |succ n ih=>unfold dr;rw[ih (λi hi=>h i O),h n O]
def Nv(n:Nat):dr n (λ_=>none:Tb α)=0:=by
 induction n with
 |zero=>rfl
 |succ n ih=>unfold dr;simp[ih]
def wP{n p:Nat}(S:Tb α)(x:Option (Nat×α))(h:p<n):dr n (aR S p x)+(if(S p).isSome then 1 else 0)=dr n S+(if x.isSome then 1 else 0):=by
 induction n with
 |zero=>omega
 |succ n ih=>
  unfold dr;by_cases hp:p=n
  ·rw[hp,an];have:dr n (aR S n x)=dr n S:=KI λi hi=>by rw[ak _ _ O]
   rw[this];omega
  ·rw[ak _ _ (λe=>hp e.symm)];have:=ih O;omega
def By{n:Nat}{S:Tb α}(h:dr n S<n):∃e,e<n/\S e=none:=by
 induction n with
 |zero=>omega
 |succ n ih=>
  unfold dr at h;cases hs:S n with
  |none=>exact⟨n,O,hs⟩
  |some x=>rw[hs]at h;simp at h;obtain⟨e,h1,h2⟩:=ih O;exact⟨e,O,h2⟩
def Nw{n i k:Nat}{S:Tb α}(hi:i<n)(hk:k<n)(hik:i≠k)(h0:S i=none)(h1:S k≠none):dr n (aR (aR S i (S k)) k none)=dr n S:=by
 have a:=wP (aR S i (S k)) none hk;have b:=wP S (S k) hi;rw[ak _ _ (λe=>hik e.symm)]at a;rw[h0]at b;have:(S k).isSome=true:=by cases h:S k with|none=>exact absurd h h1|some _=>rfl
 simp[this]at a b;omega
def Gw{n:Nat}:∀f (S:Tb α) i k e,Ai n S i k e->cO n k e<=f->dr n (gH n f S i k)=dr n S:=by
 intro f
 induction f with
 |zero=>intro S i k e D hd;rfl
 |succ f ih=>
  intro S i k e D hd;unfold gH;cases hk:S k with
  |none=>rfl
  |some x=>
   obtain⟨y,v⟩:=x;have Dh:k≠e:=λh=>by rw[h,D.zK]at hk;simp at hk
   have rC:cO n (nx n k) e<=f:=by rw[jj D.lk D.le Dh]at hd;omega
   simp only[];split
   ·next h=>have a:=ih _ _ _ e (D.move hk h) rC;rw[hk]at a;rw[a,<-hk];exact Nw D.li D.lk D.ik D.ww (by rw[hk];simp)
   ·next h=>exact ih _ _ _ e (D.stay hk h) rC
def Gx{n:Nat}{S:Tb α}(I:Inv n S){p e:Nat}(hp:p<n)(he:e<n)(hs:S e=none)(ht:S p≠none):dr n (lJ n S p)+1=dr n S:=by
 have Ra:p≠e:=λh=>ht (by rw[h];exact hs);have a:=Gw n _ _ _ e (Ai.start I hp he hs Ra) (Nat.le_of_lt (sW (km hp) he));have b:=wP S none hp;have:(S p).isSome=true:=by cases h:S p with|none=>exact absurd h ht|some _=>rfl
 simp[this]at b;unfold lJ;omega
def zL{n:Nat}{S:Tb α}{key:Nat}{v:α}(hn:0<n)(h:S (find n S key)=none):dr n (putAt n S key v)=dr n S+1:=by have b:=wP S (some (key,v)) (jD hn S key);rw[h]at b;simpa[putAt]using b
end
end aj
section
def Tw{p:Prop}(h:p:=by
 go_ret;exact⟨rfl,rfl⟩):p:=h
abbrev Y(x:Int):Go.Value:= .int .i64 x
abbrev G(b o:Nat):Go.Addr:=⟨b,o,K7⟩
abbrev UI(b:Nat):Go.Value:= .pointer (H ⟨b,0,K7⟩)
abbrev Pl:Go.Value:=to K7 0 0
def Go.RowKit.Hid.o{p:Prop}(h:Hid p):p:=h
def bh{p:Prop}(h:p:=by kernel_rfl):p:=h
namespace aj
open Go Go.RowKit
def Z{p:Prop}(h:p):Hid p:=h
structure aA(S:List Nat)(w w':UK):Prop where
 os:w'.os=w.os
 tape:w'.tape=w.tape
 output:w'.output=w.output
 size:w.heap.size<=w'.heap.size
 block:∀k,k<w.heap.size->k∉S->w'.heap[k]? =w.heap[k]?
def aA.refl(S:List Nat)(w:UK):aA S w w:=⟨rfl,rfl,rfl,Nat.le_refl _,λ_ _ _=>rfl⟩
def aA.trans{S:List Nat}{a b c:UK}(h:aA S a b)(k:aA S b c):aA S a c:=
 ⟨k.os.trans h.os,k.tape.trans h.tape,k.output.trans h.output,Nat.le_trans h.size k.size,λi hi hs=>(k.block i (eJ hi h.size) hs).trans (h.block i hi hs)⟩
def aA.mono{S T:List Nat}{a b:UK}(h:aA S a b)(hs:∀k,k∈S->k∈T):aA T a b:=
 ⟨h.os,h.tape,h.output,h.size,λi hi ht=>h.block i hi λh'=>ht (hs i h')⟩
def aA.drewN{S:List Nat}{a b:UK}(h:aA S a b)(n:Nat):aA S a (b.drewN n):=⟨h.os,h.tape,h.output,h.size,h.block⟩
def aA.drew{S:List Nat}{a b:UK}(h:aA S a b):aA S a b.drew:=⟨h.os,h.tape,h.output,h.size,h.block⟩
def aA.alloc{S:List Nat}{a b:UK}(h:aA S a b)(o:Obj):aA S a (b.alloc o):=
 h.trans ⟨rfl,rfl,rfl,ay,λk hk _=>Below.heap_alloc _ _ _ hk⟩
def aA.setCell{S:List Nat}{a b:UK}(h:aA S a b){p:Addr}(hp:p.block∈S)(v:UL):aA S a (b.setCell p v):=
 h.trans ⟨rfl,rfl,rfl,by simp[World.setCell],λk _ hs=>DJ _ _ _ _ (λe=>hs (e▸hp))⟩
def aA.rY{S:List Nat}{a b:UK}(h:aA S a b){p:Addr}(hp:a.heap.size<=p.block)(v:UL):aA S a (b.setCell p v):=
 ⟨h.os,h.tape,h.output,by simpa[World.setCell]using h.size,λk hk hs=>(DJ _ _ _ _ O).trans (h.block k hk hs)⟩
def aA.below{S:List Nat}{a b:UK}(h:aA S a b){B:Nat}(hB:B<=a.heap.size)(hs:∀k,k∈S->B<=k):Below B a b:=
 ⟨h.os,h.tape,h.output,h.size,λk hk=>h.block k O λh'=>by have:=hs k h';omega⟩
def aA.af{S:List Nat}{a b:UK}(h:Below a.heap.size a b):aA S a b:=⟨h.os,h.tape,h.output,h.size,λk hk _=>h.block k hk⟩
def aA.Nx{S T:List Nat}{a b:UK}(h:aA S a b)(hs:∀k,k∈S->k∈T\/a.heap.size<=k):aA T a b:=
 ⟨h.os,h.tape,h.output,h.size,λi hi ht=>h.block i hi λh'=>by rcases hs i h' with h''|h'';exact ht h'';omega⟩
def aH{w:UK}{b o:Nat}{v:UL}(h:UJ w (G b o)=H v):b<w.heap.size:=by
 unfold World.cell? at h;split at h
 ·next h'=>exact(Array.getElem?_eq_some_iff.1 h').1
 ·simp at h
def fN{w:UK}{b o:Nat}{v u:UL}(h:UJ w (G b o)=H u):(w.setCell (G b o) v).cell? (G b o)=H v:=World.cell?_setCell_same' _ _ _ (by rw[h];rfl)
def bM{w:UK}{b o c p:Nat}{v:UL}(h:c≠b):(w.setCell (G b o) v).cell? (G c p)=UJ w (G c p):=by simp only[World.cell?];rw[DJ _ _ _ _ h]
def bi{w:UK}{b o c p:Nat}{v:UL}(h:p≠o):(w.setCell (G b o) v).cell? (G c p)=UJ w (G c p):=by
 by_cases hc:c=b
 ·subst hc;simp only[World.cell?,World.setCell,Array.getElem?_modify];cases w.heap[c]? with
  |none=>simp
  |some x=>cases x<;>simp[Array.getElem?_setIfInBounds];intro e;exact absurd e.symm h
 ·exact bM hc
structure dI(w:UK)(b s aE count n:Nat)(D:Nat->Bool×Nat×UL):Prop where
 ne:b≠s
 c0:UJ w (G b 0)=H (Y aE)
 c1:UJ w (G b 1)=H (Y count)
 c2:∃cp,UJ w (G b 2)=H (to (H (G s 0)) n cp)
 fb:∀o,w.frozen? (G b o)=false
 fs:∀o,w.frozen? (G s o)=false
 pos:0<n
 k0:∀i,i<n->UJ w (G s (i*3))=H (.bool (D i).1)
 k1:∀i,i<n->UJ w (G s (i*3+1))=H (.int .u64 (D i).2.1)
 k2:∀i,i<n->UJ w (G s (i*3+2))=H (D i).2.2
def dI.lb{w:UK}{b s aE count n:Nat}{D:Nat->Bool×Nat×UL}(h:dI w b s aE count n D):b<w.heap.size:=aH h.c0
def dI.ls{w:UK}{b s aE count n:Nat}{D:Nat->Bool×Nat×UL}(h:dI w b s aE count n D):s<w.heap.size:=aH (h.k0 0 h.pos)
def dI.ju{w w':UK}{b s aE count n:Nat}{D:Nat->Bool×Nat×UL}(h:dI w b s aE count n D)(X:w'.heap[b]? =w.heap[b]?)(hs:w'.heap[s]? =w.heap[s]?):dI w' b s aE count n D:=by
 have cb:∀o,UJ w' (G b o)=UJ w (G b o):=λo=>dN X;have cs:∀o,UJ w' (G s o)=UJ w (G s o):=λo=>dN hs;have gb:∀o,w'.frozen? (G b o)=w.frozen? (G b o):=λo=>World.frozen?_of_block X;have gs:∀o,w'.frozen? (G s o)=w.frozen? (G s o):=λo=>World.frozen?_of_block hs;exact⟨h.ne,by rw[cb];exact h.c0,by rw[cb];exact h.c1,by rw[cb];exact h.c2,λo=>by rw[gb];exact h.fb o,λo=>by rw[gs];exact h.fs o,h.pos,
  λi hi=>by rw[cs];exact h.k0 i hi,λi hi=>by rw[cs];exact h.k1 i hi,λi hi=>by rw[cs];exact h.k2 i hi⟩
def dI.aG{S:List Nat}{w w':UK}{b s aE count n:Nat}{D:Nat->Bool×Nat×UL}(h:dI w b s aE count n D)(f:aA S w w')(X:b∉S)(hs:s∉S):dI w' b s aE count n D:=
 h.ju (f.block b h.lb X) (f.block s h.ls hs)
def dI.drewN{w:UK}{b s aE count n:Nat}{D:Nat->Bool×Nat×UL}(h:dI w b s aE count n D)(m:Nat):dI (w.drewN m) b s aE count n D:=h.ju rfl rfl
def dI.DK{w:UK}{b s aE count n:Nat}{D:Nat->Bool×Nat×UL}(h:dI w b s aE count n D)(c:Nat):dI (w.setCell (G b 1) (Y c)) b s aE c n D:=by
 have e:∀o,(w.setCell (G b 1) (Y c)).cell? (G s o)=UJ w (G s o):=λo=>bM (λe=>h.ne e.symm);exact⟨h.ne,by rw[bi bd];exact h.c0,fN h.c1,by rw[bi bd];exact h.c2,
  λo=>by rw[World.frozen?_setCell];exact h.fb o,λo=>by rw[World.frozen?_setCell];exact h.fs o,h.pos,
  λi hi=>by rw[e];exact h.k0 i hi,λi hi=>by rw[e];exact h.k1 i hi,λi hi=>by rw[e];exact h.k2 i hi⟩
def dI.pq{w:UK}{b s aE count n:Nat}{D:Nat->Bool×Nat×UL}(h:dI w b s aE count n D){i:Nat}(hi:i<n)(t:Bool)(k:Nat)(v:UL):
 dI (((w.setCell (G s (i*3)) (.bool t)).setCell (G s (i*3+1)) (.int .u64 k)).setCell (G s (i*3+2)) v) b s aE count n (aR D i (t,k,v)):=by
 have eb:∀o,(((w.setCell (G s (i*3)) (.bool t)).setCell (G s (i*3+1)) (.int .u64 k)).setCell (G s (i*3+2)) v).cell? (G b o)=UJ w (G b o):=λo=>by rw[bM h.ne,bM h.ne,bM h.ne]
 refine⟨h.ne,by rw[eb];exact h.c0,by rw[eb];exact h.c1,by rw[eb];exact h.c2,λo=>?_,λo=>?_,h.pos,λj hj=>?_,λj hj=>?_,λj hj=>?_⟩
 ·rw[World.frozen?_setCell,World.frozen?_setCell,World.frozen?_setCell];exact h.fb o
 ·rw[World.frozen?_setCell,World.frozen?_setCell,World.frozen?_setCell];exact h.fs o
 ·by_cases e:j=i
  ·subst e;rw[an,bi O,bi O];exact fN (h.k0 j hj)
  ·rw[ak _ _ e,bi O,bi O,bi O];exact h.k0 j hj
 ·by_cases e:j=i
  ·subst e;rw[an,bi O];exact fN (u:= .int .u64 (D j).2.1) (by rw[bi O];exact h.k1 j hj)
  ·rw[ak _ _ e,bi O,bi O,bi O];exact h.k1 j hj
 ·by_cases e:j=i
  ·subst e;rw[an];exact fN (u:=(D j).2.2) (by rw[bi O,bi O];exact h.k2 j hj)
  ·rw[ak _ _ e,bi O,bi O,bi O];exact h.k2 j hj
def aA.pq{S:List Nat}{a w:UK}{s i:Nat}(f:aA S a w)(hs:s∈S)(t k v:UL):
 aA S a (((w.setCell (G s (i*3)) t).setCell (G s (i*3+1)) k).setCell (G s (i*3+2)) v):=
 ((f.setCell hs _).setCell hs _).setCell hs _
def du(z:UL)(S:Tb UL)(i:Nat):Bool×Nat×UL:=match S i with|none=>(false,0,z)|some (k,v)=>(true,k,v)
def Ny(z:UL)(S:Tb UL)(i:Nat)(x:Option (Nat×UL)):du z (aR S i x)=aR (du z S) i (match x with|none=>(false,0,z)|some (k,v)=>(true,k,v)):=by
 funext j;by_cases h:j=i
 ·subst h;rw[an];unfold du;rw[an]
 ·rw[ak _ _ h];unfold du;rw[ak _ _ h]
structure zN(n e:Nat):Prop where
 n:n=2 ^ e
 le:1<=e
 ge:e<=40
def zN.pos{n e:Nat}(g:zN n e):0<n:=by rw[g.n];exact Nat.two_pow_pos e
def zN.small{n e:Nat}(g:zN n e):n<=1099511627776:=by rw[g.n];exact Nat.pow_le_pow_right bd g.ge
def Gy:∀e,e<=40->Lib.bitLen (2 ^ e)=e+1:=by
 intro e he;have:∀f:Fin 41,Lib.bitLen (2 ^ f.val)=f.val+1:=by decide+kernel
 exact this ⟨e,O⟩
def Gz{n e:Nat}(g:zN n e)(key:Nat):key*Bv % vD / 2 ^ (64-e)=home n key:=by
 unfold home;have h2:vD=2 ^ (64-e)*n:=by rw[g.n,<-Nat.pow_add,show 64-e+e=64 from by have:=g.ge;omega];rfl
 generalize key*Bv % vD=x;rw[h2,Nat.mul_div_mul_right _ _ g.pos]
def I7(x:Int){n e:Nat}(g:zN n e):bits .and .i64 x ((n:Int) - 1)=x % (n:Int):=by
 have xy:(BitVec.ofInt 64 ((n:Int) - 1)).toNat=2 ^ e-1:=by
  have hs:=g.small;have hp:=g.pos;rw[BitVec.toNat_ofInt,<-g.n];have hc:((2 ^ 64:Nat):Int)=18446744073709551616:=by decide
  have:((n:Int) - 1) % ((2 ^ 64:Nat):Int)=(n:Int) - 1:=by rw[hc];exact Int.emod_eq_of_lt O O
  rw[this];omega
 have key:(BitVec.ofInt 64 x&&& BitVec.ofInt 64 ((n:Int) - 1)).toNat=(x % ((2 ^ 64:Nat):Int)).toNat % 2 ^ e:=by rw[BitVec.toNat_and,BitVec.toNat_ofInt,xy,Nat.and_two_pow_sub_one_eq_mod]
 show IntKind.i64.wrap ((BitVec.ofInt 64 x&&& BitVec.ofInt 64 ((n:Int) - 1)).toNat:Nat)=x % (n:Int);rw[key,IntKind.wrap_i64,<-g.n];have hs:=g.small;have hp:=g.pos;have hd:((n:Int))∣((2 ^ 64:Nat):Int):=by refine Int.natCast_dvd_natCast.2 ?_;rw[g.n];exact Nat.pow_dvd_pow 2 (by have:=g.ge;omega)
 have h1:((x % ((2 ^ 64:Nat):Int)).toNat % n:Nat)=(x % (n:Int)):=by rw[Int.natCast_emod,Int.toNat_of_nonneg (Int.emod_nonneg _ bd),Int.emod_emod_of_dvd _ hd]
 rw[h1];have h2:=Int.emod_nonneg x (b:=(n:Int)) O;have h3:=Int.emod_lt_of_pos x (b:=(n:Int)) O;omega
def DL{n e:Nat}(g:zN n e){a b:Nat}(ha:a<n)(X:b<n):bits .and .i64 ((b:Int) - (a:Int)) ((n:Int) - 1)=((cO n a b:Nat):Int):=by
 rw[I7 _ g];have hp:=g.pos;rcases dc n a b with⟨h1,h2⟩|⟨h1,h2⟩
 ·rw[h2,Int.emod_eq_of_lt O O];omega
 ·rw[h2];have:((b:Int) - a) % n=((b:Int) - a+n) % n:=by simp
  rw[this,Int.emod_eq_of_lt O O];omega
def Xz{n e:Nat}(g:zN n e){i:Nat}(hi:i<n):bits .and .i64 ((i:Int)+1) ((n:Int) - 1)=((nx n i:Nat):Int):=by rw[I7 _ g,<-Xx hi];rfl
structure Fit(aE n e:Nat):Prop where
 Vq:zN n e
 ge:2*aE<=n
 lt:n=2\/n<4*aE
def jk(x y z:UL)(n i:Nat)(hi:i<n):(madeCells #[x,y,z] (n*3))[i*3]? =H x/\(madeCells #[x,y,z] (n*3))[i*3+1]? =H y/\(madeCells #[x,y,z] (n*3))[i*3+2]? =H z:=by
 unfold madeCells;have h0:(i*3) % 3=0:=O;have h1:(i*3+1) % 3=1:=O;have h2:(i*3+2) % 3=2:=O;refine⟨?_,?_,?_⟩
 ·rw[Array.getElem?_map,Array.getElem?_range];simp[h0,show i*3<n*3 from by omega]
 ·rw[Array.getElem?_map,Array.getElem?_range];simp[h1,show i*3+1<n*3 from by omega]
 ·rw[Array.getElem?_map,Array.getElem?_range];simp[h2,show i*3+2<n*3 from by omega]
def aM(w:UK)(o:Obj):(w.alloc o).heap.size=w.heap.size+1:=by simp
def sY(w:UK)(o:Obj):(w.alloc o).heap[w.heap.size]? =H o:=by show(w.heap.push o)[w.heap.size]? =_;simp
def dp{w:UK}{b:Nat}{c:Array UL}{t:TypeId}{z:Nat×Nat}(h:w.heap[b]? =H (QP c t z))(o:Nat):UJ w (G b o)=c[o]? :=by simp[World.cell?,h]
def eQ{w:UK}{b:Nat}{c:Array UL}{t:TypeId}(h:w.heap[b]? =H (QP c t (0,0)))(o:Nat):w.frozen? (G b o)=false:=by simp[World.frozen?,h]
def dI.made{w:UK}{b s aE n:Nat}{z:UL}{t u:TypeId}(hbs:b≠s)(hn:0<n)(X:w.heap[b]? =H (QP #[Y aE,Y 0,to (H (G s 0)) n n] t))
 (hs:w.heap[s]? =H (QP (madeCells #[.bool false,.int .u64 0,z] (n*3)) u)):dI w b s aE 0 n (du z λ_=>K7):=by
 refine⟨hbs,?_,?_,?_,λo=>eQ X o,λo=>eQ hs o,hn,λi hi=>?_,λi hi=>?_,λi hi=>?_⟩
 ·rw[dp X];rfl
 ·rw[dp X];rfl
 ·exact⟨n,by rw[dp X];rfl⟩
 ·rw[dp hs];exact(jk _ _ _ n i hi).1
 ·rw[dp hs];exact(jk _ _ _ n i hi).2.1
 ·rw[dp hs];exact(jk _ _ _ n i hi).2.2
def GA{P:Program}{f:FuncId}{args:Array UL}{w:UK}{v:UL}{n:Nat}(h:Calls P f args (w.drewN n) λe w'=>e=C8 v/\∃m,w'=(w.drewN n).drewN m):
 Calls P f args (w.drewN n) λe w''=>e=C8 v/\∃m,w''=w.drewN m:=h.mono λe w' ⟨a,m,b⟩=>⟨a,n+m,by rw[b,Jn]⟩
def az(B:Nat)(w:UK)(n:Nat):Below B w (w.drewN n):=⟨rfl,rfl,rfl,Nat.le_refl _,λ_ _=>rfl⟩
end aj
end
namespace aj.Vm
open Go Go.RowKit
def qi{A:Array UL}{D:List Deferred}{g:(Nat->UL)->Act}(h:({tmps:=A,defers:=D}:Act)=g λi=>A.getD i undef):∃J,({tmps:=A,defers:=D}:Act)=g J:=⟨_,h⟩
def fH{p q:Prop}(hq:q)(h:q->p:=by
 intro hq
 (try simp only[List.getElem_toArray,List.getElem_cons_zero,List.getElem_cons_succ])
 exact hq):p:=h hq
def qj{p:Prop}(h:p:=by
 (try simp only[List.getElem_toArray,List.getElem_cons_zero,List.getElem_cons_succ])
 first|(go_simp;done)|(go_simp;with_reducible rfl)):p:=h
def UU(i:Nat)(h:i<9223372036854775807):IntKind.i64.wrap ((i:Int)+1)=((i+1:Nat):Int):=by rw[bJ _ lI];omega
def QC{p:Prop}(h:p:=by first|rfl|exact congrArg (Value.int .i64) (show(i:Int)+1=((i+1:Nat):Int)by omega)):p:=h
def MO{p:Prop}(h:p:=by first|rfl|exact congrArg (Value.int .i64) (show(q:Int)+1=((q+1:Nat):Int)by omega)):p:=h
def EQ{p:Prop}(h:p:=by first|rfl|exact congrArg (Value.int .i64) (show(j:Int)+1=((j+1:Nat):Int)by omega)):p:=h
def qq(w:UK)(cs:Array UL)(T:TypeId):Below w.heap.size w (w.alloc (QP cs T)):=(aB _ _).alloc (Nat.le_refl _) _
def KJ(w:UK)(cs:Array UL)(T:TypeId)(vF:Array UL)(T2:TypeId):Below w.heap.size w ((w.alloc (QP cs T)).alloc (QP vF T2)):=((aB _ _).alloc (Nat.le_refl _) _).alloc ay _
def mO(i:Nat)(h:i<4611686018427387904):IntKind.i64.wrap ((i:Int)+1)=((i+1:Nat):Int):=by rw[bJ _ lI];omega
def aF(w:UK)(b:Nat)(T:TypeId)(cs:Array UL):Prop:=w.heap[b]? =H (QP cs T (0,0))
def pw(w:UK)(b o:Nat)(v:UL)(k:Nat):(w.setCell ⟨b,o,K7⟩ v).heap[k]? =if k=b then(w.heap[k]?).map (λx=>match x with| .cells cs t z=> QP (cs.setIfInBounds o v) t z|y=>y)else w.heap[k]? :=by
 by_cases h:k=b
 ·subst h;rw[if_pos rfl];simp only[World.setCell,Array.getElem?_modify,if_pos];cases w.heap[k]? with
  |none=>rfl
  |some x=>cases x<;>rfl
 ·rw[if_neg h];exact DJ _ _ _ _ h
section
variable {w w':UK}{b c o:Nat}{T U:TypeId}{cs ds:Array UL}{v:UL}
def aF.lt(h:aF w b T cs):b<w.heap.size:=(Array.getElem?_eq_some_iff.1 h).1
def aF.cell(h:aF w b T cs)(o:Nat):UJ w (G b o)=cs[o]? :=dp h o
def aF.c1{l:List UL}{x0:UL}(h:aF w b T (x0::l).toArray):UJ w (G b 0)=H x0:=h.cell 0
def aF.c2{l:List UL}{x0 x1:UL}(h:aF w b T (x0::x1::l).toArray):UJ w (G b 0)=H x0/\UJ w (G b 1)=H x1:=⟨h.cell 0,h.cell 1⟩
def aF.c3{l:List UL}{x0 x1 x2:UL}(h:aF w b T (x0::x1::x2::l).toArray):UJ w (G b 0)=H x0/\UJ w (G b 1)=H x1/\UJ w (G b 2)=H x2:=⟨h.cell 0,h.cell 1,h.cell 2⟩
def aF.c4{l:List UL}{x0 x1 x2 x3:UL}(h:aF w b T (x0::x1::x2::x3::l).toArray):UJ w (G b 0)=H x0/\UJ w (G b 1)=H x1/\UJ w (G b 2)=H x2/\UJ w (G b 3)=H x3:=⟨h.cell 0,h.cell 1,h.cell 2,h.cell 3⟩
def aF.c5{l:List UL}{x0 x1 x2 x3 x4:UL}(h:aF w b T (x0::x1::x2::x3::x4::l).toArray):UJ w (G b 0)=H x0/\UJ w (G b 1)=H x1/\UJ w (G b 2)=H x2/\UJ w (G b 3)=H x3/\UJ w (G b 4)=H x4:=⟨h.cell 0,h.cell 1,h.cell 2,h.cell 3,h.cell 4⟩
def aF.c6{l:List UL}{x0 x1 x2 x3 x4 x5:UL}(h:aF w b T (x0::x1::x2::x3::x4::x5::l).toArray):UJ w (G b 0)=H x0/\UJ w (G b 1)=H x1/\UJ w (G b 2)=H x2/\UJ w (G b 3)=H x3/\UJ w (G b 4)=H x4/\UJ w (G b 5)=H x5:=⟨h.cell 0,h.cell 1,h.cell 2,h.cell 3,h.cell 4,h.cell 5⟩
def aF.c7{l:List UL}{x0 x1 x2 x3 x4 x5 x6:UL}(h:aF w b T (x0::x1::x2::x3::x4::x5::x6::l).toArray):UJ w (G b 0)=H x0/\UJ w (G b 1)=H x1/\UJ w (G b 2)=H x2/\UJ w (G b 3)=H x3/\UJ w (G b 4)=H x4/\UJ w (G b 5)=H x5/\UJ w (G b 6)=H x6:=⟨h.cell 0,h.cell 1,h.cell 2,h.cell 3,h.cell 4,h.cell 5,h.cell 6⟩
def aF.c8{l:List UL}{x0 x1 x2 x3 x4 x5 x6 x7:UL}(h:aF w b T (x0::x1::x2::x3::x4::x5::x6::x7::l).toArray):UJ w (G b 0)=H x0/\UJ w (G b 1)=H x1/\UJ w (G b 2)=H x2/\UJ w (G b 3)=H x3/\UJ w (G b 4)=H x4/\UJ w (G b 5)=H x5/\UJ w (G b 6)=H x6/\UJ w (G b 7)=H x7:=⟨h.cell 0,h.cell 1,h.cell 2,h.cell 3,h.cell 4,h.cell 5,h.cell 6,h.cell 7⟩
def aF.c9{l:List UL}{x0 x1 x2 x3 x4 x5 x6 x7 x8:UL}(h:aF w b T (x0::x1::x2::x3::x4::x5::x6::x7::x8::l).toArray):UJ w (G b 0)=H x0/\UJ w (G b 1)=H x1/\UJ w (G b 2)=H x2/\UJ w (G b 3)=H x3/\UJ w (G b 4)=H x4/\UJ w (G b 5)=H x5/\UJ w (G b 6)=H x6/\UJ w (G b 7)=H x7/\UJ w (G b 8)=H x8:=⟨h.cell 0,h.cell 1,h.cell 2,h.cell 3,h.cell 4,h.cell 5,h.cell 6,h.cell 7,h.cell 8⟩
def aF.ri{l:List UL}{x0 x1 x2 x3 x4 x5 x6 x7 x8 x9 ah xz RU:UL}(h:aF w b T (x0::x1::x2::x3::x4::x5::x6::x7::x8::x9::ah::xz::RU::l).toArray):UJ w (G b 0)=H x0/\UJ w (G b 1)=H x1/\UJ w (G b 2)=H x2/\UJ w (G b 3)=H x3/\UJ w (G b 4)=H x4/\UJ w (G b 5)=H x5/\UJ w (G b 6)=H x6/\UJ w (G b 7)=H x7/\UJ w (G b 8)=H x8/\UJ w (G b 9)=H x9/\UJ w (G b 10)=H ah/\UJ w (G b 11)=H xz/\UJ w (G b 12)=H RU:=⟨h.cell 0,h.cell 1,h.cell 2,h.cell 3,h.cell 4,h.cell 5,h.cell 6,h.cell 7,h.cell 8,h.cell 9,h.cell 10,h.cell 11,h.cell 12⟩
def aF.c14{l:List UL}{x0 x1 x2 x3 x4 x5 x6 x7 x8 x9 ah xz RU x13:UL}(h:aF w b T (x0::x1::x2::x3::x4::x5::x6::x7::x8::x9::ah::xz::RU::x13::l).toArray):UJ w (G b 0)=H x0/\UJ w (G b 1)=H x1/\UJ w (G b 2)=H x2/\UJ w (G b 3)=H x3/\UJ w (G b 4)=H x4/\UJ w (G b 5)=H x5/\UJ w (G b 6)=H x6/\UJ w (G b 7)=H x7/\UJ w (G b 8)=H x8/\UJ w (G b 9)=H x9/\UJ w (G b 10)=H ah/\UJ w (G b 11)=H xz/\UJ w (G b 12)=H RU/\UJ w (G b 13)=H x13:=⟨h.cell 0,h.cell 1,h.cell 2,h.cell 3,h.cell 4,h.cell 5,h.cell 6,h.cell 7,h.cell 8,h.cell 9,h.cell 10,h.cell 11,h.cell 12,h.cell 13⟩
def aF.frozen(h:aF w b T cs)(o:Nat):w.frozen? (G b o)=false:=eQ h o
def aF.set(h:aF w b T cs)(o:Nat)(v:UL):aF (w.setCell (G b o) v) b T (cs.setIfInBounds o v):=by unfold aF at h ⊢;rw[pw,if_pos rfl,h];rfl
def aF.other(h:aF w b T cs)(hc:b≠c)(o:Nat)(v:UL):aF (w.setCell (G c o) v) b T cs:=by unfold aF at h ⊢;rw[pw,if_neg hc];exact h
def aF.ne(h:aF w b T cs)(k:aF w c U ds)(ht:T≠U):b≠c:=by intro e;subst e;unfold aF at h k;rw[h]at k;simp at k;exact ht k.2
def aF.of(h:aF w b T cs)(X:w'.heap[b]? =w.heap[b]?):aF w' b T cs:=X.trans h
def aF.aG{S:List Nat}(h:aF w b T cs)(f:aA S w w')(X:b∉S):aF w' b T cs:=h.of (f.block b h.lt X)
def aF.drewN(h:aF w b T cs)(n:Nat):aF (w.drewN n) b T cs:=h
def aF.new(w:UK)(T:TypeId)(cs:Array UL):aF (w.alloc (QP cs T)) w.heap.size T cs:=sY w _
def aF.bR{w:UK}{b:Nat}{T:TypeId}{cs:Array UL}(h:b=w.heap.size):aF (w.alloc (QP cs T)) b T cs:=by subst h;exact aF.new w T cs
def aF.alloc(h:aF w b T cs)(x:Obj):aF (w.alloc x) b T cs:=h.of (Below.heap_alloc _ _ _ h.lt)
def aF.grown(h:aF w b T cs){row:Option Nat}(g:w.grownBy w' row)(hr:H b≠row):aF w' b T cs:=h.of (g.block b h.lt hr)
def eY(n:Nat)(g:Nat->UL):List UL:=(List.range n).map g
def fO(n:Nat)(g:Nat->UL):(eY n g).length=n:=by simp[eY]
def nN{n o:Nat}(g:Nat->UL)(h:o<n):(eY n g)[o]? =H (g o):=by simp[eY,h]
def rj(n m:Nat)(g:Nat->UL):eY (n+m) g=eY n g++(List.range m).map λi=>g (n+i):=by unfold eY;rw[List.range_add,List.map_append,List.map_map];rfl
def px{n:Nat}{f g:Nat->UL}(h:∀o,o<n->f o=g o):eY n f=eY n g:=by unfold eY;exact List.map_congr_left λo ho=>h o (List.mem_range.1 ho)
def Row(w:UK)(e:TypeId)(size:Nat)(v:UL)(n:Nat)(g:Nat->UL):Prop:=w.ownsRow 0 e size v n (eY (n*size) g)
variable {e:TypeId}{size n:Nat}{g f:Nat->UL}
def Row.nil(w:UK)(e:TypeId)(size:Nat)(g:Nat->UL):Row w e size Pl 0 g:=⟨by simp[eY],.inl ⟨rfl,rfl⟩⟩
def Row.congr(h:Row w e size v n g)(hg:∀o,o<n*size->g o=f o):Row w e size v n f:=by unfold Row at h ⊢;rw[<-px hg];exact h
def Row.val(h:Row w e size v n g):(v=Pl/\n=0)\/∃b cap,v=to (H (G b 0)) n cap/\n<=cap/\cap<=maxLen/\b<w.heap.size:=by
 rcases h.2 with h|⟨b,cap,zF,hv,_,X,h1,h2,_⟩
 ·exact .inl h
 ·exact .inr ⟨b,cap,hv,h1,h2,(Array.getElem?_eq_some_iff.1 X).1⟩
def Row.some(h:Row w e size v n g)(hn:0<n):∃b cap,v=to (.some (G b 0)) n cap/\n<=cap/\cap<=maxLen/\b<w.heap.size:=by
 rcases h.val with⟨_,h⟩|h
 ·omega
 ·exact h
def Row.slice{b m cap:Nat}(h:Row w e size (to (.some (G b 0)) m cap) n g):m=n/\n<=cap/\cap<=maxLen/\b<w.heap.size:=by
 rcases h.val with⟨h,_⟩|⟨b',oh,hv,h1,h2,h3⟩
 ·simp at h
 ·simp at hv;obtain⟨rfl,rfl,rfl⟩:=hv;exact⟨rfl,h1,h2,h3⟩
def Row.cell{b m cap:Nat}(h:Row w e size (to (.some (G b 0)) m cap) n g){o:Nat}(ho:o<n*size):UJ w (G b o)= .some (g o):=by have:=World.ownsRow.cells h (g:=b) rfl o (g o) (nN g ho);rwa[show((G b 0):Addr).add o=(G b o)by unfold Addr.add;split<;>simp_all]at this
def Row.dS{b m cap:Nat}(h:Row w e size (to (.some (G b 0)) m cap) n g):∃cs,aF w b e cs:=by
 rcases h.2 with⟨h,_⟩|⟨b',oh,zF,hv,_,X,_⟩
 ·simp at h
 ·simp at hv;obtain⟨rfl,_,_⟩:=hv;exact⟨zF,X⟩
def Row.frozen{b m cap:Nat}(h:Row w e size (to (.some (G b 0)) m cap) n g)(o:Nat):w.frozen? (G b o)=false:=by obtain⟨cs,X⟩:=h.dS;exact X.frozen o
def Row.of(h:Row w e size v n g)(X:∀b,v.ownBlock= .some b->w'.heap[b]? =w.heap[b]?):Row w' e size v n g:=by
 refine⟨h.1,?_⟩;rcases h.2 with h0|⟨b,cap,zF,rfl,h1,h2,h3⟩
 ·exact .inl h0
 ·exact .inr ⟨b,cap,zF,rfl,h1,(X b rfl).trans h2,h3⟩
def Row.aG{S:List Nat}(h:Row w e size v n g)(f:aA S w w')(X:∀b,v.ownBlock= .some b->b∉S):Row w' e size v n g:=
 h.of λb hv=>f.block b (fE h b hv).2 (X b hv)
def Row.drewN(h:Row w e size v n g)(k:Nat):Row (w.drewN k) e size v n g:=h.of λ_ _=>rfl
def Row.alloc(h:Row w e size v n g)(x:Obj):Row (w.alloc x) e size v n g:=World.ownsRow.alloc h x
def Row.grown(h:Row w e size v n g){row:Option Nat}(k:w.grownBy w' row)(bm:v.ownBlock=K7\/v.ownBlock≠row):Row w' e size v n g:=World.ownsRow.kept h k bm
def Row.other(h:Row w e size v n g){c:Nat}(hc:v.ownBlock≠.some c)(o:Nat)(x:UL):Row (w.setCell (G c o) x) e size v n g:=
 h.of λb X=>DJ _ _ _ _ (λe'=>hc (by rw[X,e']))
def Row.set{b m cap:Nat}(h:Row w e size (to (.some (G b 0)) m cap) n g){o:Nat}(ho:o<n*size)(x:UL):Row (w.setCell (G b o) x) e size (to (.some (G b 0)) m cap) n (λi=>if i=o then x else g i):=by
 refine⟨by rw[fO],?_⟩;rcases h.2 with⟨h,_⟩|⟨b',oh,zF,hv,h1,X,h2,h3,h4,h5⟩
 ·simp at h
 ·simp at hv;obtain⟨rfl,rfl,rfl⟩:=hv;refine .inr ⟨b,cap,zF.setIfInBounds o x,rfl,h1,aF.set (T:=e) X o x,h2,h3,by simpa using h4,?_⟩;rw[Array.toList_setIfInBounds,List.take_set,h5];refine List.ext_getElem? λi=>?_;rw[List.getElem?_set];by_cases hi:i<m*size
  ·rw[nN _ hi];by_cases e':o=i
   ·subst e';rw[if_pos rfl,fO,if_pos hi,nN _ hi,if_pos rfl]
   ·rw[if_neg e',nN _ hi,if_neg (λe''=>e' e''.symm)]
  ·have a1:(eY (m*size) g)[i]? =K7:=by simp[eY];omega
   have a2:(eY (m*size) (λi=>if i=o then x else g i))[i]? =K7:=by simp[eY];omega
   rw[a1,a2];split
   ·rename_i e';subst e';omega
   ·rfl
def Row.less{b m cap k:Nat}(h:Row w e size (to (.some (G b 0)) m cap) n g)(hk:k<=n):Row w e size (to (.some (G b 0)) k cap) k g:=by
 refine⟨by rw[fO],?_⟩;rcases h.2 with⟨h,_⟩|⟨b',oh,zF,hv,h1,X,h2,h3,h4,h5⟩
 ·simp at h
 ·simp at hv;obtain⟨rfl,rfl,rfl⟩:=hv;refine .inr ⟨b,cap,zF,rfl,h1,X,O,h3,h4,?_⟩;have:=congrArg (List.take (k*size)) h5;rw[List.take_take,Nat.min_eq_left (Nat.mul_le_mul_right _ hk)]at this;rw[this];unfold eY;rw[<-List.map_take,List.take_range,Nat.min_eq_left (Nat.mul_le_mul_right _ hk)]
def Row.eZ{b:Nat}{T:TypeId}{cs:Array UL}(h:Row w e size v n g)(k:aF w b T cs)(ht:e≠T):v.ownBlock≠.some b:=by
 intro hv;rcases h.2 with⟨rfl,_⟩|⟨b',oh,zF,rfl,_,X,_⟩
 ·simp[Value.ownBlock]at hv
 ·simp[Value.ownBlock]at hv;subst hv;exact aF.ne (T:=e) X k ht rfl
def Row.ne{e':TypeId}{YD n':Nat}{v':UL}{g':Nat->UL}(h:Row w e size v n g)(k:Row w e' YD v' n' g')(ht:e≠e'):v.ownBlock=K7\/v.ownBlock≠v'.ownBlock:=by
 rcases k.2 with⟨rfl,_⟩|⟨b',oh,zF,rfl,_,X,_⟩
 ·cases hv:v.ownBlock with
  |none=>exact .inl rfl
  |some x=>right;simp[Value.ownBlock]
 ·right;exact h.eZ (T:=e') X ht
def Row.made{b cap:Nat}{cs:Array UL}(h:aF w b e cs)(hs:cs.size=cap*size)(hm:cap<=maxLen)(hg:∀o,o<cap*size->cs[o]? = .some (g o)):Row w e size (to (.some (G b 0)) cap cap) cap g:=by
 refine⟨by rw[fO],.inr ⟨b,cap,cs,rfl,cK _,h,Nat.le_refl _,hm,hs,?_⟩⟩;refine List.ext_getElem? λi=>?_;by_cases hi:i<cap*size
 ·rw[nN _ hi,List.getElem?_take,if_pos hi,Array.getElem?_toList];exact hg i hi
 ·have a1:(eY (cap*size) g)[i]? =K7:=by simp[eY];omega
  rw[a1,List.getElem?_take,if_neg hi]
end
end aj.Vm
namespace aj.Vm
def aR{β:Type}(f:Nat->β)(i:Nat)(x:β):Nat->β:=λj=>if j=i then x else f j
def an{β:Type}(f:Nat->β)(i:Nat)(x:β):aR f i x i=x:=by simp[aR]
def ak{β:Type}(f:Nat->β){i j:Nat}(x:β)(h:j≠i):aR f i x j=f j:=by simp[aR,h]
def dq{β:Type}(f:Nat->β)(i j:Nat)(x:β):aR f i x j=if j=i then x else f j:=rfl
def hd:List Nat->Int
 |[]=> -1
 |a::_=>a
def mu:List Nat->Nat->Int
 |[],_=> -1
 |a::t,n=>if a=n then hd t else mu t n
def dir(e:Nat)(l:List Nat):List Nat:=if e=1 then l else l.reverse
def nO(a:Nat)(t:List Nat):hd (a::t)=a:=rfl
def GB{l:List Nat}:hd l<0↔l=[]:=by cases l<;>simp[hd]<;>omega
def eL(a:Nat)(t:List Nat):mu (a::t) a=hd t:=by simp[mu]
def dD{a n:Nat}(h:a≠n)(t:List Nat):mu (a::t) n=mu t n:=by simp[mu,h]
def I8{l:List Nat}{n:Nat}(h:n∉l)(t:List Nat):mu (l++t) n=mu t n:=by
 induction l with
 |nil=>rfl
 |cons a l ih=>simp at h;rw[List.cons_append,dD (λe=>h.1 e.symm)];exact ih h.2
def kO{l:List Nat}{n:Nat}(h:n∉l)(t:List Nat):mu (l++n::t) n=hd t:=by rw[I8 h,eL]
def DM{l:List Nat}{n m:Nat}{t:List Nat}(rC:(l++n::t).Nodup)(hm:m≠n)(I9:m∈l++t):
 mu (l++t) m=if mu (l++n::t) m=(n:Int)then hd t else mu (l++n::t) m:=by
 induction l with
 |nil=>
  simp only[List.nil_append]at*;rw[dD (λe=>hm e.symm)];have hn:(n:Nat)∉t:=(List.nodup_cons.1 rC).1;have:mu t m≠(n:Int):=by
   clear rC I9
   induction t with
   |nil=>simp[mu]
   |cons a t ih=>
    simp at hn;unfold mu;split
    ·cases t with
     |nil=>simp[hd]
     |cons b t=>simp[hd];simp at hn;omega
    ·exact ih hn.2
  rw[aw this]
 |cons a l ih=>
  simp only[List.cons_append]at*;have mI:=List.nodup_cons.1 rC;by_cases e:a=m
  ·subst e;rw[eL,eL];cases l with
   |nil=>simp[hd]
   |cons b l=>show(b:Int)=if(b:Int)=(n:Int)then hd t else(b:Int);rw[aw];intro e;have:b=n:=O;subst this;simp only[List.cons_append]at mI;have:=(List.nodup_cons.1 mI.2).1;simp at this
  ·rw[dD e,dD e];refine ih mI.2 ?_;simp at I9 ⊢;rcases I9 with h|h
   ·exact absurd h.symm e
   ·exact h
def NB{l:List Nat}{m:Nat}(hn:l.Nodup)(hm:m∈l)(n:Nat):mu (l++[n]) m=if mu l m= -1 then(n:Int)else mu l m:=by
 induction l with
 |nil=>simp at hm
 |cons a l ih=>
  have mI:=List.nodup_cons.1 hn;by_cases e:a=m
  ·subst e;rw[List.cons_append,eL,eL];cases l with
   |nil=>simp[hd]
   |cons b l=>simp[hd]<;>omega
  ·rw[List.cons_append,dD e,dD e];refine ih mI.2 ?_;simp at hm;rcases hm with h|h
   ·exact absurd h.symm e
   ·exact h
def DN{l:List Nat}{m:Nat}(hn:l.Nodup)(hm:m∈l):mu l m= -1↔hd l.reverse=(m:Int):=by
 induction l with
 |nil=>simp at hm
 |cons a l ih=>
  have mI:=List.nodup_cons.1 hn;by_cases e:a=m
  ·subst e;rw[eL];cases l with
   |nil=>simp[hd]
   |cons b l=>
    have h1:¬hd (b::l)= -1:=by simp[hd]<;>omega
    constructor
    ·intro h;exact absurd h h1
    ·intro h;exfalso;have:hd (a::b::l).reverse=hd (b::l).reverse:=by
      cases hh:(b::l).reverse with
      |nil=>simp at hh
      |cons c t=>rw[List.reverse_cons,hh];rfl
     rw[this]at h;cases hh:(b::l).reverse with
     |nil=>simp at hh
     |cons c t=>
      rw[hh,nO]at h;have:c=a:=O;have hc:c∈(b::l).reverse:=by rw[hh];simp
      rw[List.mem_reverse,this]at hc;exact mI.1 hc
  ·have iY:m∈l:=by
    simp at hm;rcases hm with h|h
    ·exact absurd h.symm e
    ·exact h
   rw[dD e,ih mI.2 iY,List.reverse_cons];cases hh:l.reverse with
   |nil=>simp at hh;rw[hh]at iY;simp at iY
   |cons c t=>simp[hd]
def jm(e:Nat)(l:List Nat)(n:Nat):n∈dir e l↔n∈l:=by unfold dir;split<;>simp
def mJ{e:Nat}{l:List Nat}:(dir e l).Nodup↔l.Nodup:=by
 unfold dir;split
 ·rfl
 ·exact(List.reverse_perm l).nodup_iff
def RW(e:Nat):dir e []=[]:=by unfold dir;split<;>rfl
def xB{e:Nat}(he:e<=1)(l:List Nat):dir (1-e) l=(dir e l).reverse:=by have:e=0\/e=1:=O;rcases this with rfl|rfl<;>simp[dir]
def ext(e:Nat)(l:List Nat)(n:Nat):List Nat:=if e=1 then l++[n]else n::l
def I_{e:Nat}(he:e<=1)(l:List Nat)(n:Nat):dir e (ext e l n)=dir e l++[n]/\dir (1-e) (ext e l n)=n::dir (1-e) l:=by have:e=0\/e=1:=O;rcases this with rfl|rfl<;>simp[dir,ext]
def ext_mem(e:Nat)(l:List Nat)(n m:Nat):m∈ext e l n↔m=n\/m∈l:=by
 unfold ext;split
 ·simp[or_comm]
 ·simp
def kz(e:Nat)(l:List Nat)(n:Nat):(ext e l n).length=l.length+1:=by unfold ext;split<;>simp
def Aj{e:Nat}{l:List Nat}{n:Nat}(hl:l.Nodup)(h:n∉l):(ext e l n).Nodup:=by
 unfold ext;split
 ·rw[vH];refine⟨hl,ay,?_⟩;intro a ha b X;simp at X;subst X;intro e;subst e;exact h ha
 ·exact List.nodup_cons.2 ⟨h,hl⟩
def a0m{N:Nat}(l:List Nat)(hn:l.Nodup)(h:∀x,x∈l->x<N):l.length<=N:=by
 induction N generalizing l with
 |zero=>cases l with
  |nil=>simp
  |cons a t=>exact absurd (h a ay) O
 |succ N ih=>
  have h1:=ih (l.erase N) (hn.erase N) (λx hx=>by
   have h2:=h x (List.mem_of_mem_erase hx);have h3:x≠N:=λe=>by subst e;exact(List.Nodup.not_mem_erase hn) hx
   omega)
  have h2:=List.length_erase (a:=N) (l:=l);split at h2<;>omega
structure eU where
 key:Nat
 tg:Nat->Int
structure Raw where
 made:Nat
 dm:Int
 used:Nat
 val:Nat->eU
 own:Nat->Int
 bP:Nat->Nat->Int
 ends:Nat->Nat->Int
 dr:Nat->Nat
structure Ar where
 made:Nat
 fr:List Nat
 ls:Nat->List Nat
 val:Nat->eU
def cT:Nat->(Nat->Nat)->Nat
 |0,_=>0
 |k+1,g=>cT k g+g k
def DO{k:Nat}{f g:Nat->Nat}(h:∀i,i<k->f i=g i):cT k f=cT k g:=by
 induction k with
 |zero=>rfl
 |succ k ih=>show cT k f+f k=cT k g+g k;rw[ih λi hi=>h i O,h k O]
def mK{k:Nat}{f g:Nat->Nat}{i:Nat}(hi:i<k)(h:∀j,j≠i->g j=f j):cT k g+f i=cT k f+g i:=by
 induction k with
 |zero=>omega
 |succ k ih=>
  show cT k g+g k+f i=cT k f+f k+g i;by_cases e:i=k
  ·subst e;rw[DO (k:=i) (f:=g) (g:=f) λj hj=>h j O];omega
  ·have:=ih O;rw[h k (λe'=>e e'.symm)];omega
def DP{k:Nat}{f:Nat->Nat}{i:Nat}(hi:i<k):f i<=cT k f:=by
 induction k with
 |zero=>omega
 |succ k ih=>
  show f i<=cT k f+f k;by_cases e:i=k
  ·subst e;omega
  ·have:=ih O;omega
def rZ{k:Nat}{f g:Nat->Nat}(h:∀i,i<k->f i<=g i):cT k f<=cT k g:=by
 induction k with
 |zero=>exact aL _
 |succ k ih=>have:=ih λi hi=>h i O;have:=h k O;show cT k f+f k<=cT k g+g k;omega
def de{β:Type}(f:Nat->Nat->β)(i k:Nat)(x:β):Nat->Nat->β:=aR f i (aR (f i) k x)
def Ak{β:Type}(f:Nat->Nat->β)(i k:Nat)(x:β):de f i k x i k=x:=by simp[de,aR]
def dh{β:Type}(f:Nat->Nat->β)(i k j m:Nat)(x:β):de f i k x j m=if j=i/\m=k then x else f j m:=by unfold de aR;by_cases h:j=i<;>simp[h]
structure sQ(nl:Nat)(R:Raw)(A:Ar)(ww:Option Nat):Prop where
 made:R.made=A.made
 val:R.val=A.val
 nd:∀q,q<nl->(A.ls q).Nodup
 ndf:A.fr.Nodup
 zO:∀q n,q<nl->n∈A.ls q->n<A.made
 NC:∀n,n∈A.fr->n<A.made
 own:∀q n,q<nl->n∈A.ls q->R.own n=q
 free:∀n,n∈A.fr->R.own n= -1
 part:∀n,n<A.made->some n=ww\/n∈A.fr\/∃q,q<nl/\n∈A.ls q
 hol:∀n,ww=some n->n<A.made/\n∉A.fr/\∀q,q<nl->n∉A.ls q
 bP:∀q n e,q<nl->n∈A.ls q->e<=1->R.bP n e=mu (dir e (A.ls q)) n
 ends:∀q e,q<nl->e<=1->R.ends q e=hd (dir (1-e) (A.ls q))
 dr:∀q,q<nl->R.dr q=(A.ls q).length
 zP:R.dm=hd A.fr
 RX:∀n,n∈A.fr->R.bP n 0=mu A.fr n
 used:R.used=cT nl λq=>(A.ls q).length
 XA:R.used+A.fr.length+(if ww.isSome then 1 else 0)=A.made
def sQ.rX{nl:Nat}{R:Raw}{A:Ar}{ww:Option Nat}(h:sQ nl R A ww){q p n:Nat}(hq:q<nl)(hp:p<nl)(h1:n∈A.ls q)(h2:n∈A.ls p):q=p:=by have a:=h.own q n hq h1;have b:=h.own p n hp h2;omega
def sQ.sZ{nl:Nat}{R:Raw}{A:Ar}{ww:Option Nat}(h:sQ nl R A ww){q n:Nat}(hq:q<nl)(h1:n∈A.ls q):n∉A.fr:=by intro h2;have a:=h.own q n hq h1;have b:=h.free n h2;omega
def fP(R:Raw)(n l e:Nat):Raw:=
 let last:=R.ends l e
 let b:=de (de R.bP n e (-1)) n (1-e) last
 {R with own:=aR R.own n l,bP:=if 0<=last then de b last.toNat e n else b,
         ends:=de (if 0<=last then R.ends else de R.ends l (1-e) n) l e n,dr:=aR R.dr l (R.dr l+1)}
def lK(R:Raw)(n l e:Nat)(m:Int):Raw:=
 if m<0 then{R with ends:=de R.ends l e (R.bP n (1-e))}else{R with bP:=de R.bP m.toNat (1-e) (R.bP n (1-e))}
def dt(R:Raw)(n:Nat):Raw:=
 let l:=(R.own n).toNat
 let R1:=lK R n l 0 (R.bP n 0)
 let R2:=lK R1 n l 1 (R.bP n 1)
 {R2 with dr:=aR R2.dr l (R2.dr l-1)}
def ND(R:Raw)(n:Nat)(z:eU):Raw:=
 {R with val:=aR R.val n z,own:=aR R.own n (-1),bP:=de (de R.bP n 0 R.dm) n 1 (-1),dm:=n,used:=R.used-1}
def oH(A:Ar)(n l e:Nat):Ar:={A with ls:=aR A.ls l (ext e (A.ls l) n)}
def r7(A:Ar)(n l:Nat):Ar:={A with ls:=aR A.ls l ((A.ls l).erase n)}
def s_(A:Ar)(n:Nat)(z:eU):Ar:={A with fr:=n::A.fr,val:=aR A.val n z}
def xC{nl:Nat}{R:Raw}{A:Ar}{n l e:Nat}(h:sQ nl R A (some n))(hl:l<nl)(he:e<=1)(hu:True):
 sQ nl {fP R n l e with used:=R.used+1} (oH A n l e) none:=by
 obtain⟨hn,Rc,jT⟩:=h.hol n rfl;have bm:=jT l hl;have NE:=h.ends l e hl he;have hx:=I_ he (A.ls l) n;have oC:∀q,(oH A n l e).ls q=if q=l then ext e (A.ls l) n else A.ls q:=λq=>rfl;have fQ:∀q m,q<nl->m∈(oH A n l e).ls q->(m=n/\q=l)\/(m≠n/\m∈A.ls q):=by
  intro q m hq hm;rw[oC]at hm;split at hm
  ·next e'=>subst e';rw[ext_mem]at hm
            rcases hm with h'|h'
            ·exact .inl ⟨h',rfl⟩
            ·exact .inr ⟨λe=>bm (e▸h'),h'⟩
  ·exact .inr ⟨λe=>jT q hq (e▸hm),hm⟩
 have dU:0<=R.ends l e->(R.ends l e).toNat∈A.ls l/\mu (dir e (A.ls l)) (R.ends l e).toNat= -1/\∃t,dir (1-e) (A.ls l)=(R.ends l e).toNat::t:=by
  intro h0;rw[NE]at h0 ⊢;cases rC:dir (1-e) (A.ls l)with
  |nil=>rw[rC]at h0;simp[hd]at h0
  |cons a t=>
   simp only[nO,Int.toNat_natCast];have hm:a∈A.ls l:=by rw[<-jm (1-e),rC];simp
   refine⟨hm,?_,t,rfl⟩;rw[DN (mJ.2 (h.nd l hl)) ((jm _ _ _).2 hm),<-xB he,rC];rfl
 have Vu:1 - (1-e)=e:=O;refine⟨h.made,h.val,λq hq=>?_,h.ndf,λq m hq hm=>?_,h.NC,λq m hq hm=>?_,λm hm=>?_,λm hm=>?_,λm hm=>by simp at hm,λq m e' hq hm he'=>?_,λq e' hq he'=>?_,λq hq=>?_,h.zP,λm hm=>?_,?_,?_⟩
 ·rw[oC];split
  ·exact Aj (h.nd l hl) bm
  ·exact h.nd q hq
 ·rcases fQ q m hq hm with⟨rfl,rfl⟩|⟨_,iY⟩
  ·exact hn
  ·exact h.zO q m hq iY
 ·show aR R.own n l m=_;rcases fQ q m hq hm with⟨rfl,rfl⟩|⟨h1,iY⟩
  ·rw[an]
  ·rw[ak _ _ h1];exact h.own q m hq iY
 ·show aR R.own n l m=_;rw[ak _ _ (λe=>by subst e;exact Rc hm)];exact h.free m hm
 ·rcases h.part m hm with h1|h1|⟨q,hq,h1⟩
  ·simp at h1;subst h1;exact .inr (.inr ⟨l,hl,by rw[oC,bk rfl,ext_mem];exact .inl rfl⟩)
  ·exact .inr (.inl h1)
  ·refine .inr (.inr ⟨q,hq,?_⟩);rw[oC];split
   ·next e'=>subst e';rw[ext_mem];exact .inr h1
   ·exact h1
 ·
  have X:(fP R n l e).bP=if 0<=R.ends l e then de (de (de R.bP n e (-1)) n (1-e) (R.ends l e)) (R.ends l e).toNat e n else de (de R.bP n e (-1)) n (1-e) (R.ends l e):=rfl;show(fP R n l e).bP m e'=_;have iE:(fP R n l e).bP m e'=if 0<=R.ends l e/\m=(R.ends l e).toNat/\e'=e then(n:Int)else if m=n/\e'=1-e then R.ends l e else if m=n/\e'=e then -1 else R.bP m e':=by
   rw[X];by_cases h0:0<=R.ends l e
   ·rw[bk h0,dh,dh,dh];by_cases h1:m=(R.ends l e).toNat/\e'=e<;>simp[h0,h1]
   ·rw[aw h0,dh,dh];simp[h0]
  rw[iE];have Ja:e'=e\/e'=1-e:=O;rcases fQ q m hq hm with⟨rfl,rfl⟩|⟨h1,iY⟩
  ·
   have SX:¬(0<=R.ends q e/\m=(R.ends q e).toNat/\e'=e):=by rintro⟨h0,h1,_⟩;have:=(dU h0).1;rw[<-h1]at this;exact bm this
   rw[aw SX,oC,bk rfl];rcases Ja with rfl|rfl
   ·rw[aw O,bk ⟨rfl,rfl⟩,hx.1,kO (by rw[jm];exact bm)];rfl
   ·rw[bk ⟨rfl,rfl⟩,hx.2,eL,NE]
  ·rw[aw (show¬(m=n/\e'=1-e)from λh=>h1 h.1),aw (show¬(m=n/\e'=e)from λh=>h1 h.1)];by_cases BA:q=l
   ·subst BA;rw[oC,bk rfl];have hold:=h.bP q m e' hq iY he';rcases Ja with rfl|rfl
    ·rw[hx.1,NB (mJ.2 (h.nd q hq)) ((jm _ _ _).2 iY),<-hold];by_cases hc:0<=R.ends q e'/\m=(R.ends q e').toNat/\e'=e'
     ·rw[bk hc,hold,hc.2.1,(dU hc.1).2.1];simp
     ·rw[aw hc,aw];intro xy;apply hc;rw[hold,DN (mJ.2 (h.nd q hq)) ((jm _ _ _).2 iY),<-xB he,<-NE]at xy;rw[xy];simp
    ·rw[aw O,hx.2,dD (λe=>h1 e.symm),hold]
   ·have hc:¬(0<=R.ends l e/\m=(R.ends l e).toNat/\e'=e):=by rintro⟨h0,h2,_⟩;have:=(dU h0).1;rw[<-h2]at this;exact BA (h.rX hq hl iY this)
    rw[aw hc,oC,aw BA];exact h.bP q m e' hq iY he'
 ·
  show de (if 0<=R.ends l e then R.ends else de R.ends l (1-e) n) l e n q e'=_;rw[dh,oC];have Ja:e'=e\/e'=1-e:=O;by_cases BA:q=l
  ·subst BA;rw[bk rfl];rcases Ja with rfl|rfl
   ·rw[bk ⟨rfl,rfl⟩,hx.2];rfl
   ·rw[aw O,Vu,hx.1];by_cases h0:0<=R.ends q e
    ·rw[bk h0,h.ends q (1-e) hq O,Vu];obtain⟨hm,_⟩:=dU h0;cases rC:dir e (A.ls q)with
     |nil=>rw[<-jm e,rC]at hm;simp at hm
     |cons a t=>rfl
    ·rw[aw h0,dh,bk ⟨rfl,rfl⟩];have:dir (1-e) (A.ls q)=[]:=GB.1 (by rw[<-NE];omega);have h2:dir e (A.ls q)=[]:=by rw[xB he]at this;simpa using this
     rw[h2];rfl
  ·rw[aw (λh=>BA h.1),aw BA];have:(if 0<=R.ends l e then R.ends else de R.ends l (1-e) n) q e'=R.ends q e':=by
    split
    ·rfl
    ·rw[dh,aw (λh=>BA h.1)]
   rw[this];exact h.ends q e' hq he'
 ·show aR R.dr l (R.dr l+1) q=_;rw[dq,oC];split
  ·next e'=>subst e';rw[kz,h.dr q hq]
  ·exact h.dr q hq
 ·
  have iE:(fP R n l e).bP m 0=R.bP m 0:=by
   have X:(fP R n l e).bP=if 0<=R.ends l e then de (de (de R.bP n e (-1)) n (1-e) (R.ends l e)) (R.ends l e).toNat e n else de (de R.bP n e (-1)) n (1-e) (R.ends l e):=rfl;have KK:m≠n:=λe=>by subst e;exact Rc hm
   rw[X];by_cases h0:0<=R.ends l e
   ·have:m≠(R.ends l e).toNat:=λe=>h.sZ hl (dU h0).1 (by rw[<-e];exact hm);rw[bk h0,dh,dh,dh];simp[KK,this]
   ·rw[aw h0,dh,dh];simp[KK]
  show(fP R n l e).bP m 0=_;rw[iE];exact h.RX m hm
 ·show R.used+1=cT nl λq=>((oH A n l e).ls q).length;have h1:=mK (k:=nl) (f:=λq=>(A.ls q).length) (g:=λq=>((oH A n l e).ls q).length) hl (λj hj=>by show((oH A n l e).ls j).length=_;rw[oC,aw hj]);have h2:((oH A n l e).ls l).length=(A.ls l).length+1:=by rw[oC,bk rfl,kz]
  have h3:=h.used;rw[h2]at h1;omega
 ·have:=h.XA;simp at this ⊢;show R.used+1+A.fr.length=A.made;omega
def qu{l:List Nat}{n:Nat}(h:n∈l)(hn:l.Nodup):∃a b,l=a++n::b/\l.erase n=a++b/\n∉a++b:=by
 induction l with
 |nil=>simp at h
 |cons x t ih=>
  have mI:=List.nodup_cons.1 hn;by_cases e:x=n
  ·subst e;exact⟨[],t,rfl,ay,mI.1⟩
  ·have h':n∈t:=by
    simp at h;rcases h with h|h
    ·exact absurd h.symm e
    ·exact h
   obtain⟨a,b,h1,h2,h3⟩:=ih h' mI.2;refine⟨x::a,b,by rw[h1];rfl,?_,?_⟩
   ·rw[List.erase_cons_tail (by simpa using e),h2];rfl
   ·simp at h3 ⊢;exact⟨λe'=>e e'.symm,h3⟩
def Jb{l:List Nat}{n m:Nat}(h:mu l n=(m:Int)):m∈l:=by
 induction l with
 |nil=>simp[mu]at h<;>omega
 |cons a t ih=>
  unfold mu at h;split at h
  ·cases t with
   |nil=>simp[hd]at h<;>omega
   |cons b t=>simp[hd]at h;simp;omega
  ·simp;exact .inr (ih h)
def XB(l:List Nat)(n:Nat):mu l n= -1\/0<=mu l n:=by
 induction l with
 |nil=>left;rfl
 |cons a t ih=>
  unfold mu;split
  ·cases t with
   |nil=>left;rfl
   |cons b t=>right;simp[hd]
  ·exact ih
def Jc{l:List Nat}{n m:Nat}(hn:l.Nodup)(jT:n∈l)(I9:m∈l):mu l m=(n:Int)↔mu l.reverse n=(m:Int):=by
 obtain⟨a,b,rfl,_,h3⟩:=qu jT hn;have hna:n∉a:=λh=>h3 (by simp[h]);have Jd:n∉b.reverse:=λh=>h3 (by simp at h;simp[h]);have e1:mu (a++n::b).reverse n=hd a.reverse:=by rw[show(a++n::b).reverse=b.reverse++n::a.reverse by simp,kO Jd]
 rw[e1];by_cases hma:m∈a
 ·obtain⟨c,d,rfl,_,h4⟩:=qu hma (List.nodup_append.1 hn).1;have hmc:m∉c:=λh=>h4 (by simp[h]);rw[show(c++m::d)++n::b=c++m::(d++n::b)by simp,kO hmc];cases hdr:d.reverse with
  |nil=>
   have:d=[]:=by simpa using hdr
   subst this;simp[hd]
  |cons x t=>
   have Vv:x∈d:=by rw[<-List.mem_reverse,hdr];simp
   have hmx:m≠x:=λe=>h4 (by rw[e];simp[Vv]);rw[show(c++m::d).reverse=d.reverse++(m::c.reverse)by simp,hdr,List.cons_append,nO];cases d with
   |nil=>simp at Vv
   |cons y d=>
    rw[List.cons_append,nO];constructor
    ·intro e;exfalso;have:y=n:=O;subst this;exact hna ay
    ·intro e;exfalso;exact hmx O
 ·have KK:m=n\/m∈b:=by simp at I9;rcases I9 with h|h|h<;>simp_all
  constructor
  ·intro h;exfalso;rw[I8 hma]at h;have sB:n∉b:=λh'=>h3 (by simp[h']);unfold mu at h;split at h
   ·cases b with
    |nil=>simp[hd]at h<;>omega
    |cons x b=>simp[hd]at h;simp at sB;omega
   ·exact sB (Jb h)
  ·intro h;exfalso;cases XC:a.reverse with
   |nil=>rw[XC]at h;simp[hd]at h<;>omega
   |cons x t=>rw[XC,nO]at h;have:x=m:=O;subst this;exact hma (by rw[<-List.mem_reverse,XC];simp)
def ti(R:Raw)(n l e:Nat)(m:Int):(lK R n l e m).own=R.own/\(lK R n l e m).made=R.made/\(lK R n l e m).val=R.val/\(lK R n l e m).dm=R.dm/\(lK R n l e m).used=R.used/\(lK R n l e m).dr=R.dr:=by unfold lK;split<;>exact⟨rfl,rfl,rfl,rfl,rfl,rfl⟩
def BB{nl:Nat}{R:Raw}{A:Ar}{n l:Nat}(h:sQ nl R A none)(hl:l<nl)(hm:n∈A.ls l):
 sQ nl {dt R n with used:=R.used-1} (r7 A n l) (some n)/\(dt R n).own n=l/\0<R.used/\(dt R n).bP n 0=R.bP n 0/\(dt R n).val=R.val/\(dt R n).dm=R.dm/\(dt R n).used=R.used/\(dt R n).made=R.made:=by
 have gp:=h.own l n hl hm;have gP:=h.nd l hl;obtain⟨a,b,Di,XD,XE⟩:=qu hm gP;have hna:n∉a:=λh=>XE (by simp[h]);have Jd:n∉b:=λh=>XE (by simp[h]);have ep:R.bP n 0=hd a.reverse:=by rw[h.bP l n 0 hl hm O,Di];show mu (a++n::b).reverse n=_;rw[show(a++n::b).reverse=b.reverse++n::a.reverse by simp,kO (by simpa using Jd)]
 have fI:R.bP n 1=hd b:=by rw[h.bP l n 1 hl hm O,Di];show mu (a++n::b) n=_;rw[kO hna]
 have oC:∀q,(r7 A n l).ls q=if q=l then a++b else A.ls q:=λq=>by show aR A.ls l _ q=_;rw[dq,XD]
 have fQ:∀q m,q<nl->m∈(r7 A n l).ls q->m≠n/\m∈A.ls q:=by
  intro q m hq iY;rw[oC]at iY;split at iY
  ·next e=>subst e
           refine⟨λe=>XE (e▸iY),?_⟩;rw[Di];simp at iY ⊢;rcases iY with h'|h'<;>simp[h']
  ·next e=>exact⟨λe'=>e (h.rX hq hl iY (e'▸hm)),iY⟩
 let R1:=lK R n l 0 (R.bP n 0)
 have XF:R1=lK R n l 0 (R.bP n 0):=rfl;have be:(R.own n).toNat=l:=by rw[gp];rfl
 have hcut:dt R n={lK R1 n l 1 (R.bP n 1)with dr:=aR (lK R1 n l 1 (R.bP n 1)).dr l ((lK R1 n l 1 (R.bP n 1)).dr l-1)}:=by unfold dt;rw[be]
 have RY:∀m:Nat,hd a.reverse=(m:Int)->m∈a/\m≠n:=by
  intro m iY;cases XC:a.reverse with
  |nil=>rw[XC]at iY;simp[hd]at iY<;>omega
  |cons x t=>
   rw[XC,nO]at iY;have:x=m:=O;subst this;have:x∈a:=by rw[<-List.mem_reverse,XC];simp
   exact⟨this,λe=>hna (e▸this)⟩
 have xy:∀m:Nat,hd b=(m:Int)->m∈b/\m≠n:=by
  intro m iY;cases b with
  |nil=>simp[hd]at iY<;>omega
  |cons x t=>rw[nO]at iY;have:x=m:=O;subst this;exact⟨ay,λe=>Jd (by rw[<-e];simp)⟩
 have NF:∀m e,(dt R n).bP m e=if 0<=hd b/\m=(hd b).toNat/\e=0 then hd a.reverse else if 0<=hd a.reverse/\m=(hd a.reverse).toNat/\e=1 then hd b else R.bP m e:=by
  intro m e;have h1:R1.bP=if 0<=hd a.reverse then de R.bP (hd a.reverse).toNat 1 (hd b)else R.bP:=by
   rw[XF];unfold lK;rw[ep];by_cases h0:hd a.reverse<0
   ·rw[bk h0,aw O]
   ·rw[aw h0,bk O];show de R.bP _ (1-0) (R.bP n (1-0))=_;rw[show(1-0)=1 from rfl,fI]
  have h2:(dt R n).bP=if 0<=hd b then de R1.bP (hd b).toNat 0 (R1.bP n 0)else R1.bP:=by
   rw[hcut];show(lK R1 n l 1 (R.bP n 1)).bP=_;unfold lK;rw[fI];by_cases h0:hd b<0
   ·rw[bk h0,aw O]
   ·rw[aw h0,bk O]
  have h3:R1.bP n 0=hd a.reverse:=by
   rw[h1];split
   ·rw[dh,aw O,ep]
   ·exact ep
  rw[h2,h3,h1];by_cases c1:0<=hd b
  ·rw[bk c1,dh];by_cases c2:m=(hd b).toNat/\e=0
   ·rw[bk c2,bk ⟨c1,c2⟩]
   ·rw[aw c2,aw (show¬(0<=hd b/\m=(hd b).toNat/\e=0)from λh=>c2 h.2)];by_cases c3:0<=hd a.reverse
    ·rw[bk c3,dh];by_cases c4:m=(hd a.reverse).toNat/\e=1<;>simp[c3,c4]
    ·simp[c3]
  ·rw[aw c1,aw (show¬(0<=hd b/\m=(hd b).toNat/\e=0)from λh=>c1 h.1)];by_cases c3:0<=hd a.reverse
   ·rw[bk c3,dh];by_cases c4:m=(hd a.reverse).toNat/\e=1<;>simp[c3,c4]
   ·simp[c3]
 have Ht:∀q e,(dt R n).ends q e=if hd b<0/\q=l/\e=1 then hd a.reverse else if hd a.reverse<0/\q=l/\e=0 then hd b else R.ends q e:=by
  intro q e;have h1:R1.ends=if hd a.reverse<0 then de R.ends l 0 (hd b)else R.ends:=by
   rw[XF];unfold lK;rw[ep];by_cases h0:hd a.reverse<0
   ·rw[bk h0,bk h0];show de R.ends l 0 (R.bP n (1-0))=_;rw[show(1-0)=1 from rfl,fI]
   ·rw[aw h0,aw h0]
  have h3:R1.bP n 0=hd a.reverse:=by
   rw[XF];unfold lK;split
   ·exact ep
   ·show de R.bP _ (1-0) _ n 0=_;rw[dh,aw O,ep]
  have h2:(dt R n).ends=if hd b<0 then de R1.ends l 1 (hd a.reverse)else R1.ends:=by
   rw[hcut];show(lK R1 n l 1 (R.bP n 1)).ends=_;unfold lK;rw[fI];by_cases h0:hd b<0
   ·rw[bk h0,bk h0];show de R1.ends l 1 (R1.bP n (1-1))=_;rw[show(1-1)=0 from rfl,h3]
   ·rw[aw h0,aw h0]
  rw[h2,h1];by_cases c1:hd b<0
  ·rw[bk c1,dh];by_cases c2:q=l/\e=1
   ·rw[bk c2,bk ⟨c1,c2⟩]
   ·rw[aw c2,aw (show¬(hd b<0/\q=l/\e=1)from λh=>c2 h.2)];by_cases c3:hd a.reverse<0
    ·rw[bk c3,dh];by_cases c4:q=l/\e=0<;>simp[c3,c4]
    ·simp[c3]
  ·rw[aw c1,aw (show¬(hd b<0/\q=l/\e=1)from λh=>c1 h.1)];by_cases c3:hd a.reverse<0
   ·rw[bk c3,dh];by_cases c4:q=l/\e=0<;>simp[c3,c4]
   ·simp[c3]
 obtain⟨o1,o2,o3,o4,o5,o6⟩:=ti R n l 0 (R.bP n 0);obtain⟨p1,p2,p3,p4,p5,p6⟩:=ti R1 n l 1 (R.bP n 1);have f1:(dt R n).own=R.own:=by rw[hcut];exact p1.trans o1
 have f2:(dt R n).made=R.made:=by rw[hcut];exact p2.trans o2
 have f3:(dt R n).val=R.val:=by rw[hcut];exact p3.trans o3
 have f4:(dt R n).dm=R.dm:=by rw[hcut];exact p4.trans o4
 have f5:(dt R n).used=R.used:=by rw[hcut];exact p5.trans o5
 have f6:(dt R n).dr=aR R.dr l (R.dr l-1):=by rw[hcut];show aR (lK R1 n l 1 (R.bP n 1)).dr l _=_;rw[p6.trans o6]
 have hnA:=h.zO l n hl hm;have SU:=h.sZ hl hm;have hlen:(A.ls l).length=(a++b).length+1:=by rw[Di];simp;omega
 have hup:0<R.used:=by have h1:=h.used;have h2:=DP (k:=nl) (f:=λq=>(A.ls q).length) hl;omega
 refine⟨⟨by show(dt R n).made=A.made;rw[f2,h.made],by show(dt R n).val=A.val;rw[f3,h.val],λq hq=>?_,h.ndf,λq m hq iY=>h.zO q m hq (fQ q m hq iY).2,h.NC,λq m hq iY=>?_,λm iY=>?_,λm iY=>?_,λm iY=>?_,λq m e hq iY he=>?_,λq e hq he=>?_,λq hq=>?_,?_,λm iY=>?_,?_,?_⟩,by rw[f1,gp],hup,?_,f3,f4,f5,f2⟩
 ·rw[oC];split
  ·have h1:=List.nodup_append.1 (Di▸gP);exact List.nodup_append.2 ⟨h1.1,(List.nodup_cons.1 h1.2.1).2,λx hx y hy=>h1.2.2 x hx y (by simp[hy])⟩
  ·exact h.nd q hq
 ·show(dt R n).own m=_;rw[f1];exact h.own q m hq (fQ q m hq iY).2
 ·show(dt R n).own m=_;rw[f1];exact h.free m iY
 ·rcases h.part m iY with h1|h1|⟨q,hq,h1⟩
  ·simp at h1
  ·exact .inr (.inl h1)
  ·by_cases e:m=n
   ·subst e;exact .inl rfl
   ·refine .inr (.inr ⟨q,hq,?_⟩);rw[oC];split
    ·next e'=>subst e'
              rw[Di]at h1;simp at h1 ⊢;rcases h1 with h1|h1|h1
              ·exact .inl h1
              ·exact absurd h1 e
              ·exact .inr h1
    ·exact h1
 ·simp at iY;subst iY;exact⟨hnA,SU,λq hq rD=>(fQ q n hq rD).1 rfl⟩
 ·show(dt R n).bP m e=_;obtain⟨KK,I9⟩:=fQ q m hq iY;rw[NF];have hold:=h.bP q m e hq I9 he;by_cases BA:q=l
  ·subst BA;rw[oC,bk rfl];have GC:m∈a++b:=by rw[oC,bk rfl]at iY;exact iY
   have RZ:(a++n::b).reverse=b.reverse++n::a.reverse:=by simp
   have Ja:e=0\/e=1:=O;rcases Ja with rfl|rfl
   ·
    have YC:dir 0 (a++b)=b.reverse++a.reverse:=by simp[dir]
    have XG:(b.reverse++n::a.reverse).Nodup:=by rw[<-RZ];exact(List.reverse_perm _).nodup_iff.2 (Di▸gP)
    rw[YC,DM XG KK (by simp at GC ⊢;rcases GC with h'|h'<;>simp[h'])];have DQ:R.bP m 0=mu (b.reverse++n::a.reverse) m:=by rw[hold,Di];show mu (a++n::b).reverse m=_;rw[RZ]
    rw[<-DQ];have key:R.bP m 0=(n:Int)↔hd b=(m:Int):=by rw[DQ,<-RZ,Jc ((List.reverse_perm _).nodup_iff.2 (Di▸gP)) ay (by simp at GC ⊢;rcases GC with h'|h'<;>simp[h'])];rw[List.reverse_reverse,kO hna]
    by_cases hc:R.bP m 0=(n:Int)
    ·have:=key.1 hc;rw[bk hc,bk ⟨O,O,rfl⟩]
    ·have XH:¬hd b=(m:Int):=λh'=>hc (key.2 h');rw[aw hc,aw O,aw O]
   ·have YB:dir 1 (a++b)=a++b:=by simp[dir]
    rw[YB,DM (Di▸gP) KK GC];have DQ:R.bP m 1=mu (a++n::b) m:=by rw[hold,Di];rfl
    rw[<-DQ];have key:R.bP m 1=(n:Int)↔hd a.reverse=(m:Int):=by rw[DQ,Jc (Di▸gP) ay (by simp at GC ⊢;rcases GC with h'|h'<;>simp[h'])];rw[RZ,kO (by simpa using Jd)]
    by_cases hc:R.bP m 1=(n:Int)
    ·have:=key.1 hc;rw[bk hc,aw O,bk ⟨O,O,rfl⟩]
    ·have XH:¬hd a.reverse=(m:Int):=λh'=>hc (key.2 h');rw[aw hc,aw O,aw O]
  ·rw[oC,aw BA];have g1:¬(0<=hd b/\m=(hd b).toNat/\e=0):=by rintro⟨h0,h1,_⟩;have h2:=(xy m O).1;exact BA (h.rX hq hl I9 (by rw[Di];simp[h2]))
   have g2:¬(0<=hd a.reverse/\m=(hd a.reverse).toNat/\e=1):=by rintro⟨h0,h1,_⟩;have h2:=(RY m O).1;exact BA (h.rX hq hl I9 (by rw[Di];simp[h2]))
   rw[aw g1,aw g2];exact hold
 ·show(dt R n).ends q e=_;rw[Ht,oC];by_cases BA:q=l
  ·subst BA;rw[bk rfl];have hold:=h.ends q e hq he;have Ja:e=0\/e=1:=O;rcases Ja with rfl|rfl
   ·rw[aw O];show _=hd (a++b);by_cases hc:hd a.reverse<0
    ·rw[bk ⟨hc,rfl,rfl⟩];have:a=[]:=by simpa using GB.1 hc
     rw[this];rfl
    ·rw[aw (λh=>hc h.1),hold,Di];cases a with
     |nil=>simp[hd]at hc
     |cons x t=>rfl
   ·show _=hd (a++b).reverse;rw[List.reverse_append];by_cases hc:hd b<0
    ·rw[bk ⟨hc,rfl,rfl⟩];have:b=[]:=GB.1 hc;rw[this];rfl
    ·rw[aw (λh=>hc h.1),aw O,hold,Di];show hd (a++n::b).reverse=_;rw[show(a++n::b).reverse=b.reverse++n::a.reverse by simp];cases Re:b.reverse with
     |nil=>
      have:b=[]:=by simpa using Re
      rw[this]at hc;simp[hd]at hc
     |cons x t=>rfl
  ·rw[aw (λh=>BA h.2.1),aw (λh=>BA h.2.1),aw BA];exact h.ends q e hq he
 ·show(dt R n).dr q=_;rw[f6,dq,oC];split
  ·next e=>subst e
           rw[h.dr q hq,Di];simp
  ·exact h.dr q hq
 ·show(dt R n).dm=_;rw[f4];exact h.zP
 ·show(dt R n).bP m 0=_;rw[NF];have g1:¬(0<=hd b/\m=(hd b).toNat/\(0:Nat)=0):=by rintro⟨h0,h1,_⟩;have h2:=(xy m O).1;exact h.sZ hl (by rw[Di];simp[h2]) iY
  rw[aw g1,aw O];exact h.RX m iY
 ·show R.used-1=cT nl λq=>((r7 A n l).ls q).length;have h1:=mK (k:=nl) (f:=λq=>(A.ls q).length) (g:=λq=>((r7 A n l).ls q).length) hl (λj hj=>by show((r7 A n l).ls j).length=_;rw[oC,aw hj]);have h2:((r7 A n l).ls l).length=(a++b).length:=by rw[oC,bk rfl]
  have h3:=h.used;rw[h2]at h1;omega
 ·have:=h.XA;simp at this ⊢;show R.used-1+A.fr.length+1=A.made;omega
 ·rw[NF,aw,aw O];rintro⟨h0,h1,_⟩;exact(xy n O).2 rfl
def NG{nl:Nat}{R:Raw}{A:Ar}{n:Nat}(z:eU)(h:sQ nl {R with used:=R.used-1} A (some n)):sQ nl (ND R n z) (s_ A n z) none:=by
 obtain⟨hn,Rc,jT⟩:=h.hol n rfl;have hv:R.val=A.val:=h.val;refine⟨h.made,by show aR R.val n z=aR A.val n z;rw[hv],h.nd,List.nodup_cons.2 ⟨Rc,h.ndf⟩,h.zO,λm hm=>?_,λq m hq hm=>?_,λm hm=>?_,λm hm=>?_,λm hm=>by simp at hm,λq m e hq hm he=>?_,h.ends,h.dr,rfl,λm hm=>?_,?_,?_⟩
 ·simp[s_]at hm;rcases hm with rfl|hm
  ·exact hn
  ·exact h.NC m hm
 ·show aR R.own n (-1) m=_;rw[ak _ _ (λe=>by subst e;exact jT q hq hm)];exact h.own q m hq hm
 ·show aR R.own n (-1) m=_;simp[s_]at hm;rw[dq];split
  ·rfl
  ·next e=>rcases hm with rfl|hm
           ·exact absurd rfl e
           ·exact h.free m hm
 ·rcases h.part m hm with h1|h1|h1
  ·simp at h1;subst h1;exact .inr (.inl (by simp[s_]))
  ·exact .inr (.inl (by simp[s_,h1]))
  ·exact .inr (.inr h1)
 ·show de (de R.bP n 0 R.dm) n 1 (-1) m e=_;have:m≠n:=λe=>by subst e;exact jT q hq hm
  rw[dh,dh,aw (λh=>this h.1),aw (λh=>this h.1)];exact h.bP q m e hq hm he
 ·show de (de R.bP n 0 R.dm) n 1 (-1) m 0=mu (n::A.fr) m;rw[dh,dh,aw O];by_cases e:m=n
  ·subst e;rw[bk ⟨rfl,rfl⟩,eL];exact h.zP
  ·rw[aw (λh=>e h.1),dD (λe'=>e e'.symm)];simp[s_]at hm;exact h.RX m (hm.resolve_left e)
 ·exact h.used
 ·have:=h.XA;simp[s_]at this ⊢;show R.used-1+(A.fr.length+1)=A.made;omega
def rE(R:Raw)(z:eU):Raw:={R with made:=R.made+1,val:=aR R.val R.made z,own:=aR R.own R.made 0,bP:=aR R.bP R.made λ_=>0}
def wB(R:Raw):Raw:={R with dm:=R.bP R.dm.toNat 0}
def jW(R:Raw)(n:Nat)(v:eU):Raw:={R with val:=aR R.val n v}
def NH(A:Ar)(n:Nat)(v:eU):Ar:={A with val:=aR A.val n v}
def NI(A:Ar)(z:eU):Ar:={A with made:=A.made+1,val:=aR A.val A.made z}
def NJ(A:Ar):Ar:={A with fr:=A.fr.tail}
def BC{nl:Nat}{R:Raw}{A:Ar}{ho:Option Nat}(h:sQ nl R A ho)(n:Nat)(v:eU):sQ nl (jW R n v) (NH A n v) ho:=
 ⟨h.made,by show aR R.val n v=aR A.val n v;rw[h.val],h.nd,h.ndf,h.zO,h.NC,h.own,h.free,h.part,h.hol,h.bP,h.ends,h.dr,h.zP,h.RX,h.used,h.XA⟩
def R0{nl:Nat}{R:Raw}{A:Ar}(h:sQ nl R A none)(z:eU):sQ nl (rE R z) (NI A z) (some A.made):=by
 have hm:=h.made;refine⟨by show R.made+1=A.made+1;rw[hm],by show aR R.val R.made z=aR A.val A.made z;rw[hm,h.val],h.nd,h.ndf,λq n hq hn=>Nat.lt_succ_of_lt (h.zO q n hq hn),λn hn=>Nat.lt_succ_of_lt (h.NC n hn),λq n hq hn=>?_,λn hn=>?_,λn hn=>?_,λn hn=>?_,λq n e hq hn he=>?_,h.ends,h.dr,h.zP,λn hn=>?_,?_,?_⟩
 ·show aR R.own R.made 0 n=_;rw[ak _ _ (by have:=h.zO q n hq hn;omega)];exact h.own q n hq hn
 ·show aR R.own R.made 0 n=_;rw[ak _ _ (by have:=h.NC n hn;omega)];exact h.free n hn
 ·by_cases e:n=A.made
  ·subst e;exact .inl rfl
  ·rcases h.part n (by simp[NI]at hn;omega)with h1|h1
   ·simp at h1
   ·exact .inr h1
 ·simp at hn;subst hn;exact⟨by simp[NI],λh'=>by have:=h.NC _ h';omega,λq hq h'=>by have:=h.zO q _ hq h';omega⟩
 ·show aR R.bP R.made (λ_=>0) n e=_;rw[ak _ _ (by have:=h.zO q n hq hn;omega)];exact h.bP q n e hq hn he
 ·show aR R.bP R.made (λ_=>0) n 0=_;rw[ak _ _ (by have:=h.NC n hn;omega)];exact h.RX n hn
 ·exact h.used
 ·have:=h.XA;simp at this;show R.used+A.fr.length+1=A.made+1;omega
def R3{nl:Nat}{R:Raw}{A:Ar}{n:Nat}{t:List Nat}(h:sQ nl R A none)(hf:A.fr=n::t):sQ nl (wB R) (NJ A) (some n)/\R.dm=(n:Int):=by
 have tp:=h.zP;rw[hf,nO]at tp;have gP:=h.ndf;rw[hf]at gP;have XI:=List.nodup_cons.1 gP;have hp:(NJ A).fr=t:=by show A.fr.tail=t;rw[hf];rfl
 have NK:∀m,m∈t->m∈A.fr:=λm hm=>by rw[hf];simp[hm]
 have Rc:n∈A.fr:=by rw[hf];simp
 refine⟨⟨h.made,h.val,h.nd,by rw[hp];exact XI.2,h.zO,λm hm=>h.NC m (NK m (by rw[hp]at hm;exact hm)),h.own,λm hm=>h.free m (NK m (by rw[hp]at hm;exact hm)),λm hm=>?_,λm hm=>?_,h.bP,h.ends,h.dr,?_,λm hm=>?_,?_,?_⟩,tp⟩
 ·rcases h.part m hm with h1|h1|h1
  ·simp at h1
  ·rw[hf]at h1;simp at h1;rcases h1 with rfl|h1
   ·exact .inl rfl
   ·exact .inr (.inl (by rw[hp];exact h1))
  ·exact .inr (.inr h1)
 ·simp at hm;subst hm;exact⟨h.NC n Rc,by rw[hp];exact XI.1,λq hq h'=>h.sZ hq h' Rc⟩
 ·show R.bP R.dm.toNat 0=_;rw[tp,Int.toNat_natCast,h.RX n Rc,hf,eL,hp]
 ·rw[hp]at hm;show R.bP m 0=mu (NJ A).fr m;rw[h.RX m (NK m hm),hf,hp,dD (λe=>by subst e;exact XI.1 hm)]
 ·exact h.used
 ·have:=h.XA;rw[hf]at this;simp at this;rw[hp];show R.used+t.length+1=A.made;omega
def eh:eU:=⟨0,λ_=>0⟩
structure Nd where
 ls:Nat->List Nat
 val:Nat->eU
 fs:Nat->Nat
def Nd.ext{a b:Nd}(h1:a.ls=b.ls)(h2:a.val=b.val)(h3:a.fs=b.fs):a=b:=by
 cases a;cases b;simp_all
def xD(n:Nat)(f:Nat->Nat):Nat->Nat
 |0=>n
 |i+1=>f i
def Je(f:Nat->Nat):Nat->Nat:=λi=>f (i+1)
def DS(f:Nat->Nat):xD (f 0) (Je f)=f:=by funext i;cases i<;>rfl
def Pp:List Nat->Nat->Nat->Nat
 |[],m,i=>m+i
 |a::_,_,0=>a
 |_::t,m,i+1=>Pp t m i
def Al(a:Nat)(t:List Nat)(m:Nat):Pp (a::t) m=xD a (Pp t m):=by funext i;cases i<;>rfl
def NM(m:Nat):Pp [] m=xD m (Pp [] (m+1)):=by
 funext i;cases i with
 |zero=>simp[Pp,xD]
 |succ i=>simp[Pp,xD];omega
def abs(A:Ar):Nd:=⟨A.ls,A.val,Pp A.fr A.made⟩
def gQ(a:Nd)(q e:Nat)(v:eU):Nd:=⟨aR a.ls q (ext e (a.ls q) (a.fs 0)),aR a.val (a.fs 0) v,Je a.fs⟩
def takeN(a:Nd)(q n:Nat):Nd:=⟨aR a.ls q ((a.ls q).erase n),aR a.val n eh,xD n a.fs⟩
def KL(a:Nd)(n:Nat)(v:eU):Nd:={a with val:=aR a.val n v}
def oI(a:Nd)(n q e:Nat):Nd:={a with ls:=aR a.ls q (ext e ((a.ls q).erase n) n)}
def ii(R:Raw)(q e:Nat)(v:eU):Raw:=
 let n:=if R.dm<0 then R.made else R.dm.toNat
 let R1:=if R.dm<0 then rE R eh else wB R
 {fP (jW R1 n v) n q e with used:=R.used+1}
def kP(R:Raw)(n:Nat):Raw:=ND (dt R n) n eh
def rk(R:Raw)(n q e:Nat):Raw:=fP (dt R n) n q e
def gI{β:Type}(f:Nat->β)(i:Nat)(x y:β):aR (aR f i x) i y=aR f i y:=by funext j;simp only[dq];split<;>rfl
def fR{β:Type}(f:Nat->β)(i:Nat):aR f i (f i)=f:=by funext j;simp only[dq];split<;>simp_all
def NO{nl:Nat}{R:Raw}{A:Ar}(h:sQ nl R A none){q e:Nat}(hq:q<nl)(he:e<=1)(v:eU):
 ∃A',sQ nl (ii R q e v) A' none/\abs A'=gQ (abs A) q e v/\(if R.dm<0 then R.made else R.dm.toNat)=(abs A).fs 0:=by
 have tp:=h.zP;cases hf:A.fr with
 |nil=>
  rw[hf]at tp;have qw:R.dm<0:=by rw[tp];decide
  have h1:=BC (R0 h eh) A.made v;have h2:=xC h1 hq he trivial;refine⟨oH (NH (NI A eh) A.made v) A.made q e,?_,?_,?_⟩
  ·have e1:ii R q e v={fP (jW (rE R eh) A.made v) A.made q e with used:=(jW (rE R eh) A.made v).used+1}:=by unfold ii;rw[bk qw,bk qw,h.made];rfl
   rw[e1];exact h2
  ·unfold abs gQ;simp only[oH,NH,NI,hf];refine Nd.ext rfl ?_ ?_
   ·show aR (aR A.val A.made eh) A.made v=aR A.val (Pp [] A.made 0) v;rw[gI];rfl
   ·show Pp [] (A.made+1)=Je (Pp [] A.made);rw[NM A.made];rfl
  ·rw[bk qw,h.made];unfold abs;rw[hf];rfl
 |cons n t=>
  obtain⟨h0,hfn⟩:=R3 h hf;have qw:¬R.dm<0:=by rw[hfn];omega
  have h1:=BC h0 n v;have h2:=xC h1 hq he trivial;refine⟨oH (NH (NJ A) n v) n q e,?_,?_,?_⟩
  ·have e1:ii R q e v={fP (jW (wB R) n v) n q e with used:=(jW (wB R) n v).used+1}:=by unfold ii;rw[aw qw,aw qw,hfn];rfl
   rw[e1];exact h2
  ·unfold abs gQ;simp only[oH,NH,NJ,hf,List.tail];refine Nd.ext rfl rfl ?_
   ·show Pp t A.made=Je (Pp (n::t) A.made);rw[Al];rfl
  ·rw[aw qw,hfn];unfold abs;rw[hf];rfl
def DT{nl:Nat}{R:Raw}{A:Ar}(h:sQ nl R A none){l n:Nat}(hl:l<nl)(hm:n∈A.ls l):
 ∃A',sQ nl (kP R n) A' none/\abs A'=takeN (abs A) l n:=by
 obtain⟨h1,ho,hu,X,hv,hf,Vw,NP⟩:=BB h hl hm;refine⟨s_ (r7 A n l) n eh,?_,?_⟩
 ·have:=NG (R:=dt R n) eh (by rw[Vw];exact h1);exact this
 ·unfold abs takeN s_ r7;refine Nd.ext rfl rfl ?_;show Pp (n::A.fr) A.made=xD n (Pp A.fr A.made);exact Al _ _ _
def NQ{nl:Nat}{R:Raw}{A:Ar}(h:sQ nl R A none){n q e:Nat}(hq:q<nl)(hm:n∈A.ls q)(he:e<=1):
 ∃A',sQ nl (rk R n q e) A' none/\abs A'=oI (abs A) n q e:=by
 obtain⟨h1,ho,hu,X,hv,hf,Vw,NP⟩:=BB h hq hm;have h2:=xC h1 hq he trivial;refine⟨oH (r7 A n q) n q e,?_,?_⟩
 ·have e1:rk R n q e={fP {dt R n with used:=R.used-1} n q e with used:=R.used-1+1}:=by
   unfold rk;have:R.used-1+1=(fP (dt R n) n q e).used:=by show _=(dt R n).used;rw[Vw];omega
   rw[this];rfl
  rw[e1];exact h2
 ·unfold abs oI oH r7;refine Nd.ext ?_ rfl rfl;show aR (aR A.ls q _) q (ext e (aR A.ls q _ q) n)=_;rw[gI,an]
structure Wf(nl:Nat)(a:Nd):Prop where
 nd:∀q,q<nl->(a.ls q).Nodup
 XJ:∀q p n,q<nl->p<nl->n∈a.ls q->n∈a.ls p->q=p
 zP:∀q i,q<nl->a.fs i∉a.ls q
 inj:∀i j,a.fs i=a.fs j->i=j
 zer:∀i,a.val (a.fs i)=eh
def R4{nl:Nat}{a:Nd}(h:Wf nl a){q e:Nat}(hq:q<nl)(v:eU):Wf nl (gQ a q e v):=by
 have oC:∀p,(gQ a q e v).ls p=if p=q then ext e (a.ls q) (a.fs 0)else a.ls p:=λp=>rfl;have fQ:∀p n,n∈(gQ a q e v).ls p->(p=q/\n=a.fs 0)\/n∈a.ls p:=by
  intro p n hn;rw[oC]at hn;split at hn
  ·next e'=>rw[ext_mem]at hn
            rcases hn with hn|hn
            ·exact .inl ⟨e',hn⟩
            ·exact .inr (e'▸hn)
  ·exact .inr hn
 refine⟨λp hp=>?_,λp r n hp hr h1 h2=>?_,λp i hp hi=>?_,λi j XK=>?_,λi=>?_⟩
 ·rw[oC];split
  ·exact Aj (h.nd q hq) (h.zP q 0 hq)
  ·exact h.nd p hp
 ·rcases fQ p n h1 with⟨e0,e1⟩|g1<;>rcases fQ r n h2 with⟨e0',e2⟩|g2
  ·rw[e0,e0']
  ·rw[e1]at g2;exact absurd g2 (h.zP r 0 hr)
  ·rw[e2]at g1;exact absurd g1 (h.zP p 0 hp)
  ·exact h.XJ p r n hp hr g1 g2
 ·rcases fQ p _ hi with⟨_,e1⟩|h1
  ·have:=h.inj (i+1) 0 e1;omega
  ·exact h.zP p (i+1) hp h1
 ·have:=h.inj (i+1) (j+1) XK;omega
 ·show aR a.val (a.fs 0) v (a.fs (i+1))=_;rw[ak _ _ (λe'=>by have:=h.inj _ _ e';omega)];exact h.zer (i+1)
def R5{nl:Nat}{a:Nd}(h:Wf nl a){q n:Nat}(hq:q<nl)(hn:n∈a.ls q):Wf nl (takeN a q n):=by
 have oC:∀p,(takeN a q n).ls p=if p=q then(a.ls q).erase n else a.ls p:=λp=>rfl;have fQ:∀p m,p<nl->m∈(takeN a q n).ls p->m∈a.ls p/\m≠n:=by
  intro p m hp hm;rw[oC]at hm;split at hm
  ·next e'=>subst e'
            exact⟨List.mem_of_mem_erase hm,λe=>by subst e;exact(h.nd p hp).not_mem_erase hm⟩
  ·next e'=>exact⟨hm,λe=>by subst e;exact e' (h.XJ p q m hp hq hm hn)⟩
 refine⟨λp hp=>?_,λp r m hp hr h1 h2=>h.XJ p r m hp hr (fQ p m hp h1).1 (fQ r m hr h2).1,λp i hp hi=>?_,λi j XK=>?_,λi=>?_⟩
 ·rw[oC];split
  ·exact(h.nd q hq).erase n
  ·exact h.nd p hp
 ·obtain⟨h1,h2⟩:=fQ p _ hp hi;cases i with
  |zero=>exact h2 rfl
  |succ i=>exact h.zP p i hp h1
 ·cases i with
  |zero=>cases j with
   |zero=>rfl
   |succ j=>exact absurd (show a.fs j∈a.ls q from by rw[<-show n=a.fs j from XK];exact hn) (h.zP q j hq)
  |succ i=>cases j with
   |zero=>exact absurd (show a.fs i∈a.ls q from by rw[show a.fs i=n from XK];exact hn) (h.zP q i hq)
   |succ j=>have:=h.inj i j XK;omega
 ·cases i with
  |zero=>exact an _ _ _
  |succ i=>
   show aR a.val n eh (a.fs i)=_;rw[dq];split
   ·rfl
   ·exact h.zer i
def XL{nl:Nat}{a:Nd}(h:Wf nl a){q n:Nat}(hq:q<nl)(hn:n∈a.ls q)(v:eU):Wf nl (KL a n v):=
 ⟨h.nd,h.XJ,h.zP,h.inj,λi=>by
   show aR a.val n v (a.fs i)=_;rw[ak _ _ (λe=>by subst e;exact h.zP q i hq hn)];exact h.zer i⟩
def Am{e:Nat}{l:List Nat}{n:Nat}(h:n∉l):(ext e l n).erase n=l:=by
 unfold ext;split
 ·rw[List.erase_append_right _ h];simp
 ·simp
def KM{nl:Nat}{a:Nd}(h:Wf nl a){q e:Nat}(hq:q<nl)(v:eU):takeN (gQ a q e v) q (a.fs 0)=a:=by
 refine Nd.ext ?_ ?_ ?_
 ·show aR (aR a.ls q _) q ((aR a.ls q _ q).erase (a.fs 0))=a.ls;rw[gI,an,Am (h.zP q 0 hq),fR]
 ·show aR (aR a.val (a.fs 0) v) (a.fs 0) eh=a.val;rw[gI,<-h.zer 0,fR]
 ·exact DS a.fs
def KN{a:Nd}{q e n:Nat}{l:List Nat}(hl:a.ls q=ext e l n)(hn:n∉l):gQ (takeN a q n) q e (a.val n)=a:=by
 refine Nd.ext ?_ ?_ ?_
 ·show aR (aR a.ls q _) q (ext e (aR a.ls q _ q) n)=a.ls;rw[gI,an,hl,Am hn,<-hl,fR]
 ·show aR (aR a.val n eh) n (a.val n)=a.val;rw[gI,fR]
 ·rfl
def set_set(a:Nd)(n:Nat)(v:eU):KL (KL a n v) n (a.val n)=a:=by refine Nd.ext rfl ?_ rfl;show aR (aR a.val n v) n (a.val n)=a.val;rw[gI,fR]
def GD{a:Nd}{q n:Nat}{x y:List Nat}(hl:a.ls q=x++n::y)(hn:n∉x):oI a n q 0={a with ls:=aR a.ls q (n::(x++y))}:=by refine Nd.ext ?_ rfl rfl;show aR a.ls q (ext 0 ((a.ls q).erase n) n)=_;rw[hl,List.erase_append_right _ hn];simp[Vm.ext]
def DU{q:Nat}(y:List Nat):∀(k:Nat) (x p:List Nat) (a:Nd),x.length=k->a.ls q=p++(x++y)->(p++(x++y)).Nodup->
 (x.reverse).foldl (λb m=>oI b m q 0) a={a with ls:=aR a.ls q (x++(p++y))}:=by
 intro k
 induction k with
 |zero=>intro x p a hk hl hd;have:x=[]:=List.length_eq_zero_iff.1 hk;subst this;refine Nd.ext ?_ rfl rfl;show a.ls=aR a.ls q (p++y);rw[<-show a.ls q=p++y from hl,fR]
 |succ k ih=>
  intro x p a hk hl hd;have bm:x≠[]:=by intro e;subst e;simp at hk
  obtain⟨z,m,rfl⟩:∃z m,x=z++[m]:=⟨x.dropLast,x.getLast bm,(List.dropLast_concat_getLast bm).symm⟩;rw[List.reverse_append,List.reverse_singleton,List.singleton_append,List.foldl_cons];have XM:a.ls q=(p++z)++m::y:=by rw[hl];simp
  have rC:((p++z)++m::y).Nodup:=by rw[<-XM,hl];exact hd
  have hm:m∉p++z:=λh'=>(List.nodup_append.1 rC).2.2 m h' m ay rfl;rw[GD XM hm];have hzk:z.length=k:=by simp at hk;exact hk
  have hp:((m::p)++(z++y)).Nodup:=by
   have:List.Perm ((m::p)++(z++y)) ((p++z)++m::y):=by rw[List.cons_append,<-List.append_assoc];exact List.perm_middle.symm
   exact this.nodup_iff.2 rC
  have key:=ih z (m::p) {a with ls:=aR a.ls q (m::((p++z)++y))} hzk (by show aR a.ls q _ q=_;rw[an];simp) hp;rw[key];refine Nd.ext ?_ rfl rfl;show aR (aR a.ls q _) q _=aR a.ls q _;rw[gI];congr 1;simp
structure St where
 a:Nd
 f:Nat->Option Nat
 vars:Nat->Int
 total:Int
def St.ext{s t:St}(h1:s.a=t.a)(h2:s.f=t.f)(h3:s.vars=t.vars)(h4:s.total=t.total):s=t:=by
 cases s;cases t;simp_all
structure Sys where
 nq:Nat
 gh:Nat->Bool
 cq:Nat->Nat
 sz:Nat
def gJ(S:Sys)(a:Nd):Nat:=cT S.nq λq=>if S.gh q then 0 else(a.ls q).length
structure Inv(S:Sys)(s:St):Prop where
 wf:Wf S.nq s.a
 idx:∀k n,s.f k=some n↔∃q,q<S.nq/\n∈s.a.ls q/\(s.a.val n).key=k
 len:∀q,q<S.nq->(s.a.ls q).length<=S.cq q
 Jf:s.total=gJ S s.a
 Rf:gJ S s.a<=S.sz
 tag:∀q n,q<S.nq->n∈s.a.ls q->∀t,0<=(s.a.val n).tg t/\(s.a.val n).tg t<=255
 key:∀q n,q<S.nq->n∈s.a.ls q->(s.a.val n).key<18446744073709551616
 var:∀i,-1073741824<=s.vars i/\s.vars i<=1073741824
def Inv.one{S:Sys}{s:St}(h:Inv S s){q p n m:Nat}(hq:q<S.nq)(hp:p<S.nq)(hn:n∈s.a.ls q)(hm:m∈s.a.ls p)(e:(s.a.val n).key=(s.a.val m).key):n=m:=by have h1:=(h.idx _ n).2 ⟨q,hq,hn,rfl⟩;have h2:=(h.idx _ m).2 ⟨p,hp,hm,rfl⟩;rw[e,h2]at h1;exact(sd h1).symm
def jX(S:Sys)(s:St)(q e:Nat)(x:eU):St:=
 {s with a:=gQ s.a q e x,f:=aR s.f x.key (some (s.a.fs 0)),total:=if S.gh q then s.total else s.total+1}
def gB(S:Sys)(s:St)(q n:Nat):St:=
 {s with a:=takeN s.a q n,f:=aR s.f (s.a.val n).key none,total:=if S.gh q then s.total else s.total-1}
def cN(a:Nd)(q e:Nat):Nat:=(hd (dir (1-e) (a.ls q))).toNat
def lZ(s:St)(n:Nat)(x:eU):St:={s with a:=KL s.a n x}
def gr{a:Nd}{q e:Nat}(h:a.ls q≠[]):cN a q e∈a.ls q:=by
 unfold cN;rw[<-jm (1-e)];cases hh:dir (1-e) (a.ls q)with
 |nil=>
  exfalso;apply h;cases hl:a.ls q with
  |nil=>rfl
  |cons x t=>
   have:x∈dir (1-e) (a.ls q):=by rw[jm,hl];simp
   rw[hh]at this;simp at this
 |cons x t=>simp[hd]
def KO{a:Nd}{q e:Nat}(he:e<=1)(h:a.ls q≠[]):a.ls q=ext e ((a.ls q).erase (cN a q e)) (cN a q e)\/¬(a.ls q).Nodup:=by
 by_cases hn:(a.ls q).Nodup
 ·left;unfold cN;have:e=0\/e=1:=O;rcases this with rfl|rfl
  ·cases hl:a.ls q with
   |nil=>exact absurd hl h
   |cons x t=>simp[dir,hd,ext]
  ·have bm:(a.ls q).reverse≠[]:=by simpa using h
   cases hl:(a.ls q).reverse with
   |nil=>exact absurd hl bm
   |cons x t=>
    have e1:a.ls q=t.reverse++[x]:=by have:=congrArg List.reverse hl;simpa using this
    have e2:x∉t.reverse:=by rw[e1]at hn;intro hx;exact(List.nodup_append.1 hn).2.2 x hx x ay rfl
    have e3:(hd (dir (1-1) (a.ls q))).toNat=x:=by show(hd (dir 0 (a.ls q))).toNat=x;unfold dir;rw[aw bd,hl];rfl
    rw[e3]
    conv=>lhs;rw[e1]
    unfold ext;rw[bk rfl];congr 1;rw[e1,List.erase_append_right _ e2];simp
 ·exact .inr hn
def DW{S:Sys}{a:Nd}{q e:Nat}(hq:q<S.nq)(x:eU):gJ S (gQ a q e x)=gJ S a+if S.gh q then 0 else 1:=by
 unfold gJ;have h1:=mK (k:=S.nq) (f:=λp=>if S.gh p then 0 else(a.ls p).length) (g:=λp=>if S.gh p then 0 else((gQ a q e x).ls p).length) hq (λj hj=>by
  show(if S.gh j then 0 else(aR a.ls q _ j).length)=_;rw[ak _ _ hj])
 have h2:((gQ a q e x).ls q).length=(a.ls q).length+1:=by show(aR a.ls q _ q).length=_;rw[an,kz]
 rw[h2]at h1;by_cases hg:S.gh q=true
 ·simp[hg]at h1 ⊢;omega
 ·simp[hg]at h1 ⊢;omega
def DX{S:Sys}{a:Nd}{q n:Nat}(hq:q<S.nq)(hn:n∈a.ls q):gJ S (takeN a q n)+(if S.gh q then 0 else 1)=gJ S a:=by
 unfold gJ;have h1:=mK (k:=S.nq) (f:=λp=>if S.gh p then 0 else(a.ls p).length) (g:=λp=>if S.gh p then 0 else((takeN a q n).ls p).length) hq (λj hj=>by
  show(if S.gh j then 0 else(aR a.ls q _ j).length)=_;rw[ak _ _ hj])
 have h2:((takeN a q n).ls q).length=(a.ls q).length-1:=by show(aR a.ls q _ q).length=_;rw[an,An hn]
 have h3:0<(a.ls q).length:=yR hn;rw[h2]at h1;by_cases hg:S.gh q=true
 ·simp[hg]at h1 ⊢;omega
 ·simp[hg]at h1 ⊢;omega
def kY{a:Nd}{q e:Nat}{x:eU}{p n:Nat}:n∈(gQ a q e x).ls p↔(p=q/\n=a.fs 0)\/n∈a.ls p:=by
 show n∈aR a.ls q _ p↔_;rw[dq];by_cases h:p=q
 ·subst h;simp[ext_mem]
 ·simp[h]
def DY{nl:Nat}{a:Nd}(h:Wf nl a){q n p m:Nat}(hq:q<nl)(hp:p<nl)(hn:n∈a.ls q):m∈(takeN a q n).ls p↔m∈a.ls p/\m≠n:=by
 show m∈aR a.ls q _ p↔_;rw[dq];by_cases e:p=q
 ·subst e;rw[bk rfl,(h.nd p hp).mem_erase_iff];exact and_comm
 ·rw[aw e];refine⟨λhm=>⟨hm,λe'=>by subst e';exact e (h.XJ p q m hp hq hm hn)⟩,λhm=>hm.1⟩
def R6{S:Sys}{s:St}(h:Inv S s){q e:Nat}(hq:q<S.nq){x:eU}(hk:s.f x.key=none)(hl:(s.a.ls q).length<S.cq q)(ht:S.gh q=true\/s.total<S.sz)
 (hx:∀t,0<=x.tg t/\x.tg t<=255) (zQ:x.key<18446744073709551616):Inv S (jX S s q e x):=by
 have iE:∀n,(jX S s q e x).a.val n=if n=s.a.fs 0 then x else s.a.val n:=λn=>rfl;have bm:∀p n,p<S.nq->n∈s.a.ls p->n≠s.a.fs 0:=λp n hp hn e'=>h.wf.zP p 0 hp (e'▸hn);have DZ:=DW (a:=s.a) (e:=e) hq x;refine⟨R4 h.wf hq x,λk n=>?_,λp hp=>?_,?_,?_,λp n hp hn=>?_,λp n hp hn=>?_,h.var⟩
 ·show aR s.f x.key (some (s.a.fs 0)) k=some n↔_;rw[dq];by_cases e1:k=x.key
  ·subst e1;rw[bk rfl];constructor
   ·intro e2;have:s.a.fs 0=n:=sd e2;subst this;exact⟨q,hq,kY.2 (.inl ⟨rfl,rfl⟩),by rw[iE,bk rfl]⟩
   ·rintro⟨p,hp,hm,wC⟩;rcases kY.1 hm with⟨_,rfl⟩|hm
    ·rfl
    ·rw[iE,aw (bm p n hp hm)]at wC;have:=(h.idx x.key n).2 ⟨p,hp,hm,wC⟩;rw[hk]at this;simp at this
  ·rw[aw e1,h.idx];constructor
   ·rintro⟨p,hp,hm,wC⟩;exact⟨p,hp,kY.2 (.inr hm),by rw[iE,aw (bm p n hp hm)];exact wC⟩
   ·rintro⟨p,hp,hm,wC⟩;rcases kY.1 hm with⟨_,rfl⟩|hm
    ·rw[iE,bk rfl]at wC;exact absurd wC.symm e1
    ·rw[iE,aw (bm p n hp hm)]at wC;exact⟨p,hp,hm,wC⟩
 ·show(aR s.a.ls q _ p).length<=_;rw[dq];split
  ·next e'=>subst e';rw[kz];omega
  ·exact h.len p hp
 ·show(if S.gh q then s.total else s.total+1)=(gJ S (gQ s.a q e x):Nat);rw[DZ,h.Jf];by_cases hg:S.gh q=true<;>simp[hg]
 ·show gJ S (gQ s.a q e x)<=_;rw[DZ];have:=h.Rf;have h2:=h.Jf;by_cases hg:S.gh q=true
  ·simp[hg];omega
  ·simp[hg]at ht ⊢;omega
 ·intro t;rcases kY.1 hn with⟨_,rfl⟩|hm
  ·rw[iE,bk rfl];exact hx t
  ·rw[iE,aw (bm p n hp hm)];exact h.tag p n hp hm t
 ·rcases kY.1 hn with⟨_,rfl⟩|hm
  ·rw[iE,bk rfl];exact zQ
  ·rw[iE,aw (bm p n hp hm)];exact h.key p n hp hm
def kZ{S:Sys}{s:St}(h:Inv S s){q n:Nat}(hq:q<S.nq)(hn:n∈s.a.ls q):Inv S (gB S s q n):=by
 have fQ:∀p m,p<S.nq->(m∈(gB S s q n).a.ls p↔m∈s.a.ls p/\m≠n):=λp m hp=>DY h.wf hq hp hn;have iE:∀m,m≠n->(gB S s q n).a.val m=s.a.val m:=λm hm=>ak _ _ hm;have DZ:=DX hq hn;refine⟨R5 h.wf hq hn,λk m=>?_,λp hp=>?_,?_,?_,λp m hp hm=>?_,λp m hp hm=>?_,h.var⟩
 ·show aR s.f (s.a.val n).key none k=some m↔_;rw[dq];by_cases e:k=(s.a.val n).key
  ·rw[bk e];constructor
   ·intro h';simp at h'
   ·rintro⟨p,hp,hm,hk⟩;obtain⟨h1,h2⟩:=(fQ p m hp).1 hm;rw[iE m h2]at hk;exact absurd (h.one hp hq h1 hn (by rw[hk,e])) h2
  ·rw[aw e,h.idx];constructor
   ·rintro⟨p,hp,hm,hk⟩;have h2:m≠n:=λe'=>by subst e';exact e hk.symm
    exact⟨p,hp,(fQ p m hp).2 ⟨hm,h2⟩,by rw[iE m h2];exact hk⟩
   ·rintro⟨p,hp,hm,hk⟩;obtain⟨h1,h2⟩:=(fQ p m hp).1 hm;exact⟨p,hp,h1,by rw[iE m h2]at hk;exact hk⟩
 ·show(aR s.a.ls q _ p).length<=_;rw[dq];split
  ·next e=>subst e;rw[An hn];have:=h.len p hp;omega
  ·exact h.len p hp
 ·show(if S.gh q then s.total else s.total-1)=(gJ S (takeN s.a q n):Nat);have:=h.Jf;by_cases hg:S.gh q=true
  ·simp[hg]at DZ ⊢;omega
  ·simp[hg]at DZ ⊢;omega
 ·show gJ S (takeN s.a q n)<=_;have:=h.Rf;omega
 ·obtain⟨h1,h2⟩:=(fQ p m hp).1 hm;rw[iE m h2];exact h.tag p m hp h1
 ·obtain⟨h1,h2⟩:=(fQ p m hp).1 hm;rw[iE m h2];exact h.key p m hp h1
def NR{S:Sys}{s:St}(h:Inv S s){q n:Nat}(hq:q<S.nq)(hn:n∈s.a.ls q){x:eU}(hk:x.key=(s.a.val n).key)(hx:∀t,0<=x.tg t/\x.tg t<=255):Inv S (lZ s n x):=by
 have iE:∀m,(lZ s n x).a.val m=if m=n then x else s.a.val m:=λm=>rfl;have zQ:∀m,((lZ s n x).a.val m).key=(s.a.val m).key:=λm=>by
  rw[iE];split
  ·next e=>rw[e,hk]
  ·rfl
 refine⟨XL h.wf hq hn x,λk m=>?_,h.len,h.Jf,h.Rf,λp m hp hm t=>?_,λp m hp hm=>?_,h.var⟩
 ·refine(h.idx k m).trans ?_;constructor
  ·rintro⟨p,hp,hm,xE⟩;exact⟨p,hp,hm,by rw[zQ];exact xE⟩
  ·rintro⟨p,hp,hm,xE⟩;exact⟨p,hp,hm,by rw[zQ]at xE;exact xE⟩
 ·rw[iE];split
  ·exact hx t
  ·exact h.tag p m hp hm t
 ·rw[zQ];exact h.key p m hp hm
inductive uC
 |var (i:Nat) (pW:Int)
 |mark (pW:eU)
 |cut (q e:Nat)
 |put (q e:Nat) (x:eU)
 |out (q:Nat) (x:eU) (ahead:List Nat)
def kB(S:Sys)(s:St)(q e:Nat):St:=gB S s q (cN s.a q e)
def mQ(S:Sys):uC->St->St
 | .var i pW,s=>{s with vars:=aR s.vars i pW}
 | .mark pW,s=>match s.f pW.key with
   |some n=>lZ s n pW
   |none=>s
 | .cut q e,s=>kB S s q e
 | .put q e x,s=>jX S s q e x
 | .out q x ahead,s=>{jX S s q 0 x with a:=ahead.foldl (λb m=>oI b m q 0) (jX S s q 0 x).a}
def GF{nl:Nat}{a:Nd}{q e:Nat}(he:e<=1)(x:eU):cN (gQ a q e x) q e=a.fs 0:=by unfold cN;show(hd (dir (1-e) (aR a.ls q _ q))).toNat=_;rw[an,(I_ he _ _).2];rfl
def NS{S:Sys}{s:St}(h:Inv S s){q e:Nat}(hq:q<S.nq)(he:e<=1){x:eU}(hk:s.f x.key=none):mQ S (.cut q e) (jX S s q e x)=s:=by
 have e1:cN (jX S s q e x).a q e=s.a.fs 0:=GF (nl:=S.nq) he x;show gB S (jX S s q e x) q (cN (jX S s q e x).a q e)=s;rw[e1];have e2:(jX S s q e x).a.val (s.a.fs 0)=x:=an _ _ _;unfold gB;rw[e2];refine St.ext (KM h.wf hq x) ?_ rfl ?_
 ·show aR (aR s.f x.key _) x.key none=s.f;rw[gI,<-hk,fR]
 ·show(if S.gh q then(if S.gh q then s.total else s.total+1)else(if S.gh q then s.total else s.total+1) - 1)=s.total;by_cases hg:S.gh q=true<;>simp[hg]<;>omega
def NT{S:Sys}{s:St}(h:Inv S s){q e:Nat}(hq:q<S.nq)(he:e<=1)(bm:s.a.ls q≠[]):mQ S (.put q e (s.a.val (cN s.a q e))) (kB S s q e)=s:=by
 have hm:=gr (e:=e) bm;have gP:=h.wf.nd q hq;have hx:=(KO he bm).resolve_right (λh'=>h' gP);have hf:=(h.idx _ _).2 ⟨q,hq,hm,rfl⟩;generalize hn:cN s.a q e=n at*;show jX S (gB S s q (cN s.a q e)) q e (s.a.val n)=s;rw[hn];unfold jX gB;refine St.ext (KN hx gP.not_mem_erase) ?_ rfl ?_
 ·show aR (aR s.f _ none) _ (some n)=s.f;rw[gI,<-hf,fR]
 ·show(if S.gh q then(if S.gh q then s.total else s.total-1)else(if S.gh q then s.total else s.total-1)+1)=s.total;by_cases hg:S.gh q=true<;>simp[hg]<;>omega
def cy(l:List Nat)(n:Nat):List Nat:=(l.takeWhile λm=>m !=n).reverse
def nP{l:List Nat}{n:Nat}(h:n∈l):∃y,l=(cy l n).reverse++n::y/\n∉cy l n:=by
 unfold cy;rw[List.reverse_reverse]
 induction l with
 |nil=>simp at h
 |cons a t ih=>
  by_cases e:a=n
  ·subst e;exact⟨t,ay,ay⟩
  ·have h':n∈t:=by
    simp at h;rcases h with h|h
    ·exact absurd h.symm e
    ·exact h
   obtain⟨y,h1,h2⟩:=ih h';refine⟨y,?_,?_⟩
   ·rw[List.takeWhile_cons_of_pos (by simpa using e),List.cons_append,<-h1]
   ·rw[List.takeWhile_cons_of_pos (by simpa using e)];intro h3;rcases List.mem_cons.1 (List.mem_reverse.1 h3)with h3|h3
    ·exact e h3.symm
    ·exact h2 (List.mem_reverse.2 h3)
def NU{S:Sys}{s:St}(h:Inv S s){q n:Nat}(hq:q<S.nq)(hn:n∈s.a.ls q):mQ S (.out q (s.a.val n) (cy (s.a.ls q) n)) (gB S s q n)=s:=by
 obtain⟨y,h1,h2⟩:=nP hn;have gP:=h.wf.nd q hq;have hf:=(h.idx _ _).2 ⟨q,hq,hn,rfl⟩;generalize cy (s.a.ls q) n=x at*;have XW:n∉x.reverse:=by simpa using h2
 have he:(s.a.ls q).erase n=x.reverse++y:=by rw[h1,List.erase_append_right _ XW];simp
 unfold mQ;refine St.ext ?_ ?_ rfl ?_
 ·show x.foldl (λb m=>oI b m q 0) (gQ (takeN s.a q n) q 0 (s.a.val n))=s.a;have oC:(gQ (takeN s.a q n) q 0 (s.a.val n)).ls q=[n]++(x.reverse++y):=by show aR (aR s.a.ls q _) q (ext 0 (aR s.a.ls q _ q) n) q=_;rw[an,an,he];simp[Vm.ext]
  have XG:([n]++(x.reverse++y)).Nodup:=by have:List.Perm (n::(x.reverse++y)) (x.reverse++n::y):=List.perm_middle.symm;exact this.nodup_iff.2 (h1▸gP)
  have:=DU y x.reverse.length x.reverse [n] _ rfl oC XG;rw[List.reverse_reverse]at this;rw[this];refine Nd.ext ?_ ?_ rfl
  ·show aR (aR (aR s.a.ls q _) q _) q (x.reverse++([n]++y))=s.a.ls;rw[gI,gI];have:x.reverse++([n]++y)=s.a.ls q:=by rw[h1];rfl
   rw[this,fR]
  ·show aR (aR s.a.val n eh) n (s.a.val n)=s.a.val;rw[gI,fR]
 ·show aR (aR s.f _ none) _ (some n)=s.f;rw[gI,<-hf,fR]
 ·show(if S.gh q then(if S.gh q then s.total else s.total-1)else(if S.gh q then s.total else s.total-1)+1)=s.total;by_cases hg:S.gh q=true<;>simp[hg]<;>omega
def KQ{S:Sys}{s:St}(h:Inv S s){q n:Nat}(hq:q<S.nq)(hn:n∈s.a.ls q){x:eU}(hk:x.key=(s.a.val n).key):mQ S (.mark (s.a.val n)) (lZ s n x)=s:=by have hf:=(h.idx _ _).2 ⟨q,hq,hn,rfl⟩;unfold mQ;show(match s.f (s.a.val n).key with|some m=>lZ (lZ s n x) m (s.a.val n)|none=>lZ s n x)=s;rw[hf];exact St.ext (set_set s.a n x) rfl rfl rfl
def NV(S:Sys)(s:St)(i:Nat)(v:Int):mQ S (.var i (s.vars i)) {s with vars:=aR s.vars i v}=s:=by refine St.ext rfl rfl ?_ rfl;show aR (aR s.vars i v) i (s.vars i)=s.vars;rw[gI,fR]
structure Ins where
 op:Int
 a:Int
 b:Int
 c:Int
 d:Int
 deriving DecidableEq
structure Vr where
 init:Int
 lo:Int
 hi:Int
 deriving DecidableEq
structure aQ where
 bw:List Bool
 vars:List Vr
 aS:List Int
 on:List Int
 aT:Int
 code:List Ins
structure Cp where
 size:Int
 aK:List Int
def aC(p:aQ)(c:Cp):Sys:=⟨p.bw.length,λq=>p.bw.getD q false,λq=>(c.aK.getD q 0).toNat,c.size.toNat⟩
def within(n lo hi:Int):Int:=max lo (min hi n)
def lL(n:Int):Int:=within n (-1073741824) 1073741824
def oP(b:Bool):Int:=if b then 1 else 0
def xU(a b:Int):Int:=if b=0 then 0 else lL (if a.tmod b≠0/\(decide (a<0)≠decide (b<0))then a.tdiv b-1 else a.tdiv b)
def uI{n lo hi:Int}(h:lo<=hi):lo<=within n lo hi/\within n lo hi<=hi:=by unfold within;omega
def tE(n:Int): -1073741824<=lL n/\lL n<=1073741824:=uI bd
def mS(b:Bool):oP b=0\/oP b=1:=by cases b<;>simp[oP]
def Sv(a b:Int): -1073741824<=xU a b/\xU a b<=1073741824:=by
 unfold xU;split
 ·omega
 ·exact tE _
structure Rn where
 key:Nat
 at_:Nat
 stack:List Int
 loops:List Int
 hand:Option eU
 told:List Nat
 bY:Int
 bz:List uC
 done:Bool
def Rn.push(r:Rn)(n:Int):Rn:={r with stack:=n::r.stack}
def Rn.iX(r:Rn):Int:=r.stack.headD 0
def Rn.pop(r:Rn):Rn:={r with stack:=r.stack.tail}
def Rn.note(r:Rn)(u:uC):Rn:={r with bz:=u::r.bz}
def Rn.gd(r:Rn)(t:Int):Rn:={r with bY:=t}
def Rs(S:Sys)(a:Nd)(n:Nat):Nat:=((List.range S.nq).find? λq=>(a.ls q).contains n).getD 0
def mT{S:Sys}{a:Nd}(h:Wf S.nq a){q n:Nat}(hq:q<S.nq)(hn:n∈a.ls q):Rs S a n=q:=by
 unfold Rs;cases hf:(List.range S.nq).find? λq=>(a.ls q).contains n with
 |none=>have:=List.find?_eq_none.1 hf q (by simp[hq]);simp[hn]at this
 |some p=>have h1:=List.find?_some hf;have h2:=List.mem_of_find?_eq_some hf;simp at h1 h2;exact h.XJ p q n h2 hq h1 hn
abbrev SR:=St×Rn
def iZ(S:Sys)(x:SR)(q e:Nat)(v:eU):SR×Bool:=
 if(x.1.a.ls q).length=S.cq q\/(S.gh q=false/\x.1.total=S.sz)then((x.1,x.2.gd 1),false)else((jX S x.1 q e v,x.2.note (.cut q e)),true)
def uJ(S:Sys)(x:SR)(n q:Nat):SR:=(gB S x.1 q n,x.2.note (.out q (x.1.a.val n) (cy (x.1.a.ls q) n)))
def bC(S:Sys)(x:SR)(q e:Nat):SR×Bool:=
 if x.1.a.ls q=[]then((x.1,x.2.gd 2),false)
 else((kB S x.1 q e,{x.2.note (.put q e (x.1.a.val (cN x.1.a q e)))with hand:=some (x.1.a.val (cN x.1.a q e))}),true)
def rP(r:Rn):eU:=r.hand.getD eh
def dX(S:Sys)(x:SR)(q e:Nat):SR×Bool:=iZ S (x.1,{x.2 with hand:=none}) q e (rP x.2)
def hZ(x:SR):SR:=(x.1,{x.2 with told:=x.2.told++[(rP x.2).key]})
def il(x:SR):SR:=(x.1,{x.2 with hand:=none})
def nS(e:eU)(tag:Nat)(n m:Int):eU:=⟨e.key,aR e.tg tag (within n 0 m)⟩
def tF(p:aQ)(x:SR)(n tag:Nat)(v:Int):SR:=
 (lZ x.1 n (nS (x.1.a.val n) tag v (p.aS.getD tag 0)),x.2.note (.mark (x.1.a.val n)))
def wO(r:Rn)(at_:Nat):Rn:={r with loops:=r.loops.tail,at_:=at_}
def ot(op:Int)(a b:Int):Int:=
 if op=11 then min a b else if op=12 then max a b else if op=15 then lL (a*b)else if op=16 then xU a b else if op=17 then lL (a+b)
 else if op=18 then lL (a-b)else if op=19 then oP (decide (a=b))else if op=20 then oP (decide (a<b))else oP (decide (a<=b))
def N(i:Int):Nat:=i.toNat
def pC(S:Sys)(i:Ins)(x:SR):SR:=
 match x.1.f x.2.key with
 |some _=>(x.1,x.2.gd 3)
 |none=>(iZ S x (N i.a) (N i.b) ⟨x.2.key,λ_=>0⟩).1
def xV(S:Sys)(i:Ins)(x:SR):SR:=
 match x.1.f x.2.key with
 |none=>(x.1,x.2.gd 3)
 |some n=>(iZ S (uJ S x n (Rs S x.1.a n)) (N i.a) (N i.b) (x.1.a.val n)).1
def pD(S:Sys)(x:SR):SR:=
 match x.1.f x.2.key with
 |none=>(x.1,x.2.gd 3)
 |some n=>if S.gh (Rs S x.1.a n)then uJ S x n (Rs S x.1.a n)else(x.1,x.2.gd 3)
def qD(S:Sys)(i:Ins)(x:SR):SR:=let y:=bC S x (N i.a) (N i.b);if y.2 then(dX S y.1 (N i.c) (N i.d)).1 else y.1
def qE(S:Sys)(i:Ins)(x:SR):SR:=let y:=bC S x (N i.a) (N i.b);if y.2 then(dX S (hZ y.1) (N i.c) (N i.d)).1 else y.1
def qF(S:Sys)(i:Ins)(x:SR):SR:=let y:=bC S x (N i.a) (N i.b);if y.2 then il (hZ y.1)else y.1
def vM(S:Sys)(i:Ins)(x:SR):SR:=let y:=bC S x (N i.a) (N i.b);if y.2 then il y.1 else y.1
def BU(p:aQ)(i:Ins)(x:SR):SR:=
 let v:=p.vars.getD (N i.a) ⟨0,0,0⟩
 ({x.1 with vars:=aR x.1.vars (N i.a) (within x.2.iX v.lo v.hi)},(x.2.note (.var (N i.a) (x.1.vars (N i.a)))).pop)
def su(p:aQ)(i:Ins)(x:SR):SR:=
 match x.1.f x.2.key with
 |none=>(x.1,x.2.pop.gd 3)
 |some n=>tF p (x.1,x.2.pop) n (N i.a) x.2.iX
def mU(p:aQ)(i:Ins)(x:SR):SR:=
 if x.1.a.ls (N i.a)=[]then(x.1,x.2.pop.gd 2)else tF p (x.1,x.2.pop) (cN x.1.a (N i.a) (N i.b)) (N i.c) x.2.iX
def xW(i:Ins)(x:SR):SR:=
 match x.1.f x.2.key with
 |none=>(x.1,x.2.gd 3)
 |some n=>(x.1,x.2.push ((x.1.a.val n).tg (N i.a)))
def pE(i:Ins)(x:SR):SR:=
 if x.1.a.ls (N i.a)=[]then(x.1,x.2.gd 2)else(x.1,x.2.push ((x.1.a.val (cN x.1.a (N i.a) (N i.b))).tg (N i.c)))
def uK(S:Sys)(i:Ins)(x:SR):SR:=
 (x.1,x.2.push (oP (match x.1.f x.2.key with|none=>false|some n=>decide ((Rs S x.1.a n:Int)=i.a))))
def tG(i:Ins)(x:SR):SR:=
 if x.2.loops.headD 0=0 then(x.1,wO x.2 (N i.a))else(x.1,{x.2 with loops:=(x.2.loops.headD 0-1)::x.2.loops.tail})
def tH(i:Ins)(x:SR):SR:=if x.2.iX=0 then(x.1,wO x.2.pop (N i.a))else(x.1,x.2.pop)
def aJ(p:aQ)(c:Cp)(i:Ins)(x:SR):SR:=
 let S:=aC p c
 if i.op=0 then(x.1,{x.2 with done:=true})
 else if i.op=1\/i.op=2 then(x.1,x.2.push i.a)
 else if i.op=3 then(x.1,x.2.push (x.1.vars (N i.a)))
 else if i.op=4 then(x.1,x.2.push (x.1.a.ls (N i.a)).length)
 else if i.op=5 then(x.1,x.2.push (c.aK.getD (N i.a) 0))
 else if i.op=6 then(x.1,x.2.push c.size)
 else if i.op=7 then(x.1,x.2.push x.1.total)
 else if i.op=8 then uK S i x
 else if i.op=9 then xW i x
 else if i.op=10 then pE i x
 else if i.op=13 then(x.1,x.2.pop.push (-x.2.iX))
 else if i.op=14 then(x.1,x.2.pop.push (1-x.2.iX))
 else if 11<=i.op/\i.op<=21 then(x.1,x.2.pop.pop.push (ot i.op x.2.pop.iX x.2.iX))
 else if i.op=22\/i.op=27 then(x.1,{x.2 with at_:=N i.a})
 else if i.op=23 then(x.1,if x.2.iX=0 then{x.2.pop with at_:=N i.a}else x.2.pop)
 else if i.op=24 then(x.1,{x.2 with loops:=i.a::x.2.loops})
 else if i.op=25 then tG i x
 else if i.op=26 then tH i x
 else if i.op=28 then BU p i x
 else if i.op=29 then su p i x
 else if i.op=30 then mU p i x
 else if i.op=31 then pC S i x
 else if i.op=32 then xV S i x
 else if i.op=33 then pD S x
 else if i.op=34 then(bC S x (N i.a) (N i.b)).1
 else if i.op=35 then(dX S x (N i.a) (N i.b)).1
 else if i.op=36 then hZ x
 else if i.op=37 then il x
 else if i.op=38 then qD S i x
 else if i.op=39 then qE S i x
 else if i.op=40 then qF S i x
 else vM S i x
def cC(op:Nat):List Nat:=
 match op with
 |1=>[5]|2=>[6]|3=>[2]|4=>[1]|5=>[1]|8=>[1]|9=>[3]|10=>[1,4,3]
 |22=>[8]|23=>[8]|24=>[7]|25=>[8]|26=>[8]|27=>[8]
 |28=>[2]|29=>[3]|30=>[1,4,3]|31=>[1,4]|32=>[1,4]|34=>[1,4]|35=>[1,4]
 |38=>[1,4,1,4]|39=>[1,4,1,4]|40=>[1,4]|41=>[1,4]
 |_=>[]
def aO(n lo hi:Int):Bool:=decide (lo<=n)&&decide (n<=hi)
def jA(kind:Nat):Int:=if kind=5 then -1073741824 else 0
def jB(p:aQ)(kind:Nat):Int:=
 if kind=1 then(p.bw.length:Int) - 1 else if kind=2 then(p.vars.length:Int) - 1 else if kind=3 then(p.aS.length:Int) - 1
 else if kind=4 then 1 else if kind=5 then 1073741824 else if kind=6 then 1 else if kind=7 then 4194304 else if kind=8 then(p.code.length:Int) - 1 else 0
def br(p:aQ)(kind:Nat)(n:Int):Bool:=aO n (jA kind) (jB p kind)
def operands(i:Ins):List Int:=[i.a,i.b,i.c,i.d]
def ir(p:aQ)(i:Ins):Bool:=
 br p ((cC i.op.toNat).getD 0 0) i.a&&br p ((cC i.op.toNat).getD 1 0) i.b&&br p ((cC i.op.toNat).getD 2 0) i.c&&br p ((cC i.op.toNat).getD 3 0) i.d
def jH(i:Ins):Bool:=aO i.op 0 41
def nV(v:Vr):Bool:=decide (v.lo<=v.init)&&decide (v.init<=v.hi)&&decide (-1073741824<=v.lo)&&decide (v.hi<=1073741824)
def cm(p:aQ):Bool:=
 decide (p.bw.length<=16)&&decide (p.vars.length<=16)&&decide (p.aS.length<=4)&&decide (p.on.length=p.bw.length)&&decide (p.code.length<=262144)&&
 p.vars.all nV&&p.aS.all (λt=>aO t 1 255)&&p.on.all (λn=>aO n (-1) ((p.code.length:Int) - 1))&&aO p.aT (-1) ((p.code.length:Int) - 1)
def dH(p:aQ):List Ins->Int
 |[]=>0
 |i::l=>if jH i then(if ir p i then dH p l else 92)else 91
def bq(p:aQ):Int:=if cm p then dH p p.code else 85
structure Std where
 ty:List Nat
 lo:List Nat
 ha:Nat
 deriving DecidableEq
abbrev Map:=Nat->Option Std
def b_(op:Nat):List Nat:=
 match op with
 |11|12|15|16|17|18|20|21=>[1,1]
 |13=>[1]|14=>[2]|19=>[3,3]|23|26=>[2]|28|29|30=>[1]
 |_=>[]
def cG(op:Nat):Nat:=
 match op with
 |1|3|4|5|6|7|9|10|11|12|13|15|16|17|18=>1
 |2|8|14|19|20|21=>2
 |_=>0
def iK:List Nat->List Nat->Bool
 |[],_=>true
 |w::ws,t::ts=>(w==3||t==w)&&iK ws ts
 |_::_,[]=>false
def bF(p:aQ)(n:Int):Bool:=p.bw.getD n.toNat false
def al(p:aQ)(n:Nat):Ins:=p.code.getD n ⟨0,0,0,0,0⟩
def fo(p:aQ)(x:Ins)(ha:Nat):Bool:=
 if x.op=36 then ha==2
 else if x.op=37 then ha==1||ha==3
 else if x.op=35 then(if bF p x.a then ha==1||ha==3 else ha==2)
 else if x.op=28\/x.op=29\/x.op=30 then true
 else(decide (1<=x.op)&&decide (x.op<=21))||ha==0
def bQ(x:Ins)(ty:List Nat):Int:=
 let t:=b_ x.op.toNat
 if ty.length<t.length\/(x.op=0/\0<ty.length)\/(cG x.op.toNat≠0/\256<ty.length-t.length+1)then 93
 else if !iK t ty||(decide (x.op=19)&&ty.getD 0 0 !=ty.getD 1 0)then 94 else 0
def a_(x:Ins)(ty:List Nat):List Nat:=
 let r:=ty.drop (b_ x.op.toNat).length
 if cG x.op.toNat=0 then r else cG x.op.toNat::r
def c_(p:aQ)(x:Ins):Bool:=
 if x.op=32\/x.op=40 then !bF p x.a
 else if x.op=41 then bF p x.a
 else if x.op=38 then bF p x.a==bF p x.c
 else if x.op=39 then !bF p x.a&&bF p x.c
 else true
def cP(p:aQ)(T:Map)(pc:Nat)(x:Ins)(ty lo:List Nat):Bool:=
 if(x.op=22\/x.op=23\/x.op=25\/x.op=26)/\(x.a<=pc\/(al p x.a.toNat).op=25)then false
 else if x.op=24 then decide (pc+1<p.code.length)&&decide ((al p (pc+1)).op=25)
 else if x.op=25 then decide (0<pc)&&decide ((al p (pc-1)).op=24)&&decide (p.aT≠pc)&& !p.on.contains (pc:Int)
 else if x.op=26 then(match lo with|[]=>false|t::_=>decide (x.a=(al p t).a))
 else if x.op=27 then(match lo with|[]=>false|t::l=>decide (x.a=t)&&(match T t with|some s=>decide (s.ty=ty/\s.lo=l)|none=>decide (ty=[]/\l=[])))
 else if x.op=0 then lo.isEmpty
 else true
def bE(p:aQ)(x:Ins)(ha:Nat):Nat:=
 if x.op=36 then 3 else if x.op=35\/x.op=37 then 0 else if x.op=34 then(if bF p x.a then 1 else 2)else ha
def cH(pc:Nat)(x:Ins)(s:Std):List (Nat×Std):=
 if x.op=0\/x.op=27 then[]
 else if x.op=22 then[(x.a.toNat,s)]
 else if x.op=23 then[(pc+1,s),(x.a.toNat,s)]
 else if x.op=25 then[(pc+1,{s with lo:=pc::s.lo}),(x.a.toNat,s)]
 else if x.op=26 then[(pc+1,s),(x.a.toNat,{s with lo:=s.lo.tail})]
 else[(pc+1,s)]
def m_(T:Map)(l:List (Nat×Std)):Bool:=l.all λw=>match T w.1 with|some s=>decide (s=w.2)|none=>true
def kq:List (Nat×Std)->Bool
 |[]=>true
 |w::l=>(l.all λv=>decide (v.1=w.1)==false||decide (v.2=w.2))&&kq l
def qL(T:Map):List (Nat×Std)->Map
 |[]=>T
 |w::l=>qL (aR T w.1 (some w.2)) l
def dl(p:aQ)(T:Map)(pc:Nat):Int:=
 let x:=al p pc
 match T pc with
 |none=>99
 |some s=>
  if !fo p x s.ha then 96
  else if bQ x s.ty≠0 then bQ x s.ty
  else if !c_ p x then 92
  else if !cP p T pc x (a_ x s.ty) s.lo then 95
  else
   let l:=cH pc x ⟨a_ x s.ty,s.lo,bE p x s.ha⟩
   if l.any (λw=>decide (p.code.length<=w.1))then 98
   else if !(kq l&&m_ T l)then 94 else 0
def jp(p:aQ)(T:Map)(pc:Nat):Map:=
 let x:=al p pc
 match T pc with
 |none=>T
 |some s=>qL T (cH pc x ⟨a_ x s.ty,s.lo,bE p x s.ha⟩)
def looks(p:aQ):Nat->Nat->Map->(Int×Nat) ⊕ Map
 |0,_,T=> .inr T
 |k+1,pc,T=>if dl p T pc=0 then looks p k (pc+1) (jp p T pc)else .inl (dl p T pc,pc)
def dA(p:aQ):Map:=λpc=>if(p.on++[p.aT]).contains (pc:Int)then some ⟨[],[],0⟩else none
def MS:Nat:=4611686018427387904
def bG(a b:Nat):Nat:=if MS-b<a then MS else a+b
def eM(a b:Nat):Nat:=if a*b<=MS then a*b else MS
def lP(p:aQ)(g:Nat->Nat)(pc:Nat):Nat:=
 let x:=al p pc
 if x.op=0\/x.op=27 then 1
 else if x.op=22 then bG 1 (g x.a.toNat)
 else if x.op=23 then bG 1 (max (g (pc+1)) (g x.a.toNat))
 else if x.op=24 then bG (bG 1 (eM x.a.toNat (bG 1 (g (pc+2))))) (bG 1 (g (al p (pc+1)).a.toNat))
 else bG 1 (g (pc+1))
def dQ(p:aQ):Nat->(Nat->Nat)
 |0=>λ_=>0
 |k+1=>let g:=dQ p k;aR g (p.code.length-1-k) (lP p g (p.code.length-1-k))
def lB(p:aQ):Nat->Nat:=dQ p p.code.length
def MF:Nat:=1152921504606846976
def bU(p:aQ)(n:Int):Nat:=if n<0 then 0 else lB p n.toNat
def bt(p:aQ):List Int->Option Int
 |[]=>none
 |n::l=>if MF<bU p n then some n else bt p l
def aW(p:aQ):Int×Int:=
 if bq p≠0 then(bq p,0)
 else match looks p p.code.length 0 (dA p)with
  | .inl (e,at_)=>(e,at_)
  | .inr _=>match bt p (p.on++[p.aT])with
    |some n=>(97,n)
    |none=>(0,0)
def dB(p:aQ)(T:Map)(q:Nat):List Nat->Prop
 |[]=>True
 |t::l=>t<q/\(al p t).op=25/\∃s,T t=some s/\s.lo=l
def gg(p:aQ)(pc:Nat)(s:Std):List (Nat×Std):=cH pc (al p pc) ⟨a_ (al p pc) s.ty,s.lo,bE p (al p pc) s.ha⟩
structure qN(p:aQ)(T:Map)(pc:Nat)(s:Std):Prop where
 at_:T pc=some s
 l_:fo p (al p pc) s.ha=true
 taken:bQ (al p pc) s.ty=0
 kinds:c_ p (al p pc)=true
 jumps:cP p T pc (al p pc) (a_ (al p pc) s.ty) s.lo=true
 ways:∀w,w∈gg p pc s->w.1<p.code.length/\T w.1=some w.2
structure Typed(p:aQ)(T:Map):Prop where
 all:∀pc,pc<p.code.length->∃s,qN p T pc s
 loops:∀q s,T q=some s->dB p T q s.lo
 B7:∀b,b∈p.on++[p.aT]->0<=b->T b.toNat=some ⟨[],[],0⟩
def Sub(T T':Map):Prop:=∀q s,T q=some s->T' q=some s
def Sub.refl(T:Map):Sub T T:=λ_ _ h=>h
def Sub.trans{A B C:Map}(h:Sub A B)(k:Sub B C):Sub A C:=λq s e=>k q s (h q s e)
def dB.sub{p:aQ}{T T':Map}(h:Sub T T'){q:Nat}{l:List Nat}(k:dB p T q l):dB p T' q l:=by
 cases l with
 |nil=>trivial
 |cons t l=>obtain⟨a,b,s,c,d⟩:=k;exact⟨a,b,s,h _ _ c,d⟩
def dB.later{p:aQ}{T:Map}{q r:Nat}{l:List Nat}(k:dB p T q l)(h:q<=r):dB p T r l:=by
 cases l with
 |nil=>trivial
 |cons t l=>obtain⟨a,b⟩:=k;exact⟨O,b⟩
def B_:∀(l:List (Nat×Std)) (T:Map),kq l=true->m_ T l=true->Sub T (qL T l)/\(∀w,w∈l->qL T l w.1=some w.2)/\(∀q s,qL T l q=some s->T q=some s\/(q,s)∈l):=by
 intro l
 induction l with
 |nil=>intro T _ _;exact⟨Sub.refl _,λw hw=>by simp at hw,λq s h=> .inl h⟩
 |cons w l ih=>
  intro T hs hm;unfold kq at hs;simp only[fp]at hs;have iY:m_ (aR T w.1 (some w.2)) l=true:=by
   unfold m_ at hm ⊢;rw[qM]at hm ⊢;intro v hv;have h1:=hm v (by simp[hv]);have h2:=(List.all_eq_true.1 hs.1) v hv;by_cases e:v.1=w.1
   ·rw[e,an];simp[e]at h2;simp[h2]
   ·rw[ak _ _ e];exact h1
  obtain⟨a,b,c⟩:=ih (aR T w.1 (some w.2)) hs.2 iY;have NK:Sub T (aR T w.1 (some w.2)):=by
   intro q s h;by_cases e:q=w.1
   ·subst e;rw[an];unfold m_ at hm;have:=(List.all_eq_true.1 hm) w ay;rw[h]at this;simp at this;rw[this]
   ·rw[ak _ _ e];exact h
  refine⟨NK.trans a,λv hv=>?_,λq s h=>?_⟩
  ·rcases List.mem_cons.1 hv with rfl|hv
   ·exact a _ _ (an _ _ _)
   ·exact b v hv
  ·rcases c q s h with h|h
   ·by_cases e:q=w.1
    ·subst e;rw[an]at h;right;simp;left;rw[<-sd h]
    ·rw[ak _ _ e]at h;exact .inl h
   ·right;simp[h]
def look_ok{p:aQ}{T:Map}{pc:Nat}(h:dl p T pc=0):∃s,T pc=some s/\fo p (al p pc) s.ha=true/\bQ (al p pc) s.ty=0/\c_ p (al p pc)=true/\
 cP p T pc (al p pc) (a_ (al p pc) s.ty) s.lo=true/\(∀w,w∈gg p pc s->w.1<p.code.length)/\kq (gg p pc s)=true/\m_ T (gg p pc s)=true/\jp p T pc=qL T (gg p pc s):=by
 unfold dl at h;cases hT:T pc with
 |none=>rw[hT]at h;simp at h
 |some s=>
  rw[hT]at h;dsimp only at h;split at h
  ·simp at h
  ·next h1=>
   split at h
   ·next h2=>exact absurd h h2
   ·next h2=>
    split at h
    ·simp at h
    ·next h3=>
     split at h
     ·simp at h
     ·next h4=>
      split at h
      ·simp at h
      ·next h5=>
       split at h
       ·simp at h
       ·next h6=>
        refine⟨s,rfl,by simpa using h1,by simpa using h2,by simpa using h3,by simpa using h4,?_,?_,?_,?_⟩
        ·intro w hw;simp only[Bool.not_eq_true,List.any_eq_false]at h5;have:=h5 w hw;simp at this;exact this
        ·simp at h6;exact h6.1
        ·simp at h6;exact h6.2
        ·unfold jp;rw[hT];rfl
def uN{p:aQ}{T:Map}{pc:Nat}{s:Std}(hT:T pc=some s)(hl:∀q s,T q=some s->dB p T q s.lo)(hj:cP p T pc (al p pc) (a_ (al p pc) s.ty) s.lo=true){w:Nat×Std}(hw:w∈gg p pc s):dB p T w.1 w.2.lo:=by
 have h0:=hl pc s hT;unfold gg cH at hw;generalize hx:al p pc=x at*;unfold cP at hj;split at hw
 ·simp at hw
 split at hw
 ·next h22=>
  simp at hw;subst hw;have hc:¬((x.op=22\/x.op=23\/x.op=25\/x.op=26)/\(x.a<=pc\/(al p x.a.toNat).op=25)):=by intro h';rw[bk h']at hj;simp at hj
  exact h0.later O
 split at hw
 ·next h23=>
  have hc:¬((x.op=22\/x.op=23\/x.op=25\/x.op=26)/\(x.a<=pc\/(al p x.a.toNat).op=25)):=by intro h';rw[bk h']at hj;simp at hj
  simp at hw;rcases hw with rfl|rfl
  ·exact h0.later ay
  ·exact h0.later jz
 split at hw
 ·next Pq=>
  have hc:¬((x.op=22\/x.op=23\/x.op=25\/x.op=26)/\(x.a<=pc\/(al p x.a.toNat).op=25)):=by intro h';rw[bk h']at hj;simp at hj
  simp at hw;rcases hw with rfl|rfl
  ·exact⟨ay,by rw[hx];exact Pq,s,hT,rfl⟩
  ·exact h0.later jz
 split at hw
 ·next SG=>
  have hc:¬((x.op=22\/x.op=23\/x.op=25\/x.op=26)/\(x.a<=pc\/(al p x.a.toNat).op=25)):=by intro h';rw[bk h']at hj;simp at hj
  simp at hw;rcases hw with rfl|rfl
  ·exact h0.later ay
  ·dsimp only;cases jo:s.lo with
   |nil=>trivial
   |cons t l=>rw[jo]at h0;obtain⟨a,b,s',c,d⟩:=h0;have:=hl t s' c;rw[d]at this;exact this.later O
 ·simp at hw;subst hw;exact h0.later ay
def Lq{p:aQ}{T T':Map}{pc:Nat}{x:Ins}{ty lo:List Nat}(h:Sub T T')(hs:∀t l,lo=t::l->∃s,T t=some s)(hj:cP p T pc x ty lo=true):cP p T' pc x ty lo=true:=by
 unfold cP at hj ⊢;split at hj
 ·simp at hj
 next h0=>
 rw[aw h0];split at hj
 ·next h1=>rw[bk h1];exact hj
 next h1=>
 rw[aw h1];split at hj
 ·next h2=>rw[bk h2];exact hj
 next h2=>
 rw[aw h2];split at hj
 ·next h3=>rw[bk h3];exact hj
 next h3=>
 rw[aw h3];split at hj
 ·next h4=>
  rw[bk h4];cases lo with
  |nil=>simp at hj
  |cons t l=>obtain⟨s,hts⟩:=hs t l rfl;dsimp only at hj ⊢;rw[h t s hts];rw[hts]at hj;exact hj
 next h4=>
 rw[aw h4];exact hj
def Ey{p:aQ}:∀(k pc:Nat) (T T':Map),looks p k pc T= .inr T'->(∀q s,T q=some s->dB p T q s.lo)->
 Sub T T'/\(∀q s,T' q=some s->dB p T' q s.lo)/\∀q,pc<=q->q<pc+k->∃s,qN p T' q s:=by
 intro k
 induction k with
 |zero=>
  intro pc T T' h hl;have:T=T':=by unfold looks at h;exact Sum.inr.inj h
  subst this;exact⟨Sub.refl _,hl,λq h1 h2=>O⟩
 |succ k ih=>
  intro pc T T' h hl;unfold looks at h;split at h
  ·next h0=>
   obtain⟨s,hT,g1,g2,g3,g4,g5,g6,g7,g8⟩:=look_ok h0;obtain⟨a1,a2,a3⟩:=B_ _ T g6 g7;rw[g8]at h;have XM:∀q s',qL T (gg p pc s) q=some s'->dB p (qL T (gg p pc s)) q s'.lo:=by
    intro q s' hq;rcases a3 q s' hq with h1|h1
    ·exact(hl q s' h1).sub a1
    ·exact(uN hT hl g4 h1).sub a1
   obtain⟨b1,b2,b3⟩:=ih (pc+1) _ T' h XM;refine⟨a1.trans b1,b2,λq h1 h2=>?_⟩;by_cases e:q=pc
   ·subst e;refine⟨s,b1 _ _ (a1 _ _ hT),g1,g2,g3,?_,λw hw=>⟨g5 w hw,b1 _ _ (a2 w hw)⟩⟩;refine Lq (a1.trans b1) ?_ g4;intro t l e';have:=hl q s hT;rw[e']at this;obtain⟨_,_,s',Ea,_⟩:=this;exact⟨s',Ea⟩
   ·exact b3 q O O
  ·simp at h
def uO(p:aQ):∀q s,dA p q=some s->dB p (dA p) q s.lo:=by
 intro q s h;unfold dA at h;split at h
 ·have:=sd h;rw[<-this];trivial
 ·simp at h
def tL{p:aQ}{e:Int×Int}(h:aW p=e)(he:e.1=0):bq p=0/\∃T,Typed p T/\bt p (p.on++[p.aT])=none:=by
 unfold aW at h;split at h
 ·next h0=>rw[<-h]at he;exact absurd he h0
 next h0=>
 have h0':bq p=0:=O;cases hl:looks p p.code.length 0 (dA p)with
 |inl v=>
  obtain⟨e1,a⟩:=v;rw[hl]at h;dsimp only at h;exfalso;have key:∀(k pc:Nat) (T:Map) e1 a,looks p k pc T= .inl (e1,a)->e1≠0:=by
   intro k
   induction k with
   |zero=>intro pc T e1 a h;unfold looks at h;simp at h
   |succ k ih=>
    intro pc T e1 a h;unfold looks at h;split at h
    ·exact ih _ _ _ _ h
    ·next bm=>simp at h;rw[<-h.1];exact bm
  rw[<-h]at he;exact key _ _ _ _ _ hl he
 |inr T=>
  rw[hl]at h;dsimp only at h;obtain⟨a,b,d⟩:=Ey _ _ _ _ hl (uO p);refine⟨h0',T,⟨λpc oT=>d pc (Nat.zero_le _) O,b,λb' X ep=>?_⟩,?_⟩
  ·refine a _ _ ?_;unfold dA;rw[bk];rw[Int.toNat_of_nonneg ep];simpa using X
  ·cases he':bt p (p.on++[p.aT])with
   |none=>rfl
   |some n=>rw[he']at h;dsimp only at h;rw[<-h]at he;simp at he
def uy(t:Nat)(n:Int):Prop:=if t=2 then n=0\/n=1 else -1073741824<=n/\n<=1073741824
def AO:List Int->List Nat->Prop
 |[],[]=>True
 |n::st,t::ty=>uy t n/\AO st ty
 |_,_=>False
def uy.num{n:Int}(h: -1073741824<=n/\n<=1073741824):uy 1 n:=by unfold uy;rw[aw bd];exact h
def uy.bool{n:Int}(h:n=0\/n=1):uy 2 n:=by unfold uy;rw[bk rfl];exact h
def uy.in{t:Nat}{n:Int}(h:uy t n): -1073741824<=n/\n<=1073741824:=by
 unfold uy at h;split at h
 ·omega
 ·exact h
def Safe(S:Sys)(nv:Nat)(s:St):uC->Prop
 | .var i pW=>i<nv
 | .mark pW=>∃q n,q<S.nq/\n∈s.a.ls q/\s.f pW.key=some n
 | .cut q e=>q<S.nq/\e<=1/\s.a.ls q≠[]
 | .put q e x=>q<S.nq/\e<=1/\s.f x.key=none/\(s.a.ls q).length<S.cq q/\(S.gh q=true\/s.total<S.sz)
 | .out q x ahead=>q<S.nq/\s.f x.key=none/\(s.a.ls q).length<S.cq q/\(S.gh q=true\/s.total<S.sz)/\∀m,m∈ahead->m∈s.a.ls q
def Good(S:Sys)(nv:Nat)(s0:St):List uC->St->Prop
 |[],s=>s=s0
 |u::l,s=>Safe S nv s u/\Inv S (mQ S u s)/\Good S nv s0 l (mQ S u s)
def Yj(s:St)(h:Option eU):Prop:=∀x,h=some x->s.f x.key=none/\(∀t,0<=x.tg t/\x.tg t<=255)/\x.key<18446744073709551616
structure fJ(S:Sys)(nv:Nat)(s0:St)(x:SR):Prop where
 inv:Inv S x.1
 zX:Good S nv s0 x.2.bz x.1
 hand:Yj x.1 x.2.hand
 key:x.2.key<18446744073709551616
 told:∀k,k∈x.2.told->k<18446744073709551616
def yq{S:Sys}{nv:Nat}{s0:St}{x:SR}(h:fJ S nv s0 x){q e:Nat}(hq:q<S.nq)(he:e<=1){v:eU}(hk:x.1.f v.key=none)(hv:∀t,0<=v.tg t/\v.tg t<=255)(zQ:v.key<18446744073709551616)(hh:x.2.hand=none):
 fJ S nv s0 (iZ S x q e v).1/\(iZ S x q e v).1.2.hand=none/\((iZ S x q e v).2=true->(iZ S x q e v).1.2=x.2.note (.cut q e))/\((iZ S x q e v).2=false->(iZ S x q e v).1.2=x.2.gd 1):=by
 unfold iZ;split
 ·exact⟨⟨h.inv,h.zX,h.hand,h.key,h.told⟩,hh,λe'=>by simp at e',λ_=>rfl⟩
 ·next hn=>
  have hl:(x.1.a.ls q).length<S.cq q:=by have:=h.inv.len q hq;omega
  have ht:S.gh q=true\/x.1.total<S.sz:=by
   have h1:=h.inv.Jf;have h2:=h.inv.Rf;by_cases hg:S.gh q=true
   ·exact .inl hg
   ·right;have:¬x.1.total=S.sz:=λe'=>hn (.inr ⟨by simpa using hg,e'⟩);omega
  have hu:=NS h.inv hq he hk;refine⟨⟨R6 h.inv hq hk hl ht hv zQ,⟨⟨hq,he,?_⟩,?_⟩,?_,h.key,h.told⟩,hh,λ_=>rfl,λe'=>by simp at e'⟩
  ·intro e';have:x.1.a.fs 0∈(jX S x.1 q e v).a.ls q:=kY.2 (.inl ⟨rfl,rfl⟩);rw[e']at this;simp at this
  ·show Inv S (mQ S (.cut q e) (jX S x.1 q e v))/\Good S nv s0 x.2.bz (mQ S (.cut q e) (jX S x.1 q e v));rw[hu];exact⟨h.inv,h.zX⟩
  ·intro y hy;have:x.2.hand=some y:=hy;rw[hh]at this;simp at this
def AP{S:Sys}{s:St}(h:Inv S s){q n:Nat}(hq:q<S.nq)(hn:n∈s.a.ls q):
 ((gB S s q n).a.ls q).length<S.cq q/\(S.gh q=true\/(gB S s q n).total<S.sz)/\(gB S s q n).f (s.a.val n).key=none:=by
 have h1:=h.len q hq;have h2:=yR hn;refine⟨?_,?_,an _ _ _⟩
 ·show(aR s.a.ls q _ q).length<_;rw[an,An hn];omega
 ·have h3:=h.Jf;have h4:=h.Rf;by_cases hg:S.gh q=true
  ·exact .inl hg
  ·right;show(if S.gh q then s.total else s.total-1)<_;simp[hg];omega
def Ez{S:Sys}{nv:Nat}{s0:St}{x:SR}(h:fJ S nv s0 x){n q:Nat}(hq:q<S.nq)(hn:n∈x.1.a.ls q)(hh:x.2.hand=none):
 fJ S nv s0 (uJ S x n q)/\(uJ S x n q).1.f (x.1.a.val n).key=none:=by
 obtain⟨r1,r2,r3⟩:=AP h.inv hq hn;have hu:=NU h.inv hq hn;refine⟨⟨kZ h.inv hq hn,⟨⟨hq,r3,r1,r2,λm hm=>?_⟩,?_⟩,?_,h.key,h.told⟩,r3⟩
 ·obtain⟨y,h1,h2⟩:=nP hn;refine(DY h.inv.wf hq hq hn).2 ⟨?_,λe=>by subst e;exact h2 hm⟩;rw[h1];simp[hm]
 ·show Inv S (mQ S _ (gB S x.1 q n))/\Good S nv s0 x.2.bz (mQ S _ (gB S x.1 q n));rw[hu];exact⟨h.inv,h.zX⟩
 ·intro y hy;have:x.2.hand=some y:=hy;rw[hh]at this;simp at this
def yr{S:Sys}{nv:Nat}{s0:St}{x:SR}(h:fJ S nv s0 x){q e:Nat}(hq:q<S.nq)(he:e<=1)(hh:x.2.hand=none):
 fJ S nv s0 (bC S x q e).1/\((bC S x q e).2=false->(bC S x q e).1.2=x.2.gd 2)/\
 ((bC S x q e).2=true->∃v,(bC S x q e).1.2={x.2.note (.put q e v)with hand:=some v}):=by
 unfold bC;split
 ·exact⟨⟨h.inv,h.zX,h.hand,h.key,h.told⟩,λ_=>rfl,λe'=>by simp at e'⟩
 ·next bm=>
  have hm:=gr (e:=e) bm;obtain⟨r1,r2,r3⟩:=AP h.inv hq hm;have hu:=NT h.inv hq he bm;refine⟨⟨kZ h.inv hq hm,⟨⟨hq,he,r3,r1,r2⟩,?_⟩,?_,h.key,h.told⟩,λe'=>by simp at e',λ_=>⟨_,rfl⟩⟩
  ·show Inv S (mQ S (.put q e _) (kB S x.1 q e))/\Good S nv s0 x.2.bz (mQ S (.put q e _) (kB S x.1 q e));rw[hu];exact⟨h.inv,h.zX⟩
  ·intro y hy;have:y=x.1.a.val (cN x.1.a q e):=(sd hy).symm;subst this;exact⟨r3,h.inv.tag q _ hq hm,h.inv.key q _ hq hm⟩
def AQ{S:Sys}{nv:Nat}{s0:St}{p:aQ}{x:SR}(h:fJ S nv s0 x){q n tag:Nat}(hq:q<S.nq)(hn:n∈x.1.a.ls q)(v:Int)(hm:0<=p.aS.getD tag 0/\p.aS.getD tag 0<=255):
 fJ S nv s0 (tF p x n tag v):=by
 have fD:=uI (n:=v) hm.1;have hx:∀t,0<=(nS (x.1.a.val n) tag v (p.aS.getD tag 0)).tg t/\(nS (x.1.a.val n) tag v (p.aS.getD tag 0)).tg t<=255:=by
  intro t;show 0<=aR _ _ _ _/\aR _ _ _ _<=_;rw[dq];split
  ·omega
  ·exact h.inv.tag q n hq hn t
 have hu:=KQ (x:=nS (x.1.a.val n) tag v (p.aS.getD tag 0)) h.inv hq hn rfl;refine⟨NR h.inv hq hn rfl hx,⟨⟨q,n,hq,hn,(h.inv.idx _ _).2 ⟨q,hq,hn,rfl⟩⟩,?_⟩,h.hand,h.key,h.told⟩;show Inv S (mQ S _ (lZ x.1 n _))/\Good S nv s0 x.2.bz (mQ S _ (lZ x.1 n _));rw[hu];exact⟨h.inv,h.zX⟩
def OL{S:Sys}{nv:Nat}{s0:St}{x:SR}(h:fJ S nv s0 x){i:Nat}(hi:i<nv){v:Int}(hv: -1073741824<=v/\v<=1073741824):
 fJ S nv s0 ({x.1 with vars:=aR x.1.vars i v},x.2.note (.var i (x.1.vars i))):=by
 have hu:=NV S x.1 i v;refine⟨⟨h.inv.wf,h.inv.idx,h.inv.len,h.inv.Jf,h.inv.Rf,h.inv.tag,h.inv.key,λj=>?_⟩,⟨hi,?_⟩,h.hand,h.key,h.told⟩
 ·show _<=aR _ _ _ _/\aR _ _ _ _<=_;rw[dq];split
  ·exact hv
  ·exact h.inv.var j
 ·show Inv S (mQ S _ {x.1 with vars:=aR x.1.vars i v})/\Good S nv s0 x.2.bz (mQ S _ {x.1 with vars:=aR x.1.vars i v});rw[hu];exact⟨h.inv,h.zX⟩
def fJ.same{S:Sys}{nv:Nat}{s0:St}{s:St}{r r':Rn}(h:fJ S nv s0 (s,r))(h1:r'.bz=r.bz)(h2:r'.hand=r.hand\/r'.hand=none)(h3:r'.key=r.key)(h4:r'.told=r.told):fJ S nv s0 (s,r'):=
 ⟨h.inv,by show Good S nv s0 r'.bz s;rw[h1];exact h.zX,by
   intro x hx;rcases h2 with h2|h2
   ·exact h.hand x (by rw[<-h2];exact hx)
   ·have:r'.hand=some x:=hx;rw[h2]at this;simp at this,by show r'.key<_;rw[h3];exact h.key,by show∀k,k∈r'.told->_;rw[h4];exact h.told⟩
section
structure ow(p:aQ)(c:Cp):Prop where
 s1:1<=c.size
 s2:c.size<=1048576
 len:c.aK.length=p.bw.length
 q1:∀q,q<p.bw.length->1<=c.aK.getD q 0/\c.aK.getD q 0<=1048576
structure Env(p:aQ)(c:Cp)(T:Map):Prop where
 rQ:Typed p T
 check:bq p=0
 gM:ow p c
def Hc{p:aQ}:∀(l:List Ins),dH p l=0->∀i,i∈l->jH i=true/\ir p i=true:=by
 intro l
 induction l with
 |nil=>intro _ i hi;simp at hi
 |cons a l ih=>
  intro h i hi;unfold dH at h;split at h
  ·next h1=>
   split at h
   ·next h2=>
    rcases List.mem_cons.1 hi with rfl|hi
    ·exact⟨h1,h2⟩
    ·exact ih h i hi
   ·simp at h
  ·simp at h
structure tM(p:aQ):Prop where
 g:p.bw.length<=16
 v:p.vars.length<=16
 t:p.aS.length<=4
 on:p.on.length=p.bw.length
 code:p.code.length<=262144
 vars:∀v,v∈p.vars->v.lo<=v.init/\v.init<=v.hi/\-1073741824<=v.lo/\v.hi<=1073741824
 aS:∀t,t∈p.aS->1<=t/\t<=255
 ons:∀n,n∈p.on->-1<=n/\n<=(p.code.length:Int) - 1
 aT: -1<=p.aT/\p.aT<=(p.code.length:Int) - 1
def Lr{p:aQ}(h:cm p=true):tM p:=by
 unfold cm at h;simp only[fp,ft,qM]at h;obtain⟨⟨⟨⟨⟨⟨⟨⟨h1,h2⟩,h3⟩,h4⟩,h5⟩,h6⟩,h7⟩,h8⟩,h9⟩:=h;refine⟨h1,h2,h3,h4,h5,λv hv=>?_,λt ht=>?_,λn hn=>?_,?_⟩
 ·have:=h6 v hv;unfold nV at this;simp only[fp,ft]at this;omega
 ·have:=h7 t ht;unfold aO at this;simpa only[fp,ft]using this
 ·have:=h8 n hn;unfold aO at this;simpa only[fp,ft]using this
 ·unfold aO at h9;simpa only[fp,ft]using h9
def cE{p:aQ}(h:bq p=0):tM p/\∀i,i∈p.code->jH i=true/\ir p i=true:=by
 unfold bq at h;split at h
 ·next h1=>exact⟨Lr h1,Hc _ h⟩
 ·simp at h
def gj{p:aQ}{pc:Nat}(h:pc<p.code.length):al p pc∈p.code:=by unfold al;rw[aY,fq h];exact jO h
def gV{p:aQ}{i:Ins}(h:ir p i=true){k:Nat}(dW:i.op.toNat=k):
 br p ((cC k).getD 0 0) i.a=true/\br p ((cC k).getD 1 0) i.b=true/\br p ((cC k).getD 2 0) i.c=true/\br p ((cC k).getD 3 0) i.d=true:=by
 unfold ir at h;rw[dW]at h;simp only[fp]at h;exact⟨h.1.1.1,h.1.1.2,h.1.2,h.2⟩
def Ca{p:Prop}(h:p:=by
 unfold br aO jA jB N at*;simp at h ⊢;omega):p:=h
def ej{p:aQ}{n:Int}(h:br p 1 n=true):0<=n/\n<p.bw.length/\N n<p.bw.length:=by exact Ca
def Hd{p:aQ}{n:Int}(h:br p 2 n=true):0<=n/\n<p.vars.length/\N n<p.vars.length:=by exact Ca
def uP{p:aQ}{n:Int}(h:br p 3 n=true):0<=n/\n<p.aS.length/\N n<p.aS.length:=by exact Ca
def gN{p:aQ}{n:Int}(h:br p 4 n=true):0<=n/\n<=1/\N n<=1:=by exact Ca
def Cb{p:Prop}(h:p:=by
 unfold br aO jA jB at*;simp at h;omega):p:=h
def Yk{p:aQ}{n:Int}(h:br p 5 n=true): -1073741824<=n/\n<=1073741824:=by exact Cb
def Yl{p:aQ}{n:Int}(h:br p 6 n=true):n=0\/n=1:=by exact Cb
def Ym{p:aQ}{n:Int}(h:br p 7 n=true):0<=n/\n<=4194304:=by exact Cb
def kG{p:aQ}{n:Int}(h:br p 8 n=true):0<=n/\n<p.code.length:=by exact Cb
structure gz(p:aQ)(T:Map)(r:Rn)(st:Std):Prop where
 lt:r.at_<p.code.length
 ke:qN p T r.at_ st
 stack:AO r.stack st.ty
 loops:r.loops.length=st.lo.length+if(al p r.at_).op=25 then 1 else 0
 lin:∀n,n∈r.loops->0<=n/\n<=4194304
 hand:st.ha=0↔r.hand=none
 bY:r.bY=0
 done:r.done=false
def He{p:Prop}(h:p:=by
 simp at hw;rcases hw with rfl|rfl
 ·exact IN rfl
 ·exact eD O Pq):p:=h
def EA{p:aQ}{T:Map}(hT:Typed p T){pc:Nat}{st:Std}(hr:qN p T pc st)(Rt:(al p pc).op≠24){w:Nat×Std}(hw:w∈gg p pc st):(al p w.1).op≠25:=by
 have be:=(hr.ways w hw).1;obtain⟨s',hr'⟩:=hT.all w.1 be;have hj:=hr.jumps;have hj':=hr'.jumps;intro Pq;have IN:w.1=pc+1->False:=by
  intro e;unfold cP at hj';rw[Pq]at hj';split at hj'
  ·simp at hj'
  ·simp at hj';rw[e]at hj';simp at hj';exact Rt hj'.1.1
 unfold gg cH at hw;generalize hx:al p pc=x at*;have eD:(x.op=22\/x.op=23\/x.op=25\/x.op=26)->(al p x.a.toNat).op≠25:=by intro ho h;unfold cP at hj;rw[bk ⟨ho,.inr h⟩]at hj;simp at hj
 split at hw
 ·simp at hw
 split at hw
 ·next h=>simp at hw;subst hw;exact eD O Pq
 split at hw
 ·next h=>exact He
 split at hw
 ·next h=>exact He
 split at hw
 ·next h=>exact He
 ·simp at hw;subst hw;exact IN rfl
def go_on{p:aQ}{c:Cp}{T:Map}(E:Env p c T){pc:Nat}{st:Std}(hr:qN p T pc st)(Rt:(al p pc).op≠24){r':Rn}{st':Std}(hw:(r'.at_,st')∈gg p pc st)(h1:AO r'.stack st'.ty)(h2:r'.loops.length=st'.lo.length)
 (h3:∀n,n∈r'.loops->0<=n/\n<=4194304) (h4:st'.ha=0↔r'.hand=none) (h5:r'.bY=0) (h6:r'.done=false):gz p T r' st':=by
 have Pq:=EA E.rQ hr Rt hw;obtain⟨a,b⟩:=hr.ways _ hw;obtain⟨s,hs⟩:=E.rQ.all r'.at_ a;have:s=st':=by have:=hs.at_;rw[b]at this;exact(sd this).symm
 subst this;exact⟨a,hs,h1,by rw[aw Pq];exact h2,h3,h4,h5,h6⟩
def lC{x:Ins}{ty:List Nat}(h:bQ x ty=0):(b_ x.op.toNat).length<=ty.length/\(x.op=0->ty=[])/\iK (b_ x.op.toNat) ty=true/\(x.op=19->ty.getD 0 0=ty.getD 1 0):=by
 unfold bQ at h;dsimp only at h;split at h
 ·simp at h
 ·next h1=>
  split at h
  ·simp at h
  ·next h2=>simp at h2;have h3:¬ty.length<(b_ x.op.toNat).length:=λh'=>h1 (.inl h');refine⟨O,λh0=>?_,h2.1,h2.2⟩;have h4:¬(x.op=0/\0<ty.length):=λh'=>h1 (.inr (.inl h'));exact List.length_eq_zero_iff.1 O
def cw(r:Rn):Rn:={r with at_:=r.at_+1}
def db(op:Int):Prop:=op≠0/\op≠22/\op≠23/\op≠24/\op≠25/\op≠26/\op≠27
def tN{p:aQ}{pc:Nat}{st:Std}(h:db (al p pc).op):(pc+1,(⟨a_ (al p pc) st.ty,st.lo,bE p (al p pc) st.ha⟩:Std))∈gg p pc st:=by unfold db at h;unfold gg cH;rw[aw O,aw O,aw O,aw O,aw O];simp
def go_straight{p:aQ}{c:Cp}{T:Map}(E:Env p c T){r:Rn}{st:Std}(C:gz p T r st)(h:db (al p r.at_).op){r':Rn}(h0:r'.at_=r.at_+1)(h1:AO r'.stack (a_ (al p r.at_) st.ty))
 (h2:r'.loops=r.loops) (h4:bE p (al p r.at_) st.ha=0↔r'.hand=none) (h5:r'.bY=0) (h6:r'.done=false):∃st',gz p T r' st':=by
 have hw:=tN (st:=st) h;rw[<-h0]at hw;have hl:=C.loops;unfold db at h;rw[aw O]at hl;exact⟨_,go_on E C.ke O hw h1 (by rw[h2];exact hl) (by rw[h2];exact C.lin) h4 h5 h6⟩
structure qO(p:aQ)(T:Map)(S:Sys)(s0:St)(y:SR):Prop where
 hold:fJ S p.vars.length s0 y
 tr:0<=y.2.bY/\y.2.bY<=3
 next:y.2.bY=0->y.2.done=false->∃st',gz p T y.2 st'
def AO.yu{st:List Int}{ty:List Nat}{w:Nat}{ws:List Nat}(h:AO st ty)(hf:iK (w::ws) ty=true):∃n st' t Yn,st=n::st'/\ty=t::Yn/\uy t n/\AO st' Yn/\iK ws Yn=true/\(w≠3->t=w):=by
 cases ty with
 |nil=>simp[iK]at hf
 |cons t ty=>
  cases st with
  |nil=>exact absurd h (by simp[AO])
  |cons n st=>
   unfold iK at hf;simp at hf;refine⟨n,st,t,ty,rfl,rfl,h.1,h.2,hf.2,λhw=>?_⟩;rcases hf.1 with h'|h'
   ·exact absurd h' hw
   ·exact h'
variable {p:aQ}{c:Cp}{T:Map}{s0 s:St}{r:Rn}{st:Std}
def fS{S:Sys}{nv:Nat}{r':Rn}(a0f:fJ S nv s0 (s,r))(h1:r'.bz=r.bz)(h2:r'.hand=r.hand)(h3:r'.key=r.key)(h4:r'.told=r.told):fJ S nv s0 (s,r'):=a0f.same h1 (.inl h2) h3 h4
def oU(E:Env p c T)(C:gz p T r st)(a0f:fJ (aC p c) p.vars.length s0 (s,r))(hs:db (al p r.at_).op){t:Nat}(ht:t≠0)(h1:b_ (al p r.at_).op.toNat=[])(h2:cG (al p r.at_).op.toNat=t)
 (h3:∀ha,bE p (al p r.at_) ha=ha) {n:Int} (hn:uy t n):qO p T (aC p c) s0 (s,(cw r).push n):=by
 refine⟨fS a0f rfl rfl rfl rfl,by show 0<=r.bY/\r.bY<=3;rw[C.bY];decide,λ_ _=>?_⟩;refine go_straight E C hs rfl ?_ rfl (by rw[h3];exact C.hand) C.bY C.done;unfold a_;rw[h1,h2];dsimp only;rw[aw ht];exact⟨hn,C.stack⟩
def Jy(E:Env p c T)(C:gz p T r st)(a0f:fJ (aC p c) p.vars.length s0 (s,r))(hs:db (al p r.at_).op){t w:Nat}(ht:t≠0)(hw:w≠3)(h1:b_ (al p r.at_).op.toNat=[w])(h2:cG (al p r.at_).op.toNat=t)
 (h3:∀ha,bE p (al p r.at_) ha=ha) {f:Int->Int} (hn:∀n,uy w n->uy t (f n)):qO p T (aC p c) s0 (s,(cw r).pop.push (f (cw r).iX))/\r.stack≠[]/\uy w r.iX:=by
 obtain⟨_,_,hf,_⟩:=lC C.ke.taken;rw[h1]at hf;obtain⟨n,st',t',Yn,e1,e2,hv,pk,_,ON⟩:=C.stack.yu hf;have htw:=ON hw;subst htw;have Yo:r.iX=n:=by unfold Rn.iX;rw[e1];rfl
 refine⟨⟨fS a0f rfl rfl rfl rfl,by show 0<=r.bY/\r.bY<=3;rw[C.bY];decide,λ_ _=>?_⟩,by rw[e1];simp,by rw[Yo];exact hv⟩;refine go_straight E C hs rfl ?_ rfl (by rw[h3];exact C.hand) C.bY C.done;unfold a_;rw[h1,h2];dsimp only;rw[aw ht,e2];show AO (f r.iX::r.stack.tail) (t::Yn);rw[e1,Yo];exact⟨hn n hv,pk⟩
def yw(E:Env p c T)(C:gz p T r st)(a0f:fJ (aC p c) p.vars.length s0 (s,r))(hs:db (al p r.at_).op){t w:Nat}(ht:t≠0)(h1:b_ (al p r.at_).op.toNat=[w,w])(h2:cG (al p r.at_).op.toNat=t)
 (h3:∀ha,bE p (al p r.at_) ha=ha) {f:Int->Int->Int} (hn:∀a b,-1073741824<=a/\a<=1073741824->-1073741824<=b/\b<=1073741824->uy t (f a b)):
 qO p T (aC p c) s0 (s,(cw r).pop.pop.push (f (cw r).pop.iX (cw r).iX))/\∃a b l,r.stack=b::a::l/\(-1073741824<=a/\a<=1073741824)/\(-1073741824<=b/\b<=1073741824):=by
 obtain⟨_,_,hf,_⟩:=lC C.ke.taken;rw[h1]at hf;obtain⟨n,st1,t1,ty1,e1,e2,hv,pk,MX,_⟩:=C.stack.yu hf;obtain⟨m,st2,t2,Yp,e3,e4,Rj,Qx,_,_⟩:=pk.yu MX;refine⟨⟨fS a0f rfl rfl rfl rfl,by show 0<=r.bY/\r.bY<=3;rw[C.bY];decide,λ_ _=>?_⟩,m,n,st2,by rw[e1,e3],Rj.in,hv.in⟩;refine go_straight E C hs rfl ?_ rfl (by rw[h3];exact C.hand) C.bY C.done;unfold a_;rw[h1,h2];dsimp only;rw[aw ht,e2,e4];show AO (f (r.stack.tail.headD 0) (r.stack.headD 0)::r.stack.tail.tail) (t::Yp);rw[e1,e3];exact⟨hn m n Rj.in hv.in,Qx⟩
end
section
variable {p:aQ}{c:Cp}{T:Map}{s0 s:St}{r:Rn}{st:Std}
def oV(E:Env p c T)(C:gz p T r st):jH (al p r.at_)=true/\ir p (al p r.at_)=true:=(cE E.check).2 _ (gj C.lt)
def eO(E:Env p c T)(C:gz p T r st){k:Nat}(h:(al p r.at_).op=(k:Int)):
 br p ((cC k).getD 0 0) (al p r.at_).a=true/\br p ((cC k).getD 1 0) (al p r.at_).b=true/\br p ((cC k).getD 2 0) (al p r.at_).c=true/\br p ((cC k).getD 3 0) (al p r.at_).d=true:=
 gV (oV E C).2 (by rw[h];rfl)
def Hg(op:Int){a b:Int}(ha: -1073741824<=a/\a<=1073741824)(X: -1073741824<=b/\b<=1073741824):(op<19->uy 1 (ot op a b))/\(¬op<19->uy 2 (ot op a b)):=by
 unfold ot;constructor
 ·intro h;refine uy.num ?_;have t1:=mS (decide (a=b));have t2:=mS (decide (a<b));have t3:=mS (decide (a<=b));have c1:=tE (a*b);have c2:=tE (a+b);have c3:=tE (a-b);have c4:=Sv a b;generalize lL (a*b)=k1 at*
  repeat' split
  all_goals omega
 ·intro h;refine uy.bool ?_;rw[aw O,aw O,aw O,aw O,aw O,aw O];split
  ·exact mS _
  split
  ·exact mS _
  ·exact mS _
def dF(E:Env p c T)(C:gz p T r st)(hs:db (al p r.at_).op){y:SR}(a0f:fJ (aC p c) p.vars.length s0 y)(ht:y.2.bY=0\/y.2.bY=1\/y.2.bY=2\/y.2.bY=3)(h0:y.2.bY=0->y.2.at_=r.at_+1)
 (h1:y.2.bY=0->AO y.2.stack (a_ (al p r.at_) st.ty)) (h2:y.2.loops=r.loops) (h4:y.2.bY=0->(bE p (al p r.at_) st.ha=0↔y.2.hand=none)) (h6:y.2.done=false):qO p T (aC p c) s0 y:=
 ⟨a0f,O,λe1 e2=>go_straight E C hs (h0 e1) (h1 e1) h2 (h4 e1) e1 h6⟩
def js{x:Ins}{ty:List Nat}(h1:b_ x.op.toNat=[])(h2:cG x.op.toNat=0):a_ x ty=ty:=by unfold a_;rw[h1,h2];rfl
def yx{S:Sys}{x:SR}{q e:Nat}{v:eU}(h0:x.2.bY=0):((iZ S x q e v).1.2.bY=0\/(iZ S x q e v).1.2.bY=1)/\(iZ S x q e v).1.2.at_=x.2.at_/\(iZ S x q e v).1.2.stack=x.2.stack/\(iZ S x q e v).1.2.loops=x.2.loops/\(iZ S x q e v).1.2.done=x.2.done/\(iZ S x q e v).1.2.hand=x.2.hand:=by
 unfold iZ;split
 ·exact⟨.inr rfl,rfl,rfl,rfl,rfl,rfl⟩
 ·exact⟨.inl h0,rfl,rfl,rfl,rfl,rfl⟩
def rr{p:Prop}(h:p:=by
 exact oU E C a0f (by rw[hx];unfold db;omega) (t:=1) bd (by rw[hx,h];rfl) (by rw[hx,h];rfl) (by intro ha;unfold bE;rw[hx,h];rfl) (uy.num O)):p:=h
def Hh(E:Env p c T)(C:gz p T r st)(a0f:fJ (aC p c) p.vars.length s0 (s,r))(dW:(al p r.at_).op<=21):qO p T (aC p c) s0 (aJ p c (al p r.at_) (s,cw r)):=by
 have yv:=(oV E C).1;unfold jH aO at yv;simp only[fp,ft]at yv;have vQ:0<=(cw r).bY/\(cw r).bY<=3:=by show 0<=r.bY/\r.bY<=3;rw[C.bY];decide
 have hinv:Inv (aC p c) s:=a0f.inv;generalize hx:al p r.at_=x at*;have SH:x.op=0\/x.op=1\/x.op=2\/x.op=3\/x.op=4\/x.op=5\/x.op=6\/x.op=7\/x.op=8\/x.op=9\/x.op=10\/x.op=13\/x.op=14\/(x.op=11\/x.op=12\/x.op=15\/x.op=16\/x.op=17\/x.op=18\/x.op=20\/x.op=21)\/x.op=19:=O;have tO:fJ (aC p c) p.vars.length s0 (s,cw r):=fS a0f rfl rfl rfl rfl;rcases SH with h|h|h|h|h|h|h|h|h|h|h|h|h|h|h
 ·
  have e:aJ p c x (s,cw r)=(s,{cw r with done:=true}):=by unfold aJ;rw[h];rfl
  rw[e];exact⟨fS a0f rfl rfl rfl rfl,vQ,λ_ e2=>by simp at e2⟩
 ·have e:aJ p c x (s,cw r)=(s,(cw r).push x.a):=by unfold aJ;rw[h];rfl
  rw[e];have hf:=(eO E C (k:=1) (by rw[hx,h];rfl)).1;exact oU E C a0f (by rw[hx];unfold db;omega) (t:=1) bd (by rw[hx,h];rfl) (by rw[hx,h];rfl) (by intro ha;unfold bE;rw[hx,h];rfl) (uy.num (by rw[hx]at hf;exact Yk hf))
 ·have e:aJ p c x (s,cw r)=(s,(cw r).push x.a):=by unfold aJ;rw[h];rfl
  rw[e];have hf:=(eO E C (k:=2) (by rw[hx,h];rfl)).1;exact oU E C a0f (by rw[hx];unfold db;omega) (t:=2) bd (by rw[hx,h];rfl) (by rw[hx,h];rfl) (by intro ha;unfold bE;rw[hx,h];rfl) (uy.bool (by rw[hx]at hf;exact Yl hf))
 ·have e:aJ p c x (s,cw r)=(s,(cw r).push (s.vars (N x.a))):=by unfold aJ;rw[h];rfl
  rw[e];exact oU E C a0f (by rw[hx];unfold db;omega) (t:=1) bd (by rw[hx,h];rfl) (by rw[hx,h];rfl) (by intro ha;unfold bE;rw[hx,h];rfl) (uy.num (hinv.var _))
 ·have e:aJ p c x (s,cw r)=(s,(cw r).push (s.a.ls (N x.a)).length):=by unfold aJ;rw[h];rfl
  rw[e];have hf:=(eO E C (k:=4) (by rw[hx,h];rfl)).1;rw[hx]at hf;have hq:=(ej hf).2.2;have hl:=hinv.len _ hq;have hc:=E.gM.q1 _ hq;have F_:(aC p c).cq (N x.a)=(c.aK.getD (N x.a) 0).toNat:=rfl;exact rr
 ·have e:aJ p c x (s,cw r)=(s,(cw r).push (c.aK.getD (N x.a) 0)):=by unfold aJ;rw[h];rfl
  rw[e];have hf:=(eO E C (k:=5) (by rw[hx,h];rfl)).1;rw[hx]at hf;have hc:=E.gM.q1 _ (ej hf).2.2;exact rr
 ·have e:aJ p c x (s,cw r)=(s,(cw r).push c.size):=by unfold aJ;rw[h];rfl
  rw[e];have h1:=E.gM.s1;have h2:=E.gM.s2;exact rr
 ·have e:aJ p c x (s,cw r)=(s,(cw r).push s.total):=by unfold aJ;rw[h];rfl
  rw[e];have h1:=E.gM.s1;have h2:=E.gM.s2;have h3:=hinv.Jf;have h4:=hinv.Rf;have h5:(aC p c).sz=c.size.toNat:=rfl;exact rr
 ·have e:aJ p c x (s,cw r)=uK (aC p c) x (s,cw r):=by unfold aJ;rw[h];rfl
  rw[e];unfold uK;exact oU E C a0f (by rw[hx];unfold db;omega) (t:=2) bd (by rw[hx,h];rfl) (by rw[hx,h];rfl) (by intro ha;unfold bE;rw[hx,h];rfl) (uy.bool (mS _))
 ·have e:aJ p c x (s,cw r)=xW x (s,cw r):=by unfold aJ;rw[h];rfl
  rw[e];unfold xW;dsimp only;cases hf:s.f (cw r).key with
  |none=>dsimp only;exact⟨fS a0f rfl rfl rfl rfl,by show 0<=(3:Int)/\(3:Int)<=3;decide,λe1 _=>by simp[Rn.gd]at e1⟩
  |some n=>dsimp only;obtain⟨q,hq,hm,_⟩:=(hinv.idx _ n).1 hf;have:=hinv.tag q n hq hm (N x.a);exact rr
 ·have e:aJ p c x (s,cw r)=pE x (s,cw r):=by unfold aJ;rw[h];rfl
  rw[e];unfold pE;dsimp only;split
  ·exact⟨fS a0f rfl rfl rfl rfl,by show 0<=(2:Int)/\(2:Int)<=3;decide,λe1 _=>by simp[Rn.gd]at e1⟩
  ·next bm=>have hf:=(eO E C (k:=10) (by rw[hx,h];rfl)).1;rw[hx]at hf;have:=hinv.tag _ _ (ej hf).2.2 (gr (e:=N x.b) bm) (N x.c);exact rr
 ·have e:aJ p c x (s,cw r)=(s,(cw r).pop.push (-(cw r).iX)):=by unfold aJ;rw[h];rfl
  rw[e];exact(Jy (f:=λn=> -n) E C a0f (by rw[hx];unfold db;omega) (t:=1) (w:=1) bd bd (by rw[hx,h];rfl) (by rw[hx,h];rfl) (by intro ha;unfold bE;rw[hx,h];rfl) (λn hn=>uy.num (by have:=hn.in;omega))).1
 ·have e:aJ p c x (s,cw r)=(s,(cw r).pop.push (1 - (cw r).iX)):=by unfold aJ;rw[h];rfl
  rw[e];exact(Jy (f:=λn=>1-n) E C a0f (by rw[hx];unfold db;omega) (t:=2) (w:=2) bd bd (by rw[hx,h];rfl) (by rw[hx,h];rfl) (by intro ha;unfold bE;rw[hx,h];rfl) (λn hn=>uy.bool (by unfold uy at hn;rw[bk rfl]at hn;omega))).1
 ·have e:aJ p c x (s,cw r)=(s,(cw r).pop.pop.push (ot x.op (cw r).pop.iX (cw r).iX)):=by unfold aJ;rcases h with h|h|h|h|h|h|h|h<;>rw[h]<;>rfl
  rw[e];by_cases uQ:x.op<19
  ·exact(yw (f:=ot x.op) E C a0f (by rw[hx];unfold db;omega) (t:=1) (w:=1) bd (by rw[hx];rcases h with h|h|h|h|h|h|h|h<;>rw[h]<;>rfl) (by rw[hx];rcases h with h|h|h|h|h|h|h|h<;>first|(rw[h];rfl)|omega)
    (by intro ha;unfold bE;rw[hx];rcases h with h|h|h|h|h|h|h|h<;>rw[h]<;>rfl) (λa b ha X=>(Hg x.op ha X).1 uQ)).1
  ·exact(yw (f:=ot x.op) E C a0f (by rw[hx];unfold db;omega) (t:=2) (w:=1) bd (by rw[hx];rcases h with h|h|h|h|h|h|h|h<;>rw[h]<;>rfl) (by rw[hx];rcases h with h|h|h|h|h|h|h|h<;>first|omega|(rw[h];rfl))
    (by intro ha;unfold bE;rw[hx];rcases h with h|h|h|h|h|h|h|h<;>rw[h]<;>rfl) (λa b ha X=>(Hg x.op ha X).2 uQ)).1
 ·have e:aJ p c x (s,cw r)=(s,(cw r).pop.pop.push (ot x.op (cw r).pop.iX (cw r).iX)):=by unfold aJ;rw[h];rfl
  rw[e];exact(yw (f:=ot x.op) E C a0f (by rw[hx];unfold db;omega) (t:=2) (w:=3) bd (by rw[hx,h];rfl) (by rw[hx,h];rfl) (by intro ha;unfold bE;rw[hx,h];rfl) (λa b ha X=>(Hg x.op ha X).2 O)).1
end
section
variable {p:aQ}{c:Cp}{T:Map}{s0 s:St}{r:Rn}{st:Std}
def yy(C:gz p T r st){w:Nat}(h1:b_ (al p r.at_).op.toNat=[w])(h2:cG (al p r.at_).op.toNat=0):
 ∃n l,r.stack=n::l/\AO l (a_ (al p r.at_) st.ty)/\(-1073741824<=n/\n<=1073741824):=by
 obtain⟨_,_,hf,_⟩:=lC C.ke.taken;rw[h1]at hf;obtain⟨n,st',t',Yn,e1,e2,hv,pk,_,ON⟩:=C.stack.yu hf;refine⟨n,st',e1,?_,hv.in⟩;unfold a_;rw[h1,h2,e2];exact pk
def yz(hr:qN p T r.at_ st)(h:(al p r.at_).op=22\/(al p r.at_).op=23\/(al p r.at_).op=25\/(al p r.at_).op=26):(r.at_:Int)<(al p r.at_).a:=by
 have hj:=hr.jumps;unfold cP at hj;by_cases h':(al p r.at_).a<=(r.at_:Int)
 ·rw[bk ⟨h,.inl h'⟩]at hj;simp at hj
 ·omega
def Jz{p:Prop}(h:p:=by
 refine⟨tO _ rfl rfl rfl rfl,vQ,λ_ _=>?_⟩;exact⟨_,go_on E C.ke (by rw[hx];omega) nJ.1 (by show AO r.stack.tail _;rw[xO];exact pk) hl yA (by rw[yB];exact jI) nj iz⟩):p:=h
def Lt(E:Env p c T)(C:gz p T r st)(a0f:fJ (aC p c) p.vars.length s0 (s,r))(h1:22<=(al p r.at_).op)(h2:(al p r.at_).op<=27):qO p T (aC p c) s0 (aJ p c (al p r.at_) (s,cw r)):=by
 have vQ:0<=r.bY/\r.bY<=3:=by rw[C.bY];decide
 have hl:=C.loops;have eD:=C.ke.jumps;generalize hx:al p r.at_=x at*;have hc:x.op=22\/x.op=23\/x.op=24\/x.op=25\/x.op=26\/x.op=27:=O;have tO:∀r',r'.bz=r.bz->r'.hand=r.hand->r'.key=r.key->r'.told=r.told->fJ (aC p c) p.vars.length s0 (s,r'):=λr' a b d e=>fS a0f a b d e;have yB:bE p x st.ha=st.ha:=by unfold bE;rw[aw O,aw O,aw O]
 have yA:=C.lin;have jI:=C.hand;have nj:=C.bY;have iz:=C.done;rcases hc with h|h|h|h|h|h
 ·have e:aJ p c x (s,cw r)=(s,{cw r with at_:=N x.a}):=by unfold aJ;rw[h];rfl
  rw[e];refine⟨tO _ rfl rfl rfl rfl,vQ,λ_ _=>?_⟩;rw[aw O]at hl;have ht:a_ x st.ty=st.ty:=js (by rw[h];rfl) (by rw[h];rfl);refine⟨_,go_on (st':=⟨a_ x st.ty,st.lo,bE p x st.ha⟩) E C.ke (by rw[hx];omega) ?_ (by rw[ht];exact C.stack) hl yA (by rw[yB];exact jI) nj iz⟩;unfold gg cH;rw[hx,aw O,bk h];simp[N]
 ·have e:aJ p c x (s,cw r)=(s,if(cw r).iX=0 then{(cw r).pop with at_:=N x.a}else(cw r).pop):=by unfold aJ;rw[h];rfl
  rw[e];rw[aw O]at hl;obtain⟨n,l,e1,pk,_⟩:=yy C (w:=2) (by rw[hx,h];rfl) (by rw[hx,h];rfl);rw[hx]at pk;have xO:r.stack.tail=l:=by rw[e1];rfl
  have Hp:∀a:Nat,fJ (aC p c) p.vars.length s0 (s,{(cw r).pop with at_:=a}):=λa=>tO _ rfl rfl rfl rfl;have nJ:(r.at_+1,(⟨a_ x st.ty,st.lo,bE p x st.ha⟩:Std))∈gg p r.at_ st/\(N x.a,(⟨a_ x st.ty,st.lo,bE p x st.ha⟩:Std))∈gg p r.at_ st:=by unfold gg cH;rw[hx,aw O,aw O,bk h];simp[N]
  split
  ·refine⟨Hp _,vQ,λ_ _=>?_⟩;exact⟨_,go_on E C.ke (by rw[hx];omega) nJ.2 (by show AO r.stack.tail _;rw[xO];exact pk) hl yA (by rw[yB];exact jI) nj iz⟩
  ·exact Jz
 ·have e:aJ p c x (s,cw r)=(s,{cw r with loops:=x.a::(cw r).loops}):=by unfold aJ;rw[h];rfl
  rw[e];refine⟨tO _ rfl rfl rfl rfl,vQ,λ_ _=>?_⟩;rw[aw O]at hl;have ht:a_ x st.ty=st.ty:=js (by rw[h];rfl) (by rw[h];rfl);have hw:(r.at_+1,(⟨a_ x st.ty,st.lo,bE p x st.ha⟩:Std))∈gg p r.at_ st:=by unfold gg cH;rw[hx,aw O,aw O,aw O,aw O,aw O];simp
  obtain⟨a,b⟩:=C.ke.ways _ hw;obtain⟨s',hs⟩:=E.rQ.all _ a;have:s'=⟨a_ x st.ty,st.lo,bE p x st.ha⟩:=by have:=hs.at_;rw[b]at this;exact(sd this).symm
  subst this;have Pq:(al p (r.at_+1)).op=25:=by unfold cP at eD;rw[aw O,bk h]at eD;simp at eD;exact eD.2
  have hr':=eO E C (k:=24) (by rw[hx,h];rfl);rw[hx]at hr';refine⟨_,⟨a,hs,by show AO r.stack _;rw[ht];exact C.stack,by show(x.a::r.loops).length=_;rw[show(cw r).at_=r.at_+1 from rfl,bk Pq];simp[hl],?_,by rw[yB];exact jI,nj,iz⟩⟩;intro n hn;rcases List.mem_cons.1 hn with rfl|hn
  ·exact Ym hr'.1
  ·exact yA n hn
 ·have e:aJ p c x (s,cw r)=tG x (s,cw r):=by unfold aJ;rw[h];rfl
  rw[e];rw[bk h]at hl;have ht:a_ x st.ty=st.ty:=js (by rw[h];rfl) (by rw[h];rfl);have nJ:(r.at_+1,(⟨a_ x st.ty,r.at_::st.lo,bE p x st.ha⟩:Std))∈gg p r.at_ st/\(N x.a,(⟨a_ x st.ty,st.lo,bE p x st.ha⟩:Std))∈gg p r.at_ st:=by unfold gg cH;rw[hx,aw O,aw O,aw O,bk h];simp[N]
  cases jo:r.loops with
  |nil=>rw[jo]at hl;simp at hl
  |cons n l=>
   rw[jo]at hl yA;unfold tG;have e1:(cw r).loops=n::l:=jo;have hh:(s,cw r).2.loops.headD 0=n:=by show(cw r).loops.headD 0=n;rw[e1];rfl
   have RY:=yA n ay;by_cases hz:n=0
   ·rw[bk (by rw[hh];exact hz)];refine⟨tO _ rfl rfl rfl rfl,vQ,λ_ _=>?_⟩;refine⟨_,go_on E C.ke (by rw[hx];omega) nJ.2 (by rw[ht];exact C.stack) ?_ ?_ (by rw[yB];exact jI) nj iz⟩
    ·show(cw r).loops.tail.length=_;rw[e1];simp at hl ⊢;exact hl
    ·intro m hm;have:m∈(cw r).loops.tail:=hm;rw[e1]at this;exact yA m (by simp at this;simp[this])
   ·rw[aw (by rw[hh];exact hz)];refine⟨tO _ rfl rfl rfl rfl,vQ,λ_ _=>?_⟩;refine⟨_,go_on E C.ke (by rw[hx];omega) nJ.1 (by rw[ht];exact C.stack) ?_ ?_ (by rw[yB];exact jI) nj iz⟩
    ·show(((cw r).loops.headD 0-1)::(cw r).loops.tail).length=_;rw[e1];simp at hl ⊢;exact hl
    ·intro m hm;have hm:m∈((cw r).loops.headD 0-1)::(cw r).loops.tail:=hm;rw[e1]at hm;have hm:m∈(n-1)::l:=hm;rcases List.mem_cons.1 hm with rfl|hm
     ·omega
     ·exact yA m (by simp[hm])
 ·have e:aJ p c x (s,cw r)=tH x (s,cw r):=by unfold aJ;rw[h];rfl
  rw[e];rw[aw O]at hl;obtain⟨n,l,e1,pk,_⟩:=yy C (w:=2) (by rw[hx,h];rfl) (by rw[hx,h];rfl);rw[hx]at pk;have xO:r.stack.tail=l:=by rw[e1];rfl
  have nJ:(r.at_+1,(⟨a_ x st.ty,st.lo,bE p x st.ha⟩:Std))∈gg p r.at_ st/\(N x.a,(⟨a_ x st.ty,st.lo.tail,bE p x st.ha⟩:Std))∈gg p r.at_ st:=by unfold gg cH;rw[hx,aw O,aw O,aw O,aw O,bk h];simp[N]
  unfold tH;dsimp only;split
  ·refine⟨tO _ rfl rfl rfl rfl,vQ,λ_ _=>?_⟩;refine⟨_,go_on E C.ke (by rw[hx];omega) nJ.2 (by show AO r.stack.tail _;rw[xO];exact pk) (by show r.loops.tail.length=st.lo.tail.length;rw[List.length_tail,List.length_tail];omega) ?_ (by rw[yB];exact jI) nj iz⟩;intro m hm;exact yA m (List.mem_of_mem_tail hm)
  ·exact Jz
 ·have e:aJ p c x (s,cw r)=(s,{cw r with at_:=N x.a}):=by unfold aJ;rw[h];rfl
  rw[e];refine⟨tO _ rfl rfl rfl rfl,vQ,λ_ _=>?_⟩;rw[aw O]at hl;have ht:a_ x st.ty=st.ty:=js (by rw[h];rfl) (by rw[h];rfl);unfold cP at eD;rw[aw O,aw O,aw O,aw O,bk h]at eD;cases jo:st.lo with
  |nil=>rw[jo]at eD;simp at eD
  |cons t l=>
   rw[jo]at eD hl;dsimp only at eD;have EB:=E.rQ.loops _ _ C.ke.at_;rw[jo]at EB;obtain⟨ht1,Yq,s',Ea,rF⟩:=EB;rw[Ea]at eD;simp only[fp,ft]at eD;obtain⟨ha,hty,_⟩:=eD;have Lv:N x.a=t:=by unfold N;omega
   have be:t<p.code.length:=by have:=C.lt;omega
   obtain⟨s'',Yr⟩:=E.rQ.all t be;have:s''=s':=by have:=Yr.at_;rw[Ea]at this;exact(sd this).symm
   subst this;have hh:=C.ke.l_;have hh':=Yr.l_;unfold fo at hh hh';rw[hx,aw O,aw O,aw O,aw O]at hh;rw[aw O,aw O,aw O,aw O]at hh';have k1:st.ha=0:=by simp only[Bool.or_eq_true,fp,ft,beq_iff_eq]at hh;omega
   have k2:s''.ha=0:=by simp only[Bool.or_eq_true,fp,ft,beq_iff_eq]at hh';omega
   refine⟨s'',⟨by show N x.a<_;rw[Lv];exact be,by show qN p T (N x.a) s'';rw[Lv];exact Yr,by rw[hty,ht];exact C.stack,?_,yA,?_,nj,iz⟩⟩
   ·show r.loops.length=s''.lo.length+if(al p (N x.a)).op=25 then 1 else 0;rw[Lv,bk Yq,rF,hl];simp
   ·rw[k2];rw[k1]at jI;exact jI
end
end aj.Vm
