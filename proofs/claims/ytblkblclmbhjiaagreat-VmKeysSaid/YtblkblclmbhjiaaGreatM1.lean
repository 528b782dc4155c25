import Derived.Test.YtblkblclmbhjiaaGreatM0
set_option linter.unusedVariables false
set_option linter.unusedSimpArgs false
set_option maxHeartbeats 40000000
set_option maxRecDepth 100000
abbrev abH:=@if_neg
abbrev afF:=@Nat.le_refl
abbrev afE:=@if_pos
abbrev agj:=@List.nodup_append
abbrev af0:=@Option.some.inj
abbrev agr:=@List.length_erase_of_mem
abbrev agw:=@List.length_pos_of_mem
abbrev afW:=@Bool.and_eq_true
abbrev agb:=@List.all_eq_true
namespace ak.Vm
def aL {β:Type} (f:Nat->β) (i:Nat) (x:β):Nat->β:=fun j=>if j=i then x else f j
theorem an {β:Type} (f:Nat->β) (i:Nat) (x:β):aL f i x i=x:=by simp [aL]
theorem aj {β:Type} (f:Nat->β) {i j:Nat} (x:β) (h:j≠i):aL f i x j=f j:=by simp [aL,h]
theorem cG {β:Type} (f:Nat->β) (i j:Nat) (x:β):aL f i x j=if j=i then x else f j:=rfl
def hd:List Nat->Int
 |[]=> -1
 |a::_=>a
def kK:List Nat->Nat->Int
 |[],_=> -1
 |a::t,n=>if a=n then hd t else kK t n
def dir (e:Nat) (l:List Nat):List Nat:=if e=1 then l else l.reverse
theorem lT (a:Nat) (t:List Nat):hd (a::t)=a:=rfl
theorem DD {l:List Nat}:hd l < 0↔l=[]:=by cases l<;>simp [hd]<;>omega
theorem dS (a:Nat) (t:List Nat):kK (a::t) a=hd t:=by simp [kK]
theorem dl {a n:Nat} (h:a≠n) (t:List Nat):kK (a::t) n=kK t n:=by simp [kK,h]
theorem Fm {l:List Nat} {n:Nat} (h:n∉l) (t:List Nat):kK (l++t) n=kK t n:=by
 induction l with
 |nil=>rfl
 |cons a l ih=>simp at h;rw [List.cons_append,dl (fun e=>h.1 e.symm)];exact ih h.2
theorem jC {l:List Nat} {n:Nat} (h:n∉l) (t:List Nat):kK (l++n::t) n=hd t:=by rw [Fm h,dS]
theorem AT {l:List Nat} {n m:Nat} {t:List Nat} (pR:(l++n::t).Nodup) (hm:m≠n) (Fo:m∈l++t):
 kK (l++t) m=if kK (l++n::t) m=(n:Int) then hd t else kK (l++n::t) m:=by
 induction l with
 |nil=>
  simp only [List.nil_append] at*;rw [dl (fun e=>hm e.symm)];have hn:(n:Nat)∉t:=(List.nodup_cons.1 pR).1;have:kK t m≠(n:Int):=by
   clear pR Fo
   induction t with
   |nil=>simp [kK]
   |cons a t ih=>
    simp at hn;unfold kK;split
    ·cases t with
     |nil=>simp [hd]
     |cons b t=>simp [hd];simp at hn;omega
    ·exact ih hn.2
  rw [abH this]
 |cons a l ih=>
  simp only [List.cons_append] at*;have fB:=List.nodup_cons.1 pR;by_cases e:a=m
  ·subst e;rw [dS,dS];cases l with
   |nil=>simp [hd]
   |cons b l=>show (b:Int)=if (b:Int)=(n:Int) then hd t else (b:Int);rw [abH];intro e;have:b=n:=omm;subst this;simp only [List.cons_append] at fB;have:=(List.nodup_cons.1 fB.2).1;simp at this
  ·rw [dl e,dl e];refine ih fB.2 ?_;simp at Fo ⊢;rcases Fo with h|h
   ·exact absurd h.symm e
   ·exact h
theorem JR {l:List Nat} {m:Nat} (hn:l.Nodup) (hm:m∈l) (n:Nat):kK (l++[n]) m=if kK l m= -1 then (n:Int) else kK l m:=by
 induction l with
 |nil=>simp at hm
 |cons a l ih=>
  have fB:=List.nodup_cons.1 hn;by_cases e:a=m
  ·subst e;rw [List.cons_append,dS,dS];cases l with
   |nil=>simp [hd]
   |cons b l=>simp [hd]<;>omega
  ·rw [List.cons_append,dl e,dl e];refine ih fB.2 ?_;simp at hm;rcases hm with h|h
   ·exact absurd h.symm e
   ·exact h
theorem AU {l:List Nat} {m:Nat} (hn:l.Nodup) (hm:m∈l):kK l m= -1↔hd l.reverse=(m:Int):=by
 induction l with
 |nil=>simp at hm
 |cons a l ih=>
  have fB:=List.nodup_cons.1 hn;by_cases e:a=m
  ·subst e;rw [dS];cases l with
   |nil=>simp [hd]
   |cons b l=>
    have h1:¬hd (b::l)= -1:=by simp [hd]<;>omega
    constructor
    ·intro h;exact absurd h h1
    ·intro h;exfalso;have:hd (a::b::l).reverse=hd (b::l).reverse:=by
      cases hh:(b::l).reverse with
      |nil=>simp at hh
      |cons c t=>rw [List.reverse_cons,hh];rfl
     rw [this] at h;cases hh:(b::l).reverse with
     |nil=>simp at hh
     |cons c t=>
      rw [hh,lT] at h;have:c=a:=omm;have hc:c∈(b::l).reverse:=by rw [hh];simp
      rw [List.mem_reverse,this] at hc;exact fB.1 hc
  ·have iR:m∈l:=by
    simp at hm;rcases hm with h|h
    ·exact absurd h.symm e
    ·exact h
   rw [dl e,ih fB.2 iR,List.reverse_cons];cases hh:l.reverse with
   |nil=>simp at hh;rw [hh] at iR;simp at iR
   |cons c t=>simp [hd]
theorem iD (e:Nat) (l:List Nat) (n:Nat):n∈dir e l↔n∈l:=by unfold dir;split<;>simp
theorem kS {e:Nat} {l:List Nat}:(dir e l).Nodup↔l.Nodup:=by
 unfold dir;split
 ·rfl
 ·exact (List.reverse_perm l).nodup_iff
theorem Ou (e:Nat):dir e []=[]:=by unfold dir;split<;>rfl
theorem uH {e:Nat} (he:e<=1) (l:List Nat):dir (1 - e) l=(dir e l).reverse:=by have:e=0\/e=1:=omm;rcases this with rfl|rfl<;>simp [dir]
def ext (e:Nat) (l:List Nat) (n:Nat):List Nat:=if e=1 then l++[n] else n::l
theorem Fp {e:Nat} (he:e<=1) (l:List Nat) (n:Nat):dir e (ext e l n)=dir e l++[n]/\dir (1 - e) (ext e l n)=n::dir (1 - e) l:=by have:e=0\/e=1:=omm;rcases this with rfl|rfl<;>simp [dir,ext]
theorem ext_mem (e:Nat) (l:List Nat) (n m:Nat):m∈ext e l n↔m=n\/m∈l:=by
 unfold ext;split
 ·simp [or_comm]
 ·simp
theorem jk (e:Nat) (l:List Nat) (n:Nat):(ext e l n).length=l.length+1:=by unfold ext;split<;>simp
theorem xF {e:Nat} {l:List Nat} {n:Nat} (hl:l.Nodup) (h:n∉l):(ext e l n).Nodup:=by
 unfold ext;split
 ·rw [agj];refine ⟨hl,smm,?_⟩;intro a ha b hb;simp at hb;subst hb;intro e;subst e;exact h ha
 ·exact List.nodup_cons.2 ⟨h,hl⟩
theorem QZ {N:Nat} (l:List Nat) (hn:l.Nodup) (h:∀x,x∈l->x < N):l.length<=N:=by
 induction N generalizing l with
 |zero=>cases l with
  |nil=>simp
  |cons a t=>exact absurd (h a smm) omm
 |succ N ih=>
  have h1:=ih (l.erase N) (hn.erase N) (fun x hx=>by
   have h2:=h x (List.mem_of_mem_erase hx);have h3:x≠N:=fun e=>by subst e;exact (List.Nodup.not_mem_erase hn) hx
   omega)
  have h2:=List.length_erase (a:=N) (l:=l);split at h2<;>omega
structure eW where
 key:Nat
 tg:Nat->Int
structure Raw where
 made:Nat
 cS:Int
 used:Nat
 val:Nat->eW
 own:Nat->Int
 bK:Nat->Nat->Int
 ends:Nat->Nat->Int
 cR:Nat->Nat
structure Ar where
 made:Nat
 fr:List Nat
 ls:Nat->List Nat
 val:Nat->eW
def cF:Nat->(Nat->Nat)->Nat
 |0,_=>0
 |k+1,g=>cF k g+g k
theorem AV {k:Nat} {f g:Nat->Nat} (h:∀i,i < k->f i=g i):cF k f=cF k g:=by
 induction k with
 |zero=>rfl
 |succ k ih=>show cF k f+f k=cF k g+g k;rw [ih fun i hi=>h i omm,h k omm]
theorem kT {k:Nat} {f g:Nat->Nat} {i:Nat} (hi:i < k) (h:∀j,j≠i->g j=f j):cF k g+f i=cF k f+g i:=by
 induction k with
 |zero=>omega
 |succ k ih=>
  show cF k g+g k+f i=cF k f+f k+g i;by_cases e:i=k
  ·subst e;rw [AV (k:=i) (f:=g) (g:=f) fun j hj=>h j omm];omega
  ·have:=ih omm;rw [h k (fun e'=>e e'.symm)];omega
theorem AW {k:Nat} {f:Nat->Nat} {i:Nat} (hi:i < k):f i<=cF k f:=by
 induction k with
 |zero=>omega
 |succ k ih=>
  show f i<=cF k f+f k;by_cases e:i=k
  ·subst e;omega
  ·have:=ih omm;omega
theorem qA {k:Nat} {f g:Nat->Nat} (h:∀i,i < k->f i<=g i):cF k f<=cF k g:=by
 induction k with
 |zero=>exact afF _
 |succ k ih=>have:=ih fun i hi=>h i omm;have:=h k omm;show cF k f+f k<=cF k g+g k;omega
def cM {β:Type} (f:Nat->Nat->β) (i k:Nat) (x:β):Nat->Nat->β:=aL f i (aL (f i) k x)
theorem xG {β:Type} (f:Nat->Nat->β) (i k:Nat) (x:β):cM f i k x i k=x:=by simp [cM,aL]
theorem cN {β:Type} (f:Nat->Nat->β) (i k j m:Nat) (x:β):cM f i k x j m=if j=i/\m=k then x else f j m:=by unfold cM aL;by_cases h:j=i<;>simp [h]
structure GQ (nl:Nat) (R:Raw) (A:Ar) (tV:Option Nat):Prop where
 made:R.made=A.made
 val:R.val=A.val
 nd:∀q,q < nl->(A.ls q).Nodup
 Vg:A.fr.Nodup
 wW:∀q n,q < nl->n∈A.ls q->n < A.made
 JS:∀n,n∈A.fr->n < A.made
 own:∀q n,q < nl->n∈A.ls q->R.own n=q
 free:∀n,n∈A.fr->R.own n= -1
 part:∀n,n < A.made->some n=tV\/n∈A.fr\/∃q,q < nl/\n∈A.ls q
 hol:∀n,tV=some n->n < A.made/\n∉A.fr/\∀q,q < nl->n∉A.ls q
 bK:∀q n e,q < nl->n∈A.ls q->e<=1->R.bK n e=kK (dir e (A.ls q)) n
 ends:∀q e,q < nl->e<=1->R.ends q e=hd (dir (1 - e) (A.ls q))
 cR:∀q,q < nl->R.cR q=(A.ls q).length
 wX:R.cS=hd A.fr
 JT:∀n,n∈A.fr->R.bK n 0=kK A.fr n
 used:R.used=cF nl fun q=>(A.ls q).length
 Sl:R.used+A.fr.length+(if tV.isSome then 1 else 0)=A.made
theorem GQ.pS {nl:Nat} {R:Raw} {A:Ar} {tV:Option Nat} (h:GQ nl R A tV) {q p n:Nat} (hq:q < nl) (hp:p < nl) (h1:n∈A.ls q) (h2:n∈A.ls p):q=p:=by have a:=h.own q n hq h1;have b:=h.own p n hp h2;omega
theorem GQ.re {nl:Nat} {R:Raw} {A:Ar} {tV:Option Nat} (h:GQ nl R A tV) {q n:Nat} (hq:q < nl) (h1:n∈A.ls q):n∉A.fr:=by intro h2;have a:=h.own q n hq h1;have b:=h.free n h2;omega
def e_ (R:Raw) (n l e:Nat):Raw:=
 let last:=R.ends l e
 let b:=cM (cM R.bK n e (-1)) n (1 - e) last
 {R with own:=aL R.own n l,bK:=if 0<=last then cM b last.toNat e n else b,
         ends:=cM (if 0<=last then R.ends else cM R.ends l (1 - e) n) l e n,cR:=aL R.cR l (R.cR l+1)}
def jm (R:Raw) (n l e:Nat) (m:Int):Raw:=
 if m < 0 then {R with ends:=cM R.ends l e (R.bK n (1 - e))} else {R with bK:=cM R.bK m.toNat (1 - e) (R.bK n (1 - e))}
def cP (R:Raw) (n:Nat):Raw:=
 let l:=(R.own n).toNat
 let R1:=jm R n l 0 (R.bK n 0)
 let R2:=jm R1 n l 1 (R.bK n 1)
 {R2 with cR:=aL R2.cR l (R2.cR l - 1)}
def JU (R:Raw) (n:Nat) (z:eW):Raw:=
 {R with val:=aL R.val n z,own:=aL R.own n (-1),bK:=cM (cM R.bK n 0 R.cS) n 1 (-1),cS:=n,used:=R.used - 1}
def mY (A:Ar) (n l e:Nat):Ar:={A with ls:=aL A.ls l (ext e (A.ls l) n)}
def qB (A:Ar) (n l:Nat):Ar:={A with ls:=aL A.ls l ((A.ls l).erase n)}
def rh (A:Ar) (n:Nat) (z:eW):Ar:={A with fr:=n::A.fr,val:=aL A.val n z}
theorem uI {nl:Nat} {R:Raw} {A:Ar} {n l e:Nat} (h:GQ nl R A (some n)) (hl:l < nl) (he:e<=1) (hu:True):
 GQ nl {e_ R n l e with used:=R.used+1} (mY A n l e) none:=by
 obtain ⟨hn,NH,iZ⟩:=h.hol n rfl;have bz:=iZ l hl;have JV:=h.ends l e hl he;have hx:=Fp he (A.ls l) n;have nT:∀q,(mY A n l e).ls q=if q=l then ext e (A.ls l) n else A.ls q:=fun q=>rfl;have eG:∀q m,q < nl->m∈(mY A n l e).ls q->(m=n/\q=l)\/(m≠n/\m∈A.ls q):=by
  intro q m hq hm;rw [nT] at hm;split at hm
  ·next e'=>subst e';rw [ext_mem] at hm
            rcases hm with h'|h'
            ·exact .inl ⟨h',rfl⟩
            ·exact .inr ⟨fun e=>bz (e▸h'),h'⟩
  ·exact .inr ⟨fun e=>iZ q hq (e▸hm),hm⟩
 have dA:0<=R.ends l e->(R.ends l e).toNat∈A.ls l/\kK (dir e (A.ls l)) (R.ends l e).toNat= -1/\∃t,dir (1 - e) (A.ls l)=(R.ends l e).toNat::t:=by
  intro h0;rw [JV] at h0 ⊢;cases pR:dir (1 - e) (A.ls l) with
  |nil=>rw [pR] at h0;simp [hd] at h0
  |cons a t=>
   simp only [lT,Int.toNat_natCast];have hm:a∈A.ls l:=by rw [<-iD (1 - e),pR];simp
   refine ⟨hm,?_,t,rfl⟩;rw [AU (kS.2 (h.nd l hl)) ((iD _ _ _).2 hm),<-uH he,pR];rfl
 have Q0:1 - (1 - e)=e:=omm;refine ⟨h.made,h.val,fun q hq=>?_,h.Vg,fun q m hq hm=>?_,h.JS,fun q m hq hm=>?_,fun m hm=>?_,fun m hm=>?_,fun m hm=>by simp at hm,fun q m e' hq hm Vh=>?_,fun q e' hq Vh=>?_,fun q hq=>?_,h.wX,fun m hm=>?_,?_,?_⟩
 ·rw [nT];split
  ·exact xF (h.nd l hl) bz
  ·exact h.nd q hq
 ·rcases eG q m hq hm with ⟨rfl,rfl⟩|⟨_,iR⟩
  ·exact hn
  ·exact h.wW q m hq iR
 ·show aL R.own n l m=_;rcases eG q m hq hm with ⟨rfl,rfl⟩|⟨h1,iR⟩
  ·rw [an]
  ·rw [aj _ _ h1];exact h.own q m hq iR
 ·show aL R.own n l m=_;rw [aj _ _ (fun e=>by subst e;exact NH hm)];exact h.free m hm
 ·rcases h.part m hm with h1|h1|⟨q,hq,h1⟩
  ·simp at h1;subst h1;exact .inr (.inr ⟨l,hl,by rw [nT,afE rfl,ext_mem];exact .inl rfl⟩)
  ·exact .inr (.inl h1)
  ·refine .inr (.inr ⟨q,hq,?_⟩);rw [nT];split
   ·next e'=>subst e';rw [ext_mem];exact .inr h1
   ·exact h1
 ·
  have hb:(e_ R n l e).bK=if 0<=R.ends l e then cM (cM (cM R.bK n e (-1)) n (1 - e) (R.ends l e)) (R.ends l e).toNat e n else cM (cM R.bK n e (-1)) n (1 - e) (R.ends l e):=rfl;show (e_ R n l e).bK m e'=_;have ir:(e_ R n l e).bK m e'=if 0<=R.ends l e/\m=(R.ends l e).toNat/\e'=e then (n:Int) else if m=n/\e'=1 - e then R.ends l e else if m=n/\e'=e then -1 else R.bK m e':=by
   rw [hb];by_cases h0:0<=R.ends l e
   ·rw [afE h0,cN,cN,cN];by_cases h1:m=(R.ends l e).toNat/\e'=e<;>simp [h0,h1]
   ·rw [abH h0,cN,cN];simp [h0]
  rw [ir];have Fq:e'=e\/e'=1 - e:=omm;rcases eG q m hq hm with ⟨rfl,rfl⟩|⟨h1,iR⟩
  ·
   have aaa:¬(0<=R.ends q e/\m=(R.ends q e).toNat/\e'=e):=by rintro ⟨h0,h1,_⟩;have:=(dA h0).1;rw [<-h1] at this;exact bz this
   rw [abH aaa,nT,afE rfl];rcases Fq with rfl|rfl
   ·rw [abH omm,afE ⟨rfl,rfl⟩,hx.1,jC (by rw [iD];exact bz)];rfl
   ·rw [afE ⟨rfl,rfl⟩,hx.2,dS,JV]
  ·rw [abH (show ¬(m=n/\e'=1 - e) from fun h=>h1 h.1),abH (show ¬(m=n/\e'=e) from fun h=>h1 h.1)];by_cases AD:q=l
   ·subst AD;rw [nT,afE rfl];have hold:=h.bK q m e' hq iR Vh;rcases Fq with rfl|rfl
    ·rw [hx.1,JR (kS.2 (h.nd q hq)) ((iD _ _ _).2 iR),<-hold];by_cases hc:0<=R.ends q e'/\m=(R.ends q e').toNat/\e'=e'
     ·rw [afE hc,hold,hc.2.1,(dA hc.1).2.1];simp
     ·rw [abH hc,abH];intro uG;apply hc;rw [hold,AU (kS.2 (h.nd q hq)) ((iD _ _ _).2 iR),<-uH he,<-JV] at uG;rw [uG];simp
    ·rw [abH omm,hx.2,dl (fun e=>h1 e.symm),hold]
   ·have hc:¬(0<=R.ends l e/\m=(R.ends l e).toNat/\e'=e):=by rintro ⟨h0,h2,_⟩;have:=(dA h0).1;rw [<-h2] at this;exact AD (h.pS hq hl iR this)
    rw [abH hc,nT,abH AD];exact h.bK q m e' hq iR Vh
 ·
  show cM (if 0<=R.ends l e then R.ends else cM R.ends l (1 - e) n) l e n q e'=_;rw [cN,nT];have Fq:e'=e\/e'=1 - e:=omm;by_cases AD:q=l
  ·subst AD;rw [afE rfl];rcases Fq with rfl|rfl
   ·rw [afE ⟨rfl,rfl⟩,hx.2];rfl
   ·rw [abH omm,Q0,hx.1];by_cases h0:0<=R.ends q e
    ·rw [afE h0,h.ends q (1 - e) hq omm,Q0];obtain ⟨hm,_⟩:=dA h0;cases pR:dir e (A.ls q) with
     |nil=>rw [<-iD e,pR] at hm;simp at hm
     |cons a t=>rfl
    ·rw [abH h0,cN,afE ⟨rfl,rfl⟩];have:dir (1 - e) (A.ls q)=[]:=DD.1 (by rw [<-JV];omega);have h2:dir e (A.ls q)=[]:=by rw [uH he] at this;simpa using this
     rw [h2];rfl
  ·rw [abH (fun h=>AD h.1),abH AD];have:(if 0<=R.ends l e then R.ends else cM R.ends l (1 - e) n) q e'=R.ends q e':=by
    split
    ·rfl
    ·rw [cN,abH (fun h=>AD h.1)]
   rw [this];exact h.ends q e' hq Vh
 ·show aL R.cR l (R.cR l+1) q=_;rw [cG,nT];split
  ·next e'=>subst e';rw [jk,h.cR q hq]
  ·exact h.cR q hq
 ·
  have ir:(e_ R n l e).bK m 0=R.bK m 0:=by
   have hb:(e_ R n l e).bK=if 0<=R.ends l e then cM (cM (cM R.bK n e (-1)) n (1 - e) (R.ends l e)) (R.ends l e).toNat e n else cM (cM R.bK n e (-1)) n (1 - e) (R.ends l e):=rfl;have GY:m≠n:=fun e=>by subst e;exact NH hm
   rw [hb];by_cases h0:0<=R.ends l e
   ·have:m≠(R.ends l e).toNat:=fun e=>h.re hl (dA h0).1 (by rw [<-e];exact hm);rw [afE h0,cN,cN,cN];simp [GY,this]
   ·rw [abH h0,cN,cN];simp [GY]
  show (e_ R n l e).bK m 0=_;rw [ir];exact h.JT m hm
 ·show R.used+1=cF nl fun q=>((mY A n l e).ls q).length;have h1:=kT (k:=nl) (f:=fun q=>(A.ls q).length) (g:=fun q=>((mY A n l e).ls q).length) hl (fun j hj=>by show ((mY A n l e).ls j).length=_;rw [nT,abH hj]);have h2:((mY A n l e).ls l).length=(A.ls l).length+1:=by rw [nT,afE rfl,jk]
  have h3:=h.used;rw [h2] at h1;omega
 ·have:=h.Sl;simp at this ⊢;show R.used+1+A.fr.length=A.made;omega
theorem oI {l:List Nat} {n:Nat} (h:n∈l) (hn:l.Nodup):∃a b,l=a++n::b/\l.erase n=a++b/\n∉a++b:=by
 induction l with
 |nil=>simp at h
 |cons x t ih=>
  have fB:=List.nodup_cons.1 hn;by_cases e:x=n
  ·subst e;exact ⟨[],t,rfl,smm,fB.1⟩
  ·have h':n∈t:=by
    simp at h;rcases h with h|h
    ·exact absurd h.symm e
    ·exact h
   obtain ⟨a,b,h1,h2,h3⟩:=ih h' fB.2;refine ⟨x::a,b,by rw [h1];rfl,?_,?_⟩
   ·rw [List.erase_cons_tail (by simpa using e),h2];rfl
   ·simp at h3 ⊢;exact ⟨fun e'=>e e'.symm,h3⟩
theorem Ft {l:List Nat} {n m:Nat} (h:kK l n=(m:Int)):m∈l:=by
 induction l with
 |nil=>simp [kK] at h<;>omega
 |cons a t ih=>
  unfold kK at h;split at h
  ·cases t with
   |nil=>simp [hd] at h<;>omega
   |cons b t=>simp [hd] at h;simp;omega
  ·simp;exact .inr (ih h)
theorem Sm (l:List Nat) (n:Nat):kK l n= -1\/0<=kK l n:=by
 induction l with
 |nil=>left;rfl
 |cons a t ih=>
  unfold kK;split
  ·cases t with
   |nil=>left;rfl
   |cons b t=>right;simp [hd]
  ·exact ih
theorem Fu {l:List Nat} {n m:Nat} (hn:l.Nodup) (iZ:n∈l) (Fo:m∈l):kK l m=(n:Int)↔kK l.reverse n=(m:Int):=by
 obtain ⟨a,b,rfl,_,h3⟩:=oI iZ hn;have WC:n∉a:=fun h=>h3 (by simp [h]);have Fv:n∉b.reverse:=fun h=>h3 (by simp at h;simp [h]);have e1:kK (a++n::b).reverse n=hd a.reverse:=by rw [show (a++n::b).reverse=b.reverse++n::a.reverse by simp,jC Fv]
 rw [e1];by_cases hma:m∈a
 ·obtain ⟨c,d,rfl,_,h4⟩:=oI hma (List.nodup_append.1 hn).1;have hmc:m∉c:=fun h=>h4 (by simp [h]);rw [show (c++m::d)++n::b=c++m::(d++n::b) by simp,jC hmc];cases hdr:d.reverse with
  |nil=>
   have:d=[]:=by simpa using hdr
   subst this;simp [hd]
  |cons x t=>
   have Q3:x∈d:=by rw [<-List.mem_reverse,hdr];simp
   have hmx:m≠x:=fun e=>h4 (by rw [e];simp [Q3]);rw [show (c++m::d).reverse=d.reverse++(m::c.reverse) by simp,hdr,List.cons_append,lT];cases d with
   |nil=>simp at Q3
   |cons y d=>
    rw [List.cons_append,lT];constructor
    ·intro e;exfalso;have:y=n:=omm;subst this;exact WC smm
    ·intro e;exfalso;exact hmx omm
 ·have GY:m=n\/m∈b:=by simp at Fo;rcases Fo with h|h|h<;>simp_all
  constructor
  ·intro h;exfalso;rw [Fm hma] at h;have WD:n∉b:=fun h'=>h3 (by simp [h']);unfold kK at h;split at h
   ·cases b with
    |nil=>simp [hd] at h<;>omega
    |cons x b=>simp [hd] at h;simp at WD;omega
   ·exact WD (Ft h)
  ·intro h;exfalso;cases Sn:a.reverse with
   |nil=>rw [Sn] at h;simp [hd] at h<;>omega
   |cons x t=>rw [Sn,lT] at h;have:x=m:=omm;subst this;exact hma (by rw [<-List.mem_reverse,Sn];simp)
theorem ri (R:Raw) (n l e:Nat) (m:Int):(jm R n l e m).own=R.own/\(jm R n l e m).made=R.made/\(jm R n l e m).val=R.val/\(jm R n l e m).cS=R.cS/\(jm R n l e m).used=R.used/\(jm R n l e m).cR=R.cR:=by unfold jm;split<;>exact ⟨rfl,rfl,rfl,rfl,rfl,rfl⟩
theorem yR {nl:Nat} {R:Raw} {A:Ar} {n l:Nat} (h:GQ nl R A none) (hl:l < nl) (hm:n∈A.ls l):
 GQ nl {cP R n with used:=R.used - 1} (qB A n l) (some n)/\(cP R n).own n=l/\0 < R.used/\(cP R n).bK n 0=R.bK n 0/\(cP R n).val=R.val/\(cP R n).cS=R.cS/\(cP R n).used=R.used/\(cP R n).made=R.made:=by
 have fo:=h.own l n hl hm;have gm:=h.nd l hl;obtain ⟨a,b,AE,Vi,Sp⟩:=oI hm gm;have WC:n∉a:=fun h=>Sp (by simp [h]);have Fv:n∉b:=fun h=>Sp (by simp [h]);have dQ:R.bK n 0=hd a.reverse:=by rw [h.bK l n 0 hl hm omm,AE];show kK (a++n::b).reverse n=_;rw [show (a++n::b).reverse=b.reverse++n::a.reverse by simp,jC (by simpa using Fv)]
 have eN:R.bK n 1=hd b:=by rw [h.bK l n 1 hl hm omm,AE];show kK (a++n::b) n=_;rw [jC WC]
 have nT:∀q,(qB A n l).ls q=if q=l then a++b else A.ls q:=fun q=>by show aL A.ls l _ q=_;rw [cG,Vi]
 have eG:∀q m,q < nl->m∈(qB A n l).ls q->m≠n/\m∈A.ls q:=by
  intro q m hq iR;rw [nT] at iR;split at iR
  ·next e=>subst e
           refine ⟨fun e=>Sp (e▸iR),?_⟩;rw [AE];simp at iR ⊢;rcases iR with h'|h'<;>simp [h']
  ·next e=>exact ⟨fun e'=>e (h.pS hq hl iR (e'▸hm)),iR⟩
 let R1:=jm R n l 0 (R.bK n 0)
 have Sq:R1=jm R n l 0 (R.bK n 0):=rfl;have a8:(R.own n).toNat=l:=by rw [fo];rfl
 have hcut:cP R n={jm R1 n l 1 (R.bK n 1) with cR:=aL (jm R1 n l 1 (R.bK n 1)).cR l ((jm R1 n l 1 (R.bK n 1)).cR l - 1)}:=by unfold cP;rw [a8]
 have Ov:∀m:Nat,hd a.reverse=(m:Int)->m∈a/\m≠n:=by
  intro m iR;cases Sn:a.reverse with
  |nil=>rw [Sn] at iR;simp [hd] at iR<;>omega
  |cons x t=>
   rw [Sn,lT] at iR;have:x=m:=omm;subst this;have:x∈a:=by rw [<-List.mem_reverse,Sn];simp
   exact ⟨this,fun e=>WC (e▸this)⟩
 have uG:∀m:Nat,hd b=(m:Int)->m∈b/\m≠n:=by
  intro m iR;cases b with
  |nil=>simp [hd] at iR<;>omega
  |cons x t=>rw [lT] at iR;have:x=m:=omm;subst this;exact ⟨smm,fun e=>Fv (by rw [<-e];simp)⟩
 have JW:∀m e,(cP R n).bK m e=if 0<=hd b/\m=(hd b).toNat/\e=0 then hd a.reverse else if 0<=hd a.reverse/\m=(hd a.reverse).toNat/\e=1 then hd b else R.bK m e:=by
  intro m e;have h1:R1.bK=if 0<=hd a.reverse then cM R.bK (hd a.reverse).toNat 1 (hd b) else R.bK:=by
   rw [Sq];unfold jm;rw [dQ];by_cases h0:hd a.reverse < 0
   ·rw [afE h0,abH omm]
   ·rw [abH h0,afE omm];show cM R.bK _ (1 - 0) (R.bK n (1 - 0))=_;rw [show (1 - 0)=1 from rfl,eN]
  have h2:(cP R n).bK=if 0<=hd b then cM R1.bK (hd b).toNat 0 (R1.bK n 0) else R1.bK:=by
   rw [hcut];show (jm R1 n l 1 (R.bK n 1)).bK=_;unfold jm;rw [eN];by_cases h0:hd b < 0
   ·rw [afE h0,abH omm]
   ·rw [abH h0,afE omm]
  have h3:R1.bK n 0=hd a.reverse:=by
   rw [h1];split
   ·rw [cN,abH omm,dQ]
   ·exact dQ
  rw [h2,h3,h1];by_cases c1:0<=hd b
  ·rw [afE c1,cN];by_cases c2:m=(hd b).toNat/\e=0
   ·rw [afE c2,afE ⟨c1,c2⟩]
   ·rw [abH c2,abH (show ¬(0<=hd b/\m=(hd b).toNat/\e=0) from fun h=>c2 h.2)];by_cases c3:0<=hd a.reverse
    ·rw [afE c3,cN];by_cases c4:m=(hd a.reverse).toNat/\e=1<;>simp [c3,c4]
    ·simp [c3]
  ·rw [abH c1,abH (show ¬(0<=hd b/\m=(hd b).toNat/\e=0) from fun h=>c1 h.1)];by_cases c3:0<=hd a.reverse
   ·rw [afE c3,cN];by_cases c4:m=(hd a.reverse).toNat/\e=1<;>simp [c3,c4]
   ·simp [c3]
 have WE:∀q e,(cP R n).ends q e=if hd b < 0/\q=l/\e=1 then hd a.reverse else if hd a.reverse < 0/\q=l/\e=0 then hd b else R.ends q e:=by
  intro q e;have h1:R1.ends=if hd a.reverse < 0 then cM R.ends l 0 (hd b) else R.ends:=by
   rw [Sq];unfold jm;rw [dQ];by_cases h0:hd a.reverse < 0
   ·rw [afE h0,afE h0];show cM R.ends l 0 (R.bK n (1 - 0))=_;rw [show (1 - 0)=1 from rfl,eN]
   ·rw [abH h0,abH h0]
  have h3:R1.bK n 0=hd a.reverse:=by
   rw [Sq];unfold jm;split
   ·exact dQ
   ·show cM R.bK _ (1 - 0) _ n 0=_;rw [cN,abH omm,dQ]
  have h2:(cP R n).ends=if hd b < 0 then cM R1.ends l 1 (hd a.reverse) else R1.ends:=by
   rw [hcut];show (jm R1 n l 1 (R.bK n 1)).ends=_;unfold jm;rw [eN];by_cases h0:hd b < 0
   ·rw [afE h0,afE h0];show cM R1.ends l 1 (R1.bK n (1 - 1))=_;rw [show (1 - 1)=0 from rfl,h3]
   ·rw [abH h0,abH h0]
  rw [h2,h1];by_cases c1:hd b < 0
  ·rw [afE c1,cN];by_cases c2:q=l/\e=1
   ·rw [afE c2,afE ⟨c1,c2⟩]
   ·rw [abH c2,abH (show ¬(hd b < 0/\q=l/\e=1) from fun h=>c2 h.2)];by_cases c3:hd a.reverse < 0
    ·rw [afE c3,cN];by_cases c4:q=l/\e=0<;>simp [c3,c4]
    ·simp [c3]
  ·rw [abH c1,abH (show ¬(hd b < 0/\q=l/\e=1) from fun h=>c1 h.1)];by_cases c3:hd a.reverse < 0
   ·rw [afE c3,cN];by_cases c4:q=l/\e=0<;>simp [c3,c4]
   ·simp [c3]
 obtain ⟨o1,o2,o3,o4,o5,o6⟩:=ri R n l 0 (R.bK n 0);obtain ⟨p1,p2,p3,p4,p5,p6⟩:=ri R1 n l 1 (R.bK n 1);have f1:(cP R n).own=R.own:=by rw [hcut];exact p1.trans o1
 have f2:(cP R n).made=R.made:=by rw [hcut];exact p2.trans o2
 have f3:(cP R n).val=R.val:=by rw [hcut];exact p3.trans o3
 have f4:(cP R n).cS=R.cS:=by rw [hcut];exact p4.trans o4
 have f5:(cP R n).used=R.used:=by rw [hcut];exact p5.trans o5
 have f6:(cP R n).cR=aL R.cR l (R.cR l - 1):=by rw [hcut];show aL (jm R1 n l 1 (R.bK n 1)).cR l _=_;rw [p6.trans o6]
 have hnA:=h.wW l n hl hm;have aab:=h.re hl hm;have hlen:(A.ls l).length=(a++b).length+1:=by rw [AE];simp;omega
 have hup:0 < R.used:=by have h1:=h.used;have h2:=AW (k:=nl) (f:=fun q=>(A.ls q).length) hl;omega
 refine ⟨⟨by show (cP R n).made=A.made;rw [f2,h.made],by show (cP R n).val=A.val;rw [f3,h.val],fun q hq=>?_,h.Vg,fun q m hq iR=>h.wW q m hq (eG q m hq iR).2,h.JS,fun q m hq iR=>?_,fun m iR=>?_,fun m iR=>?_,fun m iR=>?_,fun q m e hq iR he=>?_,fun q e hq he=>?_,fun q hq=>?_,?_,fun m iR=>?_,?_,?_⟩,by rw [f1,fo],hup,?_,f3,f4,f5,f2⟩
 ·rw [nT];split
  ·have h1:=List.nodup_append.1 (AE▸gm);exact List.nodup_append.2 ⟨h1.1,(List.nodup_cons.1 h1.2.1).2,fun x hx y hy=>h1.2.2 x hx y (by simp [hy])⟩
  ·exact h.nd q hq
 ·show (cP R n).own m=_;rw [f1];exact h.own q m hq (eG q m hq iR).2
 ·show (cP R n).own m=_;rw [f1];exact h.free m iR
 ·rcases h.part m iR with h1|h1|⟨q,hq,h1⟩
  ·simp at h1
  ·exact .inr (.inl h1)
  ·by_cases e:m=n
   ·subst e;exact .inl rfl
   ·refine .inr (.inr ⟨q,hq,?_⟩);rw [nT];split
    ·next e'=>subst e'
              rw [AE] at h1;simp at h1 ⊢;rcases h1 with h1|h1|h1
              ·exact .inl h1
              ·exact absurd h1 e
              ·exact .inr h1
    ·exact h1
 ·simp at iR;subst iR;exact ⟨hnA,aab,fun q hq qV=>(eG q n hq qV).1 rfl⟩
 ·show (cP R n).bK m e=_;obtain ⟨GY,Fo⟩:=eG q m hq iR;rw [JW];have hold:=h.bK q m e hq Fo he;by_cases AD:q=l
  ·subst AD;rw [nT,afE rfl];have DE:m∈a++b:=by rw [nT,afE rfl] at iR;exact iR
   have Ow:(a++n::b).reverse=b.reverse++n::a.reverse:=by simp
   have Fq:e=0\/e=1:=omm;rcases Fq with rfl|rfl
   ·
    have WG:dir 0 (a++b)=b.reverse++a.reverse:=by simp [dir]
    have Sr:(b.reverse++n::a.reverse).Nodup:=by rw [<-Ow];exact (List.reverse_perm _).nodup_iff.2 (AE▸gm)
    rw [WG,AT Sr GY (by simp at DE ⊢;rcases DE with h'|h'<;>simp [h'])];have AX:R.bK m 0=kK (b.reverse++n::a.reverse) m:=by rw [hold,AE];show kK (a++n::b).reverse m=_;rw [Ow]
    rw [<-AX];have key:R.bK m 0=(n:Int)↔hd b=(m:Int):=by rw [AX,<-Ow,Fu ((List.reverse_perm _).nodup_iff.2 (AE▸gm)) smm (by simp at DE ⊢;rcases DE with h'|h'<;>simp [h'])];rw [List.reverse_reverse,jC WC]
    by_cases hc:R.bK m 0=(n:Int)
    ·have:=key.1 hc;rw [afE hc,afE ⟨omm,omm,rfl⟩]
    ·have Ss:¬hd b=(m:Int):=fun h'=>hc (key.2 h');rw [abH hc,abH omm,abH omm]
   ·have WH:dir 1 (a++b)=a++b:=by simp [dir]
    rw [WH,AT (AE▸gm) GY DE];have AX:R.bK m 1=kK (a++n::b) m:=by rw [hold,AE];rfl
    rw [<-AX];have key:R.bK m 1=(n:Int)↔hd a.reverse=(m:Int):=by rw [AX,Fu (AE▸gm) smm (by simp at DE ⊢;rcases DE with h'|h'<;>simp [h'])];rw [Ow,jC (by simpa using Fv)]
    by_cases hc:R.bK m 1=(n:Int)
    ·have:=key.1 hc;rw [afE hc,abH omm,afE ⟨omm,omm,rfl⟩]
    ·have Ss:¬hd a.reverse=(m:Int):=fun h'=>hc (key.2 h');rw [abH hc,abH omm,abH omm]
  ·rw [nT,abH AD];have g1:¬(0<=hd b/\m=(hd b).toNat/\e=0):=by rintro ⟨h0,h1,_⟩;have h2:=(uG m omm).1;exact AD (h.pS hq hl Fo (by rw [AE];simp [h2]))
   have g2:¬(0<=hd a.reverse/\m=(hd a.reverse).toNat/\e=1):=by rintro ⟨h0,h1,_⟩;have h2:=(Ov m omm).1;exact AD (h.pS hq hl Fo (by rw [AE];simp [h2]))
   rw [abH g1,abH g2];exact hold
 ·show (cP R n).ends q e=_;rw [WE,nT];by_cases AD:q=l
  ·subst AD;rw [afE rfl];have hold:=h.ends q e hq he;have Fq:e=0\/e=1:=omm;rcases Fq with rfl|rfl
   ·rw [abH omm];show _=hd (a++b);by_cases hc:hd a.reverse < 0
    ·rw [afE ⟨hc,rfl,rfl⟩];have:a=[]:=by simpa using DD.1 hc
     rw [this];rfl
    ·rw [abH (fun h=>hc h.1),hold,AE];cases a with
     |nil=>simp [hd] at hc
     |cons x t=>rfl
   ·show _=hd (a++b).reverse;rw [List.reverse_append];by_cases hc:hd b < 0
    ·rw [afE ⟨hc,rfl,rfl⟩];have:b=[]:=DD.1 hc;rw [this];rfl
    ·rw [abH (fun h=>hc h.1),abH omm,hold,AE];show hd (a++n::b).reverse=_;rw [show (a++n::b).reverse=b.reverse++n::a.reverse by simp];cases NI:b.reverse with
     |nil=>
      have:b=[]:=by simpa using NI
      rw [this] at hc;simp [hd] at hc
     |cons x t=>rfl
  ·rw [abH (fun h=>AD h.2.1),abH (fun h=>AD h.2.1),abH AD];exact h.ends q e hq he
 ·show (cP R n).cR q=_;rw [f6,cG,nT];split
  ·next e=>subst e
           rw [h.cR q hq,AE];simp
  ·exact h.cR q hq
 ·show (cP R n).cS=_;rw [f4];exact h.wX
 ·show (cP R n).bK m 0=_;rw [JW];have g1:¬(0<=hd b/\m=(hd b).toNat/\(0:Nat)=0):=by rintro ⟨h0,h1,_⟩;have h2:=(uG m omm).1;exact h.re hl (by rw [AE];simp [h2]) iR
  rw [abH g1,abH omm];exact h.JT m iR
 ·show R.used - 1=cF nl fun q=>((qB A n l).ls q).length;have h1:=kT (k:=nl) (f:=fun q=>(A.ls q).length) (g:=fun q=>((qB A n l).ls q).length) hl (fun j hj=>by show ((qB A n l).ls j).length=_;rw [nT,abH hj]);have h2:((qB A n l).ls l).length=(a++b).length:=by rw [nT,afE rfl]
  have h3:=h.used;rw [h2] at h1;omega
 ·have:=h.Sl;simp at this ⊢;show R.used - 1+A.fr.length+1=A.made;omega
 ·rw [JW,abH,abH omm];rintro ⟨h0,h1,_⟩;exact (uG n omm).2 rfl
theorem JX {nl:Nat} {R:Raw} {A:Ar} {n:Nat} (z:eW) (h:GQ nl {R with used:=R.used - 1} A (some n)):GQ nl (JU R n z) (rh A n z) none:=by
 obtain ⟨hn,NH,iZ⟩:=h.hol n rfl;have hv:R.val=A.val:=h.val;refine ⟨h.made,by show aL R.val n z=aL A.val n z;rw [hv],h.nd,List.nodup_cons.2 ⟨NH,h.Vg⟩,h.wW,fun m hm=>?_,fun q m hq hm=>?_,fun m hm=>?_,fun m hm=>?_,fun m hm=>by simp at hm,fun q m e hq hm he=>?_,h.ends,h.cR,rfl,fun m hm=>?_,?_,?_⟩
 ·simp [rh] at hm;rcases hm with rfl|hm
  ·exact hn
  ·exact h.JS m hm
 ·show aL R.own n (-1) m=_;rw [aj _ _ (fun e=>by subst e;exact iZ q hq hm)];exact h.own q m hq hm
 ·show aL R.own n (-1) m=_;simp [rh] at hm;rw [cG];split
  ·rfl
  ·next e=>rcases hm with rfl|hm
           ·exact absurd rfl e
           ·exact h.free m hm
 ·rcases h.part m hm with h1|h1|h1
  ·simp at h1;subst h1;exact .inr (.inl (by simp [rh]))
  ·exact .inr (.inl (by simp [rh,h1]))
  ·exact .inr (.inr h1)
 ·show cM (cM R.bK n 0 R.cS) n 1 (-1) m e=_;have:m≠n:=fun e=>by subst e;exact iZ q hq hm
  rw [cN,cN,abH (fun h=>this h.1),abH (fun h=>this h.1)];exact h.bK q m e hq hm he
 ·show cM (cM R.bK n 0 R.cS) n 1 (-1) m 0=kK (n::A.fr) m;rw [cN,cN,abH omm];by_cases e:m=n
  ·subst e;rw [afE ⟨rfl,rfl⟩,dS];exact h.wX
  ·rw [abH (fun h=>e h.1),dl (fun e'=>e e'.symm)];simp [rh] at hm;exact h.JT m (hm.resolve_left e)
 ·exact h.used
 ·have:=h.Sl;simp [rh] at this ⊢;show R.used - 1+(A.fr.length+1)=A.made;omega
def pT (R:Raw) (z:eW):Raw:={R with made:=R.made+1,val:=aL R.val R.made z,own:=aL R.own R.made 0,bK:=aL R.bK R.made fun _=>0}
def tW (R:Raw):Raw:={R with cS:=R.bK R.cS.toNat 0}
def iu (R:Raw) (n:Nat) (v:eW):Raw:={R with val:=aL R.val n v}
def JY (A:Ar) (n:Nat) (v:eW):Ar:={A with val:=aL A.val n v}
def JZ (A:Ar) (z:eW):Ar:={A with made:=A.made+1,val:=aL A.val A.made z}
def J0 (A:Ar):Ar:={A with fr:=A.fr.tail}
theorem yS {nl:Nat} {R:Raw} {A:Ar} {ho:Option Nat} (h:GQ nl R A ho) (n:Nat) (v:eW):GQ nl (iu R n v) (JY A n v) ho:=
 ⟨h.made,by show aL R.val n v=aL A.val n v;rw [h.val],h.nd,h.Vg,h.wW,h.JS,h.own,h.free,h.part,h.hol,h.bK,h.ends,h.cR,h.wX,h.JT,h.used,h.Sl⟩
theorem Ox {nl:Nat} {R:Raw} {A:Ar} (h:GQ nl R A none) (z:eW):GQ nl (pT R z) (JZ A z) (some A.made):=by
 have hm:=h.made;refine ⟨by show R.made+1=A.made+1;rw [hm],by show aL R.val R.made z=aL A.val A.made z;rw [hm,h.val],h.nd,h.Vg,fun q n hq hn=>Nat.lt_succ_of_lt (h.wW q n hq hn),fun n hn=>Nat.lt_succ_of_lt (h.JS n hn),fun q n hq hn=>?_,fun n hn=>?_,fun n hn=>?_,fun n hn=>?_,fun q n e hq hn he=>?_,h.ends,h.cR,h.wX,fun n hn=>?_,?_,?_⟩
 ·show aL R.own R.made 0 n=_;rw [aj _ _ (by have:=h.wW q n hq hn;omega)];exact h.own q n hq hn
 ·show aL R.own R.made 0 n=_;rw [aj _ _ (by have:=h.JS n hn;omega)];exact h.free n hn
 ·by_cases e:n=A.made
  ·subst e;exact .inl rfl
  ·rcases h.part n (by simp [JZ] at hn;omega) with h1|h1
   ·simp at h1
   ·exact .inr h1
 ·simp at hn;subst hn;exact ⟨by simp [JZ],fun h'=>by have:=h.JS _ h';omega,fun q hq h'=>by have:=h.wW q _ hq h';omega⟩
 ·show aL R.bK R.made (fun _=>0) n e=_;rw [aj _ _ (by have:=h.wW q n hq hn;omega)];exact h.bK q n e hq hn he
 ·show aL R.bK R.made (fun _=>0) n 0=_;rw [aj _ _ (by have:=h.JS n hn;omega)];exact h.JT n hn
 ·exact h.used
 ·have:=h.Sl;simp at this;show R.used+A.fr.length+1=A.made+1;omega
theorem Oy {nl:Nat} {R:Raw} {A:Ar} {n:Nat} {t:List Nat} (h:GQ nl R A none) (hf:A.fr=n::t):GQ nl (tW R) (J0 A) (some n)/\R.cS=(n:Int):=by
 have r8:=h.wX;rw [hf,lT] at r8;have gm:=h.Vg;rw [hf] at gm;have Su:=List.nodup_cons.1 gm;have hp:(J0 A).fr=t:=by show A.fr.tail=t;rw [hf];rfl
 have J1:∀m,m∈t->m∈A.fr:=fun m hm=>by rw [hf];simp [hm]
 have NH:n∈A.fr:=by rw [hf];simp
 refine ⟨⟨h.made,h.val,h.nd,by rw [hp];exact Su.2,h.wW,fun m hm=>h.JS m (J1 m (by rw [hp] at hm;exact hm)),h.own,fun m hm=>h.free m (J1 m (by rw [hp] at hm;exact hm)),fun m hm=>?_,fun m hm=>?_,h.bK,h.ends,h.cR,?_,fun m hm=>?_,?_,?_⟩,r8⟩
 ·rcases h.part m hm with h1|h1|h1
  ·simp at h1
  ·rw [hf] at h1;simp at h1;rcases h1 with rfl|h1
   ·exact .inl rfl
   ·exact .inr (.inl (by rw [hp];exact h1))
  ·exact .inr (.inr h1)
 ·simp at hm;subst hm;exact ⟨h.JS n NH,by rw [hp];exact Su.1,fun q hq h'=>h.re hq h' NH⟩
 ·show R.bK R.cS.toNat 0=_;rw [r8,Int.toNat_natCast,h.JT n NH,hf,dS,hp]
 ·rw [hp] at hm;show R.bK m 0=kK (J0 A).fr m;rw [h.JT m (J1 m hm),hf,hp,dl (fun e=>by subst e;exact Su.1 hm)]
 ·exact h.used
 ·have:=h.Sl;rw [hf] at this;simp at this;rw [hp];show R.used+t.length+1=A.made;omega
def dI:eW:=⟨0,fun _=>0⟩
structure Nd where
 ls:Nat->List Nat
 val:Nat->eW
 fs:Nat->Nat
theorem Nd.ext {a b:Nd} (h1:a.ls=b.ls) (h2:a.val=b.val) (h3:a.fs=b.fs):a=b:=by
 cases a;cases b;simp_all
def uJ (n:Nat) (f:Nat->Nat):Nat->Nat
 |0=>n
 |i+1=>f i
def Fw (f:Nat->Nat):Nat->Nat:=fun i=>f (i+1)
theorem AY (f:Nat->Nat):uJ (f 0) (Fw f)=f:=by funext i;cases i<;>rfl
def qC:List Nat->Nat->Nat->Nat
 |[],m,i=>m+i
 |a::_,_,0=>a
 |_::t,m,i+1=>qC t m i
theorem xH (a:Nat) (t:List Nat) (m:Nat):qC (a::t) m=uJ a (qC t m):=by funext i;cases i<;>rfl
theorem J_ (m:Nat):qC [] m=uJ m (qC [] (m+1)):=by
 funext i;cases i with
 |zero=>simp [qC,uJ]
 |succ i=>simp [qC,uJ];omega
def abs (A:Ar):Nd:=⟨A.ls,A.val,qC A.fr A.made⟩
def gd (a:Nd) (q e:Nat) (v:eW):Nd:=⟨aL a.ls q (ext e (a.ls q) (a.fs 0)),aL a.val (a.fs 0) v,Fw a.fs⟩
def takeN (a:Nd) (q n:Nat):Nd:=⟨aL a.ls q ((a.ls q).erase n),aL a.val n dI,uJ n a.fs⟩
def GZ (a:Nd) (n:Nat) (v:eW):Nd:={a with val:=aL a.val n v}
def mZ (a:Nd) (n q e:Nat):Nd:={a with ls:=aL a.ls q (ext e ((a.ls q).erase n) n)}
def gH (R:Raw) (q e:Nat) (v:eW):Raw:=
 let n:=if R.cS < 0 then R.made else R.cS.toNat
 let R1:=if R.cS < 0 then pT R dI else tW R
 {e_ (iu R1 n v) n q e with used:=R.used+1}
def jD (R:Raw) (n:Nat):Raw:=JU (cP R n) n dI
def pE (R:Raw) (n q e:Nat):Raw:=e_ (cP R n) n q e
theorem fW {β:Type} (f:Nat->β) (i:Nat) (x y:β):aL (aL f i x) i y=aL f i y:=by funext j;simp only [cG];split<;>rfl
theorem fp {β:Type} (f:Nat->β) (i:Nat):aL f i (f i)=f:=by funext j;simp only [cG];split<;>simp_all
theorem Ka {nl:Nat} {R:Raw} {A:Ar} (h:GQ nl R A none) {q e:Nat} (hq:q < nl) (he:e<=1) (v:eW):
 ∃A',GQ nl (gH R q e v) A' none/\abs A'=gd (abs A) q e v/\(if R.cS < 0 then R.made else R.cS.toNat)=(abs A).fs 0:=by
 have r8:=h.wX;cases hf:A.fr with
 |nil=>
  rw [hf] at r8;have kL:R.cS < 0:=by rw [r8];decide
  have h1:=yS (Ox h dI) A.made v;have h2:=uI h1 hq he trivial;refine ⟨mY (JY (JZ A dI) A.made v) A.made q e,?_,?_,?_⟩
  ·have e1:gH R q e v={e_ (iu (pT R dI) A.made v) A.made q e with used:=(iu (pT R dI) A.made v).used+1}:=by unfold gH;rw [afE kL,afE kL,h.made];rfl
   rw [e1];exact h2
  ·unfold abs gd;simp only [mY,JY,JZ,hf];refine Nd.ext rfl ?_ ?_
   ·show aL (aL A.val A.made dI) A.made v=aL A.val (qC [] A.made 0) v;rw [fW];rfl
   ·show qC [] (A.made+1)=Fw (qC [] A.made);rw [J_ A.made];rfl
  ·rw [afE kL,h.made];unfold abs;rw [hf];rfl
 |cons n t=>
  obtain ⟨h0,hfn⟩:=Oy h hf;have kL:¬R.cS < 0:=by rw [hfn];omega
  have h1:=yS h0 n v;have h2:=uI h1 hq he trivial;refine ⟨mY (JY (J0 A) n v) n q e,?_,?_,?_⟩
  ·have e1:gH R q e v={e_ (iu (tW R) n v) n q e with used:=(iu (tW R) n v).used+1}:=by unfold gH;rw [abH kL,abH kL,hfn];rfl
   rw [e1];exact h2
  ·unfold abs gd;simp only [mY,JY,J0,hf,List.tail];refine Nd.ext rfl rfl ?_
   ·show qC t A.made=Fw (qC (n::t) A.made);rw [xH];rfl
  ·rw [abH kL,hfn];unfold abs;rw [hf];rfl
theorem AZ {nl:Nat} {R:Raw} {A:Ar} (h:GQ nl R A none) {l n:Nat} (hl:l < nl) (hm:n∈A.ls l):
 ∃A',GQ nl (jD R n) A' none/\abs A'=takeN (abs A) l n:=by
 obtain ⟨h1,ho,hu,hb,hv,hf,Vj,G3⟩:=yR h hl hm;refine ⟨rh (qB A n l) n dI,?_,?_⟩
 ·have:=JX (R:=cP R n) dI (by rw [Vj];exact h1);exact this
 ·unfold abs takeN rh qB;refine Nd.ext rfl rfl ?_;show qC (n::A.fr) A.made=uJ n (qC A.fr A.made);exact xH _ _ _
theorem Kb {nl:Nat} {R:Raw} {A:Ar} (h:GQ nl R A none) {n q e:Nat} (hq:q < nl) (hm:n∈A.ls q) (he:e<=1):
 ∃A',GQ nl (pE R n q e) A' none/\abs A'=mZ (abs A) n q e:=by
 obtain ⟨h1,ho,hu,hb,hv,hf,Vj,G3⟩:=yR h hq hm;have h2:=uI h1 hq he trivial;refine ⟨mY (qB A n q) n q e,?_,?_⟩
 ·have e1:pE R n q e={e_ {cP R n with used:=R.used - 1} n q e with used:=R.used - 1+1}:=by
   unfold pE;have:R.used - 1+1=(e_ (cP R n) n q e).used:=by show _=(cP R n).used;rw [Vj];omega
   rw [this];rfl
  rw [e1];exact h2
 ·unfold abs mZ mY qB;refine Nd.ext ?_ rfl rfl;show aL (aL A.ls q _) q (ext e (aL A.ls q _ q) n)=_;rw [fW,an]
structure Wf (nl:Nat) (a:Nd):Prop where
 nd:∀q,q < nl->(a.ls q).Nodup
 Vk:∀q p n,q < nl->p < nl->n∈a.ls q->n∈a.ls p->q=p
 wX:∀q i,q < nl->a.fs i∉a.ls q
 inj:∀i j,a.fs i=a.fs j->i=j
 Δ:∀i,a.val (a.fs i)=dI
theorem Oz {nl:Nat} {a:Nd} (h:Wf nl a) {q e:Nat} (hq:q < nl) (v:eW):Wf nl (gd a q e v):=by
 have nT:∀p,(gd a q e v).ls p=if p=q then ext e (a.ls q) (a.fs 0) else a.ls p:=fun p=>rfl;have eG:∀p n,n∈(gd a q e v).ls p->(p=q/\n=a.fs 0)\/n∈a.ls p:=by
  intro p n hn;rw [nT] at hn;split at hn
  ·next e'=>rw [ext_mem] at hn
            rcases hn with hn|hn
            ·exact .inl ⟨e',hn⟩
            ·exact .inr (e'▸hn)
  ·exact .inr hn
 refine ⟨fun p hp=>?_,fun p r n hp hr h1 h2=>?_,fun p i hp hi=>?_,fun i j Sv=>?_,fun i=>?_⟩
 ·rw [nT];split
  ·exact xF (h.nd q hq) (h.wX q 0 hq)
  ·exact h.nd p hp
 ·rcases eG p n h1 with ⟨e0,e1⟩|g1<;>rcases eG r n h2 with ⟨e0',e2⟩|g2
  ·rw [e0,e0']
  ·rw [e1] at g2;exact absurd g2 (h.wX r 0 hr)
  ·rw [e2] at g1;exact absurd g1 (h.wX p 0 hp)
  ·exact h.Vk p r n hp hr g1 g2
 ·rcases eG p _ hi with ⟨_,e1⟩|h1
  ·have:=h.inj (i+1) 0 e1;omega
  ·exact h.wX p (i+1) hp h1
 ·have:=h.inj (i+1) (j+1) Sv;omega
 ·show aL a.val (a.fs 0) v (a.fs (i+1))=_;rw [aj _ _ (fun e'=>by have:=h.inj _ _ e';omega)];exact h.Δ (i+1)
theorem OA {nl:Nat} {a:Nd} (h:Wf nl a) {q n:Nat} (hq:q < nl) (hn:n∈a.ls q):Wf nl (takeN a q n):=by
 have nT:∀p,(takeN a q n).ls p=if p=q then (a.ls q).erase n else a.ls p:=fun p=>rfl;have eG:∀p m,p < nl->m∈(takeN a q n).ls p->m∈a.ls p/\m≠n:=by
  intro p m hp hm;rw [nT] at hm;split at hm
  ·next e'=>subst e'
            exact ⟨List.mem_of_mem_erase hm,fun e=>by subst e;exact (h.nd p hp).not_mem_erase hm⟩
  ·next e'=>exact ⟨hm,fun e=>by subst e;exact e' (h.Vk p q m hp hq hm hn)⟩
 refine ⟨fun p hp=>?_,fun p r m hp hr h1 h2=>h.Vk p r m hp hr (eG p m hp h1).1 (eG r m hr h2).1,fun p i hp hi=>?_,fun i j Sv=>?_,fun i=>?_⟩
 ·rw [nT];split
  ·exact (h.nd q hq).erase n
  ·exact h.nd p hp
 ·obtain ⟨h1,h2⟩:=eG p _ hp hi;cases i with
  |zero=>exact h2 rfl
  |succ i=>exact h.wX p i hp h1
 ·cases i with
  |zero=>cases j with
   |zero=>rfl
   |succ j=>exact absurd (show a.fs j∈a.ls q from by rw [<-show n=a.fs j from Sv];exact hn) (h.wX q j hq)
  |succ i=>cases j with
   |zero=>exact absurd (show a.fs i∈a.ls q from by rw [show a.fs i=n from Sv];exact hn) (h.wX q i hq)
   |succ j=>have:=h.inj i j Sv;omega
 ·cases i with
  |zero=>exact an _ _ _
  |succ i=>
   show aL a.val n dI (a.fs i)=_;rw [cG];split
   ·rfl
   ·exact h.Δ i
theorem Sw {nl:Nat} {a:Nd} (h:Wf nl a) {q n:Nat} (hq:q < nl) (hn:n∈a.ls q) (v:eW):Wf nl (GZ a n v):=
 ⟨h.nd,h.Vk,h.wX,h.inj,fun i=>by
   show aL a.val n v (a.fs i)=_;rw [aj _ _ (fun e=>by subst e;exact h.wX q i hq hn)];exact h.Δ i⟩
theorem xI {e:Nat} {l:List Nat} {n:Nat} (h:n∉l):(ext e l n).erase n=l:=by
 unfold ext;split
 ·rw [List.erase_append_right _ h];simp
 ·simp
theorem G4 {nl:Nat} {a:Nd} (h:Wf nl a) {q e:Nat} (hq:q < nl) (v:eW):takeN (gd a q e v) q (a.fs 0)=a:=by
 refine Nd.ext ?_ ?_ ?_
 ·show aL (aL a.ls q _) q ((aL a.ls q _ q).erase (a.fs 0))=a.ls;rw [fW,an,xI (h.wX q 0 hq),fp]
 ·show aL (aL a.val (a.fs 0) v) (a.fs 0) dI=a.val;rw [fW,<-h.Δ 0,fp]
 ·exact AY a.fs
theorem G5 {a:Nd} {q e n:Nat} {l:List Nat} (hl:a.ls q=ext e l n) (hn:n∉l):gd (takeN a q n) q e (a.val n)=a:=by
 refine Nd.ext ?_ ?_ ?_
 ·show aL (aL a.ls q _) q (ext e (aL a.ls q _ q) n)=a.ls;rw [fW,an,hl,xI hn,<-hl,fp]
 ·show aL (aL a.val n dI) n (a.val n)=a.val;rw [fW,fp]
 ·rfl
theorem set_set (a:Nd) (n:Nat) (v:eW):GZ (GZ a n v) n (a.val n)=a:=by refine Nd.ext rfl ?_ rfl;show aL (aL a.val n v) n (a.val n)=a.val;rw [fW,fp]
theorem DF {a:Nd} {q n:Nat} {x y:List Nat} (hl:a.ls q=x++n::y) (hn:n∉x):mZ a n q 0={a with ls:=aL a.ls q (n::(x++y))}:=by refine Nd.ext ?_ rfl rfl;show aL a.ls q (ext 0 ((a.ls q).erase n) n)=_;rw [hl,List.erase_append_right _ hn];simp [Vm.ext]
theorem A_ {q:Nat} (y:List Nat):∀(k:Nat) (x p:List Nat) (a:Nd),x.length=k->a.ls q=p++(x++y)->(p++(x++y)).Nodup->
 (x.reverse).foldl (fun b m=>mZ b m q 0) a={a with ls:=aL a.ls q (x++(p++y))}:=by
 intro k
 induction k with
 |zero=>intro x p a hk hl hd;have:x=[]:=List.length_eq_zero_iff.1 hk;subst this;refine Nd.ext ?_ rfl rfl;show a.ls=aL a.ls q (p++y);rw [<-show a.ls q=p++y from hl,fp]
 |succ k ih=>
  intro x p a hk hl hd;have bz:x≠[]:=by intro e;subst e;simp at hk
  obtain ⟨z,m,rfl⟩:∃z m,x=z++[m]:=⟨x.dropLast,x.getLast bz,(List.dropLast_concat_getLast bz).symm⟩;rw [List.reverse_append,List.reverse_singleton,List.singleton_append,List.foldl_cons];have Ba:a.ls q=(p++z)++m::y:=by rw [hl];simp
  have pR:((p++z)++m::y).Nodup:=by rw [<-Ba,hl];exact hd
  have hm:m∉p++z:=fun h'=>(List.nodup_append.1 pR).2.2 m h' m smm rfl;rw [DF Ba hm];have Γ:z.length=k:=by simp at hk;exact hk
  have hp:((m::p)++(z++y)).Nodup:=by
   have:List.Perm ((m::p)++(z++y)) ((p++z)++m::y):=by rw [List.cons_append,<-List.append_assoc];exact List.perm_middle.symm
   exact this.nodup_iff.2 pR
  have key:=ih z (m::p) {a with ls:=aL a.ls q (m::((p++z)++y))} Γ (by show aL a.ls q _ q=_;rw [an];simp) hp;rw [key];refine Nd.ext ?_ rfl rfl;show aL (aL a.ls q _) q _=aL a.ls q _;rw [fW];congr 1;simp
structure St where
 a:Nd
 f:Nat->Option Nat
 vars:Nat->Int
 total:Int
theorem St.ext {s t:St} (h1:s.a=t.a) (h2:s.f=t.f) (h3:s.vars=t.vars) (h4:s.total=t.total):s=t:=by
 cases s;cases t;simp_all
structure Sys where
 nq:Nat
 gh:Nat->Bool
 cq:Nat->Nat
 sz:Nat
def fX (S:Sys) (a:Nd):Nat:=cF S.nq fun q=>if S.gh q then 0 else (a.ls q).length
structure Inv (S:Sys) (s:St):Prop where
 wf:Wf S.nq s.a
 idx:∀k n,s.f k=some n↔∃q,q < S.nq/\n∈s.a.ls q/\(s.a.val n).key=k
 len:∀q,q < S.nq->(s.a.ls q).length<=S.cq q
 Kd:s.total=fX S s.a
 NJ:fX S s.a<=S.sz
 tag:∀q n,q < S.nq->n∈s.a.ls q->∀t,0<=(s.a.val n).tg t/\(s.a.val n).tg t<=255
 key:∀q n,q < S.nq->n∈s.a.ls q->(s.a.val n).key < 18446744073709551616
 var:∀i,-1073741824<=s.vars i/\s.vars i<=1073741824
theorem Inv.one {S:Sys} {s:St} (h:Inv S s) {q p n m:Nat} (hq:q < S.nq) (hp:p < S.nq) (hn:n∈s.a.ls q) (hm:m∈s.a.ls p) (e:(s.a.val n).key=(s.a.val m).key):n=m:=by have h1:=(h.idx _ n).2 ⟨q,hq,hn,rfl⟩;have h2:=(h.idx _ m).2 ⟨p,hp,hm,rfl⟩;rw [e,h2] at h1;exact (af0 h1).symm
def ja (S:Sys) (s:St) (q e:Nat) (x:eW):St:=
 {s with a:=gd s.a q e x,f:=aL s.f x.key (some (s.a.fs 0)),total:=if S.gh q then s.total else s.total+1}
def fR (S:Sys) (s:St) (q n:Nat):St:=
 {s with a:=takeN s.a q n,f:=aL s.f (s.a.val n).key none,total:=if S.gh q then s.total else s.total - 1}
def ck (a:Nd) (q e:Nat):Nat:=(hd (dir (1 - e) (a.ls q))).toNat
def kD (s:St) (n:Nat) (x:eW):St:={s with a:=GZ s.a n x}
theorem fi {a:Nd} {q e:Nat} (h:a.ls q≠[]):ck a q e∈a.ls q:=by
 unfold ck;rw [<-iD (1 - e)];cases hh:dir (1 - e) (a.ls q) with
 |nil=>
  exfalso;apply h;cases hl:a.ls q with
  |nil=>rfl
  |cons x t=>
   have:x∈dir (1 - e) (a.ls q):=by rw [iD,hl];simp
   rw [hh] at this;simp at this
 |cons x t=>simp [hd]
theorem G6 {a:Nd} {q e:Nat} (he:e<=1) (h:a.ls q≠[]):a.ls q=ext e ((a.ls q).erase (ck a q e)) (ck a q e)\/¬(a.ls q).Nodup:=by
 by_cases hn:(a.ls q).Nodup
 ·left;unfold ck;have:e=0\/e=1:=omm;rcases this with rfl|rfl
  ·cases hl:a.ls q with
   |nil=>exact absurd hl h
   |cons x t=>simp [dir,hd,ext]
  ·have bz:(a.ls q).reverse≠[]:=by simpa using h
   cases hl:(a.ls q).reverse with
   |nil=>exact absurd hl bz
   |cons x t=>
    have e1:a.ls q=t.reverse++[x]:=by have:=congrArg List.reverse hl;simpa using this
    have e2:x∉t.reverse:=by rw [e1] at hn;intro hx;exact (List.nodup_append.1 hn).2.2 x hx x smm rfl
    have e3:(hd (dir (1 - 1) (a.ls q))).toNat=x:=by show (hd (dir 0 (a.ls q))).toNat=x;unfold dir;rw [abH dee,hl];rfl
    rw [e3]
    conv=>lhs;rw [e1]
    unfold ext;rw [afE rfl];congr 1;rw [e1,List.erase_append_right _ e2];simp
 ·exact .inr hn
theorem Bb {S:Sys} {a:Nd} {q e:Nat} (hq:q < S.nq) (x:eW):fX S (gd a q e x)=fX S a+if S.gh q then 0 else 1:=by
 unfold fX;have h1:=kT (k:=S.nq) (f:=fun p=>if S.gh p then 0 else (a.ls p).length) (g:=fun p=>if S.gh p then 0 else ((gd a q e x).ls p).length) hq (fun j hj=>by
  show (if S.gh j then 0 else (aL a.ls q _ j).length)=_;rw [aj _ _ hj])
 have h2:((gd a q e x).ls q).length=(a.ls q).length+1:=by show (aL a.ls q _ q).length=_;rw [an,jk]
 rw [h2] at h1;by_cases hg:S.gh q=true
 ·simp [hg] at h1 ⊢;omega
 ·simp [hg] at h1 ⊢;omega
theorem Bc {S:Sys} {a:Nd} {q n:Nat} (hq:q < S.nq) (hn:n∈a.ls q):fX S (takeN a q n)+(if S.gh q then 0 else 1)=fX S a:=by
 unfold fX;have h1:=kT (k:=S.nq) (f:=fun p=>if S.gh p then 0 else (a.ls p).length) (g:=fun p=>if S.gh p then 0 else ((takeN a q n).ls p).length) hq (fun j hj=>by
  show (if S.gh j then 0 else (aL a.ls q _ j).length)=_;rw [aj _ _ hj])
 have h2:((takeN a q n).ls q).length=(a.ls q).length - 1:=by show (aL a.ls q _ q).length=_;rw [an,agr hn]
 have h3:0 < (a.ls q).length:=agw hn;rw [h2] at h1;by_cases hg:S.gh q=true
 ·simp [hg] at h1 ⊢;omega
 ·simp [hg] at h1 ⊢;omega
theorem jL {a:Nd} {q e:Nat} {x:eW} {p n:Nat}:n∈(gd a q e x).ls p↔(p=q/\n=a.fs 0)\/n∈a.ls p:=by
 show n∈aL a.ls q _ p↔_;rw [cG];by_cases h:p=q
 ·subst h;simp [ext_mem]
 ·simp [h]
theorem Bd {nl:Nat} {a:Nd} (h:Wf nl a) {q n p m:Nat} (hq:q < nl) (hp:p < nl) (hn:n∈a.ls q):m∈(takeN a q n).ls p↔m∈a.ls p/\m≠n:=by
 show m∈aL a.ls q _ p↔_;rw [cG];by_cases e:p=q
 ·subst e;rw [afE rfl,(h.nd p hp).mem_erase_iff];exact and_comm
 ·rw [abH e];refine ⟨fun hm=>⟨hm,fun e'=>by subst e';exact e (h.Vk p q m hp hq hm hn)⟩,fun hm=>hm.1⟩
theorem OB {S:Sys} {s:St} (h:Inv S s) {q e:Nat} (hq:q < S.nq) {x:eW} (hk:s.f x.key=none) (hl:(s.a.ls q).length < S.cq q) (ht:S.gh q=true\/s.total < S.sz)
 (hx:∀t,0<=x.tg t/\x.tg t<=255) (si:x.key < 18446744073709551616):Inv S (ja S s q e x):=by
 have ir:∀n,(ja S s q e x).a.val n=if n=s.a.fs 0 then x else s.a.val n:=fun n=>rfl;have bz:∀p n,p < S.nq->n∈s.a.ls p->n≠s.a.fs 0:=fun p n hp hn e'=>h.wf.wX p 0 hp (e'▸hn);have Be:=Bb (a:=s.a) (e:=e) hq x;refine ⟨Oz h.wf hq x,fun k n=>?_,fun p hp=>?_,?_,?_,fun p n hp hn=>?_,fun p n hp hn=>?_,h.var⟩
 ·show aL s.f x.key (some (s.a.fs 0)) k=some n↔_;rw [cG];by_cases e1:k=x.key
  ·subst e1;rw [afE rfl];constructor
   ·intro e2;have:s.a.fs 0=n:=af0 e2;subst this;exact ⟨q,hq,jL.2 (.inl ⟨rfl,rfl⟩),by rw [ir,afE rfl]⟩
   ·rintro ⟨p,hp,hm,tX⟩;rcases jL.1 hm with ⟨_,rfl⟩|hm
    ·rfl
    ·rw [ir,abH (bz p n hp hm)] at tX;have:=(h.idx x.key n).2 ⟨p,hp,hm,tX⟩;rw [hk] at this;simp at this
  ·rw [abH e1,h.idx];constructor
   ·rintro ⟨p,hp,hm,tX⟩;exact ⟨p,hp,jL.2 (.inr hm),by rw [ir,abH (bz p n hp hm)];exact tX⟩
   ·rintro ⟨p,hp,hm,tX⟩;rcases jL.1 hm with ⟨_,rfl⟩|hm
    ·rw [ir,afE rfl] at tX;exact absurd tX.symm e1
    ·rw [ir,abH (bz p n hp hm)] at tX;exact ⟨p,hp,hm,tX⟩
 ·show (aL s.a.ls q _ p).length<=_;rw [cG];split
  ·next e'=>subst e';rw [jk];omega
  ·exact h.len p hp
 ·show (if S.gh q then s.total else s.total+1)=(fX S (gd s.a q e x):Nat);rw [Be,h.Kd];by_cases hg:S.gh q=true<;>simp [hg]
 ·show fX S (gd s.a q e x)<=_;rw [Be];have:=h.NJ;have h2:=h.Kd;by_cases hg:S.gh q=true
  ·simp [hg];omega
  ·simp [hg] at ht ⊢;omega
 ·intro t;rcases jL.1 hn with ⟨_,rfl⟩|hm
  ·rw [ir,afE rfl];exact hx t
  ·rw [ir,abH (bz p n hp hm)];exact h.tag p n hp hm t
 ·rcases jL.1 hn with ⟨_,rfl⟩|hm
  ·rw [ir,afE rfl];exact si
  ·rw [ir,abH (bz p n hp hm)];exact h.key p n hp hm
theorem jM {S:Sys} {s:St} (h:Inv S s) {q n:Nat} (hq:q < S.nq) (hn:n∈s.a.ls q):Inv S (fR S s q n):=by
 have eG:∀p m,p < S.nq->(m∈(fR S s q n).a.ls p↔m∈s.a.ls p/\m≠n):=fun p m hp=>Bd h.wf hq hp hn;have ir:∀m,m≠n->(fR S s q n).a.val m=s.a.val m:=fun m hm=>aj _ _ hm;have Be:=Bc hq hn;refine ⟨OA h.wf hq hn,fun k m=>?_,fun p hp=>?_,?_,?_,fun p m hp hm=>?_,fun p m hp hm=>?_,h.var⟩
 ·show aL s.f (s.a.val n).key none k=some m↔_;rw [cG];by_cases e:k=(s.a.val n).key
  ·rw [afE e];constructor
   ·intro h';simp at h'
   ·rintro ⟨p,hp,hm,hk⟩;obtain ⟨h1,h2⟩:=(eG p m hp).1 hm;rw [ir m h2] at hk;exact absurd (h.one hp hq h1 hn (by rw [hk,e])) h2
  ·rw [abH e,h.idx];constructor
   ·rintro ⟨p,hp,hm,hk⟩;have h2:m≠n:=fun e'=>by subst e';exact e hk.symm
    exact ⟨p,hp,(eG p m hp).2 ⟨hm,h2⟩,by rw [ir m h2];exact hk⟩
   ·rintro ⟨p,hp,hm,hk⟩;obtain ⟨h1,h2⟩:=(eG p m hp).1 hm;exact ⟨p,hp,h1,by rw [ir m h2] at hk;exact hk⟩
 ·show (aL s.a.ls q _ p).length<=_;rw [cG];split
  ·next e=>subst e;rw [agr hn];have:=h.len p hp;omega
  ·exact h.len p hp
 ·show (if S.gh q then s.total else s.total - 1)=(fX S (takeN s.a q n):Nat);have:=h.Kd;by_cases hg:S.gh q=true
  ·simp [hg] at Be ⊢;omega
  ·simp [hg] at Be ⊢;omega
 ·show fX S (takeN s.a q n)<=_;have:=h.NJ;omega
 ·obtain ⟨h1,h2⟩:=(eG p m hp).1 hm;rw [ir m h2];exact h.tag p m hp h1
 ·obtain ⟨h1,h2⟩:=(eG p m hp).1 hm;rw [ir m h2];exact h.key p m hp h1
theorem Ke {S:Sys} {s:St} (h:Inv S s) {q n:Nat} (hq:q < S.nq) (hn:n∈s.a.ls q) {x:eW} (hk:x.key=(s.a.val n).key) (hx:∀t,0<=x.tg t/\x.tg t<=255):Inv S (kD s n x):=by
 have ir:∀m,(kD s n x).a.val m=if m=n then x else s.a.val m:=fun m=>rfl;have si:∀m,((kD s n x).a.val m).key=(s.a.val m).key:=fun m=>by
  rw [ir];split
  ·next e=>rw [e,hk]
  ·rfl
 refine ⟨Sw h.wf hq hn x,fun k m=>?_,h.len,h.Kd,h.NJ,fun p m hp hm t=>?_,fun p m hp hm=>?_,h.var⟩
 ·refine (h.idx k m).trans ?_;constructor
  ·rintro ⟨p,hp,hm,uK⟩;exact ⟨p,hp,hm,by rw [si];exact uK⟩
  ·rintro ⟨p,hp,hm,uK⟩;exact ⟨p,hp,hm,by rw [si] at uK;exact uK⟩
 ·rw [ir];split
  ·exact hx t
  ·exact h.tag p m hp hm t
 ·rw [si];exact h.key p m hp hm
inductive sm
 |var (i:Nat) (oE:Int)
 |mark (oE:eW)
 |cut (q e:Nat)
 |put (q e:Nat) (x:eW)
 |out (q:Nat) (x:eW) (ahead:List Nat)
def jn (S:Sys) (s:St) (q e:Nat):St:=fR S s q (ck s.a q e)
def k_ (S:Sys):sm->St->St
 | .var i oE,s=>{s with vars:=aL s.vars i oE}
 | .mark oE,s=>match s.f oE.key with
   |some n=>kD s n oE
   |none=>s
 | .cut q e,s=>jn S s q e
 | .put q e x,s=>ja S s q e x
 | .out q x ahead,s=>{ja S s q 0 x with a:=ahead.foldl (fun b m=>mZ b m q 0) (ja S s q 0 x).a}
theorem DG {nl:Nat} {a:Nd} {q e:Nat} (he:e<=1) (x:eW):ck (gd a q e x) q e=a.fs 0:=by unfold ck;show (hd (dir (1 - e) (aL a.ls q _ q))).toNat=_;rw [an,(Fp he _ _).2];rfl
theorem Kf {S:Sys} {s:St} (h:Inv S s) {q e:Nat} (hq:q < S.nq) (he:e<=1) {x:eW} (hk:s.f x.key=none):k_ S (.cut q e) (ja S s q e x)=s:=by
 have e1:ck (ja S s q e x).a q e=s.a.fs 0:=DG (nl:=S.nq) he x;show fR S (ja S s q e x) q (ck (ja S s q e x).a q e)=s;rw [e1];have e2:(ja S s q e x).a.val (s.a.fs 0)=x:=an _ _ _;unfold fR;rw [e2];refine St.ext (G4 h.wf hq x) ?_ rfl ?_
 ·show aL (aL s.f x.key _) x.key none=s.f;rw [fW,<-hk,fp]
 ·show (if S.gh q then (if S.gh q then s.total else s.total+1) else (if S.gh q then s.total else s.total+1) - 1)=s.total;by_cases hg:S.gh q=true<;>simp [hg]<;>omega
theorem Kg {S:Sys} {s:St} (h:Inv S s) {q e:Nat} (hq:q < S.nq) (he:e<=1) (bz:s.a.ls q≠[]):k_ S (.put q e (s.a.val (ck s.a q e))) (jn S s q e)=s:=by
 have hm:=fi (e:=e) bz;have gm:=h.wf.nd q hq;have hx:=(G6 he bz).resolve_right (fun h'=>h' gm);have hf:=(h.idx _ _).2 ⟨q,hq,hm,rfl⟩;generalize hn:ck s.a q e=n at*;show ja S (fR S s q (ck s.a q e)) q e (s.a.val n)=s;rw [hn];unfold ja fR;refine St.ext (G5 hx gm.not_mem_erase) ?_ rfl ?_
 ·show aL (aL s.f _ none) _ (some n)=s.f;rw [fW,<-hf,fp]
 ·show (if S.gh q then (if S.gh q then s.total else s.total - 1) else (if S.gh q then s.total else s.total - 1)+1)=s.total;by_cases hg:S.gh q=true<;>simp [hg]<;>omega
def iI (l:List Nat) (n:Nat):List Nat:=(l.takeWhile fun m=>m !=n).reverse
theorem lV {l:List Nat} {n:Nat} (h:n∈l):∃y,l=(iI l n).reverse++n::y/\n∉iI l n:=by
 unfold iI;rw [List.reverse_reverse]
 induction l with
 |nil=>simp at h
 |cons a t ih=>
  by_cases e:a=n
  ·subst e;exact ⟨t,smm,smm⟩
  ·have h':n∈t:=by
    simp at h;rcases h with h|h
    ·exact absurd h.symm e
    ·exact h
   obtain ⟨y,h1,h2⟩:=ih h';refine ⟨y,?_,?_⟩
   ·rw [List.takeWhile_cons_of_pos (by simpa using e),List.cons_append,<-h1]
   ·rw [List.takeWhile_cons_of_pos (by simpa using e)];intro h3;rcases List.mem_cons.1 (List.mem_reverse.1 h3) with h3|h3
    ·exact e h3.symm
    ·exact h2 (List.mem_reverse.2 h3)
theorem Kh {S:Sys} {s:St} (h:Inv S s) {q n:Nat} (hq:q < S.nq) (hn:n∈s.a.ls q):k_ S (.out q (s.a.val n) (iI (s.a.ls q) n)) (fR S s q n)=s:=by
 obtain ⟨y,h1,h2⟩:=lV hn;have gm:=h.wf.nd q hq;have hf:=(h.idx _ _).2 ⟨q,hq,hn,rfl⟩;generalize iI (s.a.ls q) n=x at*;have yO:n∉x.reverse:=by simpa using h2
 have he:(s.a.ls q).erase n=x.reverse++y:=by rw [h1,List.erase_append_right _ yO];simp
 unfold k_;refine St.ext ?_ ?_ rfl ?_
 ·show x.foldl (fun b m=>mZ b m q 0) (gd (takeN s.a q n) q 0 (s.a.val n))=s.a;have nT:(gd (takeN s.a q n) q 0 (s.a.val n)).ls q=[n]++(x.reverse++y):=by show aL (aL s.a.ls q _) q (ext 0 (aL s.a.ls q _ q) n) q=_;rw [an,an,he];simp [Vm.ext]
  have Sr:([n]++(x.reverse++y)).Nodup:=by have:List.Perm (n::(x.reverse++y)) (x.reverse++n::y):=List.perm_middle.symm;exact this.nodup_iff.2 (h1▸gm)
  have:=A_ y x.reverse.length x.reverse [n] _ rfl nT Sr;rw [List.reverse_reverse] at this;rw [this];refine Nd.ext ?_ ?_ rfl
  ·show aL (aL (aL s.a.ls q _) q _) q (x.reverse++([n]++y))=s.a.ls;rw [fW,fW];have:x.reverse++([n]++y)=s.a.ls q:=by rw [h1];rfl
   rw [this,fp]
  ·show aL (aL s.a.val n dI) n (s.a.val n)=s.a.val;rw [fW,fp]
 ·show aL (aL s.f _ none) _ (some n)=s.f;rw [fW,<-hf,fp]
 ·show (if S.gh q then (if S.gh q then s.total else s.total - 1) else (if S.gh q then s.total else s.total - 1)+1)=s.total;by_cases hg:S.gh q=true<;>simp [hg]<;>omega
theorem G7 {S:Sys} {s:St} (h:Inv S s) {q n:Nat} (hq:q < S.nq) (hn:n∈s.a.ls q) {x:eW} (hk:x.key=(s.a.val n).key):k_ S (.mark (s.a.val n)) (kD s n x)=s:=by have hf:=(h.idx _ _).2 ⟨q,hq,hn,rfl⟩;unfold k_;show (match s.f (s.a.val n).key with|some m=>kD (kD s n x) m (s.a.val n)|none=>kD s n x)=s;rw [hf];exact St.ext (set_set s.a n x) rfl rfl rfl
theorem Ki (S:Sys) (s:St) (i:Nat) (v:Int):k_ S (.var i (s.vars i)) {s with vars:=aL s.vars i v}=s:=by refine St.ext rfl rfl ?_ rfl;show aL (aL s.vars i v) i (s.vars i)=s.vars;rw [fW,fp]
structure Ins where
 op:Int
 a:Int
 b:Int
 c:Int
 d:Int
 deriving DecidableEq
structure Vr where
 init:Int
 lo:Int
 hi:Int
 deriving DecidableEq
structure aO where
 ap:List Bool
 vars:List Vr
 aW:List Int
 on:List Int
 aJ:Int
 code:List Ins
structure Cp where
 size:Int
 aI:List Int
def aw (p:aO) (c:Cp):Sys:=⟨p.ap.length,fun q=>p.ap.getD q false,fun q=>(c.aI.getD q 0).toNat,c.size.toNat⟩
def within (n lo hi:Int):Int:=max lo (min hi n)
def kj (n:Int):Int:=within n (-1073741824) 1073741824
def ni (b:Bool):Int:=if b then 1 else 0
def uZ (a b:Int):Int:=if b=0 then 0 else kj (if a.tmod b≠0/\(decide (a < 0)≠decide (b < 0)) then a.tdiv b - 1 else a.tdiv b)
theorem sw {n lo hi:Int} (h:lo<=hi):lo<=within n lo hi/\within n lo hi<=hi:=by unfold within;omega
theorem ru (n:Int): -1073741824<=kj n/\kj n<=1073741824:=sw dee
theorem lu (b:Bool):ni b=0\/ni b=1:=by cases b<;>simp [ni]
theorem OW (a b:Int): -1073741824<=uZ a b/\uZ a b<=1073741824:=by
 unfold uZ;split
 ·omega
 ·exact ru _
structure Rn where
 key:Nat
 at_:Nat
 stack:List Int
 loops:List Int
 hand:Option eW
 told:List Nat
 br:Int
 bm:List sm
 done:Bool
def Rn.push (r:Rn) (n:Int):Rn:={r with stack:=n::r.stack}
def Rn.fO (r:Rn):Int:=r.stack.headD 0
def Rn.pop (r:Rn):Rn:={r with stack:=r.stack.tail}
def Rn.note (r:Rn) (u:sm):Rn:={r with bm:=u::r.bm}
def Rn.dG (r:Rn) (t:Int):Rn:={r with br:=t}
def NP (S:Sys) (a:Nd) (n:Nat):Nat:=((List.range S.nq).find? fun q=>(a.ls q).contains n).getD 0
theorem jq {S:Sys} {a:Nd} (h:Wf S.nq a) {q n:Nat} (hq:q < S.nq) (hn:n∈a.ls q):NP S a n=q:=by
 unfold NP;cases hf:(List.range S.nq).find? fun q=>(a.ls q).contains n with
 |none=>have:=List.find?_eq_none.1 hf q (by simp [hq]);simp [hn] at this
 |some p=>have h1:=List.find?_some hf;have h2:=List.mem_of_find?_eq_some hf;simp at h1 h2;exact h.Vk p q n h2 hq h1 hn
abbrev SR:=St×Rn
def gW (S:Sys) (x:SR) (q e:Nat) (v:eW):SR×Bool:=
 if (x.1.a.ls q).length=S.cq q\/(S.gh q=false/\x.1.total=S.sz) then ((x.1,x.2.dG 1),false) else ((ja S x.1 q e v,x.2.note (.cut q e)),true)
def ry (S:Sys) (x:SR) (n q:Nat):SR:=(fR S x.1 q n,x.2.note (.out q (x.1.a.val n) (iI (x.1.a.ls q) n)))
def bi (S:Sys) (x:SR) (q e:Nat):SR×Bool:=
 if x.1.a.ls q=[] then ((x.1,x.2.dG 2),false)
 else ((jn S x.1 q e,{x.2.note (.put q e (x.1.a.val (ck x.1.a q e))) with hand:=some (x.1.a.val (ck x.1.a q e))}),true)
def oA (r:Rn):eW:=r.hand.getD dI
def dt (S:Sys) (x:SR) (q e:Nat):SR×Bool:=gW S (x.1,{x.2 with hand:=none}) q e (oA x.2)
def fY (x:SR):SR:=(x.1,{x.2 with told:=x.2.told++[(oA x.2).key]})
def fG (x:SR):SR:=(x.1,{x.2 with hand:=none})
def lY (e:eW) (tag:Nat) (n m:Int):eW:=⟨e.key,aL e.tg tag (within n 0 m)⟩
def oB (p:aO) (x:SR) (n tag:Nat) (v:Int):SR:=
 (kD x.1 n (lY (x.1.a.val n) tag v (p.aW.getD tag 0)),x.2.note (.mark (x.1.a.val n)))
def jr (r:Rn) (at_:Nat):Rn:={r with loops:=r.loops.tail,at_:=at_}
def mL (op:Int) (a b:Int):Int:=
 if op=11 then min a b else if op=12 then max a b else if op=15 then kj (a*b) else if op=16 then uZ a b else if op=17 then kj (a+b)
 else if op=18 then kj (a - b) else if op=19 then ni (decide (a=b)) else if op=20 then ni (decide (a < b)) else ni (decide (a<=b))
def N (i:Int):Nat:=i.toNat
def lZ (S:Sys) (i:Ins) (x:SR):SR:=
 match x.1.f x.2.key with
 |some _=>(x.1,x.2.dG 3)
 |none=>(gW S x (N i.a) (N i.b) ⟨x.2.key,fun _=>0⟩).1
def tD (S:Sys) (i:Ins) (x:SR):SR:=
 match x.1.f x.2.key with
 |none=>(x.1,x.2.dG 3)
 |some n=>(gW S (ry S x n (NP S x.1.a n)) (N i.a) (N i.b) (x.1.a.val n)).1
def l8 (S:Sys) (x:SR):SR:=
 match x.1.f x.2.key with
 |none=>(x.1,x.2.dG 3)
 |some n=>if S.gh (NP S x.1.a n) then ry S x n (NP S x.1.a n) else (x.1,x.2.dG 3)
def nX (S:Sys) (i:Ins) (x:SR):SR:=let y:=bi S x (N i.a) (N i.b);if y.2 then (dt S y.1 (N i.c) (N i.d)).1 else y.1
def nY (S:Sys) (i:Ins) (x:SR):SR:=let y:=bi S x (N i.a) (N i.b);if y.2 then (dt S (fY y.1) (N i.c) (N i.d)).1 else y.1
def nZ (S:Sys) (i:Ins) (x:SR):SR:=let y:=bi S x (N i.a) (N i.b);if y.2 then fG (fY y.1) else y.1
def rz (S:Sys) (i:Ins) (x:SR):SR:=let y:=bi S x (N i.a) (N i.b);if y.2 then fG y.1 else y.1
def zp (p:aO) (i:Ins) (x:SR):SR:=
 let v:=p.vars.getD (N i.a) ⟨0,0,0⟩
 ({x.1 with vars:=aL x.1.vars (N i.a) (within x.2.fO v.lo v.hi)},(x.2.note (.var (N i.a) (x.1.vars (N i.a)))).pop)
def oO (p:aO) (i:Ins) (x:SR):SR:=
 match x.1.f x.2.key with
 |none=>(x.1,x.2.pop.dG 3)
 |some n=>oB p (x.1,x.2.pop) n (N i.a) x.2.fO
def jO (p:aO) (i:Ins) (x:SR):SR:=
 if x.1.a.ls (N i.a)=[] then (x.1,x.2.pop.dG 2) else oB p (x.1,x.2.pop) (ck x.1.a (N i.a) (N i.b)) (N i.c) x.2.fO
def tE (i:Ins) (x:SR):SR:=
 match x.1.f x.2.key with
 |none=>(x.1,x.2.dG 3)
 |some n=>(x.1,x.2.push ((x.1.a.val n).tg (N i.a)))
def l_ (i:Ins) (x:SR):SR:=
 if x.1.a.ls (N i.a)=[] then (x.1,x.2.dG 2) else (x.1,x.2.push ((x.1.a.val (ck x.1.a (N i.a) (N i.b))).tg (N i.c)))
def sx (S:Sys) (i:Ins) (x:SR):SR:=
 (x.1,x.2.push (ni (match x.1.f x.2.key with|none=>false|some n=>decide ((NP S x.1.a n:Int)=i.a))))
def ql (i:Ins) (x:SR):SR:=
 if x.2.loops.headD 0=0 then (x.1,jr x.2 (N i.a)) else (x.1,{x.2 with loops:=(x.2.loops.headD 0 - 1)::x.2.loops.tail})
def qm (i:Ins) (x:SR):SR:=if x.2.fO=0 then (x.1,jr x.2.pop (N i.a)) else (x.1,x.2.pop)
def aC (p:aO) (c:Cp) (i:Ins) (x:SR):SR:=
 let S:=aw p c
 if i.op=0 then (x.1,{x.2 with done:=true})
 else if i.op=1\/i.op=2 then (x.1,x.2.push i.a)
 else if i.op=3 then (x.1,x.2.push (x.1.vars (N i.a)))
 else if i.op=4 then (x.1,x.2.push (x.1.a.ls (N i.a)).length)
 else if i.op=5 then (x.1,x.2.push (c.aI.getD (N i.a) 0))
 else if i.op=6 then (x.1,x.2.push c.size)
 else if i.op=7 then (x.1,x.2.push x.1.total)
 else if i.op=8 then sx S i x
 else if i.op=9 then tE i x
 else if i.op=10 then l_ i x
 else if i.op=13 then (x.1,x.2.pop.push (-x.2.fO))
 else if i.op=14 then (x.1,x.2.pop.push (1 - x.2.fO))
 else if 11<=i.op/\i.op<=21 then (x.1,x.2.pop.pop.push (mL i.op x.2.pop.fO x.2.fO))
 else if i.op=22\/i.op=27 then (x.1,{x.2 with at_:=N i.a})
 else if i.op=23 then (x.1,if x.2.fO=0 then {x.2.pop with at_:=N i.a} else x.2.pop)
 else if i.op=24 then (x.1,{x.2 with loops:=i.a::x.2.loops})
 else if i.op=25 then ql i x
 else if i.op=26 then qm i x
 else if i.op=28 then zp p i x
 else if i.op=29 then oO p i x
 else if i.op=30 then jO p i x
 else if i.op=31 then lZ S i x
 else if i.op=32 then tD S i x
 else if i.op=33 then l8 S x
 else if i.op=34 then (bi S x (N i.a) (N i.b)).1
 else if i.op=35 then (dt S x (N i.a) (N i.b)).1
 else if i.op=36 then fY x
 else if i.op=37 then fG x
 else if i.op=38 then nX S i x
 else if i.op=39 then nY S i x
 else if i.op=40 then nZ S i x
 else rz S i x
def bY (op:Nat):List Nat:=
 match op with
 |1=>[5]|2=>[6]|3=>[2]|4=>[1]|5=>[1]|8=>[1]|9=>[3]|10=>[1,4,3]
 |22=>[8]|23=>[8]|24=>[7]|25=>[8]|26=>[8]|27=>[8]
 |28=>[2]|29=>[3]|30=>[1,4,3]|31=>[1,4]|32=>[1,4]|34=>[1,4]|35=>[1,4]
 |38=>[1,4,1,4]|39=>[1,4,1,4]|40=>[1,4]|41=>[1,4]
 |_=>[]
def aF (n lo hi:Int):Bool:=decide (lo<=n)&&decide (n<=hi)
def dM (kind:Nat):Int:=if kind=5 then -1073741824 else 0
def dN (p:aO) (kind:Nat):Int:=
 if kind=1 then (p.ap.length:Int) - 1 else if kind=2 then (p.vars.length:Int) - 1 else if kind=3 then (p.aW.length:Int) - 1
 else if kind=4 then 1 else if kind=5 then 1073741824 else if kind=6 then 1 else if kind=7 then 4194304 else if kind=8 then (p.code.length:Int) - 1 else 0
def aY (p:aO) (kind:Nat) (n:Int):Bool:=aF n (dM kind) (dN p kind)
def operands (i:Ins):List Int:=[i.a,i.b,i.c,i.d]
def gI (p:aO) (i:Ins):Bool:=
 aY p ((bY i.op.toNat).getD 0 0) i.a&&aY p ((bY i.op.toNat).getD 1 0) i.b&&aY p ((bY i.op.toNat).getD 2 0) i.c&&aY p ((bY i.op.toNat).getD 3 0) i.d
def iP (i:Ins):Bool:=aF i.op 0 41
def me (v:Vr):Bool:=decide (v.lo<=v.init)&&decide (v.init<=v.hi)&&decide (-1073741824<=v.lo)&&decide (v.hi<=1073741824)
def bS (p:aO):Bool:=
 decide (p.ap.length<=16)&&decide (p.vars.length<=16)&&decide (p.aW.length<=4)&&decide (p.on.length=p.ap.length)&&decide (p.code.length<=262144)&&
 p.vars.all me&&p.aW.all (fun t=>aF t 1 255)&&p.on.all (fun n=>aF n (-1) ((p.code.length:Int) - 1))&&aF p.aJ (-1) ((p.code.length:Int) - 1)
def dp (p:aO):List Ins->Int
 |[]=>0
 |i::l=>if iP i then (if gI p i then dp p l else 92) else 91
def bo (p:aO):Int:=if bS p then dp p p.code else 85
structure Std where
 ty:List Nat
 lo:List Nat
 ha:Nat
 deriving DecidableEq
abbrev Map:=Nat->Option Std
def bO (op:Nat):List Nat:=
 match op with
 |11|12|15|16|17|18|20|21=>[1,1]
 |13=>[1]|14=>[2]|19=>[3,3]|23|26=>[2]|28|29|30=>[1]
 |_=>[]
def aR (op:Nat):Nat:=
 match op with
 |1|3|4|5|6|7|9|10|11|12|13|15|16|17|18=>1
 |2|8|14|19|20|21=>2
 |_=>0
def hZ:List Nat->List Nat->Bool
 |[],_=>true
 |w::ws,t::ts=>(w==3||t==w)&&hZ ws ts
 |_::_,[]=>false
def bj (p:aO) (n:Int):Bool:=p.ap.getD n.toNat false
def ai (p:aO) (n:Nat):Ins:=p.code.getD n ⟨0,0,0,0,0⟩
def dU (p:aO) (x:Ins) (ha:Nat):Bool:=
 if x.op=36 then ha==2
 else if x.op=37 then ha==1||ha==3
 else if x.op=35 then (if bj p x.a then ha==1||ha==3 else ha==2)
 else if x.op=28\/x.op=29\/x.op=30 then true
 else (decide (1<=x.op)&&decide (x.op<=21))||ha==0
def bM (x:Ins) (ty:List Nat):Int:=
 let t:=bO x.op.toNat
 if ty.length < t.length\/(x.op=0/\0 < ty.length)\/(aR x.op.toNat≠0/\256 < ty.length - t.length+1) then 93
 else if !hZ t ty||(decide (x.op=19)&&ty.getD 0 0 !=ty.getD 1 0) then 94 else 0
def aT (x:Ins) (ty:List Nat):List Nat:=
 let r:=ty.drop (bO x.op.toNat).length
 if aR x.op.toNat=0 then r else aR x.op.toNat::r
def cJ (p:aO) (x:Ins):Bool:=
 if x.op=32\/x.op=40 then !bj p x.a
 else if x.op=41 then bj p x.a
 else if x.op=38 then bj p x.a==bj p x.c
 else if x.op=39 then !bj p x.a&&bj p x.c
 else true
def cC (p:aO) (T:Map) (pc:Nat) (x:Ins) (ty lo:List Nat):Bool:=
 if (x.op=22\/x.op=23\/x.op=25\/x.op=26)/\(x.a<=pc\/(ai p x.a.toNat).op=25) then false
 else if x.op=24 then decide (pc+1 < p.code.length)&&decide ((ai p (pc+1)).op=25)
 else if x.op=25 then decide (0 < pc)&&decide ((ai p (pc - 1)).op=24)&&decide (p.aJ≠pc)&& !p.on.contains (pc:Int)
 else if x.op=26 then (match lo with|[]=>false|t::_=>decide (x.a=(ai p t).a))
 else if x.op=27 then (match lo with|[]=>false|t::l=>decide (x.a=t)&&(match T t with|some s=>decide (s.ty=ty/\s.lo=l)|none=>decide (ty=[]/\l=[])))
 else if x.op=0 then lo.isEmpty
 else true
def be (p:aO) (x:Ins) (ha:Nat):Nat:=
 if x.op=36 then 3 else if x.op=35\/x.op=37 then 0 else if x.op=34 then (if bj p x.a then 1 else 2) else ha
def cm (pc:Nat) (x:Ins) (s:Std):List (Nat×Std):=
 if x.op=0\/x.op=27 then []
 else if x.op=22 then [(x.a.toNat,s)]
 else if x.op=23 then [(pc+1,s),(x.a.toNat,s)]
 else if x.op=25 then [(pc+1,{s with lo:=pc::s.lo}),(x.a.toNat,s)]
 else if x.op=26 then [(pc+1,s),(x.a.toNat,{s with lo:=s.lo.tail})]
 else [(pc+1,s)]
def yI (T:Map) (l:List (Nat×Std)):Bool:=l.all fun w=>match T w.1 with|some s=>decide (s=w.2)|none=>true
def jh:List (Nat×Std)->Bool
 |[]=>true
 |w::l=>(l.all fun v=>decide (v.1=w.1)==false||decide (v.2=w.2))&&jh l
def oP (T:Map):List (Nat×Std)->Map
 |[]=>T
 |w::l=>oP (aL T w.1 (some w.2)) l
def cO (p:aO) (T:Map) (pc:Nat):Int:=
 let x:=ai p pc
 match T pc with
 |none=>99
 |some s=>
  if !dU p x s.ha then 96
  else if bM x s.ty≠0 then bM x s.ty
  else if !cJ p x then 92
  else if !cC p T pc x (aT x s.ty) s.lo then 95
  else
   let l:=cm pc x ⟨aT x s.ty,s.lo,be p x s.ha⟩
   if l.any (fun w=>decide (p.code.length<=w.1)) then 98
   else if !(jh l&&yI T l) then 94 else 0
def iE (p:aO) (T:Map) (pc:Nat):Map:=
 let x:=ai p pc
 match T pc with
 |none=>T
 |some s=>oP T (cm pc x ⟨aT x s.ty,s.lo,be p x s.ha⟩)
def looks (p:aO):Nat->Nat->Map->(Int×Nat) ⊕ Map
 |0,_,T=> .inr T
 |k+1,pc,T=>if cO p T pc=0 then looks p k (pc+1) (iE p T pc) else .inl (cO p T pc,pc)
def db (p:aO):Map:=fun pc=>if (p.on++[p.aJ]).contains (pc:Int) then some ⟨[],[],0⟩ else none
def MS:Nat:=4611686018427387904
def bC (a b:Nat):Nat:=if MS - b < a then MS else a+b
def dV (a b:Nat):Nat:=if a*b<=MS then a*b else MS
def km (p:aO) (g:Nat->Nat) (pc:Nat):Nat:=
 let x:=ai p pc
 if x.op=0\/x.op=27 then 1
 else if x.op=22 then bC 1 (g x.a.toNat)
 else if x.op=23 then bC 1 (max (g (pc+1)) (g x.a.toNat))
 else if x.op=24 then bC (bC 1 (dV x.a.toNat (bC 1 (g (pc+2))))) (bC 1 (g (ai p (pc+1)).a.toNat))
 else bC 1 (g (pc+1))
def dw (p:aO):Nat->(Nat->Nat)
 |0=>fun _=>0
 |k+1=>let g:=dw p k;aL g (p.code.length - 1 - k) (km p g (p.code.length - 1 - k))
def jP (p:aO):Nat->Nat:=dw p p.code.length
def MF:Nat:=1152921504606846976
def bN (p:aO) (n:Int):Nat:=if n < 0 then 0 else jP p n.toNat
def bk (p:aO):List Int->Option Int
 |[]=>none
 |n::l=>if MF < bN p n then some n else bk p l
def aZ (p:aO):Int×Int:=
 if bo p≠0 then (bo p,0)
 else match looks p p.code.length 0 (db p) with
  | .inl (e,at_)=>(e,at_)
  | .inr _=>match bk p (p.on++[p.aJ]) with
    |some n=>(97,n)
    |none=>(0,0)
def de (p:aO) (T:Map) (q:Nat):List Nat->Prop
 |[]=>True
 |t::l=>t < q/\(ai p t).op=25/\∃s,T t=some s/\s.lo=l
def fE (p:aO) (pc:Nat) (s:Std):List (Nat×Std):=cm pc (ai p pc) ⟨aT (ai p pc) s.ty,s.lo,be p (ai p pc) s.ha⟩
structure oQ (p:aO) (T:Map) (pc:Nat) (s:Std):Prop where
 at_:T pc=some s
 ji:dU p (ai p pc) s.ha=true
 taken:bM (ai p pc) s.ty=0
 kinds:cJ p (ai p pc)=true
 jumps:cC p T pc (ai p pc) (aT (ai p pc) s.ty) s.lo=true
 ways:∀w,w∈fE p pc s->w.1 < p.code.length/\T w.1=some w.2
structure Typed (p:aO) (T:Map):Prop where
 all:∀pc,pc < p.code.length->∃s,oQ p T pc s
 loops:∀q s,T q=some s->de p T q s.lo
 u_:∀b,b∈p.on++[p.aJ]->0<=b->T b.toNat=some ⟨[],[],0⟩
def Sub (T T':Map):Prop:=∀q s,T q=some s->T' q=some s
theorem Sub.refl (T:Map):Sub T T:=fun _ _ h=>h
theorem Sub.trans {A B C:Map} (h:Sub A B) (k:Sub B C):Sub A C:=fun q s e=>k q s (h q s e)
theorem de.sub {p:aO} {T T':Map} (h:Sub T T') {q:Nat} {l:List Nat} (k:de p T q l):de p T' q l:=by
 cases l with
 |nil=>trivial
 |cons t l=>obtain ⟨a,b,s,c,d⟩:=k;exact ⟨a,b,s,h _ _ c,d⟩
theorem de.later {p:aO} {T:Map} {q r:Nat} {l:List Nat} (k:de p T q l) (h:q<=r):de p T r l:=by
 cases l with
 |nil=>trivial
 |cons t l=>obtain ⟨a,b⟩:=k;exact ⟨omm,b⟩
theorem zq:∀(l:List (Nat×Std)) (T:Map),jh l=true->yI T l=true->Sub T (oP T l)/\(∀w,w∈l->oP T l w.1=some w.2)/\(∀q s,oP T l q=some s->T q=some s\/(q,s)∈l):=by
 intro l
 induction l with
 |nil=>intro T _ _;exact ⟨Sub.refl _,fun w hw=>by simp at hw,fun q s h=> .inl h⟩
 |cons w l ih=>
  intro T hs hm;unfold jh at hs;simp only [afW] at hs;have iR:yI (aL T w.1 (some w.2)) l=true:=by
   unfold yI at hm ⊢;rw [agb] at hm ⊢;intro v hv;have h1:=hm v (by simp [hv]);have h2:=(List.all_eq_true.1 hs.1) v hv;by_cases e:v.1=w.1
   ·rw [e,an];simp [e] at h2;simp [h2]
   ·rw [aj _ _ e];exact h1
  obtain ⟨a,b,c⟩:=ih (aL T w.1 (some w.2)) hs.2 iR;have J1:Sub T (aL T w.1 (some w.2)):=by
   intro q s h;by_cases e:q=w.1
   ·subst e;rw [an];unfold yI at hm;have:=(List.all_eq_true.1 hm) w smm;rw [h] at this;simp at this;rw [this]
   ·rw [aj _ _ e];exact h
  refine ⟨J1.trans a,fun v hv=>?_,fun q s h=>?_⟩
  ·rcases List.mem_cons.1 hv with rfl|hv
   ·exact a _ _ (an _ _ _)
   ·exact b v hv
  ·rcases c q s h with h|h
   ·by_cases e:q=w.1
    ·subst e;rw [an] at h;right;simp;left;rw [<-af0 h]
    ·rw [aj _ _ e] at h;exact .inl h
   ·right;simp [h]
theorem look_ok {p:aO} {T:Map} {pc:Nat} (h:cO p T pc=0):∃s,T pc=some s/\dU p (ai p pc) s.ha=true/\bM (ai p pc) s.ty=0/\cJ p (ai p pc)=true/\
 cC p T pc (ai p pc) (aT (ai p pc) s.ty) s.lo=true/\(∀w,w∈fE p pc s->w.1 < p.code.length)/\jh (fE p pc s)=true/\yI T (fE p pc s)=true/\iE p T pc=oP T (fE p pc s):=by
 unfold cO at h;cases hT:T pc with
 |none=>rw [hT] at h;simp at h
 |some s=>
  rw [hT] at h;dsimp only at h;split at h
  ·simp at h
  ·next h1=>
   split at h
   ·next h2=>exact absurd h h2
   ·next h2=>
    split at h
    ·simp at h
    ·next h3=>
     split at h
     ·simp at h
     ·next h4=>
      split at h
      ·simp at h
      ·next h5=>
       split at h
       ·simp at h
       ·next h6=>
        refine ⟨s,rfl,by simpa using h1,by simpa using h2,by simpa using h3,by simpa using h4,?_,?_,?_,?_⟩
        ·intro w hw;simp only [Bool.not_eq_true,List.any_eq_false] at h5;have:=h5 w hw;simp at this;exact this
        ·simp at h6;exact h6.1
        ·simp at h6;exact h6.2
        ·unfold iE;rw [hT];rfl
theorem I8 {p:aO} {T:Map} {pc:Nat} {s:Std} (hT:T pc=some s) (hl:∀q s,T q=some s->de p T q s.lo) (hj:cC p T pc (ai p pc) (aT (ai p pc) s.ty) s.lo=true) {w:Nat×Std} (hw:w∈fE p pc s):de p T w.1 w.2.lo:=by
 have h0:=hl pc s hT;unfold fE cm at hw;generalize hx:ai p pc=x at*;unfold cC at hj;split at hw
 ·simp at hw
 split at hw
 ·next h22=>
  simp at hw;subst hw;have hc:¬((x.op=22\/x.op=23\/x.op=25\/x.op=26)/\(x.a<=pc\/(ai p x.a.toNat).op=25)):=by intro h';rw [afE h'] at hj;simp at hj
  exact h0.later omm
 split at hw
 ·next h23=>
  have hc:¬((x.op=22\/x.op=23\/x.op=25\/x.op=26)/\(x.a<=pc\/(ai p x.a.toNat).op=25)):=by intro h';rw [afE h'] at hj;simp at hj
  simp at hw;rcases hw with rfl|rfl
  ·exact h0.later smm
  ·exact h0.later sso
 split at hw
 ·next pW=>
  have hc:¬((x.op=22\/x.op=23\/x.op=25\/x.op=26)/\(x.a<=pc\/(ai p x.a.toNat).op=25)):=by intro h';rw [afE h'] at hj;simp at hj
  simp at hw;rcases hw with rfl|rfl
  ·exact ⟨smm,by rw [hx];exact pW,s,hT,rfl⟩
  ·exact h0.later sso
 split at hw
 ·next OX=>
  have hc:¬((x.op=22\/x.op=23\/x.op=25\/x.op=26)/\(x.a<=pc\/(ai p x.a.toNat).op=25)):=by intro h';rw [afE h'] at hj;simp at hj
  simp at hw;rcases hw with rfl|rfl
  ·exact h0.later smm
  ·dsimp only;cases iF:s.lo with
   |nil=>trivial
   |cons t l=>rw [iF] at h0;obtain ⟨a,b,s',c,d⟩:=h0;have:=hl t s' c;rw [d] at this;exact this.later omm
 ·simp at hw;subst hw;exact h0.later smm
theorem Ho {p:aO} {T T':Map} {pc:Nat} {x:Ins} {ty lo:List Nat} (h:Sub T T') (hs:∀t l,lo=t::l->∃s,T t=some s) (hj:cC p T pc x ty lo=true):cC p T' pc x ty lo=true:=by
 unfold cC at hj ⊢;split at hj
 ·simp at hj
 next h0=>
 rw [abH h0];split at hj
 ·next h1=>rw [afE h1];exact hj
 next h1=>
 rw [abH h1];split at hj
 ·next h2=>rw [afE h2];exact hj
 next h2=>
 rw [abH h2];split at hj
 ·next h3=>rw [afE h3];exact hj
 next h3=>
 rw [abH h3];split at hj
 ·next h4=>
  rw [afE h4];cases lo with
  |nil=>simp at hj
  |cons t l=>obtain ⟨s,Xa⟩:=hs t l rfl;dsimp only at hj ⊢;rw [h t s Xa];rw [Xa] at hj;exact hj
 next h4=>
 rw [abH h4];exact hj
theorem Bv {p:aO}:∀(k pc:Nat) (T T':Map),looks p k pc T= .inr T'->(∀q s,T q=some s->de p T q s.lo)->
 Sub T T'/\(∀q s,T' q=some s->de p T' q s.lo)/\∀q,pc<=q->q < pc+k->∃s,oQ p T' q s:=by
 intro k
 induction k with
 |zero=>
  intro pc T T' h hl;have:T=T':=by unfold looks at h;exact Sum.inr.inj h
  subst this;exact ⟨Sub.refl _,hl,fun q h1 h2=>omm⟩
 |succ k ih=>
  intro pc T T' h hl;unfold looks at h;split at h
  ·next h0=>
   obtain ⟨s,hT,g1,g2,g3,g4,g5,g6,g7,g8⟩:=look_ok h0;obtain ⟨a1,a2,a3⟩:=zq _ T g6 g7;rw [g8] at h;have Ba:∀q s',oP T (fE p pc s) q=some s'->de p (oP T (fE p pc s)) q s'.lo:=by
    intro q s' hq;rcases a3 q s' hq with h1|h1
    ·exact (hl q s' h1).sub a1
    ·exact (I8 hT hl g4 h1).sub a1
   obtain ⟨b1,b2,b3⟩:=ih (pc+1) _ T' h Ba;refine ⟨a1.trans b1,b2,fun q h1 h2=>?_⟩;by_cases e:q=pc
   ·subst e;refine ⟨s,b1 _ _ (a1 _ _ hT),g1,g2,g3,?_,fun w hw=>⟨g5 w hw,b1 _ _ (a2 w hw)⟩⟩;refine Ho (a1.trans b1) ?_ g4;intro t l e';have:=hl q s hT;rw [e'] at this;obtain ⟨_,_,s',Bl,_⟩:=this;exact ⟨s',Bl⟩
   ·exact b3 q omm omm
  ·simp at h
theorem KE (p:aO):∀q s,db p q=some s->de p (db p) q s.lo:=by
 intro q s h;unfold db at h;split at h
 ·have:=af0 h;rw [<-this];trivial
 ·simp at h
theorem rA {p:aO} {e:Int×Int} (h:aZ p=e) (he:e.1=0):bo p=0/\∃T,Typed p T/\bk p (p.on++[p.aJ])=none:=by
 unfold aZ at h;split at h
 ·next h0=>rw [<-h] at he;exact absurd he h0
 next h0=>
 have h0':bo p=0:=omm;cases hl:looks p p.code.length 0 (db p) with
 |inl v=>
  obtain ⟨e1,a⟩:=v;rw [hl] at h;dsimp only at h;exfalso;have key:∀(k pc:Nat) (T:Map) e1 a,looks p k pc T= .inl (e1,a)->e1≠0:=by
   intro k
   induction k with
   |zero=>intro pc T e1 a h;unfold looks at h;simp at h
   |succ k ih=>
    intro pc T e1 a h;unfold looks at h;split at h
    ·exact ih _ _ _ _ h
    ·next bz=>simp at h;rw [<-h.1];exact bz
  rw [<-h] at he;exact key _ _ _ _ _ hl he
 |inr T=>
  rw [hl] at h;dsimp only at h;obtain ⟨a,b,d⟩:=Bv _ _ _ _ hl (KE p);refine ⟨h0',T,⟨fun pc nj=>d pc (Nat.zero_le _) omm,b,fun b' hb dQ=>?_⟩,?_⟩
  ·refine a _ _ ?_;unfold db;rw [afE];rw [Int.toNat_of_nonneg dQ];simpa using hb
  ·cases Vh:bk p (p.on++[p.aJ]) with
   |none=>rfl
   |some n=>rw [Vh] at h;dsimp only at h;rw [<-h] at he;simp at he
end ak.Vm
