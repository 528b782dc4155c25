set_option linter.all false
set_option maxHeartbeats 40000000
set_option maxRecDepth 100000
abbrev ax:=@if_neg
abbrev aL:=@Nat.le_refl
abbrev aE:=@if_pos
abbrev wS:=@List.nodup_append
abbrev fT:=@Option.some.inj
abbrev Bx:=@List.length_erase_of_mem
abbrev EI:=@List.length_pos_of_mem
abbrev fh:=@Bool.and_eq_true
abbrev rB:=@List.all_eq_true
abbrev dQ:=@List.getD_eq_getElem?_getD
abbrev ft:=@List.getElem?_eq_getElem
abbrev fj:=@decide_eq_true_eq
abbrev il:=@List.getElem_mem
abbrev bS:=@Nat.le_trans
abbrev fo:=@Nat.le_add_right
section
def G{p:Prop}(h:p:=by omega):p:=h
def az{p:Prop}(h:p:=by simp):p:=h
def bz{p:Prop}(h:p:=by decide):p:=h
def kS{p:Prop}(h:p:=by constructor<;>omega):p:=h
def kZ{p:Prop}(h:p:=by simp;omega):p:=h
def cJ{p:Prop}(h:p:=by assumption):p:=h
end
namespace al.Vm
def aS{β:Type}(f:Nat->β)(i:Nat)(x:β):Nat->β:=λj=>if j=i then x else f j
def aw{β:Type}(f:Nat->β)(i:Nat)(x:β):aS f i x i=x:=by simp[aS]
def an{β:Type}(f:Nat->β){i j:Nat}(x:β)(h:j≠i):aS f i x j=f j:=by simp[aS,h]
def dw{β:Type}(f:Nat->β)(i j:Nat)(x:β):aS f i x j=if j=i then x else f j:=rfl
def hd:List Nat->Int
 |[]=> -1
 |a::_=>a
def nw:List Nat->Nat->Int
 |[],_=> -1
 |a::t,n=>if a=n then hd t else nw t n
def dir(e:Nat)(l:List Nat):List Nat:=if e=1 then l else l.reverse
def oM(a:Nat)(t:List Nat):hd (a::t)=a:=rfl
def Hy{l:List Nat}:hd l<0↔l=[]:=by cases l<;>simp[hd]<;>omega
def eU(a:Nat)(t:List Nat):nw (a::t) a=hd t:=by simp[nw]
def dJ{a n:Nat}(h:a≠n)(t:List Nat):nw (a::t) n=nw t n:=by simp[nw,h]
def J_{l:List Nat}{n:Nat}(h:n∉l)(t:List Nat):nw (l++t) n=nw t n:=by
 induction l with
 |nil=>rfl
 |cons a l ih=>simp at h;rw[List.cons_append,dJ (λe=>h.1 e.symm)];exact ih h.2
def lR{l:List Nat}{n:Nat}(h:n∉l)(t:List Nat):nw (l++n::t) n=hd t:=by rw[J_ h,eU]
def EB{l:List Nat}{n m:Nat}{t:List Nat}(sQ:(l++n::t).Nodup)(hm:m≠n)(Ka:m∈l++t):
 nw (l++t) m=if nw (l++n::t) m=(n:Int)then hd t else nw (l++n::t) m:=by
 induction l with
 |nil=>
  simp only[List.nil_append]at*;rw[dJ (λe=>hm e.symm)];have hn:(n:Nat)∉t:=(List.nodup_cons.1 sQ).1;have:nw t m≠(n:Int):=by
   clear sQ Ka
   induction t with
   |nil=>simp[nw]
   |cons a t ih=>
    simp at hn;unfold nw;split
    ·cases t with
     |nil=>simp[hd]
     |cons b t=>simp[hd];simp at hn;omega
    ·exact ih hn.2
  rw[ax this]
 |cons a l ih=>
  simp only[List.cons_append]at*;have nJ:=List.nodup_cons.1 sQ;by_cases e:a=m
  ·subst e;rw[eU,eU];cases l with
   |nil=>simp[hd]
   |cons b l=>show(b:Int)=if(b:Int)=(n:Int)then hd t else(b:Int);rw[ax];intro e;have:b=n:=G;subst this;simp only[List.cons_append]at nJ;have:=(List.nodup_cons.1 nJ.2).1;simp at this
  ·rw[dJ e,dJ e];refine ih nJ.2 ?_;simp at Ka ⊢;rcases Ka with h|h
   ·exact absurd h.symm e
   ·exact h
def OO{l:List Nat}{m:Nat}(hn:l.Nodup)(hm:m∈l)(n:Nat):nw (l++[n]) m=if nw l m= -1 then(n:Int)else nw l m:=by
 induction l with
 |nil=>simp at hm
 |cons a l ih=>
  have nJ:=List.nodup_cons.1 hn;by_cases e:a=m
  ·subst e;rw[List.cons_append,eU,eU];cases l with
   |nil=>simp[hd]
   |cons b l=>simp[hd]<;>omega
  ·rw[List.cons_append,dJ e,dJ e];refine ih nJ.2 ?_;simp at hm;rcases hm with h|h
   ·exact absurd h.symm e
   ·exact h
def EC{l:List Nat}{m:Nat}(hn:l.Nodup)(hm:m∈l):nw l m= -1↔hd l.reverse=(m:Int):=by
 induction l with
 |nil=>simp at hm
 |cons a l ih=>
  have nJ:=List.nodup_cons.1 hn;by_cases e:a=m
  ·subst e;rw[eU];cases l with
   |nil=>simp[hd]
   |cons b l=>
    have h1:¬hd (b::l)= -1:=by simp[hd]<;>omega
    constructor
    ·intro h;exact absurd h h1
    ·intro h;exfalso;have:hd (a::b::l).reverse=hd (b::l).reverse:=by
      cases hh:(b::l).reverse with
      |nil=>simp at hh
      |cons c t=>rw[List.reverse_cons,hh];rfl
     rw[this]at h;cases hh:(b::l).reverse with
     |nil=>simp at hh
     |cons c t=>
      rw[hh,oM]at h;have:c=a:=G;have hc:c∈(b::l).reverse:=by rw[hh];simp
      rw[List.mem_reverse,this]at hc;exact nJ.1 hc
  ·have jw:m∈l:=by
    simp at hm;rcases hm with h|h
    ·exact absurd h.symm e
    ·exact h
   rw[dJ e,ih nJ.2 jw,List.reverse_cons];cases hh:l.reverse with
   |nil=>simp at hh;rw[hh]at jw;simp at jw
   |cons c t=>simp[hd]
def jP(e:Nat)(l:List Nat)(n:Nat):n∈dir e l↔n∈l:=by unfold dir;split<;>simp
def nK{e:Nat}{l:List Nat}:(dir e l).Nodup↔l.Nodup:=by
 unfold dir;split
 ·rfl
 ·exact(List.reverse_perm l).nodup_iff
def Tv(e:Nat):dir e []=[]:=by unfold dir;split<;>rfl
def yD{e:Nat}(he:e<=1)(l:List Nat):dir (1-e) l=(dir e l).reverse:=by have:e=0\/e=1:=G;rcases this with rfl|rfl<;>simp[dir]
def ext(e:Nat)(l:List Nat)(n:Nat):List Nat:=if e=1 then l++[n]else n::l
def Kb{e:Nat}(he:e<=1)(l:List Nat)(n:Nat):dir e (ext e l n)=dir e l++[n]/\dir (1-e) (ext e l n)=n::dir (1-e) l:=by have:e=0\/e=1:=G;rcases this with rfl|rfl<;>simp[dir,ext]
def ext_mem(e:Nat)(l:List Nat)(n m:Nat):m∈ext e l n↔m=n\/m∈l:=by
 unfold ext;split
 ·simp[or_comm]
 ·simp
def lD(e:Nat)(l:List Nat)(n:Nat):(ext e l n).length=l.length+1:=by unfold ext;split<;>simp
def Bt{e:Nat}{l:List Nat}{n:Nat}(hl:l.Nodup)(h:n∉l):(ext e l n).Nodup:=by
 unfold ext;split
 ·rw[wS];refine⟨hl,az,?_⟩;intro a ha b X;simp at X;subst X;intro e;subst e;exact h ha
 ·exact List.nodup_cons.2 ⟨h,hl⟩
def a0n{N:Nat}(l:List Nat)(hn:l.Nodup)(h:∀x,x∈l->x<N):l.length<=N:=by
 induction N generalizing l with
 |zero=>cases l with
  |nil=>simp
  |cons a t=>exact absurd (h a az) G
 |succ N ih=>
  have h1:=ih (l.erase N) (hn.erase N) (λx hx=>by
   have h2:=h x (List.mem_of_mem_erase hx);have h3:x≠N:=λe=>by subst e;exact(List.Nodup.not_mem_erase hn) hx
   omega)
  have h2:=List.length_erase (a:=N) (l:=l);split at h2<;>omega
structure eW where
 key:Nat
 tg:Nat->Int
structure Raw where
 made:Nat
 dA:Int
 used:Nat
 val:Nat->eW
 own:Nat->Int
 bY:Nat->Nat->Int
 ends:Nat->Nat->Int
 dz:Nat->Nat
structure Ar where
 made:Nat
 fr:List Nat
 ls:Nat->List Nat
 val:Nat->eW
def cR:Nat->(Nat->Nat)->Nat
 |0,_=>0
 |k+1,g=>cR k g+g k
def wT{k:Nat}{f g:Nat->Nat}(h:∀i,i<k->f i=g i):cR k f=cR k g:=by
 induction k with
 |zero=>rfl
 |succ k ih=>show cR k f+f k=cR k g+g k;rw[ih λi hi=>h i G,h k G]
def nL{k:Nat}{f g:Nat->Nat}{i:Nat}(hi:i<k)(h:∀j,j≠i->g j=f j):cR k g+f i=cR k f+g i:=by
 induction k with
 |zero=>omega
 |succ k ih=>
  show cR k g+g k+f i=cR k f+f k+g i;by_cases e:i=k
  ·subst e;rw[wT (k:=i) (f:=g) (g:=f) λj hj=>h j G];omega
  ·have:=ih G;rw[h k (λe'=>e e'.symm)];omega
def ED{k:Nat}{f:Nat->Nat}{i:Nat}(hi:i<k):f i<=cR k f:=by
 induction k with
 |zero=>omega
 |succ k ih=>
  show f i<=cR k f+f k;by_cases e:i=k
  ·subst e;omega
  ·have:=ih G;omega
def tH{k:Nat}{f g:Nat->Nat}(h:∀i,i<k->f i<=g i):cR k f<=cR k g:=by
 induction k with
 |zero=>exact aL _
 |succ k ih=>have:=ih λi hi=>h i G;have:=h k G;show cR k f+f k<=cR k g+g k;omega
def dq{β:Type}(f:Nat->Nat->β)(i k:Nat)(x:β):Nat->Nat->β:=aS f i (aS (f i) k x)
def Bu{β:Type}(f:Nat->Nat->β)(i k:Nat)(x:β):dq f i k x i k=x:=by simp[dq,aS]
def dr{β:Type}(f:Nat->Nat->β)(i k j m:Nat)(x:β):dq f i k x j m=if j=i/\m=k then x else f j m:=by unfold dq aS;by_cases h:j=i<;>simp[h]
structure uv(nl:Nat)(R:Raw)(A:Ar)(xL:Option Nat):Prop where
 made:R.made=A.made
 val:R.val=A.val
 nd:∀q,q<nl->(A.ls q).Nodup
 ndf:A.fr.Nodup
 AU:∀q n,q<nl->n∈A.ls q->n<A.made
 OP:∀n,n∈A.fr->n<A.made
 own:∀q n,q<nl->n∈A.ls q->R.own n=q
 free:∀n,n∈A.fr->R.own n= -1
 part:∀n,n<A.made->some n=xL\/n∈A.fr\/∃q,q<nl/\n∈A.ls q
 hol:∀n,xL=some n->n<A.made/\n∉A.fr/\∀q,q<nl->n∉A.ls q
 bY:∀q n e,q<nl->n∈A.ls q->e<=1->R.bY n e=nw (dir e (A.ls q)) n
 ends:∀q e,q<nl->e<=1->R.ends q e=hd (dir (1-e) (A.ls q))
 dz:∀q,q<nl->R.dz q=(A.ls q).length
 AL:R.dA=hd A.fr
 OQ:∀n,n∈A.fr->R.bY n 0=nw A.fr n
 used:R.used=cR nl λq=>(A.ls q).length
 Zc:R.used+A.fr.length+(if xL.isSome then 1 else 0)=A.made
def uv.tI{nl:Nat}{R:Raw}{A:Ar}{xL:Option Nat}(h:uv nl R A xL){q p n:Nat}(hq:q<nl)(hp:p<nl)(h1:n∈A.ls q)(h2:n∈A.ls p):q=p:=by have a:=h.own q n hq h1;have b:=h.own p n hp h2;omega
def uv.uw{nl:Nat}{R:Raw}{A:Ar}{xL:Option Nat}(h:uv nl R A xL){q n:Nat}(hq:q<nl)(h1:n∈A.ls q):n∉A.fr:=by intro h2;have a:=h.own q n hq h1;have b:=h.free n h2;omega
def gd(R:Raw)(n l e:Nat):Raw:=
 let last:=R.ends l e
 let b:=dq (dq R.bY n e (-1)) n (1-e) last
 {R with own:=aS R.own n l,bY:=if 0<=last then dq b last.toNat e n else b,
         ends:=dq (if 0<=last then R.ends else dq R.ends l (1-e) n) l e n,dz:=aS R.dz l (R.dz l+1)}
def mG(R:Raw)(n l e:Nat)(m:Int):Raw:=
 if m<0 then{R with ends:=dq R.ends l e (R.bY n (1-e))}else{R with bY:=dq R.bY m.toNat (1-e) (R.bY n (1-e))}
def dB(R:Raw)(n:Nat):Raw:=
 let l:=(R.own n).toNat
 let R1:=mG R n l 0 (R.bY n 0)
 let R2:=mG R1 n l 1 (R.bY n 1)
 {R2 with dz:=aS R2.dz l (R2.dz l-1)}
def OR(R:Raw)(n:Nat)(z:eW):Raw:=
 {R with val:=aS R.val n z,own:=aS R.own n (-1),bY:=dq (dq R.bY n 0 R.dA) n 1 (-1),dA:=n,used:=R.used-1}
def pI(A:Ar)(n l e:Nat):Ar:={A with ls:=aS A.ls l (ext e (A.ls l) n)}
def tJ(A:Ar)(n l:Nat):Ar:={A with ls:=aS A.ls l ((A.ls l).erase n)}
def ux(A:Ar)(n:Nat)(z:eW):Ar:={A with fr:=n::A.fr,val:=aS A.val n z}
def yE{nl:Nat}{R:Raw}{A:Ar}{n l e:Nat}(h:uv nl R A (some n))(hl:l<nl)(he:e<=1)(hu:True):
 uv nl {gd R n l e with used:=R.used+1} (pI A n l e) none:=by
 obtain⟨hn,SN,kQ⟩:=h.hol n rfl;have bt:=kQ l hl;have OS:=h.ends l e hl he;have hx:=Kb he (A.ls l) n;have pE:∀q,(pI A n l e).ls q=if q=l then ext e (A.ls l) n else A.ls q:=λq=>rfl;have gg:∀q m,q<nl->m∈(pI A n l e).ls q->(m=n/\q=l)\/(m≠n/\m∈A.ls q):=by
  intro q m hq hm;rw[pE]at hm;split at hm
  ·next e'=>subst e';rw[ext_mem]at hm
            rcases hm with h'|h'
            ·exact .inl ⟨h',rfl⟩
            ·exact .inr ⟨λe=>bt (e▸h'),h'⟩
  ·exact .inr ⟨λe=>kQ q hq (e▸hm),hm⟩
 have ed:0<=R.ends l e->(R.ends l e).toNat∈A.ls l/\nw (dir e (A.ls l)) (R.ends l e).toNat= -1/\∃t,dir (1-e) (A.ls l)=(R.ends l e).toNat::t:=by
  intro h0;rw[OS]at h0 ⊢;cases sQ:dir (1-e) (A.ls l)with
  |nil=>rw[sQ]at h0;simp[hd]at h0
  |cons a t=>
   simp only[oM,Int.toNat_natCast];have hm:a∈A.ls l:=by rw[<-jP (1-e),sQ];simp
   refine⟨hm,?_,t,rfl⟩;rw[EC (nK.2 (h.nd l hl)) ((jP _ _ _).2 hm),<-yD he,sQ];rfl
 have Xi:1 - (1-e)=e:=G;refine⟨h.made,h.val,λq hq=>?_,h.ndf,λq m hq hm=>?_,h.OP,λq m hq hm=>?_,λm hm=>?_,λm hm=>?_,λm hm=>by simp at hm,λq m e' hq hm he'=>?_,λq e' hq he'=>?_,λq hq=>?_,h.AL,λm hm=>?_,?_,?_⟩
 ·rw[pE];split
  ·exact Bt (h.nd l hl) bt
  ·exact h.nd q hq
 ·rcases gg q m hq hm with⟨rfl,rfl⟩|⟨_,jw⟩
  ·exact hn
  ·exact h.AU q m hq jw
 ·show aS R.own n l m=_;rcases gg q m hq hm with⟨rfl,rfl⟩|⟨h1,jw⟩
  ·rw[aw]
  ·rw[an _ _ h1];exact h.own q m hq jw
 ·show aS R.own n l m=_;rw[an _ _ (λe=>by subst e;exact SN hm)];exact h.free m hm
 ·rcases h.part m hm with h1|h1|⟨q,hq,h1⟩
  ·simp at h1;subst h1;exact .inr (.inr ⟨l,hl,by rw[pE,aE rfl,ext_mem];exact .inl rfl⟩)
  ·exact .inr (.inl h1)
  ·refine .inr (.inr ⟨q,hq,?_⟩);rw[pE];split
   ·next e'=>subst e';rw[ext_mem];exact .inr h1
   ·exact h1
 ·
  have X:(gd R n l e).bY=if 0<=R.ends l e then dq (dq (dq R.bY n e (-1)) n (1-e) (R.ends l e)) (R.ends l e).toNat e n else dq (dq R.bY n e (-1)) n (1-e) (R.ends l e):=rfl;show(gd R n l e).bY m e'=_;have ia:(gd R n l e).bY m e'=if 0<=R.ends l e/\m=(R.ends l e).toNat/\e'=e then(n:Int)else if m=n/\e'=1-e then R.ends l e else if m=n/\e'=e then -1 else R.bY m e':=by
   rw[X];by_cases h0:0<=R.ends l e
   ·rw[aE h0,dr,dr,dr];by_cases h1:m=(R.ends l e).toNat/\e'=e<;>simp[h0,h1]
   ·rw[ax h0,dr,dr];simp[h0]
  rw[ia];have Kd:e'=e\/e'=1-e:=G;rcases gg q m hq hm with⟨rfl,rfl⟩|⟨h1,jw⟩
  ·
   have Nn:¬(0<=R.ends q e/\m=(R.ends q e).toNat/\e'=e):=by rintro⟨h0,h1,_⟩;have:=(ed h0).1;rw[<-h1]at this;exact bt this
   rw[ax Nn,pE,aE rfl];rcases Kd with rfl|rfl
   ·rw[ax G,aE ⟨rfl,rfl⟩,hx.1,lR (by rw[jP];exact bt)];rfl
   ·rw[aE ⟨rfl,rfl⟩,hx.2,eU,OS]
  ·rw[ax (show¬(m=n/\e'=1-e)from λh=>h1 h.1),ax (show¬(m=n/\e'=e)from λh=>h1 h.1)];by_cases CF:q=l
   ·subst CF;rw[pE,aE rfl];have hold:=h.bY q m e' hq jw he';rcases Kd with rfl|rfl
    ·rw[hx.1,OO (nK.2 (h.nd q hq)) ((jP _ _ _).2 jw),<-hold];by_cases hc:0<=R.ends q e'/\m=(R.ends q e').toNat/\e'=e'
     ·rw[aE hc,hold,hc.2.1,(ed hc.1).2.1];simp
     ·rw[ax hc,ax];intro uy;apply hc;rw[hold,EC (nK.2 (h.nd q hq)) ((jP _ _ _).2 jw),<-yD he,<-OS]at uy;rw[uy];simp
    ·rw[ax G,hx.2,dJ (λe=>h1 e.symm),hold]
   ·have hc:¬(0<=R.ends l e/\m=(R.ends l e).toNat/\e'=e):=by rintro⟨h0,h2,_⟩;have:=(ed h0).1;rw[<-h2]at this;exact CF (h.tI hq hl jw this)
    rw[ax hc,pE,ax CF];exact h.bY q m e' hq jw he'
 ·
  show dq (if 0<=R.ends l e then R.ends else dq R.ends l (1-e) n) l e n q e'=_;rw[dr,pE];have Kd:e'=e\/e'=1-e:=G;by_cases CF:q=l
  ·subst CF;rw[aE rfl];rcases Kd with rfl|rfl
   ·rw[aE ⟨rfl,rfl⟩,hx.2];rfl
   ·rw[ax G,Xi,hx.1];by_cases h0:0<=R.ends q e
    ·rw[aE h0,h.ends q (1-e) hq G,Xi];obtain⟨hm,_⟩:=ed h0;cases sQ:dir e (A.ls q)with
     |nil=>rw[<-jP e,sQ]at hm;simp at hm
     |cons a t=>rfl
    ·rw[ax h0,dr,aE ⟨rfl,rfl⟩];have:dir (1-e) (A.ls q)=[]:=Hy.1 (by rw[<-OS];omega);have h2:dir e (A.ls q)=[]:=by rw[yD he]at this;simpa using this
     rw[h2];rfl
  ·rw[ax (λh=>CF h.1),ax CF];have:(if 0<=R.ends l e then R.ends else dq R.ends l (1-e) n) q e'=R.ends q e':=by
    split
    ·rfl
    ·rw[dr,ax (λh=>CF h.1)]
   rw[this];exact h.ends q e' hq he'
 ·show aS R.dz l (R.dz l+1) q=_;rw[dw,pE];split
  ·next e'=>subst e';rw[lD,h.dz q hq]
  ·exact h.dz q hq
 ·
  have ia:(gd R n l e).bY m 0=R.bY m 0:=by
   have X:(gd R n l e).bY=if 0<=R.ends l e then dq (dq (dq R.bY n e (-1)) n (1-e) (R.ends l e)) (R.ends l e).toNat e n else dq (dq R.bY n e (-1)) n (1-e) (R.ends l e):=rfl;have LU:m≠n:=λe=>by subst e;exact SN hm
   rw[X];by_cases h0:0<=R.ends l e
   ·have:m≠(R.ends l e).toNat:=λe=>h.uw hl (ed h0).1 (by rw[<-e];exact hm);rw[aE h0,dr,dr,dr];simp[LU,this]
   ·rw[ax h0,dr,dr];simp[LU]
  show(gd R n l e).bY m 0=_;rw[ia];exact h.OQ m hm
 ·show R.used+1=cR nl λq=>((pI A n l e).ls q).length;have h1:=nL (k:=nl) (f:=λq=>(A.ls q).length) (g:=λq=>((pI A n l e).ls q).length) hl (λj hj=>by show((pI A n l e).ls j).length=_;rw[pE,ax hj]);have h2:((pI A n l e).ls l).length=(A.ls l).length+1:=by rw[pE,aE rfl,lD]
  have h3:=h.used;rw[h2]at h1;omega
 ·have:=h.Zc;simp at this ⊢;show R.used+1+A.fr.length=A.made;omega
def rr{l:List Nat}{n:Nat}(h:n∈l)(hn:l.Nodup):∃a b,l=a++n::b/\l.erase n=a++b/\n∉a++b:=by
 induction l with
 |nil=>simp at h
 |cons x t ih=>
  have nJ:=List.nodup_cons.1 hn;by_cases e:x=n
  ·subst e;exact⟨[],t,rfl,az,nJ.1⟩
  ·have h':n∈t:=by
    simp at h;rcases h with h|h
    ·exact absurd h.symm e
    ·exact h
   obtain⟨a,b,h1,h2,h3⟩:=ih h' nJ.2;refine⟨x::a,b,by rw[h1];rfl,?_,?_⟩
   ·rw[List.erase_cons_tail (by simpa using e),h2];rfl
   ·simp at h3 ⊢;exact⟨λe'=>e e'.symm,h3⟩
def Ke{l:List Nat}{n m:Nat}(h:nw l n=(m:Int)):m∈l:=by
 induction l with
 |nil=>simp[nw]at h<;>omega
 |cons a t ih=>
  unfold nw at h;split at h
  ·cases t with
   |nil=>simp[hd]at h<;>omega
   |cons b t=>simp[hd]at h;simp;omega
  ·simp;exact .inr (ih h)
def Zd(l:List Nat)(n:Nat):nw l n= -1\/0<=nw l n:=by
 induction l with
 |nil=>left;rfl
 |cons a t ih=>
  unfold nw;split
  ·cases t with
   |nil=>left;rfl
   |cons b t=>right;simp[hd]
  ·exact ih
def Kf{l:List Nat}{n m:Nat}(hn:l.Nodup)(kQ:n∈l)(Ka:m∈l):nw l m=(n:Int)↔nw l.reverse n=(m:Int):=by
 obtain⟨a,b,rfl,_,h3⟩:=rr kQ hn;have hna:n∉a:=λh=>h3 (by simp[h]);have Kg:n∉b.reverse:=λh=>h3 (by simp at h;simp[h]);have e1:nw (a++n::b).reverse n=hd a.reverse:=by rw[show(a++n::b).reverse=b.reverse++n::a.reverse by simp,lR Kg]
 rw[e1];by_cases hma:m∈a
 ·obtain⟨c,d,rfl,_,h4⟩:=rr hma (List.nodup_append.1 hn).1;have hmc:m∉c:=λh=>h4 (by simp[h]);rw[show(c++m::d)++n::b=c++m::(d++n::b)by simp,lR hmc];cases hdr:d.reverse with
  |nil=>
   have:d=[]:=by simpa using hdr
   subst this;simp[hd]
  |cons x t=>
   have Xj:x∈d:=by rw[<-List.mem_reverse,hdr];simp
   have hmx:m≠x:=λe=>h4 (by rw[e];simp[Xj]);rw[show(c++m::d).reverse=d.reverse++(m::c.reverse)by simp,hdr,List.cons_append,oM];cases d with
   |nil=>simp at Xj
   |cons y d=>
    rw[List.cons_append,oM];constructor
    ·intro e;exfalso;have:y=n:=G;subst this;exact hna az
    ·intro e;exfalso;exact hmx G
 ·have LU:m=n\/m∈b:=by simp at Ka;rcases Ka with h|h|h<;>simp_all
  constructor
  ·intro h;exfalso;rw[J_ hma]at h;have NU:n∉b:=λh'=>h3 (by simp[h']);unfold nw at h;split at h
   ·cases b with
    |nil=>simp[hd]at h<;>omega
    |cons x b=>simp[hd]at h;simp at NU;omega
   ·exact NU (Ke h)
  ·intro h;exfalso;cases Ze:a.reverse with
   |nil=>rw[Ze]at h;simp[hd]at h<;>omega
   |cons x t=>rw[Ze,oM]at h;have:x=m:=G;subst this;exact hma (by rw[<-List.mem_reverse,Ze];simp)
def uz(R:Raw)(n l e:Nat)(m:Int):(mG R n l e m).own=R.own/\(mG R n l e m).made=R.made/\(mG R n l e m).val=R.val/\(mG R n l e m).dA=R.dA/\(mG R n l e m).used=R.used/\(mG R n l e m).dz=R.dz:=by unfold mG;split<;>exact⟨rfl,rfl,rfl,rfl,rfl,rfl⟩
def CG{nl:Nat}{R:Raw}{A:Ar}{n l:Nat}(h:uv nl R A none)(hl:l<nl)(hm:n∈A.ls l):
 uv nl {dB R n with used:=R.used-1} (tJ A n l) (some n)/\(dB R n).own n=l/\0<R.used/\(dB R n).bY n 0=R.bY n 0/\(dB R n).val=R.val/\(dB R n).dA=R.dA/\(dB R n).used=R.used/\(dB R n).made=R.made:=by
 have gT:=h.own l n hl hm;have iE:=h.nd l hl;obtain⟨a,b,Ej,OT,Zf⟩:=rr hm iE;have hna:n∉a:=λh=>Zf (by simp[h]);have Kg:n∉b:=λh=>Zf (by simp[h]);have dG:R.bY n 0=hd a.reverse:=by rw[h.bY l n 0 hl hm G,Ej];show nw (a++n::b).reverse n=_;rw[show(a++n::b).reverse=b.reverse++n::a.reverse by simp,lR (by simpa using Kg)]
 have fS:R.bY n 1=hd b:=by rw[h.bY l n 1 hl hm G,Ej];show nw (a++n::b) n=_;rw[lR hna]
 have pE:∀q,(tJ A n l).ls q=if q=l then a++b else A.ls q:=λq=>by show aS A.ls l _ q=_;rw[dw,OT]
 have gg:∀q m,q<nl->m∈(tJ A n l).ls q->m≠n/\m∈A.ls q:=by
  intro q m hq jw;rw[pE]at jw;split at jw
  ·next e=>subst e
           refine⟨λe=>Zf (e▸jw),?_⟩;rw[Ej];simp at jw ⊢;rcases jw with h'|h'<;>simp[h']
  ·next e=>exact⟨λe'=>e (h.tI hq hl jw (e'▸hm)),jw⟩
 let R1:=mG R n l 0 (R.bY n 0)
 have Zg:R1=mG R n l 0 (R.bY n 0):=rfl;have be:(R.own n).toNat=l:=by rw[gT];rfl
 have hcut:dB R n={mG R1 n l 1 (R.bY n 1)with dz:=aS (mG R1 n l 1 (R.bY n 1)).dz l ((mG R1 n l 1 (R.bY n 1)).dz l-1)}:=by unfold dB;rw[be]
 have Tw:∀m:Nat,hd a.reverse=(m:Int)->m∈a/\m≠n:=by
  intro m jw;cases Ze:a.reverse with
  |nil=>rw[Ze]at jw;simp[hd]at jw<;>omega
  |cons x t=>
   rw[Ze,oM]at jw;have:x=m:=G;subst this;have:x∈a:=by rw[<-List.mem_reverse,Ze];simp
   exact⟨this,λe=>hna (e▸this)⟩
 have uy:∀m:Nat,hd b=(m:Int)->m∈b/\m≠n:=by
  intro m jw;cases b with
  |nil=>simp[hd]at jw<;>omega
  |cons x t=>rw[oM]at jw;have:x=m:=G;subst this;exact⟨az,λe=>Kg (by rw[<-e];simp)⟩
 have OU:∀m e,(dB R n).bY m e=if 0<=hd b/\m=(hd b).toNat/\e=0 then hd a.reverse else if 0<=hd a.reverse/\m=(hd a.reverse).toNat/\e=1 then hd b else R.bY m e:=by
  intro m e;have h1:R1.bY=if 0<=hd a.reverse then dq R.bY (hd a.reverse).toNat 1 (hd b)else R.bY:=by
   rw[Zg];unfold mG;rw[dG];by_cases h0:hd a.reverse<0
   ·rw[aE h0,ax G]
   ·rw[ax h0,aE G];show dq R.bY _ (1-0) (R.bY n (1-0))=_;rw[show(1-0)=1 from rfl,fS]
  have h2:(dB R n).bY=if 0<=hd b then dq R1.bY (hd b).toNat 0 (R1.bY n 0)else R1.bY:=by
   rw[hcut];show(mG R1 n l 1 (R.bY n 1)).bY=_;unfold mG;rw[fS];by_cases h0:hd b<0
   ·rw[aE h0,ax G]
   ·rw[ax h0,aE G]
  have h3:R1.bY n 0=hd a.reverse:=by
   rw[h1];split
   ·rw[dr,ax G,dG]
   ·exact dG
  rw[h2,h3,h1];by_cases c1:0<=hd b
  ·rw[aE c1,dr];by_cases c2:m=(hd b).toNat/\e=0
   ·rw[aE c2,aE ⟨c1,c2⟩]
   ·rw[ax c2,ax (show¬(0<=hd b/\m=(hd b).toNat/\e=0)from λh=>c2 h.2)];by_cases c3:0<=hd a.reverse
    ·rw[aE c3,dr];by_cases c4:m=(hd a.reverse).toNat/\e=1<;>simp[c3,c4]
    ·simp[c3]
  ·rw[ax c1,ax (show¬(0<=hd b/\m=(hd b).toNat/\e=0)from λh=>c1 h.1)];by_cases c3:0<=hd a.reverse
   ·rw[aE c3,dr];by_cases c4:m=(hd a.reverse).toNat/\e=1<;>simp[c3,c4]
   ·simp[c3]
 have Ji:∀q e,(dB R n).ends q e=if hd b<0/\q=l/\e=1 then hd a.reverse else if hd a.reverse<0/\q=l/\e=0 then hd b else R.ends q e:=by
  intro q e;have h1:R1.ends=if hd a.reverse<0 then dq R.ends l 0 (hd b)else R.ends:=by
   rw[Zg];unfold mG;rw[dG];by_cases h0:hd a.reverse<0
   ·rw[aE h0,aE h0];show dq R.ends l 0 (R.bY n (1-0))=_;rw[show(1-0)=1 from rfl,fS]
   ·rw[ax h0,ax h0]
  have h3:R1.bY n 0=hd a.reverse:=by
   rw[Zg];unfold mG;split
   ·exact dG
   ·show dq R.bY _ (1-0) _ n 0=_;rw[dr,ax G,dG]
  have h2:(dB R n).ends=if hd b<0 then dq R1.ends l 1 (hd a.reverse)else R1.ends:=by
   rw[hcut];show(mG R1 n l 1 (R.bY n 1)).ends=_;unfold mG;rw[fS];by_cases h0:hd b<0
   ·rw[aE h0,aE h0];show dq R1.ends l 1 (R1.bY n (1-1))=_;rw[show(1-1)=0 from rfl,h3]
   ·rw[ax h0,ax h0]
  rw[h2,h1];by_cases c1:hd b<0
  ·rw[aE c1,dr];by_cases c2:q=l/\e=1
   ·rw[aE c2,aE ⟨c1,c2⟩]
   ·rw[ax c2,ax (show¬(hd b<0/\q=l/\e=1)from λh=>c2 h.2)];by_cases c3:hd a.reverse<0
    ·rw[aE c3,dr];by_cases c4:q=l/\e=0<;>simp[c3,c4]
    ·simp[c3]
  ·rw[ax c1,ax (show¬(hd b<0/\q=l/\e=1)from λh=>c1 h.1)];by_cases c3:hd a.reverse<0
   ·rw[aE c3,dr];by_cases c4:q=l/\e=0<;>simp[c3,c4]
   ·simp[c3]
 obtain⟨o1,o2,o3,o4,o5,o6⟩:=uz R n l 0 (R.bY n 0);obtain⟨p1,p2,p3,p4,p5,p6⟩:=uz R1 n l 1 (R.bY n 1);have f1:(dB R n).own=R.own:=by rw[hcut];exact p1.trans o1
 have f2:(dB R n).made=R.made:=by rw[hcut];exact p2.trans o2
 have f3:(dB R n).val=R.val:=by rw[hcut];exact p3.trans o3
 have f4:(dB R n).dA=R.dA:=by rw[hcut];exact p4.trans o4
 have f5:(dB R n).used=R.used:=by rw[hcut];exact p5.trans o5
 have f6:(dB R n).dz=aS R.dz l (R.dz l-1):=by rw[hcut];show aS (mG R1 n l 1 (R.bY n 1)).dz l _=_;rw[p6.trans o6]
 have hnA:=h.AU l n hl hm;have Cl:=h.uw hl hm;have hlen:(A.ls l).length=(a++b).length+1:=by rw[Ej];simp;omega
 have hup:0<R.used:=by have h1:=h.used;have h2:=ED (k:=nl) (f:=λq=>(A.ls q).length) hl;omega
 refine⟨⟨by show(dB R n).made=A.made;rw[f2,h.made],by show(dB R n).val=A.val;rw[f3,h.val],λq hq=>?_,h.ndf,λq m hq jw=>h.AU q m hq (gg q m hq jw).2,h.OP,λq m hq jw=>?_,λm jw=>?_,λm jw=>?_,λm jw=>?_,λq m e hq jw he=>?_,λq e hq he=>?_,λq hq=>?_,?_,λm jw=>?_,?_,?_⟩,by rw[f1,gT],hup,?_,f3,f4,f5,f2⟩
 ·rw[pE];split
  ·have h1:=List.nodup_append.1 (Ej▸iE);exact List.nodup_append.2 ⟨h1.1,(List.nodup_cons.1 h1.2.1).2,λx hx y hy=>h1.2.2 x hx y (by simp[hy])⟩
  ·exact h.nd q hq
 ·show(dB R n).own m=_;rw[f1];exact h.own q m hq (gg q m hq jw).2
 ·show(dB R n).own m=_;rw[f1];exact h.free m jw
 ·rcases h.part m jw with h1|h1|⟨q,hq,h1⟩
  ·simp at h1
  ·exact .inr (.inl h1)
  ·by_cases e:m=n
   ·subst e;exact .inl rfl
   ·refine .inr (.inr ⟨q,hq,?_⟩);rw[pE];split
    ·next e'=>subst e'
              rw[Ej]at h1;simp at h1 ⊢;rcases h1 with h1|h1|h1
              ·exact .inl h1
              ·exact absurd h1 e
              ·exact .inr h1
    ·exact h1
 ·simp at jw;subst jw;exact⟨hnA,Cl,λq hq ul=>(gg q n hq ul).1 rfl⟩
 ·show(dB R n).bY m e=_;obtain⟨LU,Ka⟩:=gg q m hq jw;rw[OU];have hold:=h.bY q m e hq Ka he;by_cases CF:q=l
  ·subst CF;rw[pE,aE rfl];have Hz:m∈a++b:=by rw[pE,aE rfl]at jw;exact jw
   have Tx:(a++n::b).reverse=b.reverse++n::a.reverse:=by simp
   have Kd:e=0\/e=1:=G;rcases Kd with rfl|rfl
   ·
    have Ab:dir 0 (a++b)=b.reverse++a.reverse:=by simp[dir]
    have Zh:(b.reverse++n::a.reverse).Nodup:=by rw[<-Tx];exact(List.reverse_perm _).nodup_iff.2 (Ej▸iE)
    rw[Ab,EB Zh LU (by simp at Hz ⊢;rcases Hz with h'|h'<;>simp[h'])];have EE:R.bY m 0=nw (b.reverse++n::a.reverse) m:=by rw[hold,Ej];show nw (a++n::b).reverse m=_;rw[Tx]
    rw[<-EE];have key:R.bY m 0=(n:Int)↔hd b=(m:Int):=by rw[EE,<-Tx,Kf ((List.reverse_perm _).nodup_iff.2 (Ej▸iE)) az (by simp at Hz ⊢;rcases Hz with h'|h'<;>simp[h'])];rw[List.reverse_reverse,lR hna]
    by_cases hc:R.bY m 0=(n:Int)
    ·have:=key.1 hc;rw[aE hc,aE ⟨G,G,rfl⟩]
    ·have Zi:¬hd b=(m:Int):=λh'=>hc (key.2 h');rw[ax hc,ax G,ax G]
   ·have tl:dir 1 (a++b)=a++b:=by simp[dir]
    rw[tl,EB (Ej▸iE) LU Hz];have EE:R.bY m 1=nw (a++n::b) m:=by rw[hold,Ej];rfl
    rw[<-EE];have key:R.bY m 1=(n:Int)↔hd a.reverse=(m:Int):=by rw[EE,Kf (Ej▸iE) az (by simp at Hz ⊢;rcases Hz with h'|h'<;>simp[h'])];rw[Tx,lR (by simpa using Kg)]
    by_cases hc:R.bY m 1=(n:Int)
    ·have:=key.1 hc;rw[aE hc,ax G,aE ⟨G,G,rfl⟩]
    ·have Zi:¬hd a.reverse=(m:Int):=λh'=>hc (key.2 h');rw[ax hc,ax G,ax G]
  ·rw[pE,ax CF];have g1:¬(0<=hd b/\m=(hd b).toNat/\e=0):=by rintro⟨h0,h1,_⟩;have h2:=(uy m G).1;exact CF (h.tI hq hl Ka (by rw[Ej];simp[h2]))
   have g2:¬(0<=hd a.reverse/\m=(hd a.reverse).toNat/\e=1):=by rintro⟨h0,h1,_⟩;have h2:=(Tw m G).1;exact CF (h.tI hq hl Ka (by rw[Ej];simp[h2]))
   rw[ax g1,ax g2];exact hold
 ·show(dB R n).ends q e=_;rw[Ji,pE];by_cases CF:q=l
  ·subst CF;rw[aE rfl];have hold:=h.ends q e hq he;have Kd:e=0\/e=1:=G;rcases Kd with rfl|rfl
   ·rw[ax G];show _=hd (a++b);by_cases hc:hd a.reverse<0
    ·rw[aE ⟨hc,rfl,rfl⟩];have:a=[]:=by simpa using Hy.1 hc
     rw[this];rfl
    ·rw[ax (λh=>hc h.1),hold,Ej];cases a with
     |nil=>simp[hd]at hc
     |cons x t=>rfl
   ·show _=hd (a++b).reverse;rw[List.reverse_append];by_cases hc:hd b<0
    ·rw[aE ⟨hc,rfl,rfl⟩];have:b=[]:=Hy.1 hc;rw[this];rfl
    ·rw[ax (λh=>hc h.1),ax G,hold,Ej];show hd (a++n::b).reverse=_;rw[show(a++n::b).reverse=b.reverse++n::a.reverse by simp];cases SO:b.reverse with
     |nil=>
      have:b=[]:=by simpa using SO
      rw[this]at hc;simp[hd]at hc
     |cons x t=>rfl
  ·rw[ax (λh=>CF h.2.1),ax (λh=>CF h.2.1),ax CF];exact h.ends q e hq he
 ·show(dB R n).dz q=_;rw[f6,dw,pE];split
  ·next e=>subst e
           rw[h.dz q hq,Ej];simp
  ·exact h.dz q hq
 ·show(dB R n).dA=_;rw[f4];exact h.AL
 ·show(dB R n).bY m 0=_;rw[OU];have g1:¬(0<=hd b/\m=(hd b).toNat/\(0:Nat)=0):=by rintro⟨h0,h1,_⟩;have h2:=(uy m G).1;exact h.uw hl (by rw[Ej];simp[h2]) jw
  rw[ax g1,ax G];exact h.OQ m jw
 ·show R.used-1=cR nl λq=>((tJ A n l).ls q).length;have h1:=nL (k:=nl) (f:=λq=>(A.ls q).length) (g:=λq=>((tJ A n l).ls q).length) hl (λj hj=>by show((tJ A n l).ls j).length=_;rw[pE,ax hj]);have h2:((tJ A n l).ls l).length=(a++b).length:=by rw[pE,aE rfl]
  have h3:=h.used;rw[h2]at h1;omega
 ·have:=h.Zc;simp at this ⊢;show R.used-1+A.fr.length+1=A.made;omega
 ·rw[OU,ax,ax G];rintro⟨h0,h1,_⟩;exact(uy n G).2 rfl
def OV{nl:Nat}{R:Raw}{A:Ar}{n:Nat}(z:eW)(h:uv nl {R with used:=R.used-1} A (some n)):uv nl (OR R n z) (ux A n z) none:=by
 obtain⟨hn,SN,kQ⟩:=h.hol n rfl;have hv:R.val=A.val:=h.val;refine⟨h.made,by show aS R.val n z=aS A.val n z;rw[hv],h.nd,List.nodup_cons.2 ⟨SN,h.ndf⟩,h.AU,λm hm=>?_,λq m hq hm=>?_,λm hm=>?_,λm hm=>?_,λm hm=>by simp at hm,λq m e hq hm he=>?_,h.ends,h.dz,rfl,λm hm=>?_,?_,?_⟩
 ·simp[ux]at hm;rcases hm with rfl|hm
  ·exact hn
  ·exact h.OP m hm
 ·show aS R.own n (-1) m=_;rw[an _ _ (λe=>by subst e;exact kQ q hq hm)];exact h.own q m hq hm
 ·show aS R.own n (-1) m=_;simp[ux]at hm;rw[dw];split
  ·rfl
  ·next e=>rcases hm with rfl|hm
           ·exact absurd rfl e
           ·exact h.free m hm
 ·rcases h.part m hm with h1|h1|h1
  ·simp at h1;subst h1;exact .inr (.inl (by simp[ux]))
  ·exact .inr (.inl (by simp[ux,h1]))
  ·exact .inr (.inr h1)
 ·show dq (dq R.bY n 0 R.dA) n 1 (-1) m e=_;have:m≠n:=λe=>by subst e;exact kQ q hq hm
  rw[dr,dr,ax (λh=>this h.1),ax (λh=>this h.1)];exact h.bY q m e hq hm he
 ·show dq (dq R.bY n 0 R.dA) n 1 (-1) m 0=nw (n::A.fr) m;rw[dr,dr,ax G];by_cases e:m=n
  ·subst e;rw[aE ⟨rfl,rfl⟩,eU];exact h.AL
  ·rw[ax (λh=>e h.1),dJ (λe'=>e e'.symm)];simp[ux]at hm;exact h.OQ m (hm.resolve_left e)
 ·exact h.used
 ·have:=h.Zc;simp[ux]at this ⊢;show R.used-1+(A.fr.length+1)=A.made;omega
def sR(R:Raw)(z:eW):Raw:={R with made:=R.made+1,val:=aS R.val R.made z,own:=aS R.own R.made 0,bY:=aS R.bY R.made λ_=>0}
def xM(R:Raw):Raw:={R with dA:=R.bY R.dA.toNat 0}
def kT(R:Raw)(n:Nat)(v:eW):Raw:={R with val:=aS R.val n v}
def OW(A:Ar)(n:Nat)(v:eW):Ar:={A with val:=aS A.val n v}
def OX(A:Ar)(z:eW):Ar:={A with made:=A.made+1,val:=aS A.val A.made z}
def OY(A:Ar):Ar:={A with fr:=A.fr.tail}
def CH{nl:Nat}{R:Raw}{A:Ar}{ho:Option Nat}(h:uv nl R A ho)(n:Nat)(v:eW):uv nl (kT R n v) (OW A n v) ho:=
 ⟨h.made,by show aS R.val n v=aS A.val n v;rw[h.val],h.nd,h.ndf,h.AU,h.OP,h.own,h.free,h.part,h.hol,h.bY,h.ends,h.dz,h.AL,h.OQ,h.used,h.Zc⟩
def Ty{nl:Nat}{R:Raw}{A:Ar}(h:uv nl R A none)(z:eW):uv nl (sR R z) (OX A z) (some A.made):=by
 have hm:=h.made;refine⟨by show R.made+1=A.made+1;rw[hm],by show aS R.val R.made z=aS A.val A.made z;rw[hm,h.val],h.nd,h.ndf,λq n hq hn=>Nat.lt_succ_of_lt (h.AU q n hq hn),λn hn=>Nat.lt_succ_of_lt (h.OP n hn),λq n hq hn=>?_,λn hn=>?_,λn hn=>?_,λn hn=>?_,λq n e hq hn he=>?_,h.ends,h.dz,h.AL,λn hn=>?_,?_,?_⟩
 ·show aS R.own R.made 0 n=_;rw[an _ _ (by have:=h.AU q n hq hn;omega)];exact h.own q n hq hn
 ·show aS R.own R.made 0 n=_;rw[an _ _ (by have:=h.OP n hn;omega)];exact h.free n hn
 ·by_cases e:n=A.made
  ·subst e;exact .inl rfl
  ·rcases h.part n (by simp[OX]at hn;omega)with h1|h1
   ·simp at h1
   ·exact .inr h1
 ·simp at hn;subst hn;exact⟨by simp[OX],λh'=>by have:=h.OP _ h';omega,λq hq h'=>by have:=h.AU q _ hq h';omega⟩
 ·show aS R.bY R.made (λ_=>0) n e=_;rw[an _ _ (by have:=h.AU q n hq hn;omega)];exact h.bY q n e hq hn he
 ·show aS R.bY R.made (λ_=>0) n 0=_;rw[an _ _ (by have:=h.OP n hn;omega)];exact h.OQ n hn
 ·exact h.used
 ·have:=h.Zc;simp at this;show R.used+A.fr.length+1=A.made+1;omega
def Tz{nl:Nat}{R:Raw}{A:Ar}{n:Nat}{t:List Nat}(h:uv nl R A none)(hf:A.fr=n::t):uv nl (xM R) (OY A) (some n)/\R.dA=(n:Int):=by
 have uA:=h.AL;rw[hf,oM]at uA;have iE:=h.ndf;rw[hf]at iE;have Zj:=List.nodup_cons.1 iE;have hp:(OY A).fr=t:=by show A.fr.tail=t;rw[hf];rfl
 have OZ:∀m,m∈t->m∈A.fr:=λm hm=>by rw[hf];simp[hm]
 have SN:n∈A.fr:=by rw[hf];simp
 refine⟨⟨h.made,h.val,h.nd,by rw[hp];exact Zj.2,h.AU,λm hm=>h.OP m (OZ m (by rw[hp]at hm;exact hm)),h.own,λm hm=>h.free m (OZ m (by rw[hp]at hm;exact hm)),λm hm=>?_,λm hm=>?_,h.bY,h.ends,h.dz,?_,λm hm=>?_,?_,?_⟩,uA⟩
 ·rcases h.part m hm with h1|h1|h1
  ·simp at h1
  ·rw[hf]at h1;simp at h1;rcases h1 with rfl|h1
   ·exact .inl rfl
   ·exact .inr (.inl (by rw[hp];exact h1))
  ·exact .inr (.inr h1)
 ·simp at hm;subst hm;exact⟨h.OP n SN,by rw[hp];exact Zj.1,λq hq h'=>h.uw hq h' SN⟩
 ·show R.bY R.dA.toNat 0=_;rw[uA,Int.toNat_natCast,h.OQ n SN,hf,eU,hp]
 ·rw[hp]at hm;show R.bY m 0=nw (OY A).fr m;rw[h.OQ m (OZ m hm),hf,hp,dJ (λe=>by subst e;exact Zj.1 hm)]
 ·exact h.used
 ·have:=h.Zc;rw[hf]at this;simp at this;rw[hp];show R.used+t.length+1=A.made;omega
def eB:eW:=⟨0,λ_=>0⟩
structure Nd where
 ls:Nat->List Nat
 val:Nat->eW
 fs:Nat->Nat
def Nd.ext{a b:Nd}(h1:a.ls=b.ls)(h2:a.val=b.val)(h3:a.fs=b.fs):a=b:=by
 cases a;cases b;simp_all
def yF(n:Nat)(f:Nat->Nat):Nat->Nat
 |0=>n
 |i+1=>f i
def Kh(f:Nat->Nat):Nat->Nat:=λi=>f (i+1)
def EF(f:Nat->Nat):yF (f 0) (Kh f)=f:=by funext i;cases i<;>rfl
def tK:List Nat->Nat->Nat->Nat
 |[],m,i=>m+i
 |a::_,_,0=>a
 |_::t,m,i+1=>tK t m i
def Bv(a:Nat)(t:List Nat)(m:Nat):tK (a::t) m=yF a (tK t m):=by funext i;cases i<;>rfl
def O0(m:Nat):tK [] m=yF m (tK [] (m+1)):=by
 funext i;cases i with
 |zero=>simp[tK,yF]
 |succ i=>simp[tK,yF];omega
def abs(A:Ar):Nd:=⟨A.ls,A.val,tK A.fr A.made⟩
def iF(a:Nd)(q e:Nat)(v:eW):Nd:=⟨aS a.ls q (ext e (a.ls q) (a.fs 0)),aS a.val (a.fs 0) v,Kh a.fs⟩
def takeN(a:Nd)(q n:Nat):Nd:=⟨aS a.ls q ((a.ls q).erase n),aS a.val n eB,yF n a.fs⟩
def LV(a:Nd)(n:Nat)(v:eW):Nd:={a with val:=aS a.val n v}
def pJ(a:Nd)(n q e:Nat):Nd:={a with ls:=aS a.ls q (ext e ((a.ls q).erase n) n)}
def iT(R:Raw)(q e:Nat)(v:eW):Raw:=
 let n:=if R.dA<0 then R.made else R.dA.toNat
 let R1:=if R.dA<0 then sR R eB else xM R
 {gd (kT R1 n v) n q e with used:=R.used+1}
def lT(R:Raw)(n:Nat):Raw:=OR (dB R n) n eB
def su(R:Raw)(n q e:Nat):Raw:=gd (dB R n) n q e
def iy{β:Type}(f:Nat->β)(i:Nat)(x y:β):aS (aS f i x) i y=aS f i y:=by funext j;simp only[dw];split<;>rfl
def gj{β:Type}(f:Nat->β)(i:Nat):aS f i (f i)=f:=by funext j;simp only[dw];split<;>simp_all
def O1{nl:Nat}{R:Raw}{A:Ar}(h:uv nl R A none){q e:Nat}(hq:q<nl)(he:e<=1)(v:eW):
 ∃A',uv nl (iT R q e v) A' none/\abs A'=iF (abs A) q e v/\(if R.dA<0 then R.made else R.dA.toNat)=(abs A).fs 0:=by
 have uA:=h.AL;cases hf:A.fr with
 |nil=>
  rw[hf]at uA;have ny:R.dA<0:=by rw[uA];decide
  have h1:=CH (Ty h eB) A.made v;have h2:=yE h1 hq he trivial;refine⟨pI (OW (OX A eB) A.made v) A.made q e,?_,?_,?_⟩
  ·have e1:iT R q e v={gd (kT (sR R eB) A.made v) A.made q e with used:=(kT (sR R eB) A.made v).used+1}:=by unfold iT;rw[aE ny,aE ny,h.made];rfl
   rw[e1];exact h2
  ·unfold abs iF;simp only[pI,OW,OX,hf];refine Nd.ext rfl ?_ ?_
   ·show aS (aS A.val A.made eB) A.made v=aS A.val (tK [] A.made 0) v;rw[iy];rfl
   ·show tK [] (A.made+1)=Kh (tK [] A.made);rw[O0 A.made];rfl
  ·rw[aE ny,h.made];unfold abs;rw[hf];rfl
 |cons n t=>
  obtain⟨h0,hfn⟩:=Tz h hf;have ny:¬R.dA<0:=by rw[hfn];omega
  have h1:=CH h0 n v;have h2:=yE h1 hq he trivial;refine⟨pI (OW (OY A) n v) n q e,?_,?_,?_⟩
  ·have e1:iT R q e v={gd (kT (xM R) n v) n q e with used:=(kT (xM R) n v).used+1}:=by unfold iT;rw[ax ny,ax ny,hfn];rfl
   rw[e1];exact h2
  ·unfold abs iF;simp only[pI,OW,OY,hf,List.tail];refine Nd.ext rfl rfl ?_
   ·show tK t A.made=Kh (tK (n::t) A.made);rw[Bv];rfl
  ·rw[ax ny,hfn];unfold abs;rw[hf];rfl
def EG{nl:Nat}{R:Raw}{A:Ar}(h:uv nl R A none){l n:Nat}(hl:l<nl)(hm:n∈A.ls l):
 ∃A',uv nl (lT R n) A' none/\abs A'=takeN (abs A) l n:=by
 obtain⟨h1,ho,hu,X,hv,hf,Xg,O3⟩:=CG h hl hm;refine⟨ux (tJ A n l) n eB,?_,?_⟩
 ·have:=OV (R:=dB R n) eB (by rw[Xg];exact h1);exact this
 ·unfold abs takeN ux tJ;refine Nd.ext rfl rfl ?_;show tK (n::A.fr) A.made=yF n (tK A.fr A.made);exact Bv _ _ _
def O4{nl:Nat}{R:Raw}{A:Ar}(h:uv nl R A none){n q e:Nat}(hq:q<nl)(hm:n∈A.ls q)(he:e<=1):
 ∃A',uv nl (su R n q e) A' none/\abs A'=pJ (abs A) n q e:=by
 obtain⟨h1,ho,hu,X,hv,hf,Xg,O3⟩:=CG h hq hm;have h2:=yE h1 hq he trivial;refine⟨pI (tJ A n q) n q e,?_,?_⟩
 ·have e1:su R n q e={gd {dB R n with used:=R.used-1} n q e with used:=R.used-1+1}:=by
   unfold su;have:R.used-1+1=(gd (dB R n) n q e).used:=by show _=(dB R n).used;rw[Xg];omega
   rw[this];rfl
  rw[e1];exact h2
 ·unfold abs pJ pI tJ;refine Nd.ext ?_ rfl rfl;show aS (aS A.ls q _) q (ext e (aS A.ls q _ q) n)=_;rw[iy,aw]
structure Wf(nl:Nat)(a:Nd):Prop where
 nd:∀q,q<nl->(a.ls q).Nodup
 Xk:∀q p n,q<nl->p<nl->n∈a.ls q->n∈a.ls p->q=p
 AL:∀q i,q<nl->a.fs i∉a.ls q
 inj:∀i j,a.fs i=a.fs j->i=j
 zer:∀i,a.val (a.fs i)=eB
def TA{nl:Nat}{a:Nd}(h:Wf nl a){q e:Nat}(hq:q<nl)(v:eW):Wf nl (iF a q e v):=by
 have pE:∀p,(iF a q e v).ls p=if p=q then ext e (a.ls q) (a.fs 0)else a.ls p:=λp=>rfl;have gg:∀p n,n∈(iF a q e v).ls p->(p=q/\n=a.fs 0)\/n∈a.ls p:=by
  intro p n hn;rw[pE]at hn;split at hn
  ·next e'=>rw[ext_mem]at hn
            rcases hn with hn|hn
            ·exact .inl ⟨e',hn⟩
            ·exact .inr (e'▸hn)
  ·exact .inr hn
 refine⟨λp hp=>?_,λp r n hp hr h1 h2=>?_,λp i hp hi=>?_,λi j Zk=>?_,λi=>?_⟩
 ·rw[pE];split
  ·exact Bt (h.nd q hq) (h.AL q 0 hq)
  ·exact h.nd p hp
 ·rcases gg p n h1 with⟨e0,e1⟩|g1<;>rcases gg r n h2 with⟨e0',e2⟩|g2
  ·rw[e0,e0']
  ·rw[e1]at g2;exact absurd g2 (h.AL r 0 hr)
  ·rw[e2]at g1;exact absurd g1 (h.AL p 0 hp)
  ·exact h.Xk p r n hp hr g1 g2
 ·rcases gg p _ hi with⟨_,e1⟩|h1
  ·have:=h.inj (i+1) 0 e1;omega
  ·exact h.AL p (i+1) hp h1
 ·have:=h.inj (i+1) (j+1) Zk;omega
 ·show aS a.val (a.fs 0) v (a.fs (i+1))=_;rw[an _ _ (λe'=>by have:=h.inj _ _ e';omega)];exact h.zer (i+1)
def TC{nl:Nat}{a:Nd}(h:Wf nl a){q n:Nat}(hq:q<nl)(hn:n∈a.ls q):Wf nl (takeN a q n):=by
 have pE:∀p,(takeN a q n).ls p=if p=q then(a.ls q).erase n else a.ls p:=λp=>rfl;have gg:∀p m,p<nl->m∈(takeN a q n).ls p->m∈a.ls p/\m≠n:=by
  intro p m hp hm;rw[pE]at hm;split at hm
  ·next e'=>subst e'
            exact⟨List.mem_of_mem_erase hm,λe=>by subst e;exact(h.nd p hp).not_mem_erase hm⟩
  ·next e'=>exact⟨hm,λe=>by subst e;exact e' (h.Xk p q m hp hq hm hn)⟩
 refine⟨λp hp=>?_,λp r m hp hr h1 h2=>h.Xk p r m hp hr (gg p m hp h1).1 (gg r m hr h2).1,λp i hp hi=>?_,λi j Zk=>?_,λi=>?_⟩
 ·rw[pE];split
  ·exact(h.nd q hq).erase n
  ·exact h.nd p hp
 ·obtain⟨h1,h2⟩:=gg p _ hp hi;cases i with
  |zero=>exact h2 rfl
  |succ i=>exact h.AL p i hp h1
 ·cases i with
  |zero=>cases j with
   |zero=>rfl
   |succ j=>exact absurd (show a.fs j∈a.ls q from by rw[<-show n=a.fs j from Zk];exact hn) (h.AL q j hq)
  |succ i=>cases j with
   |zero=>exact absurd (show a.fs i∈a.ls q from by rw[show a.fs i=n from Zk];exact hn) (h.AL q i hq)
   |succ j=>have:=h.inj i j Zk;omega
 ·cases i with
  |zero=>exact aw _ _ _
  |succ i=>
   show aS a.val n eB (a.fs i)=_;rw[dw];split
   ·rfl
   ·exact h.zer i
def Zl{nl:Nat}{a:Nd}(h:Wf nl a){q n:Nat}(hq:q<nl)(hn:n∈a.ls q)(v:eW):Wf nl (LV a n v):=
 ⟨h.nd,h.Xk,h.AL,h.inj,λi=>by
   show aS a.val n v (a.fs i)=_;rw[an _ _ (λe=>by subst e;exact h.AL q i hq hn)];exact h.zer i⟩
def Bw{e:Nat}{l:List Nat}{n:Nat}(h:n∉l):(ext e l n).erase n=l:=by
 unfold ext;split
 ·rw[List.erase_append_right _ h];simp
 ·simp
def LW{nl:Nat}{a:Nd}(h:Wf nl a){q e:Nat}(hq:q<nl)(v:eW):takeN (iF a q e v) q (a.fs 0)=a:=by
 refine Nd.ext ?_ ?_ ?_
 ·show aS (aS a.ls q _) q ((aS a.ls q _ q).erase (a.fs 0))=a.ls;rw[iy,aw,Bw (h.AL q 0 hq),gj]
 ·show aS (aS a.val (a.fs 0) v) (a.fs 0) eB=a.val;rw[iy,<-h.zer 0,gj]
 ·exact EF a.fs
def LX{a:Nd}{q e n:Nat}{l:List Nat}(hl:a.ls q=ext e l n)(hn:n∉l):iF (takeN a q n) q e (a.val n)=a:=by
 refine Nd.ext ?_ ?_ ?_
 ·show aS (aS a.ls q _) q (ext e (aS a.ls q _ q) n)=a.ls;rw[iy,aw,hl,Bw hn,<-hl,gj]
 ·show aS (aS a.val n eB) n (a.val n)=a.val;rw[iy,gj]
 ·rfl
def set_set(a:Nd)(n:Nat)(v:eW):LV (LV a n v) n (a.val n)=a:=by refine Nd.ext rfl ?_ rfl;show aS (aS a.val n v) n (a.val n)=a.val;rw[iy,gj]
def H_{a:Nd}{q n:Nat}{x y:List Nat}(hl:a.ls q=x++n::y)(hn:n∉x):pJ a n q 0={a with ls:=aS a.ls q (n::(x++y))}:=by refine Nd.ext ?_ rfl rfl;show aS a.ls q (ext 0 ((a.ls q).erase n) n)=_;rw[hl,List.erase_append_right _ hn];simp[Vm.ext]
def EH{q:Nat}(y:List Nat):∀(k:Nat) (x p:List Nat) (a:Nd),x.length=k->a.ls q=p++(x++y)->(p++(x++y)).Nodup->
 (x.reverse).foldl (λb m=>pJ b m q 0) a={a with ls:=aS a.ls q (x++(p++y))}:=by
 intro k
 induction k with
 |zero=>intro x p a hk hl hd;have:x=[]:=List.length_eq_zero_iff.1 hk;subst this;refine Nd.ext ?_ rfl rfl;show a.ls=aS a.ls q (p++y);rw[<-show a.ls q=p++y from hl,gj]
 |succ k ih=>
  intro x p a hk hl hd;have bt:x≠[]:=by intro e;subst e;simp at hk
  obtain⟨z,m,rfl⟩:∃z m,x=z++[m]:=⟨x.dropLast,x.getLast bt,(List.dropLast_concat_getLast bt).symm⟩;rw[List.reverse_append,List.reverse_singleton,List.singleton_append,List.foldl_cons];have Zm:a.ls q=(p++z)++m::y:=by rw[hl];simp
  have sQ:((p++z)++m::y).Nodup:=by rw[<-Zm,hl];exact hd
  have hm:m∉p++z:=λh'=>(List.nodup_append.1 sQ).2.2 m h' m az rfl;rw[H_ Zm hm];have hzk:z.length=k:=by simp at hk;exact hk
  have hp:((m::p)++(z++y)).Nodup:=by
   have:List.Perm ((m::p)++(z++y)) ((p++z)++m::y):=by rw[List.cons_append,<-List.append_assoc];exact List.perm_middle.symm
   exact this.nodup_iff.2 sQ
  have key:=ih z (m::p) {a with ls:=aS a.ls q (m::((p++z)++y))} hzk (by show aS a.ls q _ q=_;rw[aw];simp) hp;rw[key];refine Nd.ext ?_ rfl rfl;show aS (aS a.ls q _) q _=aS a.ls q _;rw[iy];congr 1;simp
structure St where
 a:Nd
 f:Nat->Option Nat
 vars:Nat->Int
 total:Int
def St.ext{s t:St}(h1:s.a=t.a)(h2:s.f=t.f)(h3:s.vars=t.vars)(h4:s.total=t.total):s=t:=by
 cases s;cases t;simp_all
structure Sys where
 nq:Nat
 gh:Nat->Bool
 cq:Nat->Nat
 sz:Nat
def gD(S:Sys)(a:Nd):Nat:=cR S.nq λq=>if S.gh q then 0 else(a.ls q).length
structure Inv(S:Sys)(s:St):Prop where
 wf:Wf S.nq s.a
 idx:∀k n,s.f k=some n↔∃q,q<S.nq/\n∈s.a.ls q/\(s.a.val n).key=k
 len:∀q,q<S.nq->(s.a.ls q).length<=S.cq q
 Ki:s.total=gD S s.a
 O5:gD S s.a<=S.sz
 tag:∀q n,q<S.nq->n∈s.a.ls q->∀t,0<=(s.a.val n).tg t/\(s.a.val n).tg t<=255
 key:∀q n,q<S.nq->n∈s.a.ls q->(s.a.val n).key<18446744073709551616
 var:∀i,-1073741824<=s.vars i/\s.vars i<=1073741824
def Inv.one{S:Sys}{s:St}(h:Inv S s){q p n m:Nat}(hq:q<S.nq)(hp:p<S.nq)(hn:n∈s.a.ls q)(hm:m∈s.a.ls p)(e:(s.a.val n).key=(s.a.val m).key):n=m:=by have h1:=(h.idx _ n).2 ⟨q,hq,hn,rfl⟩;have h2:=(h.idx _ m).2 ⟨p,hp,hm,rfl⟩;rw[e,h2]at h1;exact(fT h1).symm
def jW(S:Sys)(s:St)(q e:Nat)(x:eW):St:=
 {s with a:=iF s.a q e x,f:=aS s.f x.key (some (s.a.fs 0)),total:=if S.gh q then s.total else s.total+1}
def fH(S:Sys)(s:St)(q n:Nat):St:=
 {s with a:=takeN s.a q n,f:=aS s.f (s.a.val n).key none,total:=if S.gh q then s.total else s.total-1}
def cS(a:Nd)(q e:Nat):Nat:=(hd (dir (1-e) (a.ls q))).toNat
def k_(s:St)(n:Nat)(x:eW):St:={s with a:=LV s.a n x}
def fX{a:Nd}{q e:Nat}(h:a.ls q≠[]):cS a q e∈a.ls q:=by
 unfold cS;rw[<-jP (1-e)];cases hh:dir (1-e) (a.ls q)with
 |nil=>
  exfalso;apply h;cases hl:a.ls q with
  |nil=>rfl
  |cons x t=>
   have:x∈dir (1-e) (a.ls q):=by rw[jP,hl];simp
   rw[hh]at this;simp at this
 |cons x t=>simp[hd]
def LY{a:Nd}{q e:Nat}(he:e<=1)(h:a.ls q≠[]):a.ls q=ext e ((a.ls q).erase (cS a q e)) (cS a q e)\/¬(a.ls q).Nodup:=by
 by_cases hn:(a.ls q).Nodup
 ·left;unfold cS;have:e=0\/e=1:=G;rcases this with rfl|rfl
  ·cases hl:a.ls q with
   |nil=>exact absurd hl h
   |cons x t=>simp[dir,hd,ext]
  ·have bt:(a.ls q).reverse≠[]:=by simpa using h
   cases hl:(a.ls q).reverse with
   |nil=>exact absurd hl bt
   |cons x t=>
    have e1:a.ls q=t.reverse++[x]:=by have:=congrArg List.reverse hl;simpa using this
    have e2:x∉t.reverse:=by rw[e1]at hn;intro hx;exact(List.nodup_append.1 hn).2.2 x hx x az rfl
    have e3:(hd (dir (1-1) (a.ls q))).toNat=x:=by show(hd (dir 0 (a.ls q))).toNat=x;unfold dir;rw[ax bz,hl];rfl
    rw[e3]
    conv=>lhs;rw[e1]
    unfold ext;rw[aE rfl];congr 1;rw[e1,List.erase_append_right _ e2];simp
 ·exact .inr hn
def EJ{S:Sys}{a:Nd}{q e:Nat}(hq:q<S.nq)(x:eW):gD S (iF a q e x)=gD S a+if S.gh q then 0 else 1:=by
 unfold gD;have h1:=nL (k:=S.nq) (f:=λp=>if S.gh p then 0 else(a.ls p).length) (g:=λp=>if S.gh p then 0 else((iF a q e x).ls p).length) hq (λj hj=>by
  show(if S.gh j then 0 else(aS a.ls q _ j).length)=_;rw[an _ _ hj])
 have h2:((iF a q e x).ls q).length=(a.ls q).length+1:=by show(aS a.ls q _ q).length=_;rw[aw,lD]
 rw[h2]at h1;by_cases hg:S.gh q=true
 ·simp[hg]at h1 ⊢;omega
 ·simp[hg]at h1 ⊢;omega
def EK{S:Sys}{a:Nd}{q n:Nat}(hq:q<S.nq)(hn:n∈a.ls q):gD S (takeN a q n)+(if S.gh q then 0 else 1)=gD S a:=by
 unfold gD;have h1:=nL (k:=S.nq) (f:=λp=>if S.gh p then 0 else(a.ls p).length) (g:=λp=>if S.gh p then 0 else((takeN a q n).ls p).length) hq (λj hj=>by
  show(if S.gh j then 0 else(aS a.ls q _ j).length)=_;rw[an _ _ hj])
 have h2:((takeN a q n).ls q).length=(a.ls q).length-1:=by show(aS a.ls q _ q).length=_;rw[aw,Bx hn]
 have h3:0<(a.ls q).length:=EI hn;rw[h2]at h1;by_cases hg:S.gh q=true
 ·simp[hg]at h1 ⊢;omega
 ·simp[hg]at h1 ⊢;omega
def ja{a:Nd}{q e:Nat}{x:eW}{p n:Nat}:n∈(iF a q e x).ls p↔(p=q/\n=a.fs 0)\/n∈a.ls p:=by
 show n∈aS a.ls q _ p↔_;rw[dw];by_cases h:p=q
 ·subst h;simp[ext_mem]
 ·simp[h]
def uB{nl:Nat}{a:Nd}(h:Wf nl a){q n p m:Nat}(hq:q<nl)(hp:p<nl)(hn:n∈a.ls q):m∈(takeN a q n).ls p↔m∈a.ls p/\m≠n:=by
 show m∈aS a.ls q _ p↔_;rw[dw];by_cases e:p=q
 ·subst e;rw[aE rfl,(h.nd p hp).mem_erase_iff];exact and_comm
 ·rw[ax e];refine⟨λhm=>⟨hm,λe'=>by subst e';exact e (h.Xk p q m hp hq hm hn)⟩,λhm=>hm.1⟩
def TD{S:Sys}{s:St}(h:Inv S s){q e:Nat}(hq:q<S.nq){x:eW}(hk:s.f x.key=none)(hl:(s.a.ls q).length<S.cq q)(ht:S.gh q=true\/s.total<S.sz)
 (hx:∀t,0<=x.tg t/\x.tg t<=255) (pK:x.key<18446744073709551616):Inv S (jW S s q e x):=by
 have ia:∀n,(jW S s q e x).a.val n=if n=s.a.fs 0 then x else s.a.val n:=λn=>rfl;have bt:∀p n,p<S.nq->n∈s.a.ls p->n≠s.a.fs 0:=λp n hp hn e'=>h.wf.AL p 0 hp (e'▸hn);have EL:=EJ (a:=s.a) (e:=e) hq x;refine⟨TA h.wf hq x,λk n=>?_,λp hp=>?_,?_,?_,λp n hp hn=>?_,λp n hp hn=>?_,h.var⟩
 ·show aS s.f x.key (some (s.a.fs 0)) k=some n↔_;rw[dw];by_cases e1:k=x.key
  ·subst e1;rw[aE rfl];constructor
   ·intro e2;have:s.a.fs 0=n:=fT e2;subst this;exact⟨q,hq,ja.2 (.inl ⟨rfl,rfl⟩),by rw[ia,aE rfl]⟩
   ·rintro⟨p,hp,hm,uC⟩;rcases ja.1 hm with⟨_,rfl⟩|hm
    ·rfl
    ·rw[ia,ax (bt p n hp hm)]at uC;have:=(h.idx x.key n).2 ⟨p,hp,hm,uC⟩;rw[hk]at this;simp at this
  ·rw[ax e1,h.idx];constructor
   ·rintro⟨p,hp,hm,uC⟩;exact⟨p,hp,ja.2 (.inr hm),by rw[ia,ax (bt p n hp hm)];exact uC⟩
   ·rintro⟨p,hp,hm,uC⟩;rcases ja.1 hm with⟨_,rfl⟩|hm
    ·rw[ia,aE rfl]at uC;exact absurd uC.symm e1
    ·rw[ia,ax (bt p n hp hm)]at uC;exact⟨p,hp,hm,uC⟩
 ·show(aS s.a.ls q _ p).length<=_;rw[dw];split
  ·next e'=>subst e';rw[lD];omega
  ·exact h.len p hp
 ·show(if S.gh q then s.total else s.total+1)=(gD S (iF s.a q e x):Nat);rw[EL,h.Ki];by_cases hg:S.gh q=true<;>simp[hg]
 ·show gD S (iF s.a q e x)<=_;rw[EL];have:=h.O5;have h2:=h.Ki;by_cases hg:S.gh q=true
  ·simp[hg];omega
  ·simp[hg]at ht ⊢;omega
 ·intro t;rcases ja.1 hn with⟨_,rfl⟩|hm
  ·rw[ia,aE rfl];exact hx t
  ·rw[ia,ax (bt p n hp hm)];exact h.tag p n hp hm t
 ·rcases ja.1 hn with⟨_,rfl⟩|hm
  ·rw[ia,aE rfl];exact pK
  ·rw[ia,ax (bt p n hp hm)];exact h.key p n hp hm
def jF{S:Sys}{s:St}(h:Inv S s){q n:Nat}(hq:q<S.nq)(hn:n∈s.a.ls q):Inv S (fH S s q n):=by
 have gg:∀p m,p<S.nq->(m∈(fH S s q n).a.ls p↔m∈s.a.ls p/\m≠n):=λp m hp=>uB h.wf hq hp hn;have ia:∀m,m≠n->(fH S s q n).a.val m=s.a.val m:=λm hm=>an _ _ hm;have EL:=EK hq hn;refine⟨TC h.wf hq hn,λk m=>?_,λp hp=>?_,?_,?_,λp m hp hm=>?_,λp m hp hm=>?_,h.var⟩
 ·show aS s.f (s.a.val n).key none k=some m↔_;rw[dw];by_cases e:k=(s.a.val n).key
  ·rw[aE e];constructor
   ·intro h';simp at h'
   ·rintro⟨p,hp,hm,hk⟩;obtain⟨h1,h2⟩:=(gg p m hp).1 hm;rw[ia m h2]at hk;exact absurd (h.one hp hq h1 hn (by rw[hk,e])) h2
  ·rw[ax e,h.idx];constructor
   ·rintro⟨p,hp,hm,hk⟩;have h2:m≠n:=λe'=>by subst e';exact e hk.symm
    exact⟨p,hp,(gg p m hp).2 ⟨hm,h2⟩,by rw[ia m h2];exact hk⟩
   ·rintro⟨p,hp,hm,hk⟩;obtain⟨h1,h2⟩:=(gg p m hp).1 hm;exact⟨p,hp,h1,by rw[ia m h2]at hk;exact hk⟩
 ·show(aS s.a.ls q _ p).length<=_;rw[dw];split
  ·next e=>subst e;rw[Bx hn];have:=h.len p hp;omega
  ·exact h.len p hp
 ·show(if S.gh q then s.total else s.total-1)=(gD S (takeN s.a q n):Nat);have:=h.Ki;by_cases hg:S.gh q=true
  ·simp[hg]at EL ⊢;omega
  ·simp[hg]at EL ⊢;omega
 ·show gD S (takeN s.a q n)<=_;have:=h.O5;omega
 ·obtain⟨h1,h2⟩:=(gg p m hp).1 hm;rw[ia m h2];exact h.tag p m hp h1
 ·obtain⟨h1,h2⟩:=(gg p m hp).1 hm;rw[ia m h2];exact h.key p m hp h1
def O6{S:Sys}{s:St}(h:Inv S s){q n:Nat}(hq:q<S.nq)(hn:n∈s.a.ls q){x:eW}(hk:x.key=(s.a.val n).key)(hx:∀t,0<=x.tg t/\x.tg t<=255):Inv S (k_ s n x):=by
 have ia:∀m,(k_ s n x).a.val m=if m=n then x else s.a.val m:=λm=>rfl;have pK:∀m,((k_ s n x).a.val m).key=(s.a.val m).key:=λm=>by
  rw[ia];split
  ·next e=>rw[e,hk]
  ·rfl
 refine⟨Zl h.wf hq hn x,λk m=>?_,h.len,h.Ki,h.O5,λp m hp hm t=>?_,λp m hp hm=>?_,h.var⟩
 ·refine(h.idx k m).trans ?_;constructor
  ·rintro⟨p,hp,hm,qW⟩;exact⟨p,hp,hm,by rw[pK];exact qW⟩
  ·rintro⟨p,hp,hm,qW⟩;exact⟨p,hp,hm,by rw[pK]at qW;exact qW⟩
 ·rw[ia];split
  ·exact hx t
  ·exact h.tag p m hp hm t
 ·rw[pK];exact h.key p m hp hm
inductive vM
 |var (i:Nat) (qX:Int)
 |mark (qX:eW)
 |cut (q e:Nat)
 |put (q e:Nat) (x:eW)
 |out (q:Nat) (x:eW) (ahead:List Nat)
def lE(S:Sys)(s:St)(q e:Nat):St:=fH S s q (cS s.a q e)
def nT(S:Sys):vM->St->St
 | .var i qX,s=>{s with vars:=aS s.vars i qX}
 | .mark qX,s=>match s.f qX.key with
   |some n=>k_ s n qX
   |none=>s
 | .cut q e,s=>lE S s q e
 | .put q e x,s=>jW S s q e x
 | .out q x ahead,s=>{jW S s q 0 x with a:=ahead.foldl (λb m=>pJ b m q 0) (jW S s q 0 x).a}
def Ia{nl:Nat}{a:Nd}{q e:Nat}(he:e<=1)(x:eW):cS (iF a q e x) q e=a.fs 0:=by unfold cS;show(hd (dir (1-e) (aS a.ls q _ q))).toNat=_;rw[aw,(Kb he _ _).2];rfl
def O7{S:Sys}{s:St}(h:Inv S s){q e:Nat}(hq:q<S.nq)(he:e<=1){x:eW}(hk:s.f x.key=none):nT S (.cut q e) (jW S s q e x)=s:=by
 have e1:cS (jW S s q e x).a q e=s.a.fs 0:=Ia (nl:=S.nq) he x;show fH S (jW S s q e x) q (cS (jW S s q e x).a q e)=s;rw[e1];have e2:(jW S s q e x).a.val (s.a.fs 0)=x:=aw _ _ _;unfold fH;rw[e2];refine St.ext (LW h.wf hq x) ?_ rfl ?_
 ·show aS (aS s.f x.key _) x.key none=s.f;rw[iy,<-hk,gj]
 ·show(if S.gh q then(if S.gh q then s.total else s.total+1)else(if S.gh q then s.total else s.total+1) - 1)=s.total;by_cases hg:S.gh q=true<;>simp[hg]<;>omega
def O_{S:Sys}{s:St}(h:Inv S s){q e:Nat}(hq:q<S.nq)(he:e<=1)(bt:s.a.ls q≠[]):nT S (.put q e (s.a.val (cS s.a q e))) (lE S s q e)=s:=by
 have hm:=fX (e:=e) bt;have iE:=h.wf.nd q hq;have hx:=(LY he bt).resolve_right (λh'=>h' iE);have hf:=(h.idx _ _).2 ⟨q,hq,hm,rfl⟩;generalize hn:cS s.a q e=n at*;show jW S (fH S s q (cS s.a q e)) q e (s.a.val n)=s;rw[hn];unfold jW fH;refine St.ext (LX hx iE.not_mem_erase) ?_ rfl ?_
 ·show aS (aS s.f _ none) _ (some n)=s.f;rw[iy,<-hf,gj]
 ·show(if S.gh q then(if S.gh q then s.total else s.total-1)else(if S.gh q then s.total else s.total-1)+1)=s.total;by_cases hg:S.gh q=true<;>simp[hg]<;>omega
def cE(l:List Nat)(n:Nat):List Nat:=(l.takeWhile λm=>m !=n).reverse
def oN{l:List Nat}{n:Nat}(h:n∈l):∃y,l=(cE l n).reverse++n::y/\n∉cE l n:=by
 unfold cE;rw[List.reverse_reverse]
 induction l with
 |nil=>simp at h
 |cons a t ih=>
  by_cases e:a=n
  ·subst e;exact⟨t,az,az⟩
  ·have h':n∈t:=by
    simp at h;rcases h with h|h
    ·exact absurd h.symm e
    ·exact h
   obtain⟨y,h1,h2⟩:=ih h';refine⟨y,?_,?_⟩
   ·rw[List.takeWhile_cons_of_pos (by simpa using e),List.cons_append,<-h1]
   ·rw[List.takeWhile_cons_of_pos (by simpa using e)];intro h3;rcases List.mem_cons.1 (List.mem_reverse.1 h3)with h3|h3
    ·exact e h3.symm
    ·exact h2 (List.mem_reverse.2 h3)
def Pa{S:Sys}{s:St}(h:Inv S s){q n:Nat}(hq:q<S.nq)(hn:n∈s.a.ls q):nT S (.out q (s.a.val n) (cE (s.a.ls q) n)) (fH S s q n)=s:=by
 obtain⟨y,h1,h2⟩:=oN hn;have iE:=h.wf.nd q hq;have hf:=(h.idx _ _).2 ⟨q,hq,hn,rfl⟩;generalize cE (s.a.ls q) n=x at*;have AM:n∉x.reverse:=by simpa using h2
 have he:(s.a.ls q).erase n=x.reverse++y:=by rw[h1,List.erase_append_right _ AM];simp
 unfold nT;refine St.ext ?_ ?_ rfl ?_
 ·show x.foldl (λb m=>pJ b m q 0) (iF (takeN s.a q n) q 0 (s.a.val n))=s.a;have pE:(iF (takeN s.a q n) q 0 (s.a.val n)).ls q=[n]++(x.reverse++y):=by show aS (aS s.a.ls q _) q (ext 0 (aS s.a.ls q _ q) n) q=_;rw[aw,aw,he];simp[Vm.ext]
  have Zh:([n]++(x.reverse++y)).Nodup:=by have:List.Perm (n::(x.reverse++y)) (x.reverse++n::y):=List.perm_middle.symm;exact this.nodup_iff.2 (h1▸iE)
  have:=EH y x.reverse.length x.reverse [n] _ rfl pE Zh;rw[List.reverse_reverse]at this;rw[this];refine Nd.ext ?_ ?_ rfl
  ·show aS (aS (aS s.a.ls q _) q _) q (x.reverse++([n]++y))=s.a.ls;rw[iy,iy];have:x.reverse++([n]++y)=s.a.ls q:=by rw[h1];rfl
   rw[this,gj]
  ·show aS (aS s.a.val n eB) n (s.a.val n)=s.a.val;rw[iy,gj]
 ·show aS (aS s.f _ none) _ (some n)=s.f;rw[iy,<-hf,gj]
 ·show(if S.gh q then(if S.gh q then s.total else s.total-1)else(if S.gh q then s.total else s.total-1)+1)=s.total;by_cases hg:S.gh q=true<;>simp[hg]<;>omega
def LZ{S:Sys}{s:St}(h:Inv S s){q n:Nat}(hq:q<S.nq)(hn:n∈s.a.ls q){x:eW}(hk:x.key=(s.a.val n).key):nT S (.mark (s.a.val n)) (k_ s n x)=s:=by have hf:=(h.idx _ _).2 ⟨q,hq,hn,rfl⟩;unfold nT;show(match s.f (s.a.val n).key with|some m=>k_ (k_ s n x) m (s.a.val n)|none=>k_ s n x)=s;rw[hf];exact St.ext (set_set s.a n x) rfl rfl rfl
def Pb(S:Sys)(s:St)(i:Nat)(v:Int):nT S (.var i (s.vars i)) {s with vars:=aS s.vars i v}=s:=by refine St.ext rfl rfl ?_ rfl;show aS (aS s.vars i v) i (s.vars i)=s.vars;rw[iy,gj]
structure Ins where
 op:Int
 a:Int
 b:Int
 c:Int
 d:Int
 deriving DecidableEq
structure Vr where
 init:Int
 lo:Int
 hi:Int
 deriving DecidableEq
structure aU where
 ap:List Bool
 vars:List Vr
 aW:List Int
 on:List Int
 aV:Int
 code:List Ins
structure Cp where
 size:Int
 aF:List Int
def aB(p:aU)(c:Cp):Sys:=⟨p.ap.length,λq=>p.ap.getD q false,λq=>(c.aF.getD q 0).toNat,c.size.toNat⟩
def within(n lo hi:Int):Int:=max lo (min hi n)
def mH(n:Int):Int:=within n (-1073741824) 1073741824
def pM(b:Bool):Int:=if b then 1 else 0
def yG(a b:Int):Int:=if b=0 then 0 else mH (if a.tmod b≠0/\(decide (a<0)≠decide (b<0))then a.tdiv b-1 else a.tdiv b)
def vN{n lo hi:Int}(h:lo<=hi):lo<=within n lo hi/\within n lo hi<=hi:=by unfold within;omega
def uD(n:Int): -1073741824<=mH n/\mH n<=1073741824:=vN bz
def nU(b:Bool):pM b=0\/pM b=1:=by cases b<;>simp[pM]
def TE(a b:Int): -1073741824<=yG a b/\yG a b<=1073741824:=by
 unfold yG;split
 ·omega
 ·exact uD _
structure Rn where
 key:Nat
 at_:Nat
 stack:List Int
 loops:List Int
 hand:Option eW
 told:List Nat
 bG:Int
 bI:List vM
 done:Bool
def Rn.push(r:Rn)(n:Int):Rn:={r with stack:=n::r.stack}
def Rn.jx(r:Rn):Int:=r.stack.headD 0
def Rn.pop(r:Rn):Rn:={r with stack:=r.stack.tail}
def Rn.note(r:Rn)(u:vM):Rn:={r with bI:=u::r.bI}
def Rn.gE(r:Rn)(t:Int):Rn:={r with bG:=t}
def SP(S:Sys)(a:Nd)(n:Nat):Nat:=((List.range S.nq).find? λq=>(a.ls q).contains n).getD 0
def jy{S:Sys}{a:Nd}(h:Wf S.nq a){q n:Nat}(hq:q<S.nq)(hn:n∈a.ls q):SP S a n=q:=by
 unfold SP;cases hf:(List.range S.nq).find? λq=>(a.ls q).contains n with
 |none=>have:=List.find?_eq_none.1 hf q (by simp[hq]);simp[hn]at this
 |some p=>have h1:=List.find?_some hf;have h2:=List.mem_of_find?_eq_some hf;simp at h1 h2;exact h.Xk p q n h2 hq h1 hn
abbrev SR:=St×Rn
def iP(S:Sys)(x:SR)(q e:Nat)(v:eW):SR×Bool:=
 if(x.1.a.ls q).length=S.cq q\/(S.gh q=false/\x.1.total=S.sz)then((x.1,x.2.gE 1),false)else((jW S x.1 q e v,x.2.note (.cut q e)),true)
def ru(S:Sys)(x:SR)(n q:Nat):SR:=(fH S x.1 q n,x.2.note (.out q (x.1.a.val n) (cE (x.1.a.ls q) n)))
def bh(S:Sys)(x:SR)(q e:Nat):SR×Bool:=
 if x.1.a.ls q=[]then((x.1,x.2.gE 2),false)
 else((lE S x.1 q e,{x.2.note (.put q e (x.1.a.val (cS x.1.a q e)))with hand:=some (x.1.a.val (cS x.1.a q e))}),true)
def nV(r:Rn):eW:=r.hand.getD eB
def dK(S:Sys)(x:SR)(q e:Nat):SR×Bool:=iP S (x.1,{x.2 with hand:=none}) q e (nV x.2)
def fU(x:SR):SR:=(x.1,{x.2 with told:=x.2.told++[(nV x.2).key]})
def gm(x:SR):SR:=(x.1,{x.2 with hand:=none})
def oO(e:eW)(tag:Nat)(n m:Int):eW:=⟨e.key,aS e.tg tag (within n 0 m)⟩
def ry(p:aU)(x:SR)(n tag:Nat)(v:Int):SR:=
 (k_ x.1 n (oO (x.1.a.val n) tag v (p.aW.getD tag 0)),x.2.note (.mark (x.1.a.val n)))
def lF(r:Rn)(at_:Nat):Rn:={r with loops:=r.loops.tail,at_:=at_}
def pk(op:Int)(a b:Int):Int:=
 if op=11 then min a b else if op=12 then max a b else if op=15 then mH (a*b)else if op=16 then yG a b else if op=17 then mH (a+b)
 else if op=18 then mH (a-b)else if op=19 then pM (decide (a=b))else if op=20 then pM (decide (a<b))else pM (decide (a<=b))
def N(i:Int):Nat:=i.toNat
def oP(S:Sys)(i:Ins)(x:SR):SR:=
 match x.1.f x.2.key with
 |some _=>(x.1,x.2.gE 3)
 |none=>(iP S x (N i.a) (N i.b) ⟨x.2.key,λ_=>0⟩).1
def wU(S:Sys)(i:Ins)(x:SR):SR:=
 match x.1.f x.2.key with
 |none=>(x.1,x.2.gE 3)
 |some n=>(iP S (ru S x n (SP S x.1.a n)) (N i.a) (N i.b) (x.1.a.val n)).1
def oQ(S:Sys)(x:SR):SR:=
 match x.1.f x.2.key with
 |none=>(x.1,x.2.gE 3)
 |some n=>if S.gh (SP S x.1.a n)then ru S x n (SP S x.1.a n)else(x.1,x.2.gE 3)
def qu(S:Sys)(i:Ins)(x:SR):SR:=let y:=bh S x (N i.a) (N i.b);if y.2 then(dK S y.1 (N i.c) (N i.d)).1 else y.1
def qw(S:Sys)(i:Ins)(x:SR):SR:=let y:=bh S x (N i.a) (N i.b);if y.2 then(dK S (fU y.1) (N i.c) (N i.d)).1 else y.1
def qx(S:Sys)(i:Ins)(x:SR):SR:=let y:=bh S x (N i.a) (N i.b);if y.2 then gm (fU y.1)else y.1
def uE(S:Sys)(i:Ins)(x:SR):SR:=let y:=bh S x (N i.a) (N i.b);if y.2 then gm y.1 else y.1
def CI(p:aU)(i:Ins)(x:SR):SR:=
 let v:=p.vars.getD (N i.a) ⟨0,0,0⟩
 ({x.1 with vars:=aS x.1.vars (N i.a) (within x.2.jx v.lo v.hi)},(x.2.note (.var (N i.a) (x.1.vars (N i.a)))).pop)
def rz(p:aU)(i:Ins)(x:SR):SR:=
 match x.1.f x.2.key with
 |none=>(x.1,x.2.pop.gE 3)
 |some n=>ry p (x.1,x.2.pop) n (N i.a) x.2.jx
def mh(p:aU)(i:Ins)(x:SR):SR:=
 if x.1.a.ls (N i.a)=[]then(x.1,x.2.pop.gE 2)else ry p (x.1,x.2.pop) (cS x.1.a (N i.a) (N i.b)) (N i.c) x.2.jx
def wV(i:Ins)(x:SR):SR:=
 match x.1.f x.2.key with
 |none=>(x.1,x.2.gE 3)
 |some n=>(x.1,x.2.push ((x.1.a.val n).tg (N i.a)))
def oR(i:Ins)(x:SR):SR:=
 if x.1.a.ls (N i.a)=[]then(x.1,x.2.gE 2)else(x.1,x.2.push ((x.1.a.val (cS x.1.a (N i.a) (N i.b))).tg (N i.c)))
def vO(S:Sys)(i:Ins)(x:SR):SR:=
 (x.1,x.2.push (pM (match x.1.f x.2.key with|none=>false|some n=>decide ((SP S x.1.a n:Int)=i.a))))
def qR(i:Ins)(x:SR):SR:=
 if x.2.loops.headD 0=0 then(x.1,lF x.2 (N i.a))else(x.1,{x.2 with loops:=(x.2.loops.headD 0-1)::x.2.loops.tail})
def qS(i:Ins)(x:SR):SR:=if x.2.jx=0 then(x.1,lF x.2.pop (N i.a))else(x.1,x.2.pop)
def aJ(p:aU)(c:Cp)(i:Ins)(x:SR):SR:=
 let S:=aB p c
 if i.op=0 then(x.1,{x.2 with done:=true})
 else if i.op=1\/i.op=2 then(x.1,x.2.push i.a)
 else if i.op=3 then(x.1,x.2.push (x.1.vars (N i.a)))
 else if i.op=4 then(x.1,x.2.push (x.1.a.ls (N i.a)).length)
 else if i.op=5 then(x.1,x.2.push (c.aF.getD (N i.a) 0))
 else if i.op=6 then(x.1,x.2.push c.size)
 else if i.op=7 then(x.1,x.2.push x.1.total)
 else if i.op=8 then vO S i x
 else if i.op=9 then wV i x
 else if i.op=10 then oR i x
 else if i.op=13 then(x.1,x.2.pop.push (-x.2.jx))
 else if i.op=14 then(x.1,x.2.pop.push (1-x.2.jx))
 else if 11<=i.op/\i.op<=21 then(x.1,x.2.pop.pop.push (pk i.op x.2.pop.jx x.2.jx))
 else if i.op=22\/i.op=27 then(x.1,{x.2 with at_:=N i.a})
 else if i.op=23 then(x.1,if x.2.jx=0 then{x.2.pop with at_:=N i.a}else x.2.pop)
 else if i.op=24 then(x.1,{x.2 with loops:=i.a::x.2.loops})
 else if i.op=25 then qR i x
 else if i.op=26 then qS i x
 else if i.op=28 then CI p i x
 else if i.op=29 then rz p i x
 else if i.op=30 then mh p i x
 else if i.op=31 then oP S i x
 else if i.op=32 then wU S i x
 else if i.op=33 then oQ S x
 else if i.op=34 then(bh S x (N i.a) (N i.b)).1
 else if i.op=35 then(dK S x (N i.a) (N i.b)).1
 else if i.op=36 then fU x
 else if i.op=37 then gm x
 else if i.op=38 then qu S i x
 else if i.op=39 then qw S i x
 else if i.op=40 then qx S i x
 else uE S i x
def cM(op:Nat):List Nat:=
 match op with
 |1=>[5]|2=>[6]|3=>[2]|4=>[1]|5=>[1]|8=>[1]|9=>[3]|10=>[1,4,3]
 |22=>[8]|23=>[8]|24=>[7]|25=>[8]|26=>[8]|27=>[8]
 |28=>[2]|29=>[3]|30=>[1,4,3]|31=>[1,4]|32=>[1,4]|34=>[1,4]|35=>[1,4]
 |38=>[1,4,1,4]|39=>[1,4,1,4]|40=>[1,4]|41=>[1,4]
 |_=>[]
def aP(n lo hi:Int):Bool:=decide (lo<=n)&&decide (n<=hi)
def kw(kind:Nat):Int:=if kind=5 then -1073741824 else 0
def kz(p:aU)(kind:Nat):Int:=
 if kind=1 then(p.ap.length:Int) - 1 else if kind=2 then(p.vars.length:Int) - 1 else if kind=3 then(p.aW.length:Int) - 1
 else if kind=4 then 1 else if kind=5 then 1073741824 else if kind=6 then 1 else if kind=7 then 4194304 else if kind=8 then(p.code.length:Int) - 1 else 0
def bF(p:aU)(kind:Nat)(n:Int):Bool:=aP n (kw kind) (kz p kind)
def operands(i:Ins):List Int:=[i.a,i.b,i.c,i.d]
def iU(p:aU)(i:Ins):Bool:=
 bF p ((cM i.op.toNat).getD 0 0) i.a&&bF p ((cM i.op.toNat).getD 1 0) i.b&&bF p ((cM i.op.toNat).getD 2 0) i.c&&bF p ((cM i.op.toNat).getD 3 0) i.d
def jX(i:Ins):Bool:=aP i.op 0 41
def oT(v:Vr):Bool:=decide (v.lo<=v.init)&&decide (v.init<=v.hi)&&decide (-1073741824<=v.lo)&&decide (v.hi<=1073741824)
def cC(p:aU):Bool:=
 decide (p.ap.length<=16)&&decide (p.vars.length<=16)&&decide (p.aW.length<=4)&&decide (p.on.length=p.ap.length)&&decide (p.code.length<=262144)&&
 p.vars.all oT&&p.aW.all (λt=>aP t 1 255)&&p.on.all (λn=>aP n (-1) ((p.code.length:Int) - 1))&&aP p.aV (-1) ((p.code.length:Int) - 1)
def dP(p:aU):List Ins->Int
 |[]=>0
 |i::l=>if jX i then(if iU p i then dP p l else 92)else 91
def bE(p:aU):Int:=if cC p then dP p p.code else 85
structure Std where
 ty:List Nat
 lo:List Nat
 ha:Nat
 deriving DecidableEq
abbrev Map:=Nat->Option Std
def cm(op:Nat):List Nat:=
 match op with
 |11|12|15|16|17|18|20|21=>[1,1]
 |13=>[1]|14=>[2]|19=>[3,3]|23|26=>[2]|28|29|30=>[1]
 |_=>[]
def cP(op:Nat):Nat:=
 match op with
 |1|3|4|5|6|7|9|10|11|12|13|15|16|17|18=>1
 |2|8|14|19|20|21=>2
 |_=>0
def jp:List Nat->List Nat->Bool
 |[],_=>true
 |w::ws,t::ts=>(w==3||t==w)&&jp ws ts
 |_::_,[]=>false
def bw(p:aU)(n:Int):Bool:=p.ap.getD n.toNat false
def ak(p:aU)(n:Nat):Ins:=p.code.getD n ⟨0,0,0,0,0⟩
def eL(p:aU)(x:Ins)(ha:Nat):Bool:=
 if x.op=36 then ha==2
 else if x.op=37 then ha==1||ha==3
 else if x.op=35 then(if bw p x.a then ha==1||ha==3 else ha==2)
 else if x.op=28\/x.op=29\/x.op=30 then true
 else(decide (1<=x.op)&&decide (x.op<=21))||ha==0
def bZ(x:Ins)(ty:List Nat):Int:=
 let t:=cm x.op.toNat
 if ty.length<t.length\/(x.op=0/\0<ty.length)\/(cP x.op.toNat≠0/\256<ty.length-t.length+1)then 93
 else if !jp t ty||(decide (x.op=19)&&ty.getD 0 0 !=ty.getD 1 0)then 94 else 0
def bg(x:Ins)(ty:List Nat):List Nat:=
 let r:=ty.drop (cm x.op.toNat).length
 if cP x.op.toNat=0 then r else cP x.op.toNat::r
def cK(p:aU)(x:Ins):Bool:=
 if x.op=32\/x.op=40 then !bw p x.a
 else if x.op=41 then bw p x.a
 else if x.op=38 then bw p x.a==bw p x.c
 else if x.op=39 then !bw p x.a&&bw p x.c
 else true
def cZ(p:aU)(T:Map)(pc:Nat)(x:Ins)(ty lo:List Nat):Bool:=
 if(x.op=22\/x.op=23\/x.op=25\/x.op=26)/\(x.a<=pc\/(ak p x.a.toNat).op=25)then false
 else if x.op=24 then decide (pc+1<p.code.length)&&decide ((ak p (pc+1)).op=25)
 else if x.op=25 then decide (0<pc)&&decide ((ak p (pc-1)).op=24)&&decide (p.aV≠pc)&& !p.on.contains (pc:Int)
 else if x.op=26 then(match lo with|[]=>false|t::_=>decide (x.a=(ak p t).a))
 else if x.op=27 then(match lo with|[]=>false|t::l=>decide (x.a=t)&&(match T t with|some s=>decide (s.ty=ty/\s.lo=l)|none=>decide (ty=[]/\l=[])))
 else if x.op=0 then lo.isEmpty
 else true
def br(p:aU)(x:Ins)(ha:Nat):Nat:=
 if x.op=36 then 3 else if x.op=35\/x.op=37 then 0 else if x.op=34 then(if bw p x.a then 1 else 2)else ha
def cT(pc:Nat)(x:Ins)(s:Std):List (Nat×Std):=
 if x.op=0\/x.op=27 then[]
 else if x.op=22 then[(x.a.toNat,s)]
 else if x.op=23 then[(pc+1,s),(x.a.toNat,s)]
 else if x.op=25 then[(pc+1,{s with lo:=pc::s.lo}),(x.a.toNat,s)]
 else if x.op=26 then[(pc+1,s),(x.a.toNat,{s with lo:=s.lo.tail})]
 else[(pc+1,s)]
def nW(T:Map)(l:List (Nat×Std)):Bool:=l.all λw=>match T w.1 with|some s=>decide (s=w.2)|none=>true
def lu:List (Nat×Std)->Bool
 |[]=>true
 |w::l=>(l.all λv=>decide (v.1=w.1)==false||decide (v.2=w.2))&&lu l
def rA(T:Map):List (Nat×Std)->Map
 |[]=>T
 |w::l=>rA (aS T w.1 (some w.2)) l
def dt(p:aU)(T:Map)(pc:Nat):Int:=
 let x:=ak p pc
 match T pc with
 |none=>99
 |some s=>
  if !eL p x s.ha then 96
  else if bZ x s.ty≠0 then bZ x s.ty
  else if !cK p x then 92
  else if !cZ p T pc x (bg x s.ty) s.lo then 95
  else
   let l:=cT pc x ⟨bg x s.ty,s.lo,br p x s.ha⟩
   if l.any (λw=>decide (p.code.length<=w.1))then 98
   else if !(lu l&&nW T l)then 94 else 0
def jQ(p:aU)(T:Map)(pc:Nat):Map:=
 let x:=ak p pc
 match T pc with
 |none=>T
 |some s=>rA T (cT pc x ⟨bg x s.ty,s.lo,br p x s.ha⟩)
def looks(p:aU):Nat->Nat->Map->(Int×Nat) ⊕ Map
 |0,_,T=> .inr T
 |k+1,pc,T=>if dt p T pc=0 then looks p k (pc+1) (jQ p T pc)else .inl (dt p T pc,pc)
def dH(p:aU):Map:=λpc=>if(p.on++[p.aV]).contains (pc:Int)then some ⟨[],[],0⟩else none
def MS:Nat:=4611686018427387904
def bM(a b:Nat):Nat:=if MS-b<a then MS else a+b
def eX(a b:Nat):Nat:=if a*b<=MS then a*b else MS
def mI(p:aU)(g:Nat->Nat)(pc:Nat):Nat:=
 let x:=ak p pc
 if x.op=0\/x.op=27 then 1
 else if x.op=22 then bM 1 (g x.a.toNat)
 else if x.op=23 then bM 1 (max (g (pc+1)) (g x.a.toNat))
 else if x.op=24 then bM (bM 1 (eX x.a.toNat (bM 1 (g (pc+2))))) (bM 1 (g (ak p (pc+1)).a.toNat))
 else bM 1 (g (pc+1))
def dV(p:aU):Nat->(Nat->Nat)
 |0=>λ_=>0
 |k+1=>let g:=dV p k;aS g (p.code.length-1-k) (mI p g (p.code.length-1-k))
def mi(p:aU):Nat->Nat:=dV p p.code.length
def MF:Nat:=1152921504606846976
def b_(p:aU)(n:Int):Nat:=if n<0 then 0 else mi p n.toNat
def bH(p:aU):List Int->Option Int
 |[]=>none
 |n::l=>if MF<b_ p n then some n else bH p l
def a8(p:aU):Int×Int:=
 if bE p≠0 then(bE p,0)
 else match looks p p.code.length 0 (dH p)with
  | .inl (e,at_)=>(e,at_)
  | .inr _=>match bH p (p.on++[p.aV])with
    |some n=>(97,n)
    |none=>(0,0)
def dI(p:aU)(T:Map)(q:Nat):List Nat->Prop
 |[]=>True
 |t::l=>t<q/\(ak p t).op=25/\∃s,T t=some s/\s.lo=l
def gF(p:aU)(pc:Nat)(s:Std):List (Nat×Std):=cT pc (ak p pc) ⟨bg (ak p pc) s.ty,s.lo,br p (ak p pc) s.ha⟩
structure rC(p:aU)(T:Map)(pc:Nat)(s:Std):Prop where
 at_:T pc=some s
 lA:eL p (ak p pc) s.ha=true
 taken:bZ (ak p pc) s.ty=0
 kinds:cK p (ak p pc)=true
 jumps:cZ p T pc (ak p pc) (bg (ak p pc) s.ty) s.lo=true
 ways:∀w,w∈gF p pc s->w.1<p.code.length/\T w.1=some w.2
structure Typed(p:aU)(T:Map):Prop where
 all:∀pc,pc<p.code.length->∃s,rC p T pc s
 loops:∀q s,T q=some s->dI p T q s.lo
 yH:∀b,b∈p.on++[p.aV]->0<=b->T b.toNat=some ⟨[],[],0⟩
def Sub(T T':Map):Prop:=∀q s,T q=some s->T' q=some s
def Sub.refl(T:Map):Sub T T:=λ_ _ h=>h
def Sub.trans{A B C:Map}(h:Sub A B)(k:Sub B C):Sub A C:=λq s e=>k q s (h q s e)
def dI.sub{p:aU}{T T':Map}(h:Sub T T'){q:Nat}{l:List Nat}(k:dI p T q l):dI p T' q l:=by
 cases l with
 |nil=>trivial
 |cons t l=>obtain⟨a,b,s,c,d⟩:=k;exact⟨a,b,s,h _ _ c,d⟩
def dI.later{p:aU}{T:Map}{q r:Nat}{l:List Nat}(k:dI p T q l)(h:q<=r):dI p T r l:=by
 cases l with
 |nil=>trivial
 |cons t l=>obtain⟨a,b⟩:=k;exact⟨G,b⟩
def CJ:∀(l:List (Nat×Std)) (T:Map),lu l=true->nW T l=true->Sub T (rA T l)/\(∀w,w∈l->rA T l w.1=some w.2)/\(∀q s,rA T l q=some s->T q=some s\/(q,s)∈l):=by
 intro l
 induction l with
 |nil=>intro T _ _;exact⟨Sub.refl _,λw hw=>by simp at hw,λq s h=> .inl h⟩
 |cons w l ih=>
  intro T hs hm;unfold lu at hs;simp only[fh]at hs;have jw:nW (aS T w.1 (some w.2)) l=true:=by
   unfold nW at hm ⊢;rw[rB]at hm ⊢;intro v hv;have h1:=hm v (by simp[hv]);have h2:=(List.all_eq_true.1 hs.1) v hv;by_cases e:v.1=w.1
   ·rw[e,aw];simp[e]at h2;simp[h2]
   ·rw[an _ _ e];exact h1
  obtain⟨a,b,c⟩:=ih (aS T w.1 (some w.2)) hs.2 jw;have OZ:Sub T (aS T w.1 (some w.2)):=by
   intro q s h;by_cases e:q=w.1
   ·subst e;rw[aw];unfold nW at hm;have:=(List.all_eq_true.1 hm) w az;rw[h]at this;simp at this;rw[this]
   ·rw[an _ _ e];exact h
  refine⟨OZ.trans a,λv hv=>?_,λq s h=>?_⟩
  ·rcases List.mem_cons.1 hv with rfl|hv
   ·exact a _ _ (aw _ _ _)
   ·exact b v hv
  ·rcases c q s h with h|h
   ·by_cases e:q=w.1
    ·subst e;rw[aw]at h;right;simp;left;rw[<-fT h]
    ·rw[an _ _ e]at h;exact .inl h
   ·right;simp[h]
def look_ok{p:aU}{T:Map}{pc:Nat}(h:dt p T pc=0):∃s,T pc=some s/\eL p (ak p pc) s.ha=true/\bZ (ak p pc) s.ty=0/\cK p (ak p pc)=true/\
 cZ p T pc (ak p pc) (bg (ak p pc) s.ty) s.lo=true/\(∀w,w∈gF p pc s->w.1<p.code.length)/\lu (gF p pc s)=true/\nW T (gF p pc s)=true/\jQ p T pc=rA T (gF p pc s):=by
 unfold dt at h;cases hT:T pc with
 |none=>rw[hT]at h;simp at h
 |some s=>
  rw[hT]at h;dsimp only at h;split at h
  ·simp at h
  ·next h1=>
   split at h
   ·next h2=>exact absurd h h2
   ·next h2=>
    split at h
    ·simp at h
    ·next h3=>
     split at h
     ·simp at h
     ·next h4=>
      split at h
      ·simp at h
      ·next h5=>
       split at h
       ·simp at h
       ·next h6=>
        refine⟨s,rfl,by simpa using h1,by simpa using h2,by simpa using h3,by simpa using h4,?_,?_,?_,?_⟩
        ·intro w hw;simp only[Bool.not_eq_true,List.any_eq_false]at h5;have:=h5 w hw;simp at this;exact this
        ·simp at h6;exact h6.1
        ·simp at h6;exact h6.2
        ·unfold jQ;rw[hT];rfl
def vP{p:aU}{T:Map}{pc:Nat}{s:Std}(hT:T pc=some s)(hl:∀q s,T q=some s->dI p T q s.lo)(hj:cZ p T pc (ak p pc) (bg (ak p pc) s.ty) s.lo=true){w:Nat×Std}(hw:w∈gF p pc s):dI p T w.1 w.2.lo:=by
 have h0:=hl pc s hT;unfold gF cT at hw;generalize hx:ak p pc=x at*;unfold cZ at hj;split at hw
 ·simp at hw
 split at hw
 ·next h22=>
  simp at hw;subst hw;have hc:¬((x.op=22\/x.op=23\/x.op=25\/x.op=26)/\(x.a<=pc\/(ak p x.a.toNat).op=25)):=by intro h';rw[aE h']at hj;simp at hj
  exact h0.later G
 split at hw
 ·next h23=>
  have hc:¬((x.op=22\/x.op=23\/x.op=25\/x.op=26)/\(x.a<=pc\/(ak p x.a.toNat).op=25)):=by intro h';rw[aE h']at hj;simp at hj
  simp at hw;rcases hw with rfl|rfl
  ·exact h0.later az
  ·exact h0.later kZ
 split at hw
 ·next tL=>
  have hc:¬((x.op=22\/x.op=23\/x.op=25\/x.op=26)/\(x.a<=pc\/(ak p x.a.toNat).op=25)):=by intro h';rw[aE h']at hj;simp at hj
  simp at hw;rcases hw with rfl|rfl
  ·exact⟨az,by rw[hx];exact tL,s,hT,rfl⟩
  ·exact h0.later kZ
 split at hw
 ·next TF=>
  have hc:¬((x.op=22\/x.op=23\/x.op=25\/x.op=26)/\(x.a<=pc\/(ak p x.a.toNat).op=25)):=by intro h';rw[aE h']at hj;simp at hj
  simp at hw;rcases hw with rfl|rfl
  ·exact h0.later az
  ·dsimp only;cases jE:s.lo with
   |nil=>trivial
   |cons t l=>rw[jE]at h0;obtain⟨a,b,s',c,d⟩:=h0;have:=hl t s' c;rw[d]at this;exact this.later G
 ·simp at hw;subst hw;exact h0.later az
def L5{p:aU}{T T':Map}{pc:Nat}{x:Ins}{ty lo:List Nat}(h:Sub T T')(hs:∀t l,lo=t::l->∃s,T t=some s)(hj:cZ p T pc x ty lo=true):cZ p T' pc x ty lo=true:=by
 unfold cZ at hj ⊢;split at hj
 ·simp at hj
 next h0=>
 rw[ax h0];split at hj
 ·next h1=>rw[aE h1];exact hj
 next h1=>
 rw[ax h1];split at hj
 ·next h2=>rw[aE h2];exact hj
 next h2=>
 rw[ax h2];split at hj
 ·next h3=>rw[aE h3];exact hj
 next h3=>
 rw[ax h3];split at hj
 ·next h4=>
  rw[aE h4];cases lo with
  |nil=>simp at hj
  |cons t l=>obtain⟨s,hts⟩:=hs t l rfl;dsimp only at hj ⊢;rw[h t s hts];rw[hts]at hj;exact hj
 next h4=>
 rw[ax h4];exact hj
def EM{p:aU}:∀(k pc:Nat) (T T':Map),looks p k pc T= .inr T'->(∀q s,T q=some s->dI p T q s.lo)->
 Sub T T'/\(∀q s,T' q=some s->dI p T' q s.lo)/\∀q,pc<=q->q<pc+k->∃s,rC p T' q s:=by
 intro k
 induction k with
 |zero=>
  intro pc T T' h hl;have:T=T':=by unfold looks at h;exact Sum.inr.inj h
  subst this;exact⟨Sub.refl _,hl,λq h1 h2=>G⟩
 |succ k ih=>
  intro pc T T' h hl;unfold looks at h;split at h
  ·next h0=>
   obtain⟨s,hT,g1,g2,g3,g4,g5,g6,g7,g8⟩:=look_ok h0;obtain⟨a1,a2,a3⟩:=CJ _ T g6 g7;rw[g8]at h;have Zm:∀q s',rA T (gF p pc s) q=some s'->dI p (rA T (gF p pc s)) q s'.lo:=by
    intro q s' hq;rcases a3 q s' hq with h1|h1
    ·exact(hl q s' h1).sub a1
    ·exact(vP hT hl g4 h1).sub a1
   obtain⟨b1,b2,b3⟩:=ih (pc+1) _ T' h Zm;refine⟨a1.trans b1,b2,λq h1 h2=>?_⟩;by_cases e:q=pc
   ·subst e;refine⟨s,b1 _ _ (a1 _ _ hT),g1,g2,g3,?_,λw hw=>⟨g5 w hw,b1 _ _ (a2 w hw)⟩⟩;refine L5 (a1.trans b1) ?_ g4;intro t l e';have:=hl q s hT;rw[e']at this;obtain⟨_,_,s',EN,_⟩:=this;exact⟨s',EN⟩
   ·exact b3 q G G
  ·simp at h
def vQ(p:aU):∀q s,dH p q=some s->dI p (dH p) q s.lo:=by
 intro q s h;unfold dH at h;split at h
 ·have:=fT h;rw[<-this];trivial
 ·simp at h
def uF{p:aU}{e:Int×Int}(h:a8 p=e)(he:e.1=0):bE p=0/\∃T,Typed p T/\bH p (p.on++[p.aV])=none:=by
 unfold a8 at h;split at h
 ·next h0=>rw[<-h]at he;exact absurd he h0
 next h0=>
 have h0':bE p=0:=G;cases hl:looks p p.code.length 0 (dH p)with
 |inl v=>
  obtain⟨e1,a⟩:=v;rw[hl]at h;dsimp only at h;exfalso;have key:∀(k pc:Nat) (T:Map) e1 a,looks p k pc T= .inl (e1,a)->e1≠0:=by
   intro k
   induction k with
   |zero=>intro pc T e1 a h;unfold looks at h;simp at h
   |succ k ih=>
    intro pc T e1 a h;unfold looks at h;split at h
    ·exact ih _ _ _ _ h
    ·next bt=>simp at h;rw[<-h.1];exact bt
  rw[<-h]at he;exact key _ _ _ _ _ hl he
 |inr T=>
  rw[hl]at h;dsimp only at h;obtain⟨a,b,d⟩:=EM _ _ _ _ hl (vQ p);refine⟨h0',T,⟨λpc pN=>d pc (Nat.zero_le _) G,b,λb' X dG=>?_⟩,?_⟩
  ·refine a _ _ ?_;unfold dH;rw[aE];rw[Int.toNat_of_nonneg dG];simpa using X
  ·cases he':bH p (p.on++[p.aV])with
   |none=>rfl
   |some n=>rw[he']at h;dsimp only at h;rw[<-h]at he;simp at he
def vJ(t:Nat)(n:Int):Prop:=if t=2 then n=0\/n=1 else -1073741824<=n/\n<=1073741824
def By:List Int->List Nat->Prop
 |[],[]=>True
 |n::st,t::ty=>vJ t n/\By st ty
 |_,_=>False
def vJ.num{n:Int}(h: -1073741824<=n/\n<=1073741824):vJ 1 n:=by unfold vJ;rw[ax bz];exact h
def vJ.bool{n:Int}(h:n=0\/n=1):vJ 2 n:=by unfold vJ;rw[aE rfl];exact h
def vJ.in{t:Nat}{n:Int}(h:vJ t n): -1073741824<=n/\n<=1073741824:=by
 unfold vJ at h;split at h
 ·omega
 ·exact h
def Safe(S:Sys)(nv:Nat)(s:St):vM->Prop
 | .var i qX=>i<nv
 | .mark qX=>∃q n,q<S.nq/\n∈s.a.ls q/\s.f qX.key=some n
 | .cut q e=>q<S.nq/\e<=1/\s.a.ls q≠[]
 | .put q e x=>q<S.nq/\e<=1/\s.f x.key=none/\(s.a.ls q).length<S.cq q/\(S.gh q=true\/s.total<S.sz)
 | .out q x ahead=>q<S.nq/\s.f x.key=none/\(s.a.ls q).length<S.cq q/\(S.gh q=true\/s.total<S.sz)/\∀m,m∈ahead->m∈s.a.ls q
def Good(S:Sys)(nv:Nat)(s0:St):List vM->St->Prop
 |[],s=>s=s0
 |u::l,s=>Safe S nv s u/\Inv S (nT S u s)/\Good S nv s0 l (nT S u s)
def Zn(s:St)(h:Option eW):Prop:=∀x,h=some x->s.f x.key=none/\(∀t,0<=x.tg t/\x.tg t<=255)/\x.key<18446744073709551616
structure fI(S:Sys)(nv:Nat)(s0:St)(x:SR):Prop where
 inv:Inv S x.1
 AV:Good S nv s0 x.2.bI x.1
 hand:Zn x.1 x.2.hand
 key:x.2.key<18446744073709551616
 told:∀k,k∈x.2.told->k<18446744073709551616
def yI{S:Sys}{nv:Nat}{s0:St}{x:SR}(h:fI S nv s0 x){q e:Nat}(hq:q<S.nq)(he:e<=1){v:eW}(hk:x.1.f v.key=none)(hv:∀t,0<=v.tg t/\v.tg t<=255)(pK:v.key<18446744073709551616)(hh:x.2.hand=none):
 fI S nv s0 (iP S x q e v).1/\(iP S x q e v).1.2.hand=none/\((iP S x q e v).2=true->(iP S x q e v).1.2=x.2.note (.cut q e))/\((iP S x q e v).2=false->(iP S x q e v).1.2=x.2.gE 1):=by
 unfold iP;split
 ·exact⟨⟨h.inv,h.AV,h.hand,h.key,h.told⟩,hh,λe'=>by simp at e',λ_=>rfl⟩
 ·next hn=>
  have hl:(x.1.a.ls q).length<S.cq q:=by have:=h.inv.len q hq;omega
  have ht:S.gh q=true\/x.1.total<S.sz:=by
   have h1:=h.inv.Ki;have h2:=h.inv.O5;by_cases hg:S.gh q=true
   ·exact .inl hg
   ·right;have:¬x.1.total=S.sz:=λe'=>hn (.inr ⟨by simpa using hg,e'⟩);omega
  have hu:=O7 h.inv hq he hk;refine⟨⟨TD h.inv hq hk hl ht hv pK,⟨⟨hq,he,?_⟩,?_⟩,?_,h.key,h.told⟩,hh,λ_=>rfl,λe'=>by simp at e'⟩
  ·intro e';have:x.1.a.fs 0∈(jW S x.1 q e v).a.ls q:=ja.2 (.inl ⟨rfl,rfl⟩);rw[e']at this;simp at this
  ·show Inv S (nT S (.cut q e) (jW S x.1 q e v))/\Good S nv s0 x.2.bI (nT S (.cut q e) (jW S x.1 q e v));rw[hu];exact⟨h.inv,h.AV⟩
  ·intro y hy;have:x.2.hand=some y:=hy;rw[hh]at this;simp at this
def Bz{S:Sys}{s:St}(h:Inv S s){q n:Nat}(hq:q<S.nq)(hn:n∈s.a.ls q):
 ((fH S s q n).a.ls q).length<S.cq q/\(S.gh q=true\/(fH S s q n).total<S.sz)/\(fH S s q n).f (s.a.val n).key=none:=by
 have h1:=h.len q hq;have h2:=EI hn;refine⟨?_,?_,aw _ _ _⟩
 ·show(aS s.a.ls q _ q).length<_;rw[aw,Bx hn];omega
 ·have h3:=h.Ki;have h4:=h.O5;by_cases hg:S.gh q=true
  ·exact .inl hg
  ·right;show(if S.gh q then s.total else s.total-1)<_;simp[hg];omega
def EO{S:Sys}{nv:Nat}{s0:St}{x:SR}(h:fI S nv s0 x){n q:Nat}(hq:q<S.nq)(hn:n∈x.1.a.ls q)(hh:x.2.hand=none):
 fI S nv s0 (ru S x n q)/\(ru S x n q).1.f (x.1.a.val n).key=none:=by
 obtain⟨r1,r2,r3⟩:=Bz h.inv hq hn;have hu:=Pa h.inv hq hn;refine⟨⟨jF h.inv hq hn,⟨⟨hq,r3,r1,r2,λm hm=>?_⟩,?_⟩,?_,h.key,h.told⟩,r3⟩
 ·obtain⟨y,h1,h2⟩:=oN hn;refine(uB h.inv.wf hq hq hn).2 ⟨?_,λe=>by subst e;exact h2 hm⟩;rw[h1];simp[hm]
 ·show Inv S (nT S _ (fH S x.1 q n))/\Good S nv s0 x.2.bI (nT S _ (fH S x.1 q n));rw[hu];exact⟨h.inv,h.AV⟩
 ·intro y hy;have:x.2.hand=some y:=hy;rw[hh]at this;simp at this
def yJ{S:Sys}{nv:Nat}{s0:St}{x:SR}(h:fI S nv s0 x){q e:Nat}(hq:q<S.nq)(he:e<=1)(hh:x.2.hand=none):
 fI S nv s0 (bh S x q e).1/\((bh S x q e).2=false->(bh S x q e).1.2=x.2.gE 2)/\
 ((bh S x q e).2=true->∃v,(bh S x q e).1.2={x.2.note (.put q e v)with hand:=some v}):=by
 unfold bh;split
 ·exact⟨⟨h.inv,h.AV,h.hand,h.key,h.told⟩,λ_=>rfl,λe'=>by simp at e'⟩
 ·next bt=>
  have hm:=fX (e:=e) bt;obtain⟨r1,r2,r3⟩:=Bz h.inv hq hm;have hu:=O_ h.inv hq he bt;refine⟨⟨jF h.inv hq hm,⟨⟨hq,he,r3,r1,r2⟩,?_⟩,?_,h.key,h.told⟩,λe'=>by simp at e',λ_=>⟨_,rfl⟩⟩
  ·show Inv S (nT S (.put q e _) (lE S x.1 q e))/\Good S nv s0 x.2.bI (nT S (.put q e _) (lE S x.1 q e));rw[hu];exact⟨h.inv,h.AV⟩
  ·intro y hy;have:y=x.1.a.val (cS x.1.a q e):=(fT hy).symm;subst this;exact⟨r3,h.inv.tag q _ hq hm,h.inv.key q _ hq hm⟩
def BA{S:Sys}{nv:Nat}{s0:St}{p:aU}{x:SR}(h:fI S nv s0 x){q n tag:Nat}(hq:q<S.nq)(hn:n∈x.1.a.ls q)(v:Int)(hm:0<=p.aW.getD tag 0/\p.aW.getD tag 0<=255):
 fI S nv s0 (ry p x n tag v):=by
 have fi:=vN (n:=v) hm.1;have hx:∀t,0<=(oO (x.1.a.val n) tag v (p.aW.getD tag 0)).tg t/\(oO (x.1.a.val n) tag v (p.aW.getD tag 0)).tg t<=255:=by
  intro t;show 0<=aS _ _ _ _/\aS _ _ _ _<=_;rw[dw];split
  ·omega
  ·exact h.inv.tag q n hq hn t
 have hu:=LZ (x:=oO (x.1.a.val n) tag v (p.aW.getD tag 0)) h.inv hq hn rfl;refine⟨O6 h.inv hq hn rfl hx,⟨⟨q,n,hq,hn,(h.inv.idx _ _).2 ⟨q,hq,hn,rfl⟩⟩,?_⟩,h.hand,h.key,h.told⟩;show Inv S (nT S _ (k_ x.1 n _))/\Good S nv s0 x.2.bI (nT S _ (k_ x.1 n _));rw[hu];exact⟨h.inv,h.AV⟩
def Pc{S:Sys}{nv:Nat}{s0:St}{x:SR}(h:fI S nv s0 x){i:Nat}(hi:i<nv){v:Int}(hv: -1073741824<=v/\v<=1073741824):
 fI S nv s0 ({x.1 with vars:=aS x.1.vars i v},x.2.note (.var i (x.1.vars i))):=by
 have hu:=Pb S x.1 i v;refine⟨⟨h.inv.wf,h.inv.idx,h.inv.len,h.inv.Ki,h.inv.O5,h.inv.tag,h.inv.key,λj=>?_⟩,⟨hi,?_⟩,h.hand,h.key,h.told⟩
 ·show _<=aS _ _ _ _/\aS _ _ _ _<=_;rw[dw];split
  ·exact hv
  ·exact h.inv.var j
 ·show Inv S (nT S _ {x.1 with vars:=aS x.1.vars i v})/\Good S nv s0 x.2.bI (nT S _ {x.1 with vars:=aS x.1.vars i v});rw[hu];exact⟨h.inv,h.AV⟩
def fI.same{S:Sys}{nv:Nat}{s0:St}{s:St}{r r':Rn}(h:fI S nv s0 (s,r))(h1:r'.bI=r.bI)(h2:r'.hand=r.hand\/r'.hand=none)(h3:r'.key=r.key)(h4:r'.told=r.told):fI S nv s0 (s,r'):=
 ⟨h.inv,by show Good S nv s0 r'.bI s;rw[h1];exact h.AV,by
   intro x hx;rcases h2 with h2|h2
   ·exact h.hand x (by rw[<-h2];exact hx)
   ·have:r'.hand=some x:=hx;rw[h2]at this;simp at this,by show r'.key<_;rw[h3];exact h.key,by show∀k,k∈r'.told->_;rw[h4];exact h.told⟩
section
structure pn(p:aU)(c:Cp):Prop where
 s1:1<=c.size
 s2:c.size<=1048576
 len:c.aF.length=p.ap.length
 q1:∀q,q<p.ap.length->1<=c.aF.getD q 0/\c.aF.getD q 0<=1048576
structure Env(p:aU)(c:Cp)(T:Map):Prop where
 sX:Typed p T
 check:bE p=0
 ii:pn p c
def Ib{p:aU}:∀(l:List Ins),dP p l=0->∀i,i∈l->jX i=true/\iU p i=true:=by
 intro l
 induction l with
 |nil=>intro _ i hi;simp at hi
 |cons a l ih=>
  intro h i hi;unfold dP at h;split at h
  ·next h1=>
   split at h
   ·next h2=>
    rcases List.mem_cons.1 hi with rfl|hi
    ·exact⟨h1,h2⟩
    ·exact ih h i hi
   ·simp at h
  ·simp at h
structure uG(p:aU):Prop where
 g:p.ap.length<=16
 v:p.vars.length<=16
 t:p.aW.length<=4
 on:p.on.length=p.ap.length
 code:p.code.length<=262144
 vars:∀v,v∈p.vars->v.lo<=v.init/\v.init<=v.hi/\-1073741824<=v.lo/\v.hi<=1073741824
 aW:∀t,t∈p.aW->1<=t/\t<=255
 ons:∀n,n∈p.on->-1<=n/\n<=(p.code.length:Int) - 1
 aV: -1<=p.aV/\p.aV<=(p.code.length:Int) - 1
def L6{p:aU}(h:cC p=true):uG p:=by
 unfold cC at h;simp only[fh,fj,rB]at h;obtain⟨⟨⟨⟨⟨⟨⟨⟨h1,h2⟩,h3⟩,h4⟩,h5⟩,h6⟩,h7⟩,h8⟩,h9⟩:=h;refine⟨h1,h2,h3,h4,h5,λv hv=>?_,λt ht=>?_,λn hn=>?_,?_⟩
 ·have:=h6 v hv;unfold oT at this;simp only[fh,fj]at this;omega
 ·have:=h7 t ht;unfold aP at this;simpa only[fh,fj]using this
 ·have:=h8 n hn;unfold aP at this;simpa only[fh,fj]using this
 ·unfold aP at h9;simpa only[fh,fj]using h9
def cO{p:aU}(h:bE p=0):uG p/\∀i,i∈p.code->jX i=true/\iU p i=true:=by
 unfold bE at h;split at h
 ·next h1=>exact⟨L6 h1,Ib _ h⟩
 ·simp at h
def eM{p:aU}{pc:Nat}(h:pc<p.code.length):ak p pc∈p.code:=by unfold ak;rw[dQ,ft h];exact il h
def gU{p:aU}{i:Ins}(h:iU p i=true){k:Nat}(dO:i.op.toNat=k):
 bF p ((cM k).getD 0 0) i.a=true/\bF p ((cM k).getD 1 0) i.b=true/\bF p ((cM k).getD 2 0) i.c=true/\bF p ((cM k).getD 3 0) i.d=true:=by
 unfold iU at h;rw[dO]at h;simp only[fh]at h;exact⟨h.1.1.1,h.1.1.2,h.1.2,h.2⟩
def CK{p:Prop}(h:p:=by
 unfold bF aP kw kz N at*;simp at h ⊢;omega):p:=h
def dx{p:aU}{n:Int}(h:bF p 1 n=true):0<=n/\n<p.ap.length/\N n<p.ap.length:=by exact CK
def Ic{p:aU}{n:Int}(h:bF p 2 n=true):0<=n/\n<p.vars.length/\N n<p.vars.length:=by exact CK
def vR{p:aU}{n:Int}(h:bF p 3 n=true):0<=n/\n<p.aW.length/\N n<p.aW.length:=by exact CK
def iz{p:aU}{n:Int}(h:bF p 4 n=true):0<=n/\n<=1/\N n<=1:=by exact CK
def CM{p:Prop}(h:p:=by
 unfold bF aP kw kz at*;simp at h;omega):p:=h
def Zo{p:aU}{n:Int}(h:bF p 5 n=true): -1073741824<=n/\n<=1073741824:=by exact CM
def Zp{p:aU}{n:Int}(h:bF p 6 n=true):n=0\/n=1:=by exact CM
def Zq{p:aU}{n:Int}(h:bF p 7 n=true):0<=n/\n<=4194304:=by exact CM
def lG{p:aU}{n:Int}(h:bF p 8 n=true):0<=n/\n<p.code.length:=by exact CM
structure fJ(p:aU)(T:Map)(r:Rn)(st:Std):Prop where
 lt:r.at_<p.code.length
 jG:rC p T r.at_ st
 stack:By r.stack st.ty
 loops:r.loops.length=st.lo.length+if(ak p r.at_).op=25 then 1 else 0
 lin:∀n,n∈r.loops->0<=n/\n<=4194304
 hand:st.ha=0↔r.hand=none
 bG:r.bG=0
 done:r.done=false
def Ie{p:Prop}(h:p:=by
 simp at hw;rcases hw with rfl|rfl
 ·exact Xl rfl
 ·exact eI G tL):p:=h
def EP{p:aU}{T:Map}(hT:Typed p T){pc:Nat}{st:Std}(hr:rC p T pc st)(SQ:(ak p pc).op≠24){w:Nat×Std}(hw:w∈gF p pc st):(ak p w.1).op≠25:=by
 have be:=(hr.ways w hw).1;obtain⟨s',hr'⟩:=hT.all w.1 be;have hj:=hr.jumps;have Pd:=hr'.jumps;intro tL;have Xl:w.1=pc+1->False:=by
  intro e;unfold cZ at Pd;rw[tL]at Pd;split at Pd
  ·simp at Pd
  ·simp at Pd;rw[e]at Pd;simp at Pd;exact SQ Pd.1.1
 unfold gF cT at hw;generalize hx:ak p pc=x at*;have eI:(x.op=22\/x.op=23\/x.op=25\/x.op=26)->(ak p x.a.toNat).op≠25:=by intro ho h;unfold cZ at hj;rw[aE ⟨ho,.inr h⟩]at hj;simp at hj
 split at hw
 ·simp at hw
 split at hw
 ·next h=>simp at hw;subst hw;exact eI G tL
 split at hw
 ·next h=>exact Ie
 split at hw
 ·next h=>exact Ie
 split at hw
 ·next h=>exact Ie
 ·simp at hw;subst hw;exact Xl rfl
def go_on{p:aU}{c:Cp}{T:Map}(E:Env p c T){pc:Nat}{st:Std}(hr:rC p T pc st)(SQ:(ak p pc).op≠24){r':Rn}{st':Std}(hw:(r'.at_,st')∈gF p pc st)(h1:By r'.stack st'.ty)(h2:r'.loops.length=st'.lo.length)
 (h3:∀n,n∈r'.loops->0<=n/\n<=4194304) (h4:st'.ha=0↔r'.hand=none) (h5:r'.bG=0) (h6:r'.done=false):fJ p T r' st':=by
 have tL:=EP E.sX hr SQ hw;obtain⟨a,b⟩:=hr.ways _ hw;obtain⟨s,hs⟩:=E.sX.all r'.at_ a;have:s=st':=by have:=hs.at_;rw[b]at this;exact(fT this).symm
 subst this;exact⟨a,hs,h1,by rw[ax tL];exact h2,h3,h4,h5,h6⟩
def mj{x:Ins}{ty:List Nat}(h:bZ x ty=0):(cm x.op.toNat).length<=ty.length/\(x.op=0->ty=[])/\jp (cm x.op.toNat) ty=true/\(x.op=19->ty.getD 0 0=ty.getD 1 0):=by
 unfold bZ at h;dsimp only at h;split at h
 ·simp at h
 ·next h1=>
  split at h
  ·simp at h
  ·next h2=>simp at h2;have h3:¬ty.length<(cm x.op.toNat).length:=λh'=>h1 (.inl h');refine⟨G,λh0=>?_,h2.1,h2.2⟩;have h4:¬(x.op=0/\0<ty.length):=λh'=>h1 (.inr (.inl h'));exact List.length_eq_zero_iff.1 G
def bQ(r:Rn):Rn:={r with at_:=r.at_+1}
def cW(op:Int):Prop:=op≠0/\op≠22/\op≠23/\op≠24/\op≠25/\op≠26/\op≠27
def qy{p:aU}{pc:Nat}{st:Std}(h:cW (ak p pc).op):(pc+1,(⟨bg (ak p pc) st.ty,st.lo,br p (ak p pc) st.ha⟩:Std))∈gF p pc st:=by unfold cW at h;unfold gF cT;rw[ax G,ax G,ax G,ax G,ax G];simp
def go_straight{p:aU}{c:Cp}{T:Map}(E:Env p c T){r:Rn}{st:Std}(C:fJ p T r st)(h:cW (ak p r.at_).op){r':Rn}(h0:r'.at_=r.at_+1)(h1:By r'.stack (bg (ak p r.at_) st.ty))
 (h2:r'.loops=r.loops) (h4:br p (ak p r.at_) st.ha=0↔r'.hand=none) (h5:r'.bG=0) (h6:r'.done=false):∃st',fJ p T r' st':=by
 have hw:=qy (st:=st) h;rw[<-h0]at hw;have hl:=C.loops;unfold cW at h;rw[ax G]at hl;exact⟨_,go_on E C.jG G hw h1 (by rw[h2];exact hl) (by rw[h2];exact C.lin) h4 h5 h6⟩
structure rD(p:aU)(T:Map)(S:Sys)(s0:St)(y:SR):Prop where
 hold:fI S p.vars.length s0 y
 tr:0<=y.2.bG/\y.2.bG<=3
 next:y.2.bG=0->y.2.done=false->∃st',fJ p T y.2 st'
def By.yK{st:List Int}{ty:List Nat}{w:Nat}{ws:List Nat}(h:By st ty)(hf:jp (w::ws) ty=true):∃n st' t Zr,st=n::st'/\ty=t::Zr/\vJ t n/\By st' Zr/\jp ws Zr=true/\(w≠3->t=w):=by
 cases ty with
 |nil=>simp[jp]at hf
 |cons t ty=>
  cases st with
  |nil=>exact absurd h (by simp[By])
  |cons n st=>
   unfold jp at hf;simp at hf;refine⟨n,st,t,ty,rfl,rfl,h.1,h.2,hf.2,λhw=>?_⟩;rcases hf.1 with h'|h'
   ·exact absurd h' hw
   ·exact h'
variable {p:aU}{c:Cp}{T:Map}{s0 s:St}{r:Rn}{st:Std}
def gp{S:Sys}{nv:Nat}{r':Rn}(a0g:fI S nv s0 (s,r))(h1:r'.bI=r.bI)(h2:r'.hand=r.hand)(h3:r'.key=r.key)(h4:r'.told=r.told):fI S nv s0 (s,r'):=a0g.same h1 (.inl h2) h3 h4
def pO(E:Env p c T)(C:fJ p T r st)(a0g:fI (aB p c) p.vars.length s0 (s,r))(hs:cW (ak p r.at_).op){t:Nat}(ht:t≠0)(h1:cm (ak p r.at_).op.toNat=[])(h2:cP (ak p r.at_).op.toNat=t)
 (h3:∀ha,br p (ak p r.at_) ha=ha) {n:Int} (hn:vJ t n):rD p T (aB p c) s0 (s,(bQ r).push n):=by
 refine⟨gp a0g rfl rfl rfl rfl,by show 0<=r.bG/\r.bG<=3;rw[C.bG];decide,λ_ _=>?_⟩;refine go_straight E C hs rfl ?_ rfl (by rw[h3];exact C.hand) C.bG C.done;unfold bg;rw[h1,h2];dsimp only;rw[ax ht];exact⟨hn,C.stack⟩
def Kj(E:Env p c T)(C:fJ p T r st)(a0g:fI (aB p c) p.vars.length s0 (s,r))(hs:cW (ak p r.at_).op){t w:Nat}(ht:t≠0)(hw:w≠3)(h1:cm (ak p r.at_).op.toNat=[w])(h2:cP (ak p r.at_).op.toNat=t)
 (h3:∀ha,br p (ak p r.at_) ha=ha) {f:Int->Int} (hn:∀n,vJ w n->vJ t (f n)):rD p T (aB p c) s0 (s,(bQ r).pop.push (f (bQ r).jx))/\r.stack≠[]/\vJ w r.jx:=by
 obtain⟨_,_,hf,_⟩:=mj C.jG.taken;rw[h1]at hf;obtain⟨n,st',t',Zr,e1,e2,hv,qq,_,Pe⟩:=C.stack.yK hf;have htw:=Pe hw;subst htw;have Zs:r.jx=n:=by unfold Rn.jx;rw[e1];rfl
 refine⟨⟨gp a0g rfl rfl rfl rfl,by show 0<=r.bG/\r.bG<=3;rw[C.bG];decide,λ_ _=>?_⟩,by rw[e1];simp,by rw[Zs];exact hv⟩;refine go_straight E C hs rfl ?_ rfl (by rw[h3];exact C.hand) C.bG C.done;unfold bg;rw[h1,h2];dsimp only;rw[ax ht,e2];show By (f r.jx::r.stack.tail) (t::Zr);rw[e1,Zs];exact⟨hn n hv,qq⟩
def yL(E:Env p c T)(C:fJ p T r st)(a0g:fI (aB p c) p.vars.length s0 (s,r))(hs:cW (ak p r.at_).op){t w:Nat}(ht:t≠0)(h1:cm (ak p r.at_).op.toNat=[w,w])(h2:cP (ak p r.at_).op.toNat=t)
 (h3:∀ha,br p (ak p r.at_) ha=ha) {f:Int->Int->Int} (hn:∀a b,-1073741824<=a/\a<=1073741824->-1073741824<=b/\b<=1073741824->vJ t (f a b)):
 rD p T (aB p c) s0 (s,(bQ r).pop.pop.push (f (bQ r).pop.jx (bQ r).jx))/\∃a b l,r.stack=b::a::l/\(-1073741824<=a/\a<=1073741824)/\(-1073741824<=b/\b<=1073741824):=by
 obtain⟨_,_,hf,_⟩:=mj C.jG.taken;rw[h1]at hf;obtain⟨n,st1,t1,ty1,e1,e2,hv,qq,Oj,_⟩:=C.stack.yK hf;obtain⟨m,st2,t2,Zt,e3,e4,SU,Eb,_,_⟩:=qq.yK Oj;refine⟨⟨gp a0g rfl rfl rfl rfl,by show 0<=r.bG/\r.bG<=3;rw[C.bG];decide,λ_ _=>?_⟩,m,n,st2,by rw[e1,e3],SU.in,hv.in⟩;refine go_straight E C hs rfl ?_ rfl (by rw[h3];exact C.hand) C.bG C.done;unfold bg;rw[h1,h2];dsimp only;rw[ax ht,e2,e4];show By (f (r.stack.tail.headD 0) (r.stack.headD 0)::r.stack.tail.tail) (t::Zt);rw[e1,e3];exact⟨hn m n SU.in hv.in,Eb⟩
end
section
variable {p:aU}{c:Cp}{T:Map}{s0 s:St}{r:Rn}{st:Std}
def pP(E:Env p c T)(C:fJ p T r st):jX (ak p r.at_)=true/\iU p (ak p r.at_)=true:=(cO E.check).2 _ (eM C.lt)
def eZ(E:Env p c T)(C:fJ p T r st){k:Nat}(h:(ak p r.at_).op=(k:Int)):
 bF p ((cM k).getD 0 0) (ak p r.at_).a=true/\bF p ((cM k).getD 1 0) (ak p r.at_).b=true/\bF p ((cM k).getD 2 0) (ak p r.at_).c=true/\bF p ((cM k).getD 3 0) (ak p r.at_).d=true:=
 gU (pP E C).2 (by rw[h];rfl)
def If(op:Int){a b:Int}(ha: -1073741824<=a/\a<=1073741824)(X: -1073741824<=b/\b<=1073741824):(op<19->vJ 1 (pk op a b))/\(¬op<19->vJ 2 (pk op a b)):=by
 unfold pk;constructor
 ·intro h;refine vJ.num ?_;have t1:=nU (decide (a=b));have t2:=nU (decide (a<b));have t3:=nU (decide (a<=b));have c1:=uD (a*b);have c2:=uD (a+b);have c3:=uD (a-b);have c4:=TE a b;generalize mH (a*b)=k1 at*
  repeat' split
  all_goals omega
 ·intro h;refine vJ.bool ?_;rw[ax G,ax G,ax G,ax G,ax G,ax G];split
  ·exact nU _
  split
  ·exact nU _
  ·exact nU _
def dL(E:Env p c T)(C:fJ p T r st)(hs:cW (ak p r.at_).op){y:SR}(a0g:fI (aB p c) p.vars.length s0 y)(ht:y.2.bG=0\/y.2.bG=1\/y.2.bG=2\/y.2.bG=3)(h0:y.2.bG=0->y.2.at_=r.at_+1)
 (h1:y.2.bG=0->By y.2.stack (bg (ak p r.at_) st.ty)) (h2:y.2.loops=r.loops) (h4:y.2.bG=0->(br p (ak p r.at_) st.ha=0↔y.2.hand=none)) (h6:y.2.done=false):rD p T (aB p c) s0 y:=
 ⟨a0g,G,λe1 e2=>go_straight E C hs (h0 e1) (h1 e1) h2 (h4 e1) e1 h6⟩
def jY{x:Ins}{ty:List Nat}(h1:cm x.op.toNat=[])(h2:cP x.op.toNat=0):bg x ty=ty:=by unfold bg;rw[h1,h2];rfl
def yM{S:Sys}{x:SR}{q e:Nat}{v:eW}(h0:x.2.bG=0):((iP S x q e v).1.2.bG=0\/(iP S x q e v).1.2.bG=1)/\(iP S x q e v).1.2.at_=x.2.at_/\(iP S x q e v).1.2.stack=x.2.stack/\(iP S x q e v).1.2.loops=x.2.loops/\(iP S x q e v).1.2.done=x.2.done/\(iP S x q e v).1.2.hand=x.2.hand:=by
 unfold iP;split
 ·exact⟨.inr rfl,rfl,rfl,rfl,rfl,rfl⟩
 ·exact⟨.inl h0,rfl,rfl,rfl,rfl,rfl⟩
def sw{p:Prop}(h:p:=by
 exact pO E C a0g (by rw[hx];unfold cW;omega) (t:=1) bz (by rw[hx,h];rfl) (by rw[hx,h];rfl) (by intro ha;unfold br;rw[hx,h];rfl) (vJ.num G)):p:=h
def Ig(E:Env p c T)(C:fJ p T r st)(a0g:fI (aB p c) p.vars.length s0 (s,r))(dO:(ak p r.at_).op<=21):rD p T (aB p c) s0 (aJ p c (ak p r.at_) (s,bQ r)):=by
 have nX:=(pP E C).1;unfold jX aP at nX;simp only[fh,fj]at nX;have kU:0<=(bQ r).bG/\(bQ r).bG<=3:=by show 0<=r.bG/\r.bG<=3;rw[C.bG];decide
 have hinv:Inv (aB p c) s:=a0g.inv;generalize hx:ak p r.at_=x at*;have TG:x.op=0\/x.op=1\/x.op=2\/x.op=3\/x.op=4\/x.op=5\/x.op=6\/x.op=7\/x.op=8\/x.op=9\/x.op=10\/x.op=13\/x.op=14\/(x.op=11\/x.op=12\/x.op=15\/x.op=16\/x.op=17\/x.op=18\/x.op=20\/x.op=21)\/x.op=19:=G;have uH:fI (aB p c) p.vars.length s0 (s,bQ r):=gp a0g rfl rfl rfl rfl;rcases TG with h|h|h|h|h|h|h|h|h|h|h|h|h|h|h
 ·
  have e:aJ p c x (s,bQ r)=(s,{bQ r with done:=true}):=by unfold aJ;rw[h];rfl
  rw[e];exact⟨gp a0g rfl rfl rfl rfl,kU,λ_ e2=>by simp at e2⟩
 ·have e:aJ p c x (s,bQ r)=(s,(bQ r).push x.a):=by unfold aJ;rw[h];rfl
  rw[e];have hf:=(eZ E C (k:=1) (by rw[hx,h];rfl)).1;exact pO E C a0g (by rw[hx];unfold cW;omega) (t:=1) bz (by rw[hx,h];rfl) (by rw[hx,h];rfl) (by intro ha;unfold br;rw[hx,h];rfl) (vJ.num (by rw[hx]at hf;exact Zo hf))
 ·have e:aJ p c x (s,bQ r)=(s,(bQ r).push x.a):=by unfold aJ;rw[h];rfl
  rw[e];have hf:=(eZ E C (k:=2) (by rw[hx,h];rfl)).1;exact pO E C a0g (by rw[hx];unfold cW;omega) (t:=2) bz (by rw[hx,h];rfl) (by rw[hx,h];rfl) (by intro ha;unfold br;rw[hx,h];rfl) (vJ.bool (by rw[hx]at hf;exact Zp hf))
 ·have e:aJ p c x (s,bQ r)=(s,(bQ r).push (s.vars (N x.a))):=by unfold aJ;rw[h];rfl
  rw[e];exact pO E C a0g (by rw[hx];unfold cW;omega) (t:=1) bz (by rw[hx,h];rfl) (by rw[hx,h];rfl) (by intro ha;unfold br;rw[hx,h];rfl) (vJ.num (hinv.var _))
 ·have e:aJ p c x (s,bQ r)=(s,(bQ r).push (s.a.ls (N x.a)).length):=by unfold aJ;rw[h];rfl
  rw[e];have hf:=(eZ E C (k:=4) (by rw[hx,h];rfl)).1;rw[hx]at hf;have hq:=(dx hf).2.2;have hl:=hinv.len _ hq;have hc:=E.ii.q1 _ hq;have Ha:(aB p c).cq (N x.a)=(c.aF.getD (N x.a) 0).toNat:=rfl;exact sw
 ·have e:aJ p c x (s,bQ r)=(s,(bQ r).push (c.aF.getD (N x.a) 0)):=by unfold aJ;rw[h];rfl
  rw[e];have hf:=(eZ E C (k:=5) (by rw[hx,h];rfl)).1;rw[hx]at hf;have hc:=E.ii.q1 _ (dx hf).2.2;exact sw
 ·have e:aJ p c x (s,bQ r)=(s,(bQ r).push c.size):=by unfold aJ;rw[h];rfl
  rw[e];have h1:=E.ii.s1;have h2:=E.ii.s2;exact sw
 ·have e:aJ p c x (s,bQ r)=(s,(bQ r).push s.total):=by unfold aJ;rw[h];rfl
  rw[e];have h1:=E.ii.s1;have h2:=E.ii.s2;have h3:=hinv.Ki;have h4:=hinv.O5;have h5:(aB p c).sz=c.size.toNat:=rfl;exact sw
 ·have e:aJ p c x (s,bQ r)=vO (aB p c) x (s,bQ r):=by unfold aJ;rw[h];rfl
  rw[e];unfold vO;exact pO E C a0g (by rw[hx];unfold cW;omega) (t:=2) bz (by rw[hx,h];rfl) (by rw[hx,h];rfl) (by intro ha;unfold br;rw[hx,h];rfl) (vJ.bool (nU _))
 ·have e:aJ p c x (s,bQ r)=wV x (s,bQ r):=by unfold aJ;rw[h];rfl
  rw[e];unfold wV;dsimp only;cases hf:s.f (bQ r).key with
  |none=>dsimp only;exact⟨gp a0g rfl rfl rfl rfl,by show 0<=(3:Int)/\(3:Int)<=3;decide,λe1 _=>by simp[Rn.gE]at e1⟩
  |some n=>dsimp only;obtain⟨q,hq,hm,_⟩:=(hinv.idx _ n).1 hf;have:=hinv.tag q n hq hm (N x.a);exact sw
 ·have e:aJ p c x (s,bQ r)=oR x (s,bQ r):=by unfold aJ;rw[h];rfl
  rw[e];unfold oR;dsimp only;split
  ·exact⟨gp a0g rfl rfl rfl rfl,by show 0<=(2:Int)/\(2:Int)<=3;decide,λe1 _=>by simp[Rn.gE]at e1⟩
  ·next bt=>have hf:=(eZ E C (k:=10) (by rw[hx,h];rfl)).1;rw[hx]at hf;have:=hinv.tag _ _ (dx hf).2.2 (fX (e:=N x.b) bt) (N x.c);exact sw
 ·have e:aJ p c x (s,bQ r)=(s,(bQ r).pop.push (-(bQ r).jx)):=by unfold aJ;rw[h];rfl
  rw[e];exact(Kj (f:=λn=> -n) E C a0g (by rw[hx];unfold cW;omega) (t:=1) (w:=1) bz bz (by rw[hx,h];rfl) (by rw[hx,h];rfl) (by intro ha;unfold br;rw[hx,h];rfl) (λn hn=>vJ.num (by have:=hn.in;omega))).1
 ·have e:aJ p c x (s,bQ r)=(s,(bQ r).pop.push (1 - (bQ r).jx)):=by unfold aJ;rw[h];rfl
  rw[e];exact(Kj (f:=λn=>1-n) E C a0g (by rw[hx];unfold cW;omega) (t:=2) (w:=2) bz bz (by rw[hx,h];rfl) (by rw[hx,h];rfl) (by intro ha;unfold br;rw[hx,h];rfl) (λn hn=>vJ.bool (by unfold vJ at hn;rw[aE rfl]at hn;omega))).1
 ·have e:aJ p c x (s,bQ r)=(s,(bQ r).pop.pop.push (pk x.op (bQ r).pop.jx (bQ r).jx)):=by unfold aJ;rcases h with h|h|h|h|h|h|h|h<;>rw[h]<;>rfl
  rw[e];by_cases vS:x.op<19
  ·exact(yL (f:=pk x.op) E C a0g (by rw[hx];unfold cW;omega) (t:=1) (w:=1) bz (by rw[hx];rcases h with h|h|h|h|h|h|h|h<;>rw[h]<;>rfl) (by rw[hx];rcases h with h|h|h|h|h|h|h|h<;>first|(rw[h];rfl)|omega)
    (by intro ha;unfold br;rw[hx];rcases h with h|h|h|h|h|h|h|h<;>rw[h]<;>rfl) (λa b ha X=>(If x.op ha X).1 vS)).1
  ·exact(yL (f:=pk x.op) E C a0g (by rw[hx];unfold cW;omega) (t:=2) (w:=1) bz (by rw[hx];rcases h with h|h|h|h|h|h|h|h<;>rw[h]<;>rfl) (by rw[hx];rcases h with h|h|h|h|h|h|h|h<;>first|omega|(rw[h];rfl))
    (by intro ha;unfold br;rw[hx];rcases h with h|h|h|h|h|h|h|h<;>rw[h]<;>rfl) (λa b ha X=>(If x.op ha X).2 vS)).1
 ·have e:aJ p c x (s,bQ r)=(s,(bQ r).pop.pop.push (pk x.op (bQ r).pop.jx (bQ r).jx)):=by unfold aJ;rw[h];rfl
  rw[e];exact(yL (f:=pk x.op) E C a0g (by rw[hx];unfold cW;omega) (t:=2) (w:=3) bz (by rw[hx,h];rfl) (by rw[hx,h];rfl) (by intro ha;unfold br;rw[hx,h];rfl) (λa b ha X=>(If x.op ha X).2 G)).1
end
section
variable {p:aU}{c:Cp}{T:Map}{s0 s:St}{r:Rn}{st:Std}
def yN(C:fJ p T r st){w:Nat}(h1:cm (ak p r.at_).op.toNat=[w])(h2:cP (ak p r.at_).op.toNat=0):
 ∃n l,r.stack=n::l/\By l (bg (ak p r.at_) st.ty)/\(-1073741824<=n/\n<=1073741824):=by
 obtain⟨_,_,hf,_⟩:=mj C.jG.taken;rw[h1]at hf;obtain⟨n,st',t',Zr,e1,e2,hv,qq,_,Pe⟩:=C.stack.yK hf;refine⟨n,st',e1,?_,hv.in⟩;unfold bg;rw[h1,h2,e2];exact qq
def yO(hr:rC p T r.at_ st)(h:(ak p r.at_).op=22\/(ak p r.at_).op=23\/(ak p r.at_).op=25\/(ak p r.at_).op=26):(r.at_:Int)<(ak p r.at_).a:=by
 have hj:=hr.jumps;unfold cZ at hj;by_cases h':(ak p r.at_).a<=(r.at_:Int)
 ·rw[aE ⟨h,.inl h'⟩]at hj;simp at hj
 ·omega
def D9{p:Prop}(h:p:=by
 refine⟨uH _ rfl rfl rfl rfl,kU,λ_ _=>?_⟩;exact⟨_,go_on E C.jG (by rw[hx];omega) oG.1 (by show By r.stack.tail _;rw[yP];exact qq) hl yQ (by rw[yR];exact iG) nY jc⟩):p:=h
def L7(E:Env p c T)(C:fJ p T r st)(a0g:fI (aB p c) p.vars.length s0 (s,r))(h1:22<=(ak p r.at_).op)(h2:(ak p r.at_).op<=27):rD p T (aB p c) s0 (aJ p c (ak p r.at_) (s,bQ r)):=by
 have kU:0<=r.bG/\r.bG<=3:=by rw[C.bG];decide
 have hl:=C.loops;have eI:=C.jG.jumps;generalize hx:ak p r.at_=x at*;have hc:x.op=22\/x.op=23\/x.op=24\/x.op=25\/x.op=26\/x.op=27:=G;have uH:∀r',r'.bI=r.bI->r'.hand=r.hand->r'.key=r.key->r'.told=r.told->fI (aB p c) p.vars.length s0 (s,r'):=λr' a b d e=>gp a0g a b d e;have yR:br p x st.ha=st.ha:=by unfold br;rw[ax G,ax G,ax G]
 have yQ:=C.lin;have iG:=C.hand;have nY:=C.bG;have jc:=C.done;rcases hc with h|h|h|h|h|h
 ·have e:aJ p c x (s,bQ r)=(s,{bQ r with at_:=N x.a}):=by unfold aJ;rw[h];rfl
  rw[e];refine⟨uH _ rfl rfl rfl rfl,kU,λ_ _=>?_⟩;rw[ax G]at hl;have ht:bg x st.ty=st.ty:=jY (by rw[h];rfl) (by rw[h];rfl);refine⟨_,go_on (st':=⟨bg x st.ty,st.lo,br p x st.ha⟩) E C.jG (by rw[hx];omega) ?_ (by rw[ht];exact C.stack) hl yQ (by rw[yR];exact iG) nY jc⟩;unfold gF cT;rw[hx,ax G,aE h];simp[N]
 ·have e:aJ p c x (s,bQ r)=(s,if(bQ r).jx=0 then{(bQ r).pop with at_:=N x.a}else(bQ r).pop):=by unfold aJ;rw[h];rfl
  rw[e];rw[ax G]at hl;obtain⟨n,l,e1,qq,_⟩:=yN C (w:=2) (by rw[hx,h];rfl) (by rw[hx,h];rfl);rw[hx]at qq;have yP:r.stack.tail=l:=by rw[e1];rfl
  have QN:∀a:Nat,fI (aB p c) p.vars.length s0 (s,{(bQ r).pop with at_:=a}):=λa=>uH _ rfl rfl rfl rfl;have oG:(r.at_+1,(⟨bg x st.ty,st.lo,br p x st.ha⟩:Std))∈gF p r.at_ st/\(N x.a,(⟨bg x st.ty,st.lo,br p x st.ha⟩:Std))∈gF p r.at_ st:=by unfold gF cT;rw[hx,ax G,ax G,aE h];simp[N]
  split
  ·refine⟨QN _,kU,λ_ _=>?_⟩;exact⟨_,go_on E C.jG (by rw[hx];omega) oG.2 (by show By r.stack.tail _;rw[yP];exact qq) hl yQ (by rw[yR];exact iG) nY jc⟩
  ·exact D9
 ·have e:aJ p c x (s,bQ r)=(s,{bQ r with loops:=x.a::(bQ r).loops}):=by unfold aJ;rw[h];rfl
  rw[e];refine⟨uH _ rfl rfl rfl rfl,kU,λ_ _=>?_⟩;rw[ax G]at hl;have ht:bg x st.ty=st.ty:=jY (by rw[h];rfl) (by rw[h];rfl);have hw:(r.at_+1,(⟨bg x st.ty,st.lo,br p x st.ha⟩:Std))∈gF p r.at_ st:=by unfold gF cT;rw[hx,ax G,ax G,ax G,ax G,ax G];simp
  obtain⟨a,b⟩:=C.jG.ways _ hw;obtain⟨s',hs⟩:=E.sX.all _ a;have:s'=⟨bg x st.ty,st.lo,br p x st.ha⟩:=by have:=hs.at_;rw[b]at this;exact(fT this).symm
  subst this;have tL:(ak p (r.at_+1)).op=25:=by unfold cZ at eI;rw[ax G,aE h]at eI;simp at eI;exact eI.2
  have hr':=eZ E C (k:=24) (by rw[hx,h];rfl);rw[hx]at hr';refine⟨_,⟨a,hs,by show By r.stack _;rw[ht];exact C.stack,by show(x.a::r.loops).length=_;rw[show(bQ r).at_=r.at_+1 from rfl,aE tL];simp[hl],?_,by rw[yR];exact iG,nY,jc⟩⟩;intro n hn;rcases List.mem_cons.1 hn with rfl|hn
  ·exact Zq hr'.1
  ·exact yQ n hn
 ·have e:aJ p c x (s,bQ r)=qR x (s,bQ r):=by unfold aJ;rw[h];rfl
  rw[e];rw[aE h]at hl;have ht:bg x st.ty=st.ty:=jY (by rw[h];rfl) (by rw[h];rfl);have oG:(r.at_+1,(⟨bg x st.ty,r.at_::st.lo,br p x st.ha⟩:Std))∈gF p r.at_ st/\(N x.a,(⟨bg x st.ty,st.lo,br p x st.ha⟩:Std))∈gF p r.at_ st:=by unfold gF cT;rw[hx,ax G,ax G,ax G,aE h];simp[N]
  cases jE:r.loops with
  |nil=>rw[jE]at hl;simp at hl
  |cons n l=>
   rw[jE]at hl yQ;unfold qR;have e1:(bQ r).loops=n::l:=jE;have hh:(s,bQ r).2.loops.headD 0=n:=by show(bQ r).loops.headD 0=n;rw[e1];rfl
   have Tw:=yQ n az;by_cases hz:n=0
   ·rw[aE (by rw[hh];exact hz)];refine⟨uH _ rfl rfl rfl rfl,kU,λ_ _=>?_⟩;refine⟨_,go_on E C.jG (by rw[hx];omega) oG.2 (by rw[ht];exact C.stack) ?_ ?_ (by rw[yR];exact iG) nY jc⟩
    ·show(bQ r).loops.tail.length=_;rw[e1];simp at hl ⊢;exact hl
    ·intro m hm;have:m∈(bQ r).loops.tail:=hm;rw[e1]at this;exact yQ m (by simp at this;simp[this])
   ·rw[ax (by rw[hh];exact hz)];refine⟨uH _ rfl rfl rfl rfl,kU,λ_ _=>?_⟩;refine⟨_,go_on E C.jG (by rw[hx];omega) oG.1 (by rw[ht];exact C.stack) ?_ ?_ (by rw[yR];exact iG) nY jc⟩
    ·show(((bQ r).loops.headD 0-1)::(bQ r).loops.tail).length=_;rw[e1];simp at hl ⊢;exact hl
    ·intro m hm;have hm:m∈((bQ r).loops.headD 0-1)::(bQ r).loops.tail:=hm;rw[e1]at hm;have hm:m∈(n-1)::l:=hm;rcases List.mem_cons.1 hm with rfl|hm
     ·omega
     ·exact yQ m (by simp[hm])
 ·have e:aJ p c x (s,bQ r)=qS x (s,bQ r):=by unfold aJ;rw[h];rfl
  rw[e];rw[ax G]at hl;obtain⟨n,l,e1,qq,_⟩:=yN C (w:=2) (by rw[hx,h];rfl) (by rw[hx,h];rfl);rw[hx]at qq;have yP:r.stack.tail=l:=by rw[e1];rfl
  have oG:(r.at_+1,(⟨bg x st.ty,st.lo,br p x st.ha⟩:Std))∈gF p r.at_ st/\(N x.a,(⟨bg x st.ty,st.lo.tail,br p x st.ha⟩:Std))∈gF p r.at_ st:=by unfold gF cT;rw[hx,ax G,ax G,ax G,ax G,aE h];simp[N]
  unfold qS;dsimp only;split
  ·refine⟨uH _ rfl rfl rfl rfl,kU,λ_ _=>?_⟩;refine⟨_,go_on E C.jG (by rw[hx];omega) oG.2 (by show By r.stack.tail _;rw[yP];exact qq) (by show r.loops.tail.length=st.lo.tail.length;rw[List.length_tail,List.length_tail];omega) ?_ (by rw[yR];exact iG) nY jc⟩;intro m hm;exact yQ m (List.mem_of_mem_tail hm)
  ·exact D9
 ·have e:aJ p c x (s,bQ r)=(s,{bQ r with at_:=N x.a}):=by unfold aJ;rw[h];rfl
  rw[e];refine⟨uH _ rfl rfl rfl rfl,kU,λ_ _=>?_⟩;rw[ax G]at hl;have ht:bg x st.ty=st.ty:=jY (by rw[h];rfl) (by rw[h];rfl);unfold cZ at eI;rw[ax G,ax G,ax G,ax G,aE h]at eI;cases jE:st.lo with
  |nil=>rw[jE]at eI;simp at eI
  |cons t l=>
   rw[jE]at eI hl;dsimp only at eI;have EQ:=E.sX.loops _ _ C.jG.at_;rw[jE]at EQ;obtain⟨Zu,Zv,s',EN,sS⟩:=EQ;rw[EN]at eI;simp only[fh,fj]at eI;obtain⟨ha,hty,_⟩:=eI;have L_:N x.a=t:=by unfold N;omega
   have be:t<p.code.length:=by have:=C.lt;omega
   obtain⟨s'',Zw⟩:=E.sX.all t be;have:s''=s':=by have:=Zw.at_;rw[EN]at this;exact(fT this).symm
   subst this;have hh:=C.jG.lA;have hh':=Zw.lA;unfold eL at hh hh';rw[hx,ax G,ax G,ax G,ax G]at hh;rw[ax G,ax G,ax G,ax G]at hh';have k1:st.ha=0:=by simp only[Bool.or_eq_true,fh,fj,beq_iff_eq]at hh;omega
   have k2:s''.ha=0:=by simp only[Bool.or_eq_true,fh,fj,beq_iff_eq]at hh';omega
   refine⟨s'',⟨by show N x.a<_;rw[L_];exact be,by show rC p T (N x.a) s'';rw[L_];exact Zw,by rw[hty,ht];exact C.stack,?_,yQ,?_,nY,jc⟩⟩
   ·show r.loops.length=s''.lo.length+if(ak p (N x.a)).op=25 then 1 else 0;rw[L_,aE Zv,sS,hl];simp
   ·rw[k2];rw[k1]at iG;exact iG
end
section
variable {p:aU}{c:Cp}{T:Map}{s0 s:St}{r:Rn}{st:Std}
def ER(E:Env p c T){t:Nat}(h:t<p.aW.length):0<=p.aW.getD t 0/\p.aW.getD t 0<=255:=by have h1:=(cO E.check).1.aW (p.aW[t]) (il h);rw[dQ,ft h];show 0<=p.aW[t]/\p.aW[t]<=255;omega
def BB{S:Sys}{x:SR}{q e:Nat}:((bh S x q e).2=false->(bh S x q e).1.2=x.2.gE 2)/\(bh S x q e).1.2.at_=x.2.at_/\(bh S x q e).1.2.stack=x.2.stack/\(bh S x q e).1.2.loops=x.2.loops/\(bh S x q e).1.2.done=x.2.done/\
 ((bh S x q e).2=true->(bh S x q e).1.2.bG=x.2.bG/\(bh S x q e).1.2.hand≠none):=by
 unfold bh;split
 ·exact⟨λ_=>rfl,rfl,rfl,rfl,rfl,λh=>by simp at h⟩
 ·exact⟨λh=>by simp at h,rfl,rfl,rfl,rfl,λ_=>⟨rfl,az⟩⟩
def tM{S:Sys}{nv:Nat}{s0:St}{x:SR}(h:fI S nv s0 x){q e:Nat}(hq:q<S.nq)(he:e<=1)(hh:x.2.hand≠none):
 fI S nv s0 (dK S x q e).1/\(dK S x q e).1.2.hand=none:=by
 cases hx:x.2.hand with
 |none=>exact absurd hx hh
 |some v=>
  obtain⟨h1,h2,h3⟩:=h.hand v hx;have hv:nV x.2=v:=by unfold nV;rw[hx];rfl
  unfold dK;rw[hv];have H':fI S nv s0 (x.1,{x.2 with hand:=none}):=fI.same (s:=x.1) (r:=x.2) h rfl (.inr rfl) rfl rfl;obtain⟨a,b,_⟩:=yI H' hq he (v:=v) h1 h2 h3 rfl;exact⟨a,b⟩
def vT{S:Sys}{x:SR}{q e:Nat}(h0:x.2.bG=0):((dK S x q e).1.2.bG=0\/(dK S x q e).1.2.bG=1)/\(dK S x q e).1.2.at_=x.2.at_/\(dK S x q e).1.2.stack=x.2.stack/\(dK S x q e).1.2.loops=x.2.loops/\(dK S x q e).1.2.done=x.2.done:=by unfold dK;obtain⟨a,b,c,d,e',_⟩:=yM (S:=S) (x:=(x.1,{x.2 with hand:=none})) (q:=q) (e:=e) (v:=nV x.2) h0;exact⟨a,b,c,d,e'⟩
def tN{S:Sys}{nv:Nat}{s0:St}{x:SR}(h:fI S nv s0 x)(hh:x.2.hand≠none):fI S nv s0 (fU x):=by
 refine⟨h.inv,h.AV,h.hand,h.key,λk hk=>?_⟩;have hk:k∈x.2.told++[(nV x.2).key]:=hk;rw[List.mem_append]at hk;rcases hk with hk|hk
 ·exact h.told k hk
 ·simp at hk;subst hk;cases hx:x.2.hand with
  |none=>exact absurd hx hh
  |some v=>
   have hv:nV x.2=v:=by unfold nV;rw[hx];rfl
   rw[hv];exact(h.hand v hx).2.2
def rE{S:Sys}{nv:Nat}{s0:St}{x:SR}(h:fI S nv s0 x):fI S nv s0 (gm x):=fI.same (s:=x.1) (r:=x.2) h rfl (.inr rfl) rfl rfl
def CN{p:Prop}(h:p:=by
 rw[hx,jY (by rw[h];rfl) (by rw[h];rfl)];exact Zx):p:=h
def CO{p:Prop}(h:p:=by
 rw[hx];unfold br;rw[ax G,ax G,ax G];exact iG):p:=h
def Kl{p:Prop}(h:p:=by
 refine dL E C (by rw[hx];exact hs) H1 (.inl nY) (λ_=>rfl) (λ_=>?_) rfl (λ_=>?_) jc
 ·show By r.stack.tail _;rw[e1,hx];exact qq
 ·exact CO):p:=h
def Km{p:Prop}(h:p:=by
 refine dL E C (by rw[hx];exact hs) a1 (.inl (u1.trans tA)) (λ_=>t2) (λ_=>?_) t4 (λ_=>?_) (t5.trans jc)
 ·show By y.2.stack _;exact uI
 ·rw[hx];unfold br;rw[ax G,ax G,ax G];simp[k0,gm]):p:=h
def Kn{p:Prop}(h:p:=by
 refine dL E C (by rw[hx];exact hs) a (by rcases t1 with t1|t1;exact .inl t1;exact .inr (.inl t1)) (λ_=>t2) (λ_=>?_) t4 (λ_=>?_) (t5.trans jc)
 ·exact uI
 ·rw[hx,b];unfold br;rw[ax G,ax G,ax G];simp[k0]):p:=h
def xZ{p:Prop}(h:p:=by
 exact⟨gp hA rfl rfl rfl rfl,by show 0<=(3:Int)/\(3:Int)<=3;decide,λe1 _=>by simp[Rn.gE]at e1⟩):p:=h
def uI{p:Prop}(h:p:=by
 rw[t3,hx,jY (by rw[h];rfl) (by rw[h];rfl)];exact Zx):p:=h
def Ko{p:Prop}(h:p:=by
 exact⟨a,by rw[this];show 0<=(2:Int)/\(2:Int)<=3;decide,λe1 _=>by rw[this]at e1;simp[Rn.gE]at e1⟩):p:=h
def x_{p:Prop}(h:p:=by
 have:=t1 X;simp only[Bool.false_eq_true,if_false];exact Ko):p:=h
def Ih(E:Env p c T)(C:fJ p T r st)(a0g:fI (aB p c) p.vars.length s0 (s,r))(h1:28<=(ak p r.at_).op):rD p T (aB p c) s0 (aJ p c (ak p r.at_) (s,bQ r)):=by
 have nX:=(pP E C).1;have hs:cW (ak p r.at_).op:=by unfold cW;omega
 have lA:=C.jG.lA;unfold jX aP at nX;simp only[fh,fj]at nX;have Zx:=C.stack;have iG:=C.hand;have nY:=C.bG;have jc:=C.done;have hinv:Inv (aB p c) s:=a0g.inv;generalize hx:ak p r.at_=x at*;have hq0:(aB p c).nq=p.ap.length:=rfl;have hA:fI (aB p c) p.vars.length s0 (s,bQ r):=gp a0g rfl rfl rfl rfl;have hP:fI (aB p c) p.vars.length s0 (s,(bQ r).pop):=gp a0g rfl rfl rfl rfl;have tA:(bQ r).bG=0:=nY;have empty:(x.op=31\/x.op=32\/x.op=33\/x.op=34\/x.op=38\/x.op=39\/x.op=40\/x.op=41)->st.ha=0/\r.hand=none:=by intro h;unfold eL at lA;rw[ax G,ax G,ax G,ax G]at lA;simp only[Bool.or_eq_true,fh,fj,beq_iff_eq]at lA;have:st.ha=0:=G;exact⟨this,iG.1 this⟩
 have full:(x.op=35\/x.op=36\/x.op=37)->r.hand≠none:=by
  intro h e;have:=iG.2 e;unfold eL at lA;rcases h with h|h|h
  ·rw[ax G,ax G,aE h]at lA;split at lA<;>simp[this]at lA
  ·rw[aE h]at lA;simp[this]at lA
  ·rw[ax G,aE h]at lA;simp[this]at lA
 have hc:x.op=28\/x.op=29\/x.op=30\/x.op=31\/x.op=32\/x.op=33\/x.op=34\/x.op=35\/x.op=36\/x.op=37\/x.op=38\/x.op=39\/x.op=40\/x.op=41:=G;rcases hc with h|h|h|h|h|h|h|h|h|h|h|h|h|h
 ·
  have e:aJ p c x (s,bQ r)=CI p x (s,bQ r):=by unfold aJ;rw[h];rfl
  rw[e];obtain⟨n,l,e1,qq,_⟩:=yN C (w:=1) (by rw[hx,h];rfl) (by rw[hx,h];rfl);rw[hx]at qq;have hf:=(eZ E C (k:=28) (by rw[hx,h];rfl)).1;rw[hx]at hf;have hv:=(Ic hf).2.2;have gg:p.vars.getD (N x.a) ⟨0,0,0⟩∈p.vars:=by rw[dQ,ft hv];exact il hv
  have Xm:=(cO E.check).1.vars _ gg;have fi:=vN (n:=(bQ r).jx) (show(p.vars.getD (N x.a) ⟨0,0,0⟩).lo<=(p.vars.getD (N x.a) ⟨0,0,0⟩).hi by omega);have H1:=Pc hA hv (v:=within (bQ r).jx (p.vars.getD (N x.a) ⟨0,0,0⟩).lo (p.vars.getD (N x.a) ⟨0,0,0⟩).hi) G;refine dL E C (by rw[hx];exact hs) (y:=CI p x (s,bQ r)) (gp H1 rfl rfl rfl rfl) (.inl nY) (λ_=>rfl) (λ_=>?_) rfl (λ_=>?_) jc
  ·show By r.stack.tail _;rw[e1,hx];exact qq
  ·exact CO
 ·
  have e:aJ p c x (s,bQ r)=rz p x (s,bQ r):=by unfold aJ;rw[h];rfl
  rw[e];obtain⟨n,l,e1,qq,_⟩:=yN C (w:=1) (by rw[hx,h];rfl) (by rw[hx,h];rfl);rw[hx]at qq;have hf:=(eZ E C (k:=29) (by rw[hx,h];rfl)).1;rw[hx]at hf;unfold rz;dsimp only;cases hk:s.f (bQ r).key with
  |none=>dsimp only;exact⟨gp hP rfl rfl rfl rfl,by show 0<=(3:Int)/\(3:Int)<=3;decide,λe1 _=>by simp[Rn.gE]at e1⟩
  |some m=>dsimp only;obtain⟨q,hq,hm,_⟩:=(hinv.idx _ m).1 hk;have H1:=BA (p:=p) (tag:=N x.a) hP hq hm (bQ r).jx (ER E (vR hf).2.2);exact Kl
 ·
  have e:aJ p c x (s,bQ r)=mh p x (s,bQ r):=by unfold aJ;rw[h];rfl
  rw[e];obtain⟨n,l,e1,qq,_⟩:=yN C (w:=1) (by rw[hx,h];rfl) (by rw[hx,h];rfl);rw[hx]at qq;have hf:=eZ E C (k:=30) (by rw[hx,h];rfl);rw[hx]at hf;unfold mh;dsimp only;split
  ·exact⟨gp hP rfl rfl rfl rfl,by show 0<=(2:Int)/\(2:Int)<=3;decide,λe1 _=>by simp[Rn.gE]at e1⟩
  ·next bt=>have H1:=BA (p:=p) (tag:=N x.c) hP (dx hf.1).2.2 (fX (e:=N x.b) bt) (bQ r).jx (ER E (vR hf.2.2.1).2.2);exact Kl
 ·
  have e:aJ p c x (s,bQ r)=oP (aB p c) x (s,bQ r):=by unfold aJ;rw[h];rfl
  rw[e];have hf:=eZ E C (k:=31) (by rw[hx,h];rfl);rw[hx]at hf;obtain⟨k0,k1⟩:=empty G;unfold oP;dsimp only;cases hk:s.f (bQ r).key with
  |some m=>dsimp only;exact xZ
  |none=>dsimp only;obtain⟨a,b,_⟩:=yI hA (dx hf.1).2.2 (iz hf.2.1).2.2 (v:=⟨(bQ r).key,λ_=>0⟩) hk (λt=>by show(0:Int)<=0/\(0:Int)<=255;decide) a0g.key k1;obtain⟨t1,t2,t3,t4,t5,t6⟩:=yM (S:=aB p c) (x:=(s,bQ r)) (q:=N x.a) (e:=N x.b) (v:=⟨(bQ r).key,λ_=>0⟩) tA;exact Kn
 ·
  have e:aJ p c x (s,bQ r)=wU (aB p c) x (s,bQ r):=by unfold aJ;rw[h];rfl
  rw[e];have hf:=eZ E C (k:=32) (by rw[hx,h];rfl);rw[hx]at hf;obtain⟨k0,k1⟩:=empty G;unfold wU;dsimp only;cases hk:s.f (bQ r).key with
  |none=>dsimp only;exact xZ
  |some m=>dsimp only;obtain⟨q,hq,hm,_⟩:=(hinv.idx _ m).1 hk;rw[jy hinv.wf hq hm];obtain⟨o1,o2⟩:=EO (x:=(s,bQ r)) hA hq hm k1;obtain⟨a,b,_⟩:=yI o1 (dx hf.1).2.2 (iz hf.2.1).2.2 (v:=s.a.val m) o2 (hinv.tag q m hq hm) (hinv.key q m hq hm) k1;obtain⟨t1,t2,t3,t4,t5,t6⟩:=yM (S:=aB p c) (x:=ru (aB p c) (s,bQ r) m q) (q:=N x.a) (e:=N x.b) (v:=s.a.val m) tA;exact Kn
 ·
  have e:aJ p c x (s,bQ r)=oQ (aB p c) (s,bQ r):=by unfold aJ;rw[h];rfl
  rw[e];obtain⟨k0,k1⟩:=empty G;unfold oQ;dsimp only;cases hk:s.f (bQ r).key with
  |none=>dsimp only;exact xZ
  |some m=>
   dsimp only;obtain⟨q,hq,hm,_⟩:=(hinv.idx _ m).1 hk;rw[jy hinv.wf hq hm];split
   ·obtain⟨o1,o2⟩:=EO (x:=(s,bQ r)) hA hq hm k1;refine dL E C (by rw[hx];exact hs) o1 (.inl nY) (λ_=>rfl) (λ_=>?_) rfl (λ_=>?_) jc
    ·exact CN
    ·exact CO
   ·exact xZ
 ·
  have e:aJ p c x (s,bQ r)=(bh (aB p c) (s,bQ r) (N x.a) (N x.b)).1:=by unfold aJ;rw[h];rfl
  rw[e];have hf:=eZ E C (k:=34) (by rw[hx,h];rfl);rw[hx]at hf;obtain⟨k0,k1⟩:=empty G;obtain⟨a,_,_⟩:=yJ hA (dx hf.1).2.2 (iz hf.2.1).2.2 k1;obtain⟨t1,t2,t3,t4,t5,t6⟩:=BB (S:=aB p c) (x:=(s,bQ r)) (q:=N x.a) (e:=N x.b);cases X:(bh (aB p c) (s,bQ r) (N x.a) (N x.b)).2 with
  |false=>have:=t1 X;exact Ko
  |true=>
   obtain⟨u1,u2⟩:=t6 X;refine dL E C (by rw[hx];exact hs) a (.inl (u1.trans tA)) (λ_=>t2) (λ_=>?_) t4 (λ_=>?_) (t5.trans jc)
   ·exact uI
   ·rw[hx];unfold br;rw[ax G,ax G,aE G];constructor
    ·intro h';split at h'<;>simp at h'
    ·intro h';exact absurd h' u2
 ·
  have e:aJ p c x (s,bQ r)=(dK (aB p c) (s,bQ r) (N x.a) (N x.b)).1:=by unfold aJ;rw[h];rfl
  rw[e];have hf:=eZ E C (k:=35) (by rw[hx,h];rfl);rw[hx]at hf;obtain⟨a,b⟩:=tM hA (dx hf.1).2.2 (iz hf.2.1).2.2 (full G);obtain⟨t1,t2,t3,t4,t5⟩:=vT (S:=aB p c) (x:=(s,bQ r)) (q:=N x.a) (e:=N x.b) tA;refine dL E C (by rw[hx];exact hs) a (by rcases t1 with t1|t1;exact .inl t1;exact .inr (.inl t1)) (λ_=>t2) (λ_=>?_) t4 (λ_=>?_) (t5.trans jc)
  ·exact uI
  ·rw[hx,b];unfold br;rw[ax G,aE G];simp
 ·
  have e:aJ p c x (s,bQ r)=fU (s,bQ r):=by unfold aJ;rw[h];rfl
  rw[e];refine dL E C (by rw[hx];exact hs) (tN hA (full G)) (.inl nY) (λ_=>rfl) (λ_=>?_) rfl (λ_=>?_) jc
  ·exact CN
  ·rw[hx];unfold br;rw[aE h];have:=full G;constructor
   ·intro h';simp at h'
   ·intro h';exact absurd h' this
 ·
  have e:aJ p c x (s,bQ r)=gm (s,bQ r):=by unfold aJ;rw[h];rfl
  rw[e];refine dL E C (by rw[hx];exact hs) (rE hA) (.inl nY) (λ_=>rfl) (λ_=>?_) rfl (λ_=>?_) jc
  ·exact CN
  ·rw[hx];unfold br;rw[ax G,aE G];simp[gm]
 all_goals
  obtain⟨k0,k1⟩:=empty G;have SV:bF p 1 x.a=true/\bF p 4 x.b=true:=by
   rcases(show x.op=38\/x.op=39\/x.op=40\/x.op=41 by omega)with h'|h'|h'|h'
   ·have hf:=eZ E C (k:=38) (by rw[hx,h'];rfl);rw[hx]at hf;exact⟨hf.1,hf.2.1⟩
   ·have hf:=eZ E C (k:=39) (by rw[hx,h'];rfl);rw[hx]at hf;exact⟨hf.1,hf.2.1⟩
   ·have hf:=eZ E C (k:=40) (by rw[hx,h'];rfl);rw[hx]at hf;exact⟨hf.1,hf.2.1⟩
   ·have hf:=eZ E C (k:=41) (by rw[hx,h'];rfl);rw[hx]at hf;exact⟨hf.1,hf.2.1⟩
  obtain⟨a,_,_⟩:=yJ hA (dx SV.1).2.2 (iz SV.2).2.2 k1;obtain⟨t1,t2,t3,t4,t5,t6⟩:=BB (S:=aB p c) (x:=(s,bQ r)) (q:=N x.a) (e:=N x.b)
 ·have e:aJ p c x (s,bQ r)=qu (aB p c) x (s,bQ r):=by unfold aJ;rw[h];rfl
  rw[e];have hf:=eZ E C (k:=38) (by rw[hx,h];rfl);rw[hx]at hf;unfold qu;dsimp only;cases X:(bh (aB p c) (s,bQ r) (N x.a) (N x.b)).2 with
  |false=>exact x_
  |true=>
   obtain⟨u1,u2⟩:=t6 X;simp only[if_true];generalize(bh (aB p c) (s,bQ r) (N x.a) (N x.b)).1=y at*;obtain⟨a2,b2⟩:=tM a (dx hf.2.2.1).2.2 (iz hf.2.2.2).2.2 u2;obtain⟨v1,v2,v3,v4,v5⟩:=vT (S:=aB p c) (x:=y) (q:=N x.c) (e:=N x.d) (u1.trans tA);refine dL E C (by rw[hx];exact hs) a2 (by rcases v1 with v1|v1;exact .inl v1;exact .inr (.inl v1)) (λ_=>v2.trans t2) (λ_=>?_) (v4.trans t4) (λ_=>?_) (v5.trans (t5.trans jc))
   ·rw[v3,t3,hx,jY (by rw[h];rfl) (by rw[h];rfl)];exact Zx
   ·rw[hx,b2];unfold br;rw[ax G,ax G,ax G];simp[k0]
 ·have e:aJ p c x (s,bQ r)=qw (aB p c) x (s,bQ r):=by unfold aJ;rw[h];rfl
  rw[e];have hf:=eZ E C (k:=39) (by rw[hx,h];rfl);rw[hx]at hf;unfold qw;dsimp only;cases X:(bh (aB p c) (s,bQ r) (N x.a) (N x.b)).2 with
  |false=>exact x_
  |true=>
   obtain⟨u1,u2⟩:=t6 X;simp only[if_true];generalize(bh (aB p c) (s,bQ r) (N x.a) (N x.b)).1=y at*;have a1:=tN a u2;obtain⟨a2,b2⟩:=tM a1 (dx hf.2.2.1).2.2 (iz hf.2.2.2).2.2 u2;obtain⟨v1,v2,v3,v4,v5⟩:=vT (S:=aB p c) (x:=fU y) (q:=N x.c) (e:=N x.d) (u1.trans tA);refine dL E C (by rw[hx];exact hs) a2 (by rcases v1 with v1|v1;exact .inl v1;exact .inr (.inl v1)) (λ_=>v2.trans t2) (λ_=>?_) (v4.trans t4) (λ_=>?_) (v5.trans (t5.trans jc))
   ·rw[v3];show By y.2.stack _;exact uI
   ·rw[hx,b2];unfold br;rw[ax G,ax G,ax G];simp[k0]
 ·have e:aJ p c x (s,bQ r)=qx (aB p c) x (s,bQ r):=by unfold aJ;rw[h];rfl
  rw[e];unfold qx;dsimp only;cases X:(bh (aB p c) (s,bQ r) (N x.a) (N x.b)).2 with
  |false=>exact x_
  |true=>obtain⟨u1,u2⟩:=t6 X;simp only[if_true];generalize(bh (aB p c) (s,bQ r) (N x.a) (N x.b)).1=y at*;have a1:=rE (tN a u2);exact Km
 ·have e:aJ p c x (s,bQ r)=uE (aB p c) x (s,bQ r):=by unfold aJ;rw[h];rfl
  rw[e];unfold uE;dsimp only;cases X:(bh (aB p c) (s,bQ r) (N x.a) (N x.b)).2 with
  |false=>exact x_
  |true=>obtain⟨u1,u2⟩:=t6 X;simp only[if_true];generalize(bh (aB p c) (s,bQ r) (N x.a) (N x.b)).1=y at*;have a1:=rE a;exact Km
def CP(E:Env p c T)(C:fJ p T r st)(a0g:fI (aB p c) p.vars.length s0 (s,r)):rD p T (aB p c) s0 (aJ p c (ak p r.at_) (s,bQ r)):=by
 by_cases h1:(ak p r.at_).op<=21
 ·exact Ig E C a0g h1
 ·by_cases h2:(ak p r.at_).op<=27
  ·exact L7 E C a0g G h2
  ·exact Ih E C a0g G
end
section
def iW(p:aU)(g:Nat->Nat)(pc:Nat):Nat:=
 let x:=ak p pc
 if x.op=0\/x.op=27 then 1
 else if x.op=22 then 1+g x.a.toNat
 else if x.op=23 then 1+max (g (pc+1)) (g x.a.toNat)
 else if x.op=24 then(1+x.a.toNat*(1+g (pc+2)))+(1+g (ak p (pc+1)).a.toNat)
 else 1+g (pc+1)
def mJ(p:aU):Nat->(Nat->Nat)
 |0=>λ_=>0
 |k+1=>let g:=mJ p k;aS g (p.code.length-1-k) (iW p g (p.code.length-1-k))
def jd(p:aU):Nat->Nat:=mJ p p.code.length
def BC(a b:Nat):bM (min a MS) (min b MS)=min (a+b) MS:=by unfold bM MS;split<;>omega
def lH(b:Nat):bM 1 (min b MS)=min (1+b) MS:=by have:=BC 1 b;rwa[show min 1 MS=1 from by unfold MS;decide]at this
def Ii(a b:Nat):eX a (min b MS)=min (a*b) MS:=by
 unfold eX;by_cases X:b<=MS
 ·rw[Nat.min_eq_left X];split<;>omega
 ·rw[Nat.min_eq_right G];cases a with
  |zero=>simp
  |succ a=>have h1:MS<=(a+1)*MS:=Nat.le_mul_of_pos_left _ G;have h2:MS<=(a+1)*b:=bS G (Nat.le_mul_of_pos_left b (show 0<a+1 by omega));split<;>omega
def Ij(p:aU)(g:Nat->Nat)(pc:Nat):mI p (λi=>min (g i) MS) pc=min (iW p g pc) MS:=by
 unfold mI iW;dsimp only;have h1:min 1 MS=1:=by unfold MS;decide
 split
 ·rw[h1]
 split
 ·exact lH _
 split
 ·rw[show max (min (g (pc+1)) MS) (min (g (ak p pc).a.toNat) MS)=min (max (g (pc+1)) (g (ak p pc).a.toNat)) MS by omega];exact lH _
 split
 ·rw[lH,lH,Ii,lH,BC]
 ·exact lH _
def Mb(p:aU)(k:Nat):dV p k=λi=>min (mJ p k i) MS:=by
 induction k with
 |zero=>funext i;simp[dV,mJ]
 |succ k ih=>
  funext i;unfold dV mJ;dsimp only;rw[ih];simp only[dw];split
  ·exact Ij p (mJ p k) _
  ·rfl
def Mc(p:aU)(i:Nat):mi p i=min (jd p i) MS:=by unfold mi jd;rw[Mb]
def wW(p:aU)(k j:Nat)(d:Nat)(h:p.code.length-k<=j)(hk:k+d<=p.code.length):mJ p (k+d) j=mJ p k j:=by
 induction d with
 |zero=>rfl
 |succ d ih=>show aS (mJ p (k+d)) (p.code.length-1 - (k+d)) (iW p (mJ p (k+d)) (p.code.length-1 - (k+d))) j=_;rw[an _ _ G,ih G]
def ES{p:aU}{pc:Nat}(pN:pc<p.code.length)(h1:(ak p pc).op=22\/(ak p pc).op=23->pc<(ak p pc).a.toNat)(h2:(ak p pc).op=24->pc<(ak p (pc+1)).a.toNat):
 jd p pc=iW p (jd p) pc:=by
 have hk:∀j,pc<j->jd p j=mJ p (p.code.length-1-pc) j:=λj hj=>by have:=wW p (p.code.length-1-pc) j (pc+1) G G;rw[show p.code.length-1-pc+(pc+1)=p.code.length by omega]at this;exact this
 have h0:jd p pc=iW p (mJ p (p.code.length-1-pc)) pc:=by have:=wW p (p.code.length-1-pc+1) pc pc G G;rw[show p.code.length-1-pc+1+pc=p.code.length by omega]at this;refine this.trans ?_;show aS _ (p.code.length-1 - (p.code.length-1-pc)) _ pc=_;rw[show p.code.length-1 - (p.code.length-1-pc)=pc by omega,aw]
 rw[h0];unfold iW;dsimp only;split
 ·rfl
 split
 ·next h=>rw[hk _ (h1 (.inl h))]
 split
 ·next h=>rw[hk _ (h1 (.inr h)),hk _ G]
 split
 ·next h=>rw[hk _ (h2 h),hk (pc+2) G]
 ·rw[hk _ G]
def lI(p:aU)(t:Nat)(m:Int):Nat:=m.toNat*(1+jd p (t+1))+(1+jd p (ak p t).a.toNat)
def outer(p:aU):List Nat->List Int->Nat
 |t::lo,m::l=>lI p t m+outer p lo l
 |_,_=>0
def left(p:aU)(r:Rn)(st:Std):Nat:=
 if(ak p r.at_).op=25 then lI p r.at_ (r.loops.headD 0)+outer p st.lo r.loops.tail else jd p r.at_+outer p st.lo r.loops
def yS{S:Sys}{x:SR}{q e:Nat}{v:eW}:(iP S x q e v).1.2.at_=x.2.at_/\(iP S x q e v).1.2.loops=x.2.loops:=by unfold iP;split<;>exact⟨rfl,rfl⟩
def fK{S:Sys}{x:SR}{q e:Nat}:(bh S x q e).1.2.at_=x.2.at_/\(bh S x q e).1.2.loops=x.2.loops:=by unfold bh;split<;>exact⟨rfl,rfl⟩
def nZ{S:Sys}{x:SR}{q e:Nat}:(dK S x q e).1.2.at_=x.2.at_/\(dK S x q e).1.2.loops=x.2.loops:=by unfold dK;exact yS
def aN{α:Type}{P:α->Prop}{c:Prop}[Decidable c]{a b:α}(h1:c->P a)(h2:¬c->P b):P (if c then a else b):=by
 by_cases h:c
 ·rw[aE h];exact h1 h
 ·rw[ax h];exact h2 h
def vi(x y:SR):Prop:=y.2.at_=x.2.at_/\y.2.loops=x.2.loops
def uJ{p:aU}{c:Cp}{i:Ins}{x:SR}(h:cW i.op):vi x (aJ p c i x):=by
 unfold cW at h;unfold aJ;dsimp only;refine aN (λ_=>⟨rfl,rfl⟩) (λ_=>?_);refine aN (λ_=>⟨rfl,rfl⟩) (λ_=>?_);refine aN (λ_=>⟨rfl,rfl⟩) (λ_=>?_);refine aN (λ_=>⟨rfl,rfl⟩) (λ_=>?_);refine aN (λ_=>⟨rfl,rfl⟩) (λ_=>?_);refine aN (λ_=>⟨rfl,rfl⟩) (λ_=>?_);refine aN (λ_=>⟨rfl,rfl⟩) (λ_=>?_);refine aN (λ_=>⟨rfl,rfl⟩) (λ_=>?_);refine aN (λ_=>?_) (λ_=>?_)
 ·unfold wV;split<;>exact⟨rfl,rfl⟩
 refine aN (λ_=>?_) (λ_=>?_)
 ·unfold oR;split<;>exact⟨rfl,rfl⟩
 refine aN (λ_=>⟨rfl,rfl⟩) (λ_=>?_);refine aN (λ_=>⟨rfl,rfl⟩) (λ_=>?_);refine aN (λ_=>⟨rfl,rfl⟩) (λ_=>?_);refine aN (λ_=>by omega) (λ_=>?_);refine aN (λ_=>by omega) (λ_=>?_);refine aN (λ_=>by omega) (λ_=>?_);refine aN (λ_=>by omega) (λ_=>?_);refine aN (λ_=>by omega) (λ_=>?_);refine aN (λ_=>⟨rfl,rfl⟩) (λ_=>?_);refine aN (λ_=>?_) (λ_=>?_)
 ·unfold rz;split<;>exact⟨rfl,rfl⟩
 refine aN (λ_=>?_) (λ_=>?_)
 ·unfold mh;split<;>exact⟨rfl,rfl⟩
 refine aN (λ_=>?_) (λ_=>?_)
 ·unfold oP;split
  ·exact⟨rfl,rfl⟩
  ·exact yS
 refine aN (λ_=>?_) (λ_=>?_)
 ·unfold wU;split
  ·exact⟨rfl,rfl⟩
  ·exact yS (x:=ru _ x _ _)
 refine aN (λ_=>?_) (λ_=>?_)
 ·unfold oQ;split
  ·exact⟨rfl,rfl⟩
  ·split<;>exact⟨rfl,rfl⟩
 refine aN (λ_=>fK) (λ_=>?_);refine aN (λ_=>nZ) (λ_=>?_);refine aN (λ_=>⟨rfl,rfl⟩) (λ_=>?_);refine aN (λ_=>⟨rfl,rfl⟩) (λ_=>?_);refine aN (λ_=>?_) (λ_=>?_)
 ·unfold qu;dsimp only;split
  ·exact⟨nZ.1.trans fK.1,nZ.2.trans fK.2⟩
  ·exact fK
 refine aN (λ_=>?_) (λ_=>?_)
 ·unfold qw;dsimp only;split
  ·exact⟨(nZ (x:=fU _)).1.trans fK.1,(nZ (x:=fU _)).2.trans fK.2⟩
  ·exact fK
 refine aN (λ_=>?_) (λ_=>?_)
 ·unfold qx;dsimp only;split
  ·exact fK
  ·exact fK
 ·unfold uE;dsimp only;split
  ·exact fK
  ·exact fK
variable {p:aU}{c:Cp}{T:Map}{s0 s:St}{r:Rn}{st:Std}
def kE{y:Rn}{st' a:Std}{n:Nat}(C:fJ p T y st')(h:T n=some a)(e:y.at_=n):st'=a:=by have:=C.jG.at_;rw[e,h]at this;exact(fT this).symm
def fk{y:Rn}(h:(ak p y.at_).op≠25):left p y st=jd p y.at_+outer p st.lo y.loops:=by unfold left;rw[ax h]
def CQ{y:Rn}(h:(ak p y.at_).op=25):left p y st=lI p y.at_ (y.loops.headD 0)+outer p st.lo y.loops.tail:=by unfold left;rw[aE h]
def BD(E:Env p c T){t:Nat}{a:Std}(h:rC p T t a)(tL:(ak p t).op=25):(t:Int)<(ak p t).a:=by
 have hj:=h.jumps;unfold cZ at hj;split at hj
 ·simp at hj
 ·next h'=>
  by_cases be:(t:Int)<(ak p t).a
  ·exact be
  ·exact absurd ⟨.inr (.inr (.inl tL)),.inl G⟩ h'
def tO(E:Env p c T)(C:fJ p T r st){st':Std}(C':fJ p T (aJ p c (ak p r.at_) (s,bQ r)).2 st'):left p (aJ p c (ak p r.at_) (s,bQ r)).2 st'+1<=left p r st:=by
 have hl:=C.loops;have eI:=C.jG.jumps;have uK:=C.jG.ways;have Pe:=λ(SQ:(ak p r.at_).op≠24) (w:Nat×Std) (hw:w∈gF p r.at_ st)=>EP E.sX C.jG SQ hw;have hjh:=λh=>yO C.jG h;have be:=C.lt;have yT:=ES (p:=p) (pc:=r.at_) C.lt;have h0:(aJ p c (ak p r.at_) (s,bQ r)).2.done=false:=C'.done;generalize hy:(aJ p c (ak p r.at_) (s,bQ r)).2=y at*;by_cases hs:cW (ak p r.at_).op
 ·obtain⟨e1,e2⟩:=uJ (p:=p) (c:=c) (x:=(s,bQ r)) hs;rw[hy]at e1 e2;have e1:y.at_=r.at_+1:=e1;have e2:y.loops=r.loops:=e2;have hw:=qy (st:=st) hs;have fY:=kE C' (uK _ hw).2 e1;unfold cW at hs;have hn:=Pe G _ hw;rw[fk (y:=y) (by rw[e1];exact hn),fk G,fY,e1,e2,yT G G];unfold iW;dsimp only;rw[ax G,ax G,ax G,ax G];omega
 ·generalize hx:ak p r.at_=x at*;have hc:x.op=0\/x.op=22\/x.op=23\/x.op=24\/x.op=25\/x.op=26\/x.op=27:=by unfold cW at hs;omega
  rcases hc with h|h|h|h|h|h|h
  ·have e:aJ p c x (s,bQ r)=(s,{bQ r with done:=true}):=by unfold aJ;rw[h];rfl
   rw[e]at hy;rw[<-hy]at h0;simp at h0
  ·have e:aJ p c x (s,bQ r)=(s,{bQ r with at_:=N x.a}):=by unfold aJ;rw[h];rfl
   rw[e]at hy;have e1:y.at_=N x.a:=by rw[<-hy]
   have e2:y.loops=r.loops:=by rw[<-hy];rfl
   have hw:(N x.a,(⟨bg x st.ty,st.lo,br p x st.ha⟩:Std))∈gF p r.at_ st:=by unfold gF cT;rw[hx,ax G,aE h];simp[N]
   have fY:=kE C' (uK _ hw).2 e1;have hn:=Pe G _ hw;have hg:=hjh (.inl h);rw[fk (y:=y) (by rw[e1];exact hn),fk (y:=r) (by rw[hx];omega),fY,e1,e2,yT G G];unfold iW;dsimp only;rw[hx,ax G,aE h];unfold N;omega
  ·have e:aJ p c x (s,bQ r)=(s,if(bQ r).jx=0 then{(bQ r).pop with at_:=N x.a}else(bQ r).pop):=by unfold aJ;rw[h];rfl
   rw[e]at hy;have oG:(r.at_+1,(⟨bg x st.ty,st.lo,br p x st.ha⟩:Std))∈gF p r.at_ st/\(N x.a,(⟨bg x st.ty,st.lo,br p x st.ha⟩:Std))∈gF p r.at_ st:=by unfold gF cT;rw[hx,ax G,ax G,aE h];simp[N]
   have hg:=hjh (.inr (.inl h));have hf:jd p r.at_=1+max (jd p (r.at_+1)) (jd p (N x.a)):=by rw[yT G G];unfold iW;dsimp only;rw[hx,ax G,ax G,aE h];rfl
   have e2:y.loops=r.loops:=by rw[<-hy];dsimp only;split<;>rfl
   by_cases ht:(bQ r).jx=0
   ·have e1:y.at_=N x.a:=by rw[<-hy];dsimp only;rw[aE ht]
    rw[fk (y:=y) (by rw[e1];exact Pe G _ oG.2),fk (y:=r) (by rw[hx];omega),kE C' (uK _ oG.2).2 e1,e1,e2,hf];dsimp only;omega
   ·have e1:y.at_=r.at_+1:=by rw[<-hy];dsimp only;rw[ax ht];rfl
    rw[fk (y:=y) (by rw[e1];exact Pe G _ oG.1),fk (y:=r) (by rw[hx];omega),kE C' (uK _ oG.1).2 e1,e1,e2,hf];dsimp only;omega
  ·have e:aJ p c x (s,bQ r)=(s,{bQ r with loops:=x.a::(bQ r).loops}):=by unfold aJ;rw[h];rfl
   rw[e]at hy;have e1:y.at_=r.at_+1:=by rw[<-hy];rfl
   have e2:y.loops=x.a::r.loops:=by rw[<-hy];rfl
   have hw:(r.at_+1,(⟨bg x st.ty,st.lo,br p x st.ha⟩:Std))∈gF p r.at_ st:=by unfold gF cT;rw[hx,ax G,ax G,ax G,ax G,ax G];simp
   have fY:=kE C' (uK _ hw).2 e1;have tL:(ak p (r.at_+1)).op=25:=by unfold cZ at eI;rw[ax G,aE h]at eI;simp at eI;exact eI.2
   have hg:=BD E (by have:=C'.jG;rw[e1]at this;exact this) tL;have hf:jd p r.at_=(1+x.a.toNat*(1+jd p (r.at_+2)))+(1+jd p (ak p (r.at_+1)).a.toNat):=by rw[yT G (λ_=>by omega)];unfold iW;dsimp only;rw[hx,ax G,ax G,ax G,aE h]
   rw[CQ (y:=y) (by rw[e1];exact tL),fk (y:=r) (by rw[hx];omega),fY,e1,e2,hf];unfold lI;dsimp only[List.headD,List.tail];rw[show r.at_+1+1=r.at_+2 from rfl];omega
  ·have e:aJ p c x (s,bQ r)=qR x (s,bQ r):=by unfold aJ;rw[h];rfl
   rw[e]at hy;unfold qR at hy;rw[CQ (y:=r) (by rw[hx];exact h)];have oG:(r.at_+1,(⟨bg x st.ty,r.at_::st.lo,br p x st.ha⟩:Std))∈gF p r.at_ st/\(N x.a,(⟨bg x st.ty,st.lo,br p x st.ha⟩:Std))∈gF p r.at_ st:=by unfold gF cT;rw[hx,ax G,ax G,ax G,aE h];simp[N]
   have yQ:0<=r.loops.headD 0:=by
    cases jE:r.loops with
    |nil=>simp
    |cons n l=>exact(C.lin n (by rw[jE];simp)).1
   by_cases hz:(s,bQ r).2.loops.headD 0=0
   ·rw[aE hz]at hy;have e1:y.at_=N x.a:=by rw[<-hy];rfl
    have e2:y.loops=r.loops.tail:=by rw[<-hy];rfl
    rw[fk (y:=y) (by rw[e1];exact Pe G _ oG.2),kE C' (uK _ oG.2).2 e1,e1,e2];unfold lI;rw[hx];unfold N;dsimp only;omega
   ·rw[ax hz]at hy;have e1:y.at_=r.at_+1:=by rw[<-hy];rfl
    have e2:y.loops=(r.loops.headD 0-1)::r.loops.tail:=by rw[<-hy];rfl
    rw[fk (y:=y) (by rw[e1];exact Pe G _ oG.1),kE C' (uK _ oG.1).2 e1,e1,e2];have hz':r.loops.headD 0≠0:=hz;generalize r.loops.headD 0=m at*;show jd p (r.at_+1)+(lI p r.at_ (m-1)+outer p st.lo r.loops.tail)+1<=lI p r.at_ m+outer p st.lo r.loops.tail;unfold lI;have:m.toNat=(m-1).toNat+1:=G;rw[this,Nat.add_mul];omega
  ·have e:aJ p c x (s,bQ r)=qS x (s,bQ r):=by unfold aJ;rw[h];rfl
   rw[e]at hy;unfold qS at hy;dsimp only at hy;rw[fk (y:=r) (by rw[hx];omega)];have oG:(r.at_+1,(⟨bg x st.ty,st.lo,br p x st.ha⟩:Std))∈gF p r.at_ st/\(N x.a,(⟨bg x st.ty,st.lo.tail,br p x st.ha⟩:Std))∈gF p r.at_ st:=by unfold gF cT;rw[hx,ax G,ax G,ax G,ax G,aE h];simp[N]
   have hf:jd p r.at_=1+jd p (r.at_+1):=by rw[yT G G];unfold iW;dsimp only;rw[hx,ax G,ax G,ax G,ax G]
   by_cases ht:(bQ r).jx=0
   ·rw[aE ht]at hy;have e1:y.at_=N x.a:=by rw[<-hy];rfl
    have e2:y.loops=r.loops.tail:=by rw[<-hy];rfl
    rw[fk (y:=y) (by rw[e1];exact Pe G _ oG.2),kE C' (uK _ oG.2).2 e1,e1,e2];rw[ax G]at hl;unfold cZ at eI;split at eI
    ·simp at eI
    cases jE:st.lo with
    |nil=>rw[jE]at eI;simp[h]at eI
    |cons t lo=>
     rw[jE]at eI hl;rw[ax G,ax G]at eI;simp only[fj]at eI;cases vU:r.loops with
     |nil=>rw[vU]at hl;simp at hl
     |cons m l=>show jd p (N x.a)+outer p lo l+1<=jd p r.at_+(lI p t m+outer p lo l);unfold lI;rw[<-eI];unfold N;omega
   ·rw[ax ht]at hy;have e1:y.at_=r.at_+1:=by rw[<-hy];rfl
    have e2:y.loops=r.loops:=by rw[<-hy];rfl
    rw[fk (y:=y) (by rw[e1];exact Pe G _ oG.1),kE C' (uK _ oG.1).2 e1,e1,e2,hf];dsimp only;omega
  ·have e:aJ p c x (s,bQ r)=(s,{bQ r with at_:=N x.a}):=by unfold aJ;rw[h];rfl
   rw[e]at hy;have e2:y.loops=r.loops:=by rw[<-hy];rfl
   rw[fk (y:=r) (by rw[hx];omega)];rw[ax G]at hl;have hf:jd p r.at_=1:=by rw[yT G G];unfold iW;dsimp only;rw[hx,aE (.inr h)]
   unfold cZ at eI;rw[ax G,ax G,ax G,ax G,aE h]at eI;cases jE:st.lo with
   |nil=>rw[jE]at eI;simp at eI
   |cons t lo=>
    rw[jE]at eI hl;dsimp only at eI;have EQ:=E.sX.loops _ _ C.jG.at_;rw[jE]at EQ;obtain⟨Zu,Zv,s',EN,sS⟩:=EQ;simp only[fh,fj]at eI;have L_:N x.a=t:=by unfold N;omega
    have e1:y.at_=t:=by rw[<-hy];exact L_
    have fY:=kE C' EN e1;cases vU:r.loops with
    |nil=>rw[vU]at hl;simp at hl
    |cons m l=>rw[CQ (y:=y) (by rw[e1];exact Zv),fY,e1,e2,vU,sS,hf];show lI p t m+outer p lo l+1<=1+(lI p t m+outer p lo l);omega
end
section
def eC(p:aU)(c:Cp)(x:SR):SR:=aJ p c (ak p x.2.at_) (x.1,bQ x.2)
def kF(x:SR):Bool:=x.2.done|| !(decide (x.2.bG=0))
def kB(p:aU)(c:Cp):Nat->SR->Nat×SR
 |0,x=>(0,x)
 |f+1,x=>if kF (eC p c x)then(1,eC p c x)else((kB p c f (eC p c x)).1+1,(kB p c f (eC p c x)).2)
structure Small(n:Nat)(r:Rn):Prop where
 stack:r.stack.length<=n
 loops:r.loops.length<=n
 told:r.told.length<=n
 bI:r.bI.length<=2*n
structure Md(k:Nat)(x y:SR):Prop where
 stack:y.2.stack.length<=x.2.stack.length+1
 loops:y.2.loops.length<=x.2.loops.length+1
 told:y.2.told.length<=x.2.told.length+1
 bI:y.2.bI.length<=x.2.bI.length+k
 key:y.2.key=x.2.key
def Md.more{k k':Nat}{x y:SR}(h:Md k x y)(hk:k<=k'):Md k' x y:=⟨h.stack,h.loops,h.told,by have:=h.bI;omega,h.key⟩
structure yU(k:Nat)(x y:SR):Prop where
 stack:y.2.stack=x.2.stack
 loops:y.2.loops=x.2.loops
 told:y.2.told=x.2.told
 bI:y.2.bI.length<=x.2.bI.length+k
 key:y.2.key=x.2.key
def yU.trans{k k':Nat}{x y z:SR}(h:yU k x y)(g:yU k' y z):yU (k+k') x z:=
 ⟨g.stack.trans h.stack,g.loops.trans h.loops,g.told.trans h.told,by have:=h.bI;have:=g.bI;omega,g.key.trans h.key⟩
def yU.grow{k k':Nat}{x y:SR}(h:yU k x y)(hk:k<=k'):Md k' x y:=
 ⟨by rw[h.stack];omega,by rw[h.loops];omega,by rw[h.told];omega,by have:=h.bI;omega,h.key⟩
def pQ{S:Sys}{x:SR}{q e:Nat}{v:eW}:yU 1 x (iP S x q e v).1:=by
 unfold iP;split
 ·exact⟨rfl,rfl,rfl,fo _ _,rfl⟩
 ·exact⟨rfl,rfl,rfl,aL _,rfl⟩
def fC{S:Sys}{x:SR}{q e:Nat}:yU 1 x (bh S x q e).1:=by
 unfold bh;split
 ·exact⟨rfl,rfl,rfl,fo _ _,rfl⟩
 ·exact⟨rfl,rfl,rfl,aL _,rfl⟩
def BE{S:Sys}{x:SR}{n q:Nat}:yU 1 x (ru S x n q):=⟨rfl,rfl,rfl,aL _,rfl⟩
def oU{S:Sys}{x:SR}{q e:Nat}:yU 1 x (dK S x q e).1:=by have h:=pQ (S:=S) (x:=(x.1,{x.2 with hand:=none})) (q:=q) (e:=e) (v:=nV x.2);exact⟨h.stack,h.loops,h.told,h.bI,h.key⟩
def JP{p:Prop}(h:p:=by
 exact⟨by simp[Rn.pop,Rn.gE];omega,fo _ _,fo _ _,fo _ _,rfl⟩):p:=h
def VW{p:Prop}(h:p:=by
 exact⟨by simp[ry,Rn.pop,Rn.note];omega,fo _ _,fo _ _,by simp[ry,Rn.pop,Rn.note],rfl⟩):p:=h
def Me{p:Prop}(h:p:=by
 exact S0 _ (fo _ _) rfl rfl rfl rfl):p:=h
def BG(p:aU)(c:Cp)(i:Ins)(x:SR):Md 2 x (aJ p c i x):=by
 have S0:∀y:SR,y.2.stack.length<=x.2.stack.length+1->y.2.loops=x.2.loops->y.2.told=x.2.told->y.2.bI=x.2.bI->y.2.key=x.2.key->Md 2 x y:=λy h1 h2 h3 h4 h5=>
  ⟨h1,by rw[h2];omega,by rw[h3];omega,by rw[h4];omega,h5⟩
 have pu:∀(r:Rn) (n:Int),(r.push n).stack.length=r.stack.length+1:=λr n=>by simp[Rn.push]
 have po:∀(r:Rn),r.pop.stack.length<=r.stack.length:=λr=>by simp[Rn.pop]
 unfold aJ;dsimp only;refine aN (λ_=>S0 _ (fo _ _) rfl rfl rfl rfl) (λ_=>?_);refine aN (λ_=>S0 _ (by dsimp only;rw[pu];omega) rfl rfl rfl rfl) (λ_=>?_);refine aN (λ_=>S0 _ (by dsimp only;rw[pu];omega) rfl rfl rfl rfl) (λ_=>?_);refine aN (λ_=>S0 _ (by dsimp only;rw[pu];omega) rfl rfl rfl rfl) (λ_=>?_);refine aN (λ_=>S0 _ (by dsimp only;rw[pu];omega) rfl rfl rfl rfl) (λ_=>?_);refine aN (λ_=>S0 _ (by dsimp only;rw[pu];omega) rfl rfl rfl rfl) (λ_=>?_);refine aN (λ_=>S0 _ (by dsimp only;rw[pu];omega) rfl rfl rfl rfl) (λ_=>?_);refine aN (λ_=>S0 _ (by unfold vO;dsimp only;rw[pu];omega) rfl rfl rfl rfl) (λ_=>?_);refine aN (λ_=>?_) (λ_=>?_)
 ·unfold wV;split
  ·exact Me
  ·exact S0 _ (by dsimp only;rw[pu];omega) rfl rfl rfl rfl
 refine aN (λ_=>?_) (λ_=>?_)
 ·unfold oR;split
  ·exact Me
  ·exact S0 _ (by dsimp only;rw[pu];omega) rfl rfl rfl rfl
 refine aN (λ_=>S0 _ (by dsimp only;rw[pu];have:=po x.2;omega) rfl rfl rfl rfl) (λ_=>?_);refine aN (λ_=>S0 _ (by dsimp only;rw[pu];have:=po x.2;omega) rfl rfl rfl rfl) (λ_=>?_);refine aN (λ_=>S0 _ (by dsimp only;rw[pu];have:=po x.2;have:=po x.2.pop;omega) rfl rfl rfl rfl) (λ_=>?_);refine aN (λ_=>S0 _ (fo _ _) rfl rfl rfl rfl) (λ_=>?_);refine aN (λ_=>?_) (λ_=>?_)
 ·have:=po x.2;split
  ·exact S0 _ (by dsimp only;omega) rfl rfl rfl rfl
  ·exact S0 _ (by dsimp only;omega) rfl rfl rfl rfl
 refine aN (λ_=>⟨fo _ _,az,fo _ _,fo _ _,rfl⟩) (λ_=>?_);refine aN (λ_=>?_) (λ_=>?_)
 ·unfold qR;split
  ·exact⟨fo _ _,by simp[lF];omega,fo _ _,fo _ _,rfl⟩
  ·exact⟨fo _ _,az,fo _ _,fo _ _,rfl⟩
 refine aN (λ_=>?_) (λ_=>?_)
 ·unfold qS;split
  ·exact⟨by simp[lF,Rn.pop];omega,by simp[lF,Rn.pop];omega,fo _ _,fo _ _,rfl⟩
  ·exact⟨by simp[Rn.pop];omega,fo _ _,fo _ _,fo _ _,rfl⟩
 refine aN (λ_=>⟨by simp[CI,Rn.pop,Rn.note];omega,fo _ _,fo _ _,by simp[CI,Rn.pop,Rn.note],rfl⟩) (λ_=>?_);refine aN (λ_=>?_) (λ_=>?_)
 ·unfold rz;split
  ·exact JP
  ·exact VW
 refine aN (λ_=>?_) (λ_=>?_)
 ·unfold mh;split
  ·exact JP
  ·exact VW
 refine aN (λ_=>?_) (λ_=>?_)
 ·unfold oP;split
  ·exact Me
  ·exact pQ.grow bz
 refine aN (λ_=>?_) (λ_=>?_)
 ·unfold wU;split
  ·exact Me
  ·exact(BE.trans pQ).grow bz
 refine aN (λ_=>?_) (λ_=>?_)
 ·unfold oQ;split
  ·exact Me
  ·split
   ·exact BE.grow bz
   ·exact Me
 refine aN (λ_=>fC.grow bz) (λ_=>?_);refine aN (λ_=>oU.grow bz) (λ_=>?_);refine aN (λ_=>⟨fo _ _,fo _ _,by simp[fU],fo _ _,rfl⟩) (λ_=>?_);refine aN (λ_=>S0 _ (fo _ _) rfl rfl rfl rfl) (λ_=>?_);refine aN (λ_=>?_) (λ_=>?_)
 ·unfold qu;dsimp only;split
  ·exact(fC.trans oU).grow bz
  ·exact fC.grow bz
 refine aN (λ_=>?_) (λ_=>?_)
 ·unfold qw;dsimp only;split
  ·have h1:=fC (S:=aB p c) (x:=x) (q:=N i.a) (e:=N i.b);have h2:=oU (S:=aB p c) (x:=fU (bh (aB p c) x (N i.a) (N i.b)).1) (q:=N i.c) (e:=N i.d);refine⟨?_,?_,?_,?_,?_⟩
   ·rw[h2.stack];show(bh (aB p c) x (N i.a) (N i.b)).1.2.stack.length<=_;rw[h1.stack];omega
   ·rw[h2.loops];show(bh (aB p c) x (N i.a) (N i.b)).1.2.loops.length<=_;rw[h1.loops];omega
   ·rw[h2.told];show((bh (aB p c) x (N i.a) (N i.b)).1.2.told++_).length<=_;rw[h1.told];simp
   ·have a:=h2.bI;have b:=h1.bI;have e:(fU (bh (aB p c) x (N i.a) (N i.b)).1).2.bI=(bh (aB p c) x (N i.a) (N i.b)).1.2.bI:=rfl;rw[e]at a;omega
   ·rw[h2.key];exact h1.key
  ·exact fC.grow bz
 refine aN (λ_=>?_) (λ_=>?_)
 ·unfold qx;dsimp only;split
  ·have h1:=fC (S:=aB p c) (x:=x) (q:=N i.a) (e:=N i.b);refine⟨?_,?_,?_,?_,h1.key⟩
   ·show(bh (aB p c) x (N i.a) (N i.b)).1.2.stack.length<=_;rw[h1.stack];omega
   ·show(bh (aB p c) x (N i.a) (N i.b)).1.2.loops.length<=_;rw[h1.loops];omega
   ·show((bh (aB p c) x (N i.a) (N i.b)).1.2.told++_).length<=_;rw[h1.told];simp
   ·show(bh (aB p c) x (N i.a) (N i.b)).1.2.bI.length<=_;have:=h1.bI;omega
  ·exact fC.grow bz
 ·unfold uE;dsimp only;split
  ·have h1:=fC (S:=aB p c) (x:=x) (q:=N i.a) (e:=N i.b);exact yU.grow (k:=1) ⟨h1.stack,h1.loops,h1.told,h1.bI,h1.key⟩ bz
  ·exact fC.grow bz
def yV{p:aU}{c:Cp}{x:SR}{n:Nat}(h:Small n x.2):Small (n+1) (eC p c x).2:=by
 have g:=BG p c (ak p x.2.at_) (x.1,bQ x.2);have g1:=g.stack;have g2:=g.loops;have g3:=g.told;have g4:=g.bI;have k1:=h.stack;have k2:=h.loops;have k3:=h.told;have k4:=h.bI;refine⟨bS g1 ?_,bS g2 ?_,bS g3 ?_,bS g4 ?_⟩
 ·show x.2.stack.length+1<=_;omega
 ·show x.2.loops.length+1<=_;omega
 ·show x.2.told.length+1<=_;omega
 ·show x.2.bI.length+2<=_;omega
variable {p:aU}{c:Cp}{T:Map}{s0 s:St}{r:Rn}{st:Std}
def yW(E:Env p c T)(C:fJ p T r st):1<=left p r st:=by
 unfold left;split
 ·unfold lI;omega
 ·next tL=>
  have h1:=λh=>yO C.jG h;have hj:=C.jG.jumps;rw[ES C.lt (λh=>by have:=h1 G;omega) (λh=>by
   unfold cZ at hj;rw[ax G,aE h]at hj;simp at hj;obtain⟨st1,hr⟩:=E.sX.all _ hj.1;have:=BD E hr hj.2;omega)]
  unfold iW;dsimp only;split
  ·omega
  split
  ·omega
  split
  ·omega
  split<;>omega
def rF{y:SR}(h:¬kF y=true):y.2.bG=0/\y.2.done=false:=by unfold kF at h;simp at h;exact⟨h.2,by simpa using h.1⟩
def Zy(E:Env p c T):∀(f n:Nat) (s:St) (r:Rn) (st:Std),fJ p T r st->fI (aB p c) p.vars.length s0 (s,r)->Small n r->left p r st<=f->
 let z:=kB p c f (s,r)
 fI (aB p c) p.vars.length s0 z.2/\kF z.2=true/\1<=z.1/\z.1<=f/\0<=z.2.2.bG/\z.2.2.bG<=3/\Small (n+z.1) z.2.2/\z.2.2.key=r.key:=by
 intro f
 induction f with
 |zero=>intro n s r st C a0g Q hf;have:=yW E C;omega
 |succ f ih=>
  intro n s r st C a0g Q hf;have hs:=CP E C a0g;have hq:=yV (p:=p) (c:=c) (x:=(s,r)) Q;have hk:(eC p c (s,r)).2.key=r.key:=(BG p c (ak p r.at_) (s,bQ r)).key;unfold kB;by_cases h:kF (eC p c (s,r))=true
  ·rw[aE h];exact⟨hs.hold,h,aL _,az,hs.tr.1,hs.tr.2,hq,hk⟩
  ·rw[ax h];obtain⟨h1,h2⟩:=rF h;obtain⟨st',C'⟩:=hs.next h1 h2;have hl:=tO E C C';have hz:=ih (n+1) (eC p c (s,r)).1 (eC p c (s,r)).2 st' C' hs.hold hq (bS (by show left p (eC p c (s,r)).2 st'<=left p r st-1;exact Nat.le_sub_of_add_le hl) G);change fI _ _ _ (kB p c f (eC p c (s,r))).2/\kF (kB p c f (eC p c (s,r))).2=true/\1<=(kB p c f (eC p c (s,r))).1/\(kB p c f (eC p c (s,r))).1<=f/\0<=(kB p c f (eC p c (s,r))).2.2.bG/\(kB p c f (eC p c (s,r))).2.2.bG<=3/\Small (n+1+(kB p c f (eC p c (s,r))).1) (kB p c f (eC p c (s,r))).2.2/\(kB p c f (eC p c (s,r))).2.2.key=_ at hz;obtain⟨z1,z2,z3,z4,z5,z6,z7,z8⟩:=hz;refine⟨z1,z2,by dsimp only;omega,by dsimp only;omega,z5,z6,?_,z8.trans hk⟩;rw[show n+((kB p c f (eC p c (s,r))).1+1)=n+1+(kB p c f (eC p c (s,r))).1 by omega];exact z7
def Pf(p:aU)(c:Cp)(s:St)(key:Nat):Int:=match s.f key with|none=>p.aV|some n=>p.on.getD (SP (aB p c) s.a n) 0
def qY(p:aU)(c:Cp)(s:St)(key:Nat):Bool:=match s.f key with|none=>false|some n=> !(p.ap.getD (SP (aB p c) s.a n) false)
def eN(key a:Nat):Rn:=⟨key,a,[],[],none,[],0,[],false⟩
def iZ:Nat:=20000
def nM(p:aU)(c:Cp)(s:St)(key:Nat):Nat×SR:=if Pf p c s key<0 then(0,(s,eN key 0))else kB p c iZ (s,eN key (Pf p c s key).toNat)
def eQ(p:aU)(c:Cp)(s:St)(key:Nat):Int:=(nM p c s key).2.2.bG
def fD(p:aU)(c:Cp)(s:St)(key:Nat):St:=if eQ p c s key=0 then(nM p c s key).2.1 else s
def gu(p:aU)(c:Cp)(s:St)(key:Nat):List Nat:=(nM p c s key).2.2.told
def oV(p:aU):Prop:=∀n,n∈p.on++[p.aV]->b_ p n<=iZ
def yf(E:Env p c T){a:Int}(ha:a∈p.on++[p.aV])(h0:0<=a)(key:Nat):fJ p T (eN key a.toNat) ⟨[],[],0⟩:=by
 have hT:=E.sX.yH a ha h0;obtain⟨tb,-⟩:=cO E.check;have be:a.toNat<p.code.length:=by
  rcases List.mem_append.1 ha with h|h
  ·have:=tb.ons a h;omega
  ·simp at h;have:=tb.aV;omega
 obtain⟨st,hr⟩:=E.sX.all _ be;have e:st=⟨[],[],0⟩:=by have:=hr.at_;rw[hT]at this;exact(fT this).symm
 subst e;refine⟨be,hr,trivial,?_,λn hn=>by simp[eN]at hn,⟨λ_=>rfl,λ_=>rfl⟩,rfl,rfl⟩;show 0=0+_;have tL:(ak p a.toNat).op≠25:=by
  intro tL;have hj:=hr.jumps;unfold cZ at hj;split at hj
  ·simp at hj
  rw[ax G]at hj;simp only[fh,fj,Bool.not_eq_true']at hj;rw[Int.toNat_of_nonneg h0]at hj;rcases List.mem_append.1 ha with h|h
  ·have:p.on.contains a=true:=by simpa using h
   rw[this]at hj;simp at hj
  ·simp at h;exact hj.1.2 h.symm
 show 0=0+(if(ak p a.toNat).op=25 then 1 else 0);rw[ax tL]
def at_mem(E:Env p c T)(hI:Inv (aB p c) s)(key:Nat):Pf p c s key∈p.on++[p.aV]:=by
 unfold Pf;cases hf:s.f key with
 |none=>simp
 |some n=>
  obtain⟨q,hq,hn,-⟩:=(hI.idx key n).1 hf;dsimp only;rw[jy hI.wf hq hn];obtain⟨tb,-⟩:=cO E.check;have Ol:q<p.on.length:=by rw[tb.on];exact hq
  rw[dQ,ft Ol];simp[il]
def uL{S:Sys}{nv:Nat}(hI:Inv S s){key:Nat}(hk:key<18446744073709551616)(a:Nat):fI S nv s (s,eN key a):=
 ⟨hI,rfl,λx hx=>by simp[eN]at hx,hk,λk hk=>by simp[eN]at hk⟩
def yX(E:Env p c T)(hS:oV p){a:Int}(ha:a∈p.on++[p.aV])(h0:0<=a)(key:Nat):left p (eN key a.toNat) ⟨[],[],0⟩<=iZ:=by
 have C:=yf E ha h0 key;have tL:(ak p a.toNat).op≠25:=by intro h;have:=C.loops;rw[show(eN key a.toNat).at_=a.toNat from rfl,aE h]at this;simp[eN]at this
 have hv:=hS a ha;unfold b_ at hv;rw[ax G,Mc]at hv;rw[fk (y:=eN key a.toNat) tL];show jd p a.toNat+0<=_;unfold iZ MS at*;omega
def Pg(E:Env p c T)(hS:oV p)(hI:Inv (aB p c) s){key:Nat}(hk:key<18446744073709551616):
 let z:=nM p c s key
 fI (aB p c) p.vars.length s z.2/\z.1<=iZ/\0<=z.2.2.bG/\z.2.2.bG<=3/\Small z.1 z.2.2/\z.2.2.key=key:=by
 unfold nM;have ha:=at_mem E hI key;by_cases h:Pf p c s key<0
 ·rw[aE h];exact⟨uL hI hk 0,Nat.zero_le _,Int.le_refl 0,show(0:Int)<=3 by decide,⟨aL _,aL _,aL _,aL _⟩,rfl⟩
 ·rw[ax h];obtain⟨z1,z2,z3,z4,z5,z6,z7,z8⟩:=Zy (s0:=s) E iZ 0 s _ _ (yf E ha G key) (uL hI hk _) ⟨aL _,aL _,aL _,aL _⟩ (yX E hS ha G key);exact⟨z1,z4,z5,z6,by simpa using z7,z8⟩
def rG(E:Env p c T)(hS:oV p)(hI:Inv (aB p c) s){key:Nat}(hk:key<18446744073709551616):Inv (aB p c) (fD p c s key):=by
 unfold fD;split
 ·exact(Pg E hS hI hk).1.inv
 ·exact hI
def gR(p:aU)(c:Cp)(s:St)(key:Nat):St:=match s.f key with|none=>s|some n=>fH (aB p c) s (SP (aB p c) s.a n) n
def gV(p:aU)(c:Cp)(s:St)(key:Nat):Int:=match s.f key with|none=>0|some n=>if p.ap.getD (SP (aB p c) s.a n) false then 2 else 1
def Ik{p:aU}{c:Cp}(hI:Inv (aB p c) s)(key:Nat):Inv (aB p c) (gR p c s key):=by
 unfold gR;cases hf:s.f key with
 |none=>exact hI
 |some n=>obtain⟨q,hq,hn,-⟩:=(hI.idx key n).1 hf;dsimp only;rw[jy hI.wf hq hn];exact jF hI hq hn
end
end al.Vm
