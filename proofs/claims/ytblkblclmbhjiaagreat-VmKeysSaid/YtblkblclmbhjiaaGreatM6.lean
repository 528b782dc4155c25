import Derived.Test.YtblkblclmbhjiaaGreatM5
set_option linter.unusedVariables false
set_option linter.unusedSimpArgs false
set_option maxHeartbeats 40000000
set_option maxRecDepth 100000
open Go.Proofs.Tryz
abbrev af2:=@List.mem_append
abbrev afV:=@List.mem_cons
theorem agQ {p:Prop} (h:p:=by
 exact fun i u hu=>(h.r.NS i u hu).aB F mR):p:=h
abbrev agt:=@List.getElem?_append
theorem agG {p:Prop} (h:p:=by
 rw [<-hb] at mT;obtain ⟨rfl,fB⟩:=mT;go_wp2;exact afI (afT rfl _ _ _) rfl ⟨rfl,fB⟩):p:=h
namespace Go.Proofs.YtblkblclmbhjiaaGreat.Ix
open Go.RowKit ak
open S4 (ny vD sK)
def cL (w:World) (b s az count:Nat) (f:Nat->Option Nat):Prop:=
 ∃(n e:Nat) (S:Tb Value),dH w b s az count n (dB (ι 0) S)/\ny n count az e S/\(∀k v,f k=some v↔∃p,p < n/\S p=some (k,ι (v:Nat)))/\∀p k u,p < n->S p=some (k,u)->∃v:Nat,u=ι v
section
variable {w w':World} {b s az count:Nat} {f:Nat->Option Nat}
theorem cL.aB {T:List Nat} (h:cL w b s az count f) (g:da T w w') (hs:b∉T/\s∉T):cL w' b s az count f:=by obtain ⟨n,e,S,h1,h2⟩:=h;exact ⟨n,e,S,h1.aB g hs.1 hs.2,h2⟩
theorem cL.later (h:cL w b s az count f) (g:Below w.heap.size w w'):cL w' b s az count f:=h.aB (da.ah (S:=[]) g) smm
theorem cL.drewN (h:cL w b s az count f) (m:Nat):cL (w.drewN m) b s az count f:=by obtain ⟨n,e,S,h1,h2⟩:=h;exact ⟨n,e,S,h1.drewN m,h2⟩
theorem Lb {n count az e:Nat} {S:Tb Value} (T:ny n count az e S) {k k':Nat} {u:Value} (h:S (find n S k)=some (k',u)):k'=k:=by obtain ⟨em,oN,il⟩:=T.wU;exact AO (pB oN il k).1 h
theorem pI {n count az e:Nat} {S:Tb Value} (T:ny n count az e S) (hf:∀k v,f k=some v↔∃p,p < n/\S p=some (k,ι (v:Nat))) {k v:Nat} (h:f k=some v):S (find n S k)=some (k,ι v):=by obtain ⟨em,oN,il⟩:=T.wU;obtain ⟨p,hp,hs⟩:=(hf k v).1 h;rw [T.inv.yN oN il hp hs];exact hs
theorem nz {n count az e:Nat} {S:Tb Value} (T:ny n count az e S) (hf:∀k v,f k=some v↔∃p,p < n/\S p=some (k,ι (v:Nat))) (hn:∀p k u,p < n->S p=some (k,u)->∃v:Nat,u=ι v) {k:Nat} (h:f k=none):S (find n S k)=none:=by
 cases hs:S (find n S k) with
 |none=>rfl
 |some x=>obtain ⟨k',u⟩:=x;have hk:=Lb T hs;subst hk;have a8:=iQ T.pos S k';obtain ⟨v,rfl⟩:=hn _ _ _ a8 hs;have:=(hf k' v).2 ⟨_,a8,hs⟩;rw [h] at this;simp at this
theorem pJ (h:cL w b s az count f) {key v:Nat} (hk:f key=some v):Calls prog 59 #[ρ b,.int .u64 key] w fun r w'=>r= .returned (.tuple #[ι v,.bool true])/\∃m,w'=w.drewN m:=by
 obtain ⟨n,e,S,h1,T,hf,hn⟩:=h;obtain ⟨em,oN,il⟩:=T.wU;have:=gP.xM h1 T.fit.Sk oN il key;have hc:dB (ι 0) S (find n S key)=(true,key,ι v):=by unfold dB;rw [pI T hf hk]
 rw [hc] at this;exact this
theorem yk (h:cL w b s az count f) {key:Nat} (hk:f key=none):Calls prog 59 #[ρ b,.int .u64 key] w fun r w'=>r= .returned (.tuple #[ι 0,.bool false])/\∃m,w'=w.drewN m:=by
 obtain ⟨n,e,S,h1,T,hf,hn⟩:=h;obtain ⟨em,oN,il⟩:=T.wU;have:=gP.xM h1 T.fit.Sk oN il key;have hc:dB (ι 0) S (find n S key)=(false,0,ι 0):=by unfold dB;rw [nz T hf hn hk]
 rw [hc] at this;exact this
theorem Lc (h:cL w b s az count f) {key v:Nat} (hk:f key=none) (hc:count < az):Calls prog 307 #[ρ b,.int .u64 key,ι v] w fun r w'=>r= .returned (ι 0)/\da [b,s] w w'/\cL w' b s az (count+1) (Vm.aL f key (some v)):=by
 obtain ⟨n,e,S,h1,T,hf,hn⟩:=h;obtain ⟨em,oN,il⟩:=T.wU;have ht:=nz T hf hn hk;have uR:=T.fit.ge;refine (gP.O6 h1 T.fit.Sk oN il key v hc omm ht).mono ?_;rintro r w' ⟨rfl,g,h2⟩;have a8:=iQ T.pos S key;have Da:∀p,putAt n S key (ι (v:Nat)) p=if p=find n S key then some (key,ι (v:Nat)) else S p:=fun p=>rfl;refine ⟨rfl,g,n,e,_,h2,⟨T.inv.put oN il key _,by rw [wV T.pos ht,T.cR],omm,T.fit,vD T.int⟩,fun k x=>?_,fun p k u hp hs=>?_⟩
 ·show (if k=key then some v else f k)=some x↔_;by_cases e1:k=key
  ·subst e1;rw [afE rfl];constructor
   ·intro h3;have:v=x:=af0 h3;subst this;exact ⟨_,a8,by rw [Da,afE rfl]⟩
   ·rintro ⟨p,hp,h3⟩;rw [Da] at h3;split at h3
    ·simp at h3;rw [show v=x by omega]
    ·have:=(hf k x).2 ⟨p,hp,h3⟩;rw [hk] at this;simp at this
  ·rw [abH e1,hf];constructor
   ·rintro ⟨p,hp,h3⟩;refine ⟨p,hp,?_⟩;rw [Da,abH]
    ·exact h3
    ·intro e2;rw [e2,ht] at h3;simp at h3
   ·rintro ⟨p,hp,h3⟩;rw [Da] at h3;split at h3
    ·simp at h3;exact absurd h3.1.symm e1
    ·exact ⟨p,hp,h3⟩
 ·rw [Da] at hs;split at hs
  ·simp at hs;exact ⟨v,hs.2.symm⟩
  ·exact hn p k u hp hs
theorem qK (h:cL w b s az (count+1) f) {key v:Nat} (hk:f key=some v):Calls prog 66 #[ρ b,.int .u64 key] w fun r w'=>r= .returned (.tuple #[ι v,.bool true])/\da [b,s] w w'/\cL w' b s az count (Vm.aL f key none):=by
 obtain ⟨n,e,S,h1,T,hf,hn⟩:=h;obtain ⟨em,oN,il⟩:=T.wU;have ht:=pI T hf hk;have a8:=iQ T.pos S key;have OI:=T.lt;refine (gP.Ib h1 T.fit.Sk T.inv omm oN il key ht T.int).mono ?_;rintro r w' ⟨rfl,g,h2⟩;have bz:find n S key≠em:=fun e'=>by rw [e',il] at ht;simp at ht
 have hD:=xD.start T.inv a8 oN il bz;have eG:=Dx n (ak.aL S (find n S key) none) (find n S key) (nx n (find n S key)) em hD (Nat.le_of_lt (qZ (jf a8) oN));have iS:=Dz T.inv a8 oN il (by rw [ht];simp);refine ⟨rfl,g,n,e,_,h2,⟨(Dw T.inv a8 oN il bz).1,by rw [T.cR] at iS;omega,by have:=T.le;omega,T.fit,sK T.int⟩,fun k x=>?_,fun p k u hp hs=>?_⟩
 ·show (if k=key then none else f k)=some x↔∃p,p < n/\ke n S (find n S key) p=some (k,ι (x:Nat));rw [show (∃p,p < n/\ke n S (find n S key) p=some (k,ι (x:Nat)))↔_ from eG (k,ι (x:Nat))];have hu:∀p,ak.aL S (find n S key) none p=if p=find n S key then none else S p:=fun p=>rfl;by_cases e1:k=key
  ·subst e1;rw [afE rfl];constructor
   ·intro h3;simp at h3
   ·rintro ⟨p,hp,h3⟩;rw [hu] at h3;split at h3
    ·simp at h3
    ·next hpn=>exact absurd (T.inv.yN oN il hp h3).symm hpn
  ·rw [abH e1,hf];constructor
   ·rintro ⟨p,hp,h3⟩;refine ⟨p,hp,?_⟩;rw [hu,abH]
    ·exact h3
    ·intro e2;rw [e2,ht] at h3;simp at h3;exact e1 h3.1.symm
   ·rintro ⟨p,hp,h3⟩;rw [hu] at h3;split at h3
    ·simp at h3
    ·exact ⟨p,hp,h3⟩
 ·obtain ⟨p',hp',h3⟩:=(eG (k,u)).1 ⟨p,hp,hs⟩;have hu:ak.aL S (find n S key) none p'=if p'=find n S key then none else S p':=rfl;rw [hu] at h3;split at h3
  ·simp at h3
  ·exact hn p' k u hp' h3
theorem D8 (h:cL w b s az count f) {key:Nat} (hk:f key=none):Calls prog 66 #[ρ b,.int .u64 key] w fun r w'=>r= .returned (.tuple #[ι 0,.bool false])/\∃m,w'=w.drewN m:=by obtain ⟨n,e,S,h1,T,hf,hn⟩:=h;obtain ⟨em,oN,il⟩:=T.wU;exact gP.Ia h1 T.fit.Sk oN il key (nz T hf hn hk)
theorem aai (az:Nat) (w:World) (hm:az<=4194304):Calls prog 57 #[ι az] w fun r w'=>r= .returned (.tuple #[ρ (w.heap.size+1),ι 0])/\da [] w w'/\cL w' (w.heap.size+1) w.heap.size az 0 (fun _=>none)/\w'.heap.size=w.heap.size+2:=by
 refine (gP.Bs az w hm).mono ?_;rintro r w' ⟨rfl,n,e,F,h1,g,hz⟩;refine ⟨rfl,g,⟨n,e,_,h1,⟨Inv.empty _,JO _,Nat.zero_le _,F,fun i k u h=>by simp at h⟩,fun k v=>?_,fun p k u _ h=>by simp at h⟩,hz⟩;constructor
 ·intro h;simp at h
 ·rintro ⟨p,_,h⟩;simp at h
end
end Go.Proofs.YtblkblclmbhjiaaGreat.Ix
namespace Go.Proofs.YtblkblclmbhjiaaGreat.Ma
open Go.RowKit ak.Vm
open ak hiding aL an aj
open dT (bP bG)
open Ix (cL)
def vb (v:Value):List Nat:=v.ownBlock.toList
theorem aK {v:Value} {b:Nat}:b∈vb v↔v.ownBlock=some b:=by unfold vb;simp
structure Co where
 mb:Nat
 ab:Nat
 xb:Nat
 xs:Nat
 V:Value
 L:Value
 vs:Value
structure Ru where
 rb:Nat
 jJ:Value
 je:Value
 kF:Value
 i_:Value
def Co.l (C:Co):List Nat:=C.mb::C.xb::C.xs::(bp C.ab C.V C.L++vb C.vs)
def Ru.l (U:Ru):List Nat:=U.rb::(vb U.jJ++vb U.je++vb U.kF++vb U.i_)
structure Kc where
 g:Value
 v:Value
 t:Value
 o:Value
 c:Value
 qs:Value
 nd:Nat
 steps:Nat->Value
def dx (p:aO) (o:Nat):Value:=let x:=p.vars.getD (o / 3) ⟨0,0,0⟩;if o % 3=0 then ι x.init else if o % 3=1 then ι x.lo else ι x.hi
def bQ (p:aO) (o:Nat):Value:=
 let x:=codeAt0 p (o / 5)
 if o % 5=0 then ι x.op else if o % 5=1 then ι x.a else if o % 5=2 then ι x.b else if o % 5=3 then ι x.c else ι x.d
where codeAt0 (p:aO) (n:Nat):Ins:=p.code.getD n ⟨0,0,0,0,0⟩
def aU (l:List Int) (o:Nat):Value:=ι (l.getD o 0)
structure fI where
 gY:Int
 bt:Int
 fS:Int
 ud:Int
def rD (K:Kc) (C:Co) (p:aO) (c:Cp) (total:Int) (t:fI) (used:Int) (rv:Value):Array Value:=
 #[K.g,K.v,K.t,K.o,ι p.aJ,K.c,ι c.size,K.qs,ι K.nd,ρ C.ab,ρ C.xb,C.vs,ι total,
   ι t.gY,ι t.bt,ι t.fS,ι t.ud,ι used,
   K.steps 0,K.steps 1,K.steps 2,K.steps 3,K.steps 4,K.steps 5,K.steps 6,K.steps 7,K.steps 8,K.steps 9,K.steps 10,K.steps 11,K.steps 12,K.steps 13,K.steps 14,K.steps 15,K.steps 16,K.steps 17,K.steps 18,K.steps 19,K.steps 20,
   K.steps 21,K.steps 22,K.steps 23,K.steps 24,K.steps 25,K.steps 26,K.steps 27,K.steps 28,K.steps 29,K.steps 30,K.steps 31,K.steps 32,K.steps 33,K.steps 34,K.steps 35,K.steps 36,K.steps 37,K.steps 38,K.steps 39,K.steps 40,K.steps 41,rv]
section
variable {w:World} {b:Nat} {T:TypeId} {K:Kc} {C:Co} {p:aO} {c:Cp} {n:Int} {t:fI} {u:Int} {rv:Value} (h:ay w b T (rD K C p c n t u rv))
include h
theorem mc4:w.cell? (π b 4)=some (ι p.aJ):=h.cell 4
theorem mc9:w.cell? (π b 9)=some (ρ C.ab):=h.cell 9
theorem ag3:w.cell? (π b 10)=some (ρ C.xb):=h.cell 10
theorem agS:w.cell? (π b 60)=some rv:=h.cell 60
end
structure qL (w:World) (K:Kc) (p:aO) (c:Cp) (RO:List Nat):Prop where
 g:Row w 4 1 K.g p.ap.length (fun i=> .bool (p.ap.getD i false))
 v:Row w 122 3 K.v p.vars.length (dx p)
 t:Row w 3 1 K.t p.aW.length (aU p.aW)
 o:Row w 3 1 K.o p.on.length (aU p.on)
 cd:Row w 40 5 K.c p.code.length (bQ p)
 qs:Row w 3 1 K.qs c.aI.length (aU c.aI)
 ro:∀b,(b∈vb K.g\/b∈vb K.v\/b∈vb K.t\/b∈vb K.o\/b∈vb K.c\/b∈vb K.qs)->b∈RO
theorem qL.aB {w w':World} {K:Kc} {p:aO} {c:Cp} {RO S:List Nat} (h:qL w K p c RO) (f:da S w w') (hs:∀b,b∈RO->b∉S):qL w' K p c RO:=
 ⟨h.g.aB f fun b hb=>hs b (h.ro b (.inl (aK.2 hb))),h.v.aB f fun b hb=>hs b (h.ro b (.inr (.inl (aK.2 hb)))),h.t.aB f fun b hb=>hs b (h.ro b (.inr (.inr (.inl (aK.2 hb))))),
   h.o.aB f fun b hb=>hs b (h.ro b (.inr (.inr (.inr (.inl (aK.2 hb)))))),h.cd.aB f fun b hb=>hs b (h.ro b (.inr (.inr (.inr (.inr (.inl (aK.2 hb))))))),h.qs.aB f fun b hb=>hs b (h.ro b (.inr (.inr (.inr (.inr (.inr (aK.2 hb))))))),h.ro⟩
theorem qL.more {w:World} {K:Kc} {p:aO} {c:Cp} {RO RO':List Nat} (h:qL w K p c RO) (hs:∀b,b∈RO->b∈RO'):qL w K p c RO':=
 ⟨h.g,h.v,h.t,h.o,h.cd,h.qs,fun b hb=>hs b (h.ro b hb)⟩
def eS (p:aO) (a:Nd):Nat:=cF p.ap.length fun q=>(a.ls q).length
structure oX (w:World) (C:Co) (RO:List Nat) (K:Kc) (p:aO) (c:Cp) (s:St) (t:fI) (used:Int) (rv:Value):Prop where
 aM:ay w C.mb 113 (rD K C p c s.total t used rv)
 prog:qL w K p c RO
 ar:bP w C.ab C.V C.L K.nd p.ap.length s.a
 ix:cL w C.xb C.xs K.nd (eS p s.a) s.f
 vs:Row w 3 1 C.vs p.vars.length (fun i=> ι (s.vars i))
theorem oX.aB {w w':World} {C:Co} {RO S:List Nat} {K:Kc} {p:aO} {c:Cp} {s:St} {t:fI} {used:Int} {rv:Value} (h:oX w C RO K p c s t used rv) (f:da S w w') (hs:∀b,b∈C.l->b∉S) (hr:∀b,b∈RO->b∉S):oX w' C RO K p c s t used rv:=
 ⟨h.aM.aB f (hs _ (by simp [Co.l])),h.prog.aB f hr,h.ar.aB f (fun b hb=>hs b (by simp [Co.l,hb])),h.ix.aB f ⟨hs _ (by simp [Co.l]),hs _ (by simp [Co.l])⟩,h.vs.aB f fun b hb=>hs b (by simp [Co.l,aK.2 hb])⟩
theorem oX.more {w:World} {C:Co} {RO RO':List Nat} {K:Kc} {p:aO} {c:Cp} {s:St} {t:fI} {used:Int} {rv:Value} (h:oX w C RO K p c s t used rv) (hs:∀b,b∈RO->b∈RO'):oX w C RO' K p c s t used rv:=
 ⟨h.aM,h.prog.more hs,h.ar,h.ix,h.vs⟩
def aH (x:eW):Array Value:=#[.int .u64 x.key,ι (x.tg 0),ι (x.tg 1),ι (x.tg 2),ι (x.tg 3)]
def fK (w:World) (mb:Nat) (RO:List Nat) (v:Value):sm->Prop
 | .var i oE=>∃(x1 x2 x3:Nat) (op b c d:Int),v= .func (.func 215) #[] #[.pointer (some ⟨x1,0,none⟩),.pointer (some ⟨x2,0,none⟩),.pointer (some ⟨x3,0,none⟩)]/\
     ay w x1 3 #[ι oE]/\ay w x2 35 #[ρ mb]/\ay w x3 40 #[ι op,ι i,ι b,ι c,ι d]/\x1∈RO/\x2∈RO/\x3∈RO
 | .mark oE=>∃(x1 x2:Nat),v= .func (.func 269) #[] #[.pointer (some ⟨x1,0,none⟩),.pointer (some ⟨x2,0,none⟩)]/\
     ay w x1 35 #[ρ mb]/\ay w x2 118 (aH oE)/\x1∈RO/\x2∈RO
 | .cut q e=>∃(x1 x2 x3:Nat),v= .func (.func 271) #[] #[.pointer (some ⟨x1,0,none⟩),.pointer (some ⟨x2,0,none⟩),.pointer (some ⟨x3,0,none⟩)]/\
     ay w x1 35 #[ρ mb]/\ay w x2 3 #[ι q]/\ay w x3 3 #[ι e]/\x1∈RO/\x2∈RO/\x3∈RO
 | .put q e x=>∃(x1 x2 x3 x4:Nat),v= .func (.func 275) #[] #[.pointer (some ⟨x1,0,none⟩),.pointer (some ⟨x2,0,none⟩),.pointer (some ⟨x3,0,none⟩),.pointer (some ⟨x4,0,none⟩)]/\
     ay w x1 35 #[ρ mb]/\ay w x2 3 #[ι q]/\ay w x3 3 #[ι e]/\ay w x4 118 (aH x)/\x1∈RO/\x2∈RO/\x3∈RO/\x4∈RO
 | .out q x ahead=>∃(x1 x2 x3 x4:Nat) (av:Value),v= .func (.func 273) #[] #[.pointer (some ⟨x1,0,none⟩),.pointer (some ⟨x2,0,none⟩),.pointer (some ⟨x3,0,none⟩),.pointer (some ⟨x4,0,none⟩)]/\
     ay w x1 35 #[ρ mb]/\ay w x2 3 #[ι q]/\ay w x3 118 (aH x)/\ay w x4 24 #[av]/\Row w 3 1 av ahead.length (fun i=> ι (ahead.getD i 0:Nat))/\
     x1∈RO/\x2∈RO/\x3∈RO/\x4∈RO/\∀b,b∈vb av->b∈RO
theorem fK.aB {w w':World} {mb:Nat} {RO S:List Nat} {v:Value} {u:sm} (h:fK w mb RO v u) (f:da S w w') (hs:∀b,b∈RO->b∉S):fK w' mb RO v u:=by
 cases u with
 |var i oE=>obtain ⟨x1,x2,x3,op,b,c,d,h0,h1,h2,h3,r1,r2,r3⟩:=h;exact ⟨x1,x2,x3,op,b,c,d,h0,h1.aB f (hs _ r1),h2.aB f (hs _ r2),h3.aB f (hs _ r3),r1,r2,r3⟩
 |mark oE=>obtain ⟨x1,x2,h0,h1,h2,r1,r2⟩:=h;exact ⟨x1,x2,h0,h1.aB f (hs _ r1),h2.aB f (hs _ r2),r1,r2⟩
 |cut q e=>obtain ⟨x1,x2,x3,h0,h1,h2,h3,r1,r2,r3⟩:=h;exact ⟨x1,x2,x3,h0,h1.aB f (hs _ r1),h2.aB f (hs _ r2),h3.aB f (hs _ r3),r1,r2,r3⟩
 |put q e x=>obtain ⟨x1,x2,x3,x4,h0,h1,h2,h3,h4,r1,r2,r3,r4⟩:=h;exact ⟨x1,x2,x3,x4,h0,h1.aB f (hs _ r1),h2.aB f (hs _ r2),h3.aB f (hs _ r3),h4.aB f (hs _ r4),r1,r2,r3,r4⟩
 |out q x ahead=>obtain ⟨x1,x2,x3,x4,av,h0,h1,h2,h3,h4,h5,r1,r2,r3,r4,r5⟩:=h;exact ⟨x1,x2,x3,x4,av,h0,h1.aB f (hs _ r1),h2.aB f (hs _ r2),h3.aB f (hs _ r3),h4.aB f (hs _ r4),h5.aB f (fun b hb=>hs b (r5 b (aK.2 hb))),r1,r2,r3,r4,r5⟩
theorem fK.more {w:World} {mb:Nat} {RO RO':List Nat} {v:Value} {u:sm} (h:fK w mb RO v u) (hs:∀b,b∈RO->b∈RO'):fK w mb RO' v u:=by
 cases u with
 |var i oE=>obtain ⟨x1,x2,x3,op,b,c,d,h0,h1,h2,h3,r1,r2,r3⟩:=h;exact ⟨x1,x2,x3,op,b,c,d,h0,h1,h2,h3,hs _ r1,hs _ r2,hs _ r3⟩
 |mark oE=>obtain ⟨x1,x2,h0,h1,h2,r1,r2⟩:=h;exact ⟨x1,x2,h0,h1,h2,hs _ r1,hs _ r2⟩
 |cut q e=>obtain ⟨x1,x2,x3,h0,h1,h2,h3,r1,r2,r3⟩:=h;exact ⟨x1,x2,x3,h0,h1,h2,h3,hs _ r1,hs _ r2,hs _ r3⟩
 |put q e x=>obtain ⟨x1,x2,x3,x4,h0,h1,h2,h3,h4,r1,r2,r3,r4⟩:=h;exact ⟨x1,x2,x3,x4,h0,h1,h2,h3,h4,hs _ r1,hs _ r2,hs _ r3,hs _ r4⟩
 |out q x ahead=>obtain ⟨x1,x2,x3,x4,av,h0,h1,h2,h3,h4,h5,r1,r2,r3,r4,r5⟩:=h;exact ⟨x1,x2,x3,x4,av,h0,h1,h2,h3,h4,h5,hs _ r1,hs _ r2,hs _ r3,hs _ r4,fun b hb=>hs b (r5 b hb)⟩
def oY (w:World) (RO:List Nat) (v:Value):Option eW->Prop
 |none=>v= .slice none 0 0
 |some x=>∃b cap,v= .slice (some ⟨b,0,none⟩) 1 cap/\ay w b 118 (aH x)/\b∈RO
theorem oY.aB {w w':World} {RO S:List Nat} {v:Value} {x:Option eW} (h:oY w RO v x) (f:da S w w') (hs:∀b,b∈RO->b∉S):oY w' RO v x:=by
 cases x with
 |none=>exact h
 |some x=>obtain ⟨b,cap,h0,h1,h2⟩:=h;exact ⟨b,cap,h0,h1.aB f (hs _ h2),h2⟩
theorem oY.more {w:World} {RO RO':List Nat} {v:Value} {x:Option eW} (h:oY w RO v x) (hs:∀b,b∈RO->b∈RO'):oY w RO' v x:=by
 cases x with
 |none=>exact h
 |some x=>obtain ⟨b,cap,h0,h1,h2⟩:=h;exact ⟨b,cap,h0,h1,hs _ h2⟩
structure tI (w:World) (U:Ru) (mb:Nat) (RO:List Nat) (hv:Value) (jv:Nat->Value) (r:Rn):Prop where
 c_:ay w U.rb 126 #[.int .u64 r.key,ι r.at_,U.jJ,U.je,hv,U.kF,ι r.br,U.i_,.bool r.done]
 jJ:Row w 3 1 U.jJ r.stack.length (fun i=> ι (r.stack.reverse.getD i 0))
 je:Row w 3 1 U.je r.loops.length (fun i=> ι (r.loops.reverse.getD i 0))
 kF:Row w 46 1 U.kF r.told.length (fun i=> .int .u64 (r.told.getD i 0:Nat))
 i_:Row w 1 1 U.i_ r.bm.length jv
 NS:∀i u,r.bm.reverse[i]? =some u->fK w mb RO (jv i) u
 gm:oY w RO hv r.hand
theorem tI.aB {w w':World} {U:Ru} {mb:Nat} {RO S:List Nat} {hv:Value} {jv:Nat->Value} {r:Rn} (h:tI w U mb RO hv jv r) (f:da S w w') (hs:∀b,b∈U.l->b∉S) (hr:∀b,b∈RO->b∉S):tI w' U mb RO hv jv r:=
 ⟨h.c_.aB f (hs _ (by simp [Ru.l])),h.jJ.aB f (fun b hb=>hs b (by simp [Ru.l,aK.2 hb])),h.je.aB f (fun b hb=>hs b (by simp [Ru.l,aK.2 hb])),h.kF.aB f (fun b hb=>hs b (by simp [Ru.l,aK.2 hb])),h.i_.aB f (fun b hb=>hs b (by simp [Ru.l,aK.2 hb])),
   fun i u hu=>(h.NS i u hu).aB f hr,h.gm.aB f hr⟩
theorem tI.more {w:World} {U:Ru} {mb:Nat} {RO RO':List Nat} {hv:Value} {jv:Nat->Value} {r:Rn} (h:tI w U mb RO hv jv r) (hs:∀b,b∈RO->b∈RO'):tI w U mb RO' hv jv r:=
 ⟨h.c_,h.jJ,h.je,h.kF,h.i_,fun i u hu=>(h.NS i u hu).more hs,h.gm.more hs⟩
structure Sep (w:World) (C:Co) (U:Ru) (RO:List Nat):Prop where
 nd:(C.l++U.l).Nodup
 lt:∀b,b∈C.l++U.l->b < w.heap.size
 ro:∀b,b∈C.l++U.l->b∉RO
 cY:∀b,b∈RO->b < w.heap.size
theorem Sep.grow {w w':World} {C:Co} {U:Ru} {RO:List Nat} (h:Sep w C U RO) (hs:w.heap.size<=w'.heap.size):Sep w' C U RO:=
 ⟨h.nd,fun b hb=>afQ (h.lt b hb) hs,h.ro,fun b hb=>afQ (h.cY b hb) hs⟩
structure cD (w:World) (C:Co) (U:Ru) (RO:List Nat) (K:Kc) (p:aO) (c:Cp) (t:fI) (used:Int) (hv:Value) (jv:Nat->Value) (s:St) (r:Rn):Prop where
 m:oX w C RO K p c s t used (ρ U.rb)
 r:tI w U C.mb RO hv jv r
 sep:Sep w C U RO
theorem cD.later {w w':World} {C:Co} {U:Ru} {RO:List Nat} {K:Kc} {p:aO} {c:Cp} {t:fI} {used:Int} {hv:Value} {jv:Nat->Value} {s:St} {r:Rn} (h:cD w C U RO K p c t used hv jv s r) (b:Below w.heap.size w w'):cD w' C U RO K p c t used hv jv s r:=
 ⟨h.m.aB (da.ah (S:=[]) b) smm smm,h.r.aB (da.ah (S:=[]) b) smm smm,h.sep.grow b.size⟩
theorem cD.drewN {w:World} {C:Co} {U:Ru} {RO:List Nat} {K:Kc} {p:aO} {c:Cp} {t:fI} {used:Int} {hv:Value} {jv:Nat->Value} {s:St} {r:Rn} (h:cD w C U RO K p c t used hv jv s r) (n:Nat):cD (w.drewN n) C U RO K p c t used hv jv s r:=
 h.later (au _ _ n)
def zv (v v':Value):Prop:=∀b,b∈vb v->b∉vb v'
theorem zv.symm {v v':Value} (h:zv v v'):zv v' v:=fun b hb iN=>h b iN hb
theorem BD (v:Value):vb v=[]\/∃b,vb v=[b]:=by unfold vb;cases v.ownBlock<;>simp
theorem jw {A B:List Nat} {v v':Value} {n:Nat} (h:(A++(vb v++B)).Nodup) (hl:∀b,b∈A++(vb v++B)->b < n) (hs:∀b,b∈vb v'->b∈vb v\/n<=b):(A++(vb v'++B)).Nodup:=by
 rcases BD v' with e|⟨b,e⟩
 ·rw [e];refine h.sublist ?_;exact List.Sublist.append_left (List.Sublist.append_right (List.nil_sublist _) B) A
 ·rcases hs b (by rw [e];simp) with hb|hb
  ·rcases BD v with e'|⟨b',e'⟩
   ·rw [e'] at hb;simp at hb
   ·rw [e'] at hb;simp at hb;subst hb;rw [e,<-e'];exact h
  ·have hA:b∉A:=fun hx=>by have:=hl b (by simp [hx]);omega
   have hB:b∉B:=fun hx=>by have:=hl b (by simp [hx]);omega
   have h':(A++B).Nodup:=h.sublist (List.Sublist.append_left (List.sublist_append_right _ _) A);rw [e];rw [agj] at h' ⊢;refine ⟨h'.1,?_,?_⟩
   ·simp [hB,h'.2.1]
   ·intro x hx y hy;rcases List.mem_append.1 hy with hy|hy
    ·simp at hy;subst hy;intro e2;subst e2;exact hA hx
    ·exact h'.2.2 x hx y hy
structure Xo (U:Ru):Prop where
 s:U.rb∉vb U.jJ
 l:U.rb∉vb U.je
 t:U.rb∉vb U.kF
 j:U.rb∉vb U.i_
 sl:zv U.jJ U.je
 st:zv U.jJ U.kF
 sj:zv U.jJ U.i_
 lt:zv U.je U.kF
 lj:zv U.je U.i_
 tj:zv U.kF U.i_
theorem Ru.rel {U:Ru} (h:U.l.Nodup):Xo U:=by unfold Ru.l at h;rw [List.nodup_cons] at h;obtain ⟨h0,h⟩:=h;simp only [af2,not_or] at h0;rw [agj,agj,agj] at h;obtain ⟨⟨⟨-,-,h1⟩,-,h2⟩,-,h3⟩:=h;refine ⟨h0.1.1.1,h0.1.1.2,h0.1.2,h0.2,fun b hb hc=>h1 b hb b hc rfl,fun b hb hc=>h2 b (by simp [hb]) b hc rfl,fun b hb hc=>h3 b (by simp [hb]) b hc rfl,fun b hb hc=>h2 b (by simp [hb]) b hc rfl,fun b hb hc=>h3 b (by simp [hb]) b hc rfl,fun b hb hc=>h3 b (by simp [hb]) b hc rfl⟩
section
variable {w w':World} {C:Co} {U U':Ru} {RO RO':List Nat} {K:Kc} {p:aO} {c:Cp} {t:fI} {used:Int} {hv hv':Value} {jv jx:Nat->Value} {s:St} {r r':Rn}
theorem Sep.u (h:Sep w C U RO):Xo U:=Ru.rel (List.nodup_append.1 h.nd).2.1
theorem Sep.cu (h:Sep w C U RO) {b:Nat} (hb:b∈C.l):b∉U.l:=fun hc=>(List.nodup_append.1 h.nd).2.2 b hb b hc rfl
theorem Sep.ur (h:Sep w C U RO) {b:Nat} (hb:b∈RO):b∉U.l:=fun hc=>h.ro b (by simp [hc]) hb
theorem Sep.cr (h:Sep w C U RO) {b:Nat} (hb:b∈RO):b∉C.l:=fun hc=>h.ro b (by simp [hc]) hb
theorem Sep.uc (h:Sep w C U RO) {b:Nat} (hb:b∈U.l):b∉C.l:=fun hc=>h.cu hc hb
theorem cD.runs (h:cD w C U RO K p c t used hv jv s r) (f:da U.l w w') (lE:U'.rb=U.rb) (ho:∀b,b∈RO->b∈RO') (hn:∀b,b∈RO'->b∈RO\/(w.heap.size<=b/\b < w'.heap.size/\b∉U'.l))
 (hr:tI w' U' C.mb RO' hv' jx r') (gm:(C.l++U'.l).Nodup) (hu:∀b,b∈U'.l->(b∈U.l\/w.heap.size<=b)/\b < w'.heap.size):cD w' C U' RO' K p c t used hv' jx s r':=by
 refine ⟨?_,hr,gm,?_,?_,?_⟩
 ·rw [lE];exact (h.m.aB f (fun b hb=>h.sep.cu hb) (fun b hb=>h.sep.ur hb)).more ho
 ·intro b hb;rcases List.mem_append.1 hb with hb|hb
  ·exact afQ (h.sep.lt b (by simp [hb])) f.size
  ·exact (hu b hb).2
 ·intro b hb hc;rcases hn b hc with hc|⟨h1,h2,h3⟩
  ·rcases List.mem_append.1 hb with hb|hb
   ·exact h.sep.cr hc hb
   ·rcases (hu b hb).1 with hb|hb
    ·exact h.sep.ur hc hb
    ·have:=h.sep.cY b hc;omega
  ·rcases List.mem_append.1 hb with hb|hb
   ·have:=h.sep.lt b (by simp [hb]);omega
   ·exact h3 hb
 ·intro b hb;rcases hn b hb with hb|hb
  ·exact afQ (h.sep.cY b hb) f.size
  ·exact hb.2.1
theorem cD.iu (h:cD w C U RO K p c t used hv jv s r) (o:Nat) (v:Value) (hb:(#[.int .u64 r.key,ι r.at_,U.jJ,U.je,hv,U.kF,ι r.br,U.i_,.bool r.done]:Array Value).setIfInBounds o v=#[.int .u64 r'.key,ι r'.at_,U'.jJ,U'.je,hv',U'.kF,ι r'.br,U'.i_,.bool r'.done])
 (hU:U'=U) (e1:r'.stack=r.stack) (e2:r'.loops=r.loops) (e3:r'.told=r.told) (e4:r'.bm=r.bm) (hh:oY w RO hv' r'.hand):cD (w.setCell (π U.rb o) v) C U RO K p c t used hv' jv s r':=by
 subst hU;have F:da [U'.rb] w (w.setCell (π U'.rb o) v):=(da.refl _ w).setCell smm _;have F2:da U'.l w (w.setCell (π U'.rb o) v):=F.mono (by intro k hk;simp at hk;subst hk;simp [Ru.l]);have R:=h.sep.u;have mR:∀b,b∈RO->b∉[U'.rb]:=fun b hb=>by have:=h.sep.ur hb;simp [Ru.l] at this ⊢;exact this.1
 refine h.runs F2 rfl (fun b hb=>hb) (fun b hb=> .inl hb) ⟨?_,?_,?_,?_,?_,?_,?_⟩ h.sep.nd (fun b hb=>⟨.inl hb,afQ (h.sep.lt b (by simp [hb])) F.size⟩)
 ·rw [<-hb];exact h.r.c_.set o v
 ·rw [e1];exact h.r.jJ.aB F fun b hb=>by simp;rintro rfl;exact R.s (aK.2 hb)
 ·rw [e2];exact h.r.je.aB F fun b hb=>by simp;rintro rfl;exact R.l (aK.2 hb)
 ·rw [e3];exact h.r.kF.aB F fun b hb=>by simp;rintro rfl;exact R.t (aK.2 hb)
 ·rw [e4];exact h.r.i_.aB F fun b hb=>by simp;rintro rfl;exact R.j (aK.2 hb)
 ·rw [e4];exact fun i u hu=>(h.r.NS i u hu).aB F mR
 ·exact hh.aB F mR
theorem acb {p:Prop} (h:p:=by
 have:=h.sep.ur hb;simp [Ru.l] at this ⊢;simp [this]):p:=h
theorem aca {p:Prop} (h:p:=by
 have key:b∈U.l\/b∈vb v:=by simp only [Ru.l,afV,af2];rcases hb with hb|((hb|hb)|hb)|hb<;>simp [hb]
 rcases key with hb|hb
 ·exact ⟨.inl hb,kN b hb⟩
 ·refine ⟨?_,by simpa using a8 b hb⟩;rcases hs b hb with hb|hb
  ·exact .inl (by simp [Ru.l,hb])
  ·exact .inr hb):p:=h
theorem cD.jJ (h:cD w C U RO K p c t used hv jv s r) {v:Value} {l:List Int} (f:da (vb U.jJ) w w') (bq:Row w' 3 1 v l.length (fun i=> ι (l.reverse.getD i 0))) (hs:∀b,b∈vb v->b∈vb U.jJ\/w.heap.size<=b):cD (w'.setCell (π U.rb 2) v) C {U with jJ:=v} RO K p c t used hv jv s {r with stack:=l}:=by
 have R:=h.sep.u;have F:da (U.rb::vb U.jJ) w (w'.setCell (π U.rb 2) v):=(f.mono (by intro k hk;simp [hk])).setCell smm _;have F2:da U.l w (w'.setCell (π U.rb 2) v):=F.mono (by intro k hk;simp at hk;rcases hk with rfl|hk;simp [Ru.l];simp [Ru.l,hk]);have mR:∀b,b∈RO->b∉U.rb::vb U.jJ:=fun b hb=>by exact acb
 have hblk:ay w' U.rb 126 #[.int .u64 r.key,ι r.at_,U.jJ,U.je,hv,U.kF,ι r.br,U.i_,.bool r.done]:=h.r.c_.aB f R.s;have a8:∀b,b∈vb v->b < w'.heap.size:=fun b hb=>(af3 bq b (aK.1 hb)).2;have Rf:v.ownBlock≠some U.rb:=bq.eF hblk dee;refine h.runs (U':={U with jJ:=v}) F2 rfl (fun b hb=>hb) (fun b hb=> .inl hb) ⟨?_,?_,?_,?_,?_,?_,?_⟩ ?_ (fun b hb=>?_)
 ·exact hblk.set 2 v
 ·exact bq.other Rf _ _
 ·exact h.r.je.aB F fun b hb=>by simp;exact ⟨by rintro rfl;exact R.l (aK.2 hb),R.sl.symm b (aK.2 hb)⟩
 ·exact h.r.kF.aB F fun b hb=>by simp;exact ⟨by rintro rfl;exact R.t (aK.2 hb),R.st.symm b (aK.2 hb)⟩
 ·exact h.r.i_.aB F fun b hb=>by simp;exact ⟨by rintro rfl;exact R.j (aK.2 hb),R.sj.symm b (aK.2 hb)⟩
 ·exact agQ
 ·exact h.r.gm.aB F mR
 ·have e1:C.l++U.l=(C.l++[U.rb])++(vb U.jJ++(vb U.je++vb U.kF++vb U.i_)):=by simp [Ru.l]
  have e2:C.l++({U with jJ:=v}:Ru).l=(C.l++[U.rb])++(vb v++(vb U.je++vb U.kF++vb U.i_)):=by simp [Ru.l]
  rw [e2];refine jw (n:=w.heap.size) (v:=U.jJ) ?_ (fun b hb=>?_) hs
  ·rw [<-e1];exact h.sep.nd
  ·rw [<-e1] at hb;exact h.sep.lt b hb
 ·simp only [Ru.l,afV,af2] at hb;have kN:∀b,b∈U.l->b < (w'.setCell (π U.rb 2) v).heap.size:=fun b hb=>afQ (h.sep.lt b (by simp [hb])) F.size;exact aca
theorem cD.je (h:cD w C U RO K p c t used hv jv s r) {v:Value} {l:List Int} (f:da (vb U.je) w w') (bq:Row w' 3 1 v l.length (fun i=> ι (l.reverse.getD i 0))) (hs:∀b,b∈vb v->b∈vb U.je\/w.heap.size<=b):cD (w'.setCell (π U.rb 3) v) C {U with je:=v} RO K p c t used hv jv s {r with loops:=l}:=by
 have R:=h.sep.u;have F:da (U.rb::vb U.je) w (w'.setCell (π U.rb 3) v):=(f.mono (by intro k hk;simp [hk])).setCell smm _;have F2:da U.l w (w'.setCell (π U.rb 3) v):=F.mono (by intro k hk;simp at hk;rcases hk with rfl|hk;simp [Ru.l];simp [Ru.l,hk]);have mR:∀b,b∈RO->b∉U.rb::vb U.je:=fun b hb=>by exact acb
 have hblk:ay w' U.rb 126 #[.int .u64 r.key,ι r.at_,U.jJ,U.je,hv,U.kF,ι r.br,U.i_,.bool r.done]:=h.r.c_.aB f R.l;have a8:∀b,b∈vb v->b < w'.heap.size:=fun b hb=>(af3 bq b (aK.1 hb)).2;have Rf:v.ownBlock≠some U.rb:=bq.eF hblk dee;refine h.runs (U':={U with je:=v}) F2 rfl (fun b hb=>hb) (fun b hb=> .inl hb) ⟨?_,?_,?_,?_,?_,?_,?_⟩ ?_ (fun b hb=>?_)
 ·exact hblk.set 3 v
 ·exact h.r.jJ.aB F fun b hb=>by simp;exact ⟨by rintro rfl;exact R.s (aK.2 hb),R.sl b (aK.2 hb)⟩
 ·exact bq.other Rf _ _
 ·exact h.r.kF.aB F fun b hb=>by simp;exact ⟨by rintro rfl;exact R.t (aK.2 hb),R.lt.symm b (aK.2 hb)⟩
 ·exact h.r.i_.aB F fun b hb=>by simp;exact ⟨by rintro rfl;exact R.j (aK.2 hb),R.lj.symm b (aK.2 hb)⟩
 ·exact agQ
 ·exact h.r.gm.aB F mR
 ·have e1:C.l++U.l=(C.l++U.rb::vb U.jJ)++(vb U.je++(vb U.kF++vb U.i_)):=by simp [Ru.l]
  have e2:C.l++({U with je:=v}:Ru).l=(C.l++U.rb::vb U.jJ)++(vb v++(vb U.kF++vb U.i_)):=by simp [Ru.l]
  rw [e2];refine jw (n:=w.heap.size) (v:=U.je) ?_ (fun b hb=>?_) hs
  ·rw [<-e1];exact h.sep.nd
  ·rw [<-e1] at hb;exact h.sep.lt b hb
 ·simp only [Ru.l,afV,af2] at hb;have kN:∀b,b∈U.l->b < (w'.setCell (π U.rb 3) v).heap.size:=fun b hb=>afQ (h.sep.lt b (by simp [hb])) F.size;exact aca
theorem cD.kF (h:cD w C U RO K p c t used hv jv s r) {v:Value} {l:List Nat} (f:da (vb U.kF) w w') (bq:Row w' 46 1 v l.length (fun i=> .int .u64 (l.getD i 0:Nat))) (hs:∀b,b∈vb v->b∈vb U.kF\/w.heap.size<=b):cD (w'.setCell (π U.rb 5) v) C {U with kF:=v} RO K p c t used hv jv s {r with told:=l}:=by
 have R:=h.sep.u;have F:da (U.rb::vb U.kF) w (w'.setCell (π U.rb 5) v):=(f.mono (by intro k hk;simp [hk])).setCell smm _;have F2:da U.l w (w'.setCell (π U.rb 5) v):=F.mono (by intro k hk;simp at hk;rcases hk with rfl|hk;simp [Ru.l];simp [Ru.l,hk]);have mR:∀b,b∈RO->b∉U.rb::vb U.kF:=fun b hb=>by exact acb
 have hblk:ay w' U.rb 126 #[.int .u64 r.key,ι r.at_,U.jJ,U.je,hv,U.kF,ι r.br,U.i_,.bool r.done]:=h.r.c_.aB f R.t;have a8:∀b,b∈vb v->b < w'.heap.size:=fun b hb=>(af3 bq b (aK.1 hb)).2;have Rf:v.ownBlock≠some U.rb:=bq.eF hblk dee;refine h.runs (U':={U with kF:=v}) F2 rfl (fun b hb=>hb) (fun b hb=> .inl hb) ⟨?_,?_,?_,?_,?_,?_,?_⟩ ?_ (fun b hb=>?_)
 ·exact hblk.set 5 v
 ·exact h.r.jJ.aB F fun b hb=>by simp;exact ⟨by rintro rfl;exact R.s (aK.2 hb),R.st b (aK.2 hb)⟩
 ·exact h.r.je.aB F fun b hb=>by simp;exact ⟨by rintro rfl;exact R.l (aK.2 hb),R.lt b (aK.2 hb)⟩
 ·exact bq.other Rf _ _
 ·exact h.r.i_.aB F fun b hb=>by simp;exact ⟨by rintro rfl;exact R.j (aK.2 hb),R.tj.symm b (aK.2 hb)⟩
 ·exact agQ
 ·exact h.r.gm.aB F mR
 ·have e1:C.l++U.l=(C.l++U.rb::(vb U.jJ++vb U.je))++(vb U.kF++vb U.i_):=by simp [Ru.l]
  have e2:C.l++({U with kF:=v}:Ru).l=(C.l++U.rb::(vb U.jJ++vb U.je))++(vb v++vb U.i_):=by simp [Ru.l]
  rw [e2];refine jw (n:=w.heap.size) (v:=U.kF) ?_ (fun b hb=>?_) hs
  ·rw [<-e1];exact h.sep.nd
  ·rw [<-e1] at hb;exact h.sep.lt b hb
 ·simp only [Ru.l,afV,af2] at hb;have kN:∀b,b∈U.l->b < (w'.setCell (π U.rb 5) v).heap.size:=fun b hb=>afQ (h.sep.lt b (by simp [hb])) F.size;exact aca
theorem cD.i_ (h:cD w C U RO K p c t used hv jv s r) {v:Value} {l:List sm} (f:da (vb U.i_) w w') (bq:Row w' 1 1 v l.length (jx)) (hs:∀b,b∈vb v->b∈vb U.i_\/w.heap.size<=b) (hj:∀i u,l.reverse[i]? =some u->fK (w'.setCell (π U.rb 7) v) C.mb RO' (jx i) u) (ho:∀b,b∈RO->b∈RO') (hn:∀b,b∈RO'->b∈RO\/(w.heap.size<=b/\b < w'.heap.size/\b∉vb v)):cD (w'.setCell (π U.rb 7) v) C {U with i_:=v} RO' K p c t used hv jx s {r with bm:=l}:=by
 have R:=h.sep.u;have F:da (U.rb::vb U.i_) w (w'.setCell (π U.rb 7) v):=(f.mono (by intro k hk;simp [hk])).setCell smm _;have F2:da U.l w (w'.setCell (π U.rb 7) v):=F.mono (by intro k hk;simp at hk;rcases hk with rfl|hk;simp [Ru.l];simp [Ru.l,hk]);have mR:∀b,b∈RO->b∉U.rb::vb U.i_:=fun b hb=>by exact acb
 have hblk:ay w' U.rb 126 #[.int .u64 r.key,ι r.at_,U.jJ,U.je,hv,U.kF,ι r.br,U.i_,.bool r.done]:=h.r.c_.aB f R.j;have a8:∀b,b∈vb v->b < w'.heap.size:=fun b hb=>(af3 bq b (aK.1 hb)).2;have Rf:v.ownBlock≠some U.rb:=bq.eF hblk dee;refine h.runs (U':={U with i_:=v}) F2 rfl ho (fun b hb=>?_) ⟨?_,?_,?_,?_,?_,?_,?_⟩ ?_ (fun b hb=>?_)
 ·rcases hn b hb with hb|⟨h1,h2,h3⟩
  ·exact .inl hb
  ·refine .inr ⟨h1,by simpa using h2,?_⟩;intro hc;simp only [Ru.l,afV,af2] at hc;rcases hc with rfl|((hc|hc)|hc)|hc
   ·have:=h.sep.lt U.rb (by simp [Ru.l]);omega
   ·have:=h.sep.lt b (by simp [Ru.l,hc]);omega
   ·have:=h.sep.lt b (by simp [Ru.l,hc]);omega
   ·have:=h.sep.lt b (by simp [Ru.l,hc]);omega
   ·exact h3 hc
 ·exact hblk.set 7 v
 ·exact h.r.jJ.aB F fun b hb=>by simp;exact ⟨by rintro rfl;exact R.s (aK.2 hb),R.sj b (aK.2 hb)⟩
 ·exact h.r.je.aB F fun b hb=>by simp;exact ⟨by rintro rfl;exact R.l (aK.2 hb),R.lj b (aK.2 hb)⟩
 ·exact h.r.kF.aB F fun b hb=>by simp;exact ⟨by rintro rfl;exact R.t (aK.2 hb),R.tj b (aK.2 hb)⟩
 ·exact bq.other Rf _ _
 ·exact hj
 ·exact (h.r.gm.aB F mR).more ho
 ·have e1:C.l++U.l=(C.l++U.rb::(vb U.jJ++vb U.je++vb U.kF))++(vb U.i_++[]):=by simp [Ru.l]
  have e2:C.l++({U with i_:=v}:Ru).l=(C.l++U.rb::(vb U.jJ++vb U.je++vb U.kF))++(vb v++[]):=by simp [Ru.l]
  rw [e2];refine jw (n:=w.heap.size) (v:=U.i_) ?_ (fun b hb=>?_) hs
  ·rw [<-e1];exact h.sep.nd
  ·rw [<-e1] at hb;exact h.sep.lt b hb
 ·simp only [Ru.l,afV,af2] at hb;have kN:∀b,b∈U.l->b < (w'.setCell (π U.rb 7) v).heap.size:=fun b hb=>afQ (h.sep.lt b (by simp [hb])) F.size;exact aca
structure Kept (RO:List Nat) (w w':World):Prop where
 os:w'.os=w.os
 tape:w'.tape=w.tape
 output:w'.output=w.output
 size:w.heap.size<=w'.heap.size
 block:∀k,k∈RO->w'.heap[k]? =w.heap[k]?
theorem Kept.refl (RO:List Nat) (w:World):Kept RO w w:=⟨rfl,rfl,rfl,afF _,fun _ _=>rfl⟩
theorem Kept.trans {RO RO':List Nat} {a b c:World} (h:Kept RO a b) (k:Kept RO' b c) (hs:∀b,b∈RO->b∈RO'):Kept RO a c:=
 ⟨k.os.trans h.os,k.tape.trans h.tape,k.output.trans h.output,Nat.le_trans h.size k.size,fun i hi=>(k.block i (hs i hi)).trans (h.block i hi)⟩
theorem Kept.cE {RO S:List Nat} {w w':World} (f:da S w w') (hs:∀b,b∈RO->b∉S) (hl:∀b,b∈RO->b < w.heap.size):Kept RO w w':=
 ⟨f.os,f.tape,f.output,f.size,fun k hk=>f.block k (hl k hk) (hs k hk)⟩
theorem ay.kept {RO:List Nat} {w w':World} {b:Nat} {T:TypeId} {cs:Array Value} (h:ay w b T cs) (k:Kept RO w w') (hb:b∈RO):ay w' b T cs:=h.of (k.block b hb)
def In (w:World) (mb rb:Nat) (RO:List Nat) (K:Kc) (p:aO) (c:Cp) (t:fI) (used:Int) (x:SR):Prop:=
 ∃C U hv jv,C.mb=mb/\U.rb=rb/\cD w C U RO K p c t used hv jv x.1 x.2
def bX (w:World) (mb rb:Nat) (RO:List Nat) (K:Kc) (p:aO) (c:Cp) (t:fI) (used:Int) (v:Value) (x:SR) (r:Ending) (w':World):Prop:=
 r= .returned v/\∃RO',(∀b,b∈RO->b∈RO')/\In w' mb rb RO' K p c t used x/\Kept RO w w'
theorem If {w w1 w4:World} {old:Value} {g n cap H:Nat} (hb:Below w.heap.size w w1) (hg:w1.grownBy w4 old.ownBlock) (pG:old.ownBlock=some g\/g=H) (hH:w1.heap.size=H):
 da (vb old) w w4/\∀b,b∈vb (.slice (some (π g 0)) n cap)->b∈vb old\/w.heap.size<=b:=by
 refine ⟨(da.ah hb).trans ⟨hg.os,hg.tape,hg.output,hg.size,fun k hk hs=>hg.block k hk ?_⟩,fun b iN=>?_⟩
 ·intro e;exact hs (by unfold vb;rw [<-e];simp)
 ·have:=aK.1 iN;simp [Value.ownBlock] at this;subst this;rcases pG with h|h
  ·exact .inl (aK.2 h)
  ·have:=hb.size;exact .inr omm
theorem kU {w:World} {e:TypeId} {v:Value} {n:Nat} {f f':Nat->Value} {x:Value} (h:w.ownsRow 0 e 1 v (n+1) (eE (n*1) f++[x])) (h1:∀i,i < n->f' i=f i) (h2:f' n=x):Row w e 1 v (n+1) f':=by
 unfold Row;have e1:eE ((n+1)*1) f'=eE (n*1) f++[x]:=by
  rw [show (n+1)*1=n*1+1 by omega,pD];congr 1
  ·exact nS fun o ho=>h1 o omm
  ·simp [h2]
 rw [e1];exact h
theorem vG:(prog.info? 3).map (fun i=>(i.zero,i.size,i.bytes))=some (some (ι 0),1,8):=by kernel_rfl
theorem jT {α:Type} (x d:α) (l:List α):(∀i,i < l.length->(x::l).reverse.getD i d=l.reverse.getD i d)/\(x::l).reverse.getD l.length d=x:=by
 constructor
 ·intro i hi;simp [List.getD,agt,hi]
 ·simp [List.getD]
theorem cD.jy (h:cD w C U RO K p c t used hv jv s r):In w C.mb U.rb RO K p c t used (s,r):=⟨C,U,hv,jv,rfl,rfl,h⟩
theorem cD.Xp (h:cD w C U RO K p c t used hv jv s r) (f:da (vb U.jJ) w w'):w'.cell? (π U.rb 2)=some U.jJ/\(∀o,w'.frozen? (π U.rb o)=false)/\w'.cell? (π C.mb 60)=some (ρ U.rb):=by have hr:=h.r.c_.aB f h.sep.u.s;have hm:=h.m.aM.aB f (fun hc=>h.sep.cu (b:=C.mb) (by simp [Co.l]) (by simp [Ru.l,hc]));exact ⟨hr.cell 2,hr.frozen,hm.cell 60⟩
theorem ku (h:cD w C U RO K p c t used hv jv s r) (n:Int) (hl:r.stack.length < 1000000):
 Calls prog 203 #[ρ C.mb,ι n] w (bX w C.mb U.rb RO K p c t used (.tuple #[]) (s,r.push n)):=by
 obtain ⟨i0,hi,gA,jF,r_⟩:=aga vG;have oC:=agS h.m.aM;have r2:w.cell? (π U.rb 2)=some U.jJ:=h.r.c_.cell 2;have lm:=h.m.aM.lt;have lr:=h.r.c_.lt;have HD:=ae (h.drewN 1);have C3:=ae (show r.stack.length+1<=maxLen by unfold maxLen;omega);have C4:=ae (show (r.stack.length+1)*8<=140737488355328 by omega);have H:=ae h;clear h;go_enter func203,ntmps203;go_wp2_with fail
 go_region_law ((refine ags _ rfl (.tmp 14) (.tmp 16) 24 rfl 0 3 i0 (ι 0) 1 8 underlying24 hi gA jF r_ rfl dee U.jJ _ _ (by simp [Act.eval,Act.put]) (HD.o.r.jJ.alloc _) (π w.heap.size 0) 1 1 [ι n] (by simp [Act.eval,Act.put]) rfl (gP.gr _ [ι n] _ _ smm) (by simp [Value.oneCell']) dee C3.o C4.o smm _ rfl ?_;intro g cap w4 fo fe pG um;obtain ⟨qW,xf⟩:=If (w:=w) (n:=r.stack.length+1) (cap:=cap) ((au w.heap.size w 1).alloc (afF _) _) fe pG rfl;obtain ⟨c2,f2,Vx⟩:=H.o.Xp qW;have HO:=ae fo;have HF:=ae qW;have HS:=ae xf;clear fo fe pG um qW xf))
 all_goals
  go_wp2;refine afI (afT rfl _ _ _) rfl ?_;obtain ⟨q1,q2⟩:=jT n 0 r.stack;have bq:=kU (f':=fun i=> ι ((n::r.stack).reverse.getD i 0)) HO.o (fun i hi=>by show Value.int _ _=Value.int _ _;rw [q1 i hi]) (by show Value.int _ _=Value.int _ _;rw [q2]);have A:=H.o.jJ HF.o (l:=n::r.stack) bq HS.o;exact ⟨rfl,RO,fun b hb=>hb,A.jy,Kept.cE (S:=U.l) ((HF.o.mono (by intro k hk;simp [Ru.l,hk])).setCell (by simp [Ru.l]) _) (fun b hb=>H.o.sep.ur hb) H.o.sep.cY⟩
theorem rE (k cap b:Nat) (wx:World):(Builtin.len_ #[24] 3 #[.slice (some (π b 0)) k cap]).run prog wx= .ok (ι k) wx:=
 run_len_slice (P:=prog) wx 24 3 (some (π b 0)) k cap krr
theorem mi {α:Type} (x d:α) (l:List α):(x::l).reverse.getD l.length d=x:=(jT x d l).2
theorem uQ (h:cD w C U RO K p c t used hv jv s r) {n:Int} {rest:List Int} (fj:r.stack=n::rest) (hl:rest.length < 1000000):
 Calls prog 210 #[ρ C.mb] w (bX w C.mb U.rb RO K p c t used (ι n) (s,r.pop)):=by
 have oC:=agS h.m.aM;have r2:w.cell? (π U.rb 2)=some U.jJ:=h.r.c_.cell 2;have rf:∀o,w.frozen? (π U.rb o)=false:=h.r.c_.frozen;have bq:=h.r.jJ;rw [fj] at bq;obtain ⟨b,cap,fN,nO,lF,hb⟩:=bq.some smm;rw [fN] at r2 bq;have h_:w.cell? (π b rest.length)=some (ι n):=by rw [bq.cell (o:=rest.length) smm];rw [mi]
 have tJ:=bq.less (k:=rest.length) smm;have gM:Row w 3 1 (.slice (some (π b 0)) rest.length cap) rest.length (fun i=> ι (rest.reverse.getD i 0)):=tJ.congr fun o ho=>by show Value.int _ _=Value.int _ _;rw [(jT n 0 rest).1 o omm]
 have HN:=ae gM;have H:=ae h;have HV:=ae fN;have kV:=ae fj;clear h gM tJ bq fj fN;simp only [List.length_cons] at r2 nO;generalize hk:rest.length=k at*;have hlen:=rE (k+1) cap b;go_enter func210,ntmps210;go_wp2_with fail;go_region;go_wp2;go_ret;have fN:U.jJ= .slice (some (π b 0)) (k+1) cap:=by rw [HV.o,List.length_cons,hk]
 have D_:∀x,x∈vb (.slice (some (π b 0)) k cap)->x∈vb U.jJ:=fun x hx=>by rw [fN];exact hx
 have A:=(H.o.jJ (da.refl _ w) (l:=rest) (by rw [hk];exact HN.o) (fun x hx=> .inl (D_ x hx))).drewN 1;have hr:r.pop={r with stack:=rest}:=by unfold Rn.pop;rw [kV.o];rfl
 exact ⟨rfl,RO,fun b hb=>hb,by rw [hr];exact A.jy,(Kept.cE (S:=U.l) (((da.refl _ w).setCell (by simp [Ru.l]) _).drewN 1) (fun b hb=>H.o.sep.ur hb) H.o.sep.cY)⟩
theorem Ge (h:cD w C U RO K p c t used hv jv s r) {n:Int} {rest:List Int} (fj:r.loops=n::rest) (hl:rest.length < 1000000) (a:Nat):
 Calls prog 213 #[ρ C.mb,ι a] w (bX w C.mb U.rb RO K p c t used (.tuple #[]) (s,jr r a)):=by
 have oC:=agS h.m.aM;have r2:w.cell? (π U.rb 3)=some U.je:=h.r.c_.cell 3;have rf:∀o,w.frozen? (π U.rb o)=false:=h.r.c_.frozen;have bq:=h.r.je;rw [fj] at bq;obtain ⟨b,cap,fN,nO,lF,hb⟩:=bq.some smm;rw [fN] at r2 bq;have tJ:=bq.less (k:=rest.length) smm;have gM:Row w 3 1 (.slice (some (π b 0)) rest.length cap) rest.length (fun i=> ι (rest.reverse.getD i 0)):=tJ.congr fun o ho=>by show Value.int _ _=Value.int _ _;rw [(jT n 0 rest).1 o omm]
 have HN:=ae gM;have H:=ae h;have HV:=ae fN;have kV:=ae fj;clear h gM tJ bq fj fN;simp only [List.length_cons] at r2 nO;generalize hk:rest.length=k at*;have hlen:=rE (k+1) cap b;go_enter func213,ntmps213;go_wp2_with fail;go_region;have fN:U.je= .slice (some (π b 0)) (k+1) cap:=by rw [HV.o,List.length_cons,hk]
 have D_:∀x,x∈vb (.slice (some (π b 0)) k cap)->x∈vb U.je:=fun x hx=>by rw [fN];exact hx
 have hr:jr r a={r with loops:=rest,at_:=a}:=by unfold jr;rw [kV.o];rfl
 obtain ⟨w1,jo⟩:∃w1,w1=(w.setCell (π U.rb 3) (.slice (some (π b 0)) k cap)).drew:=⟨_,rfl⟩;have A:cD w1 C {U with je:= .slice (some (π b 0)) k cap} RO K p c t used hv jv s {r with loops:=rest}:=by rw [jo];exact (H.o.je (da.refl _ w) (l:=rest) (by rw [hk];exact HN.o) (fun x hx=> .inl (D_ x hx))).drewN 1
 have F:da U.l w w1:=by rw [jo];exact ((da.refl U.l w).setCell (p:=(π U.rb 3)) (by simp [Ru.l]) (.slice (some (π b 0)) k cap)).drewN 1
 rw [<-jo];have n60:w1.cell? (π C.mb 60)=some (ρ U.rb):=A.m.aM.cell 60;have n1:w1.cell? (π U.rb 1)=some (ι r.at_):=A.r.c_.cell 1;have nf:∀o,w1.frozen? (π U.rb o)=false:=A.r.c_.frozen;have HA:=ae A;have HF:=ae F;clear A F r2 oC rf;clear jo;go_wp2;refine afI (afT rfl _ _ _) rfl ?_;rw [hr];exact ⟨rfl,RO,fun b hb=>hb,(HA.o.iu 1 (ι a) (r':={r with loops:=rest,at_:=a}) rfl rfl rfl rfl rfl rfl HA.o.r.gm).jy,Kept.cE (HF.o.setCell (by simp [Ru.l]) _) (fun b hb=>H.o.sep.ur hb) H.o.sep.cY⟩
def aA (i:Ins):Array Value:=#[ι i.op,ι i.a,ι i.b,ι i.c,ι i.d]
def aQ (i:Ins):Value:= .agg (aA i)
theorem Kept.ah {RO:List Nat} {w w':World} (b:Below w.heap.size w w') (hl:∀b,b∈RO->b < w.heap.size):Kept RO w w':=
 Kept.cE (S:=[]) (da.ah b) smm hl
theorem Kept.less {RO RO':List Nat} {w w':World} (h:Kept RO' w w') (hs:∀b,b∈RO->b∈RO'):Kept RO w w':=
 ⟨h.os,h.tape,h.output,h.size,fun k hk=>h.block k (hs k hk)⟩
theorem bX.pre {w w1 w':World} {mb rb:Nat} {RO kG:List Nat} {K:Kc} {p:aO} {c:Cp} {t:fI} {used:Int} {v:Value} {x:SR} {r:Ending} (h:bX w1 mb rb kG K p c t used v x r w') (k:Kept RO w w1) (hs:∀b,b∈RO->b∈kG):bX w mb rb RO K p c t used v x r w':=by obtain ⟨h1,RO',h2,h3,h4⟩:=h;exact ⟨h1,RO',fun b hb=>h2 b (hs b hb),h3,k.trans h4 hs⟩
theorem cD.add (h:cD w C U RO K p c t used hv jv s r) {x:Nat} (h1:x < w.heap.size) (h2:x∉C.l) (h3:x∉U.l):cD w C U (x::RO) K p c t used hv jv s r:=by
 refine ⟨h.m.more (fun b hb=>by simp [hb]),h.r.more (fun b hb=>by simp [hb]),h.sep.nd,h.sep.lt,fun b hb hc=>?_,fun b hb=>?_⟩
 ·rcases List.mem_cons.1 hc with rfl|hc
  ·rcases List.mem_append.1 hb with hb|hb
   ·exact h2 hb
   ·exact h3 hb
  ·exact h.sep.ro b hb hc
 ·rcases List.mem_cons.1 hb with rfl|hb
  ·exact h1
  ·exact h.sep.cY b hb
theorem cD.box (h:cD w C U RO K p c t used hv jv s r) (o:Obj):cD (w.alloc o) C U (w.heap.size::RO) K p c t used hv jv s r:=
 (h.later ((afL _ w).alloc (afF _) _)).add smm (fun hc=>by have:=h.sep.lt _ (List.mem_append_left _ hc);omega) (fun hc=>by have:=h.sep.lt _ (List.mem_append_right C.l hc);omega)
theorem adf {p:Prop} (h:p:=by
 go_wp2_with fail;refine HP.o.mono ?_;intro e w' hd;have mT:=hd.pre (RO:=RO) (Kept.ah HB.o H.o.sep.cY) (fun b hb=>by simp [hb]);obtain ⟨rfl,fB⟩:=mT;go_wp2;exact afI (afT rfl _ _ _) rfl ⟨rfl,fB⟩):p:=h
theorem vH (h:cD w C U RO K p c t used hv jv s r) (i:Ins) (hl:r.stack.length < 1000000):
 Calls prog 102 #[ρ C.mb,aQ i] w (bX w C.mb U.rb RO K p c t used (.tuple #[]) (s,r.push i.a)):=by
 have H0:=h.box (.cells (aA i) 40);have HB:=ae ((afL w.heap.size w).alloc (afF _) (.cells (aA i) 40));have hP:=ku H0 i.a hl;have e1:(w.alloc (.cells (aA i) 40)).cell? (π w.heap.size 1)=some (ι i.a):=(ay.new w 40 (aA i)).cell 1;have HP:=ae hP;have H:=ae h;clear h hP H0;unfold aQ;unfold aA at*;go_enter func102,ntmps102;exact adf
theorem Ea (h:cD w C U RO K p c t used hv jv s r) (i:Ins) {k:Nat} (hk:i.a=k) (jd:k < p.vars.length) (hl:r.stack.length < 1000000):
 Calls prog 103 #[ρ C.mb,aQ i] w (bX w C.mb U.rb RO K p c t used (.tuple #[]) (s,r.push (s.vars k))):=by
 have H0:=(h.box (.cells (aA i) 40)).drewN 1;have HB:=ae (((afL w.heap.size w).alloc (afF _) (.cells (aA i) 40)).trans (au _ _ 1));have hP:=ku H0 (s.vars k) hl;have e1:(w.alloc (.cells (aA i) 40)).cell? (π w.heap.size 1)=some (ι k):=by rw [<-hk];exact (ay.new w 40 (aA i)).cell 1
 have e5:(w.alloc (.cells (aA i) 40)).cell? (π C.mb 11)=some C.vs:=H0.m.aM.cell 11;obtain ⟨b,cap,fN,nO,lF,hb⟩:=H0.m.vs.some omm;rw [fN] at e5;have h_:(w.alloc (.cells (aA i) 40)).cell? (π b k)=some (ι (s.vars k)):=by have h3:=H0.m.vs;rw [fN] at h3;exact h3.cell (o:=k) omm
 have HP:=ae hP;have H:=ae h;clear h hP H0 hk;unfold aQ;unfold aA at*;generalize Ld:s.vars k=vk at*;generalize p.vars.length=nv at*;obtain ⟨w1,jo⟩:∃w1,w1=w.alloc (.cells #[ι i.op,ι i.a,ι i.b,ι i.c,ι i.d] 40):=⟨_,rfl⟩;rw [<-jo] at HP HB e1 e5 h_;go_enter func103,ntmps103;go_wp2_with fail;rw [<-jo];clear jo
 go_still_tail 9,krr
 change wpList _ _ _ _ _ (w1.drewN 1);generalize w1.drewN 1=w2 at*;exact adf
def pK (r:Rn) (k:Nat):Rn:=if r.fO=0 then {r.pop with at_:=k} else r.pop
def vI (r:Rn) (k:Nat):Rn:=if r.fO=0 then jr r.pop k else r.pop
def vJ (r:Rn) (k:Nat):Rn:=if r.loops.headD 0=0 then jr r k else {r with loops:=(r.loops.headD 0 - 1)::r.loops.tail}
variable {mb rb:Nat}
theorem cD.xh (h:cD w C U RO K p c t used hv jv s r) (h1:C.mb=mb) (h2:U.rb=rb):In w mb rb RO K p c t used (s,r):=⟨C,U,hv,jv,h1,h2,h⟩
theorem ay.jU {b:Nat} {T:TypeId} {cs:Array Value} (h:ay w b T cs) (k:Kept RO w w') (hb:b∈RO):ay w' b T cs:=h.of (k.block b hb)
theorem Le (h:cD w C U RO K p c t used hv jv s r) (i:Ins) {k:Nat} (hk:i.a=k) {n:Int} {rest:List Int} (fj:r.stack=n::rest) (hl:rest.length < 1000000):
 Calls prog 114 #[ρ C.mb,aQ i] w (bX w C.mb U.rb RO K p c t used (.tuple #[]) (s,pK r k)):=by
 have H0:=h.box (.cells (aA i) 40);have HP:=ae (uQ H0 fj hl);have jg:=ae (ay.new w 40 (aA i));have kW:=ae (Kept.ah (RO:=RO) ((afL w.heap.size w).alloc (afF _) (.cells (aA i) 40)) h.sep.cY);have uu:=ae hk;have zw:=ae (show r.fO=n by unfold Rn.fO;rw [fj];rfl);clear h H0 hk;unfold aQ;unfold aA at*;go_enter func114,ntmps114;go_wp2_with fail;generalize eO:w.heap.size=bx at HP jg ⊢;refine HP.o.mono ?_;rintro e w' ⟨rfl,RO',ho,⟨C',U',hv',jx,kX,lE,A⟩,uK⟩;have oC:w'.cell? (π C.mb 60)=some (ρ U.rb):=by rw [<-kX,<-lE];exact A.m.aM.cell 60
 have r1:w'.cell? (π U.rb 1)=some (ι r.at_):=by rw [<-lE];exact A.r.c_.cell 1
 have rf:∀o,w'.frozen? (π U.rb o)=false:=by rw [<-lE];exact A.r.c_.frozen
 have e1:w'.cell? (π bx 1)=some (ι k):=by rw [<-uu.o];exact (ay.jU jg.o uK smm).cell 1
 have HA:=ae A;have oF:=ae (kW.o.trans uK (fun b hb=>by simp [hb]));have HO:=ae (show ∀b,b∈RO->b∈RO' from fun b hb=>ho b (by simp [hb]));have HM:=ae kX;have HR:=ae lE;clear A uK ho kX lE HP jg eO kW;by_cases hn:n=0
 ·subst hn;go_wp2_with fail;go_region;go_wp2;refine afI (afT rfl _ _ _) rfl ⟨rfl,RO',HO.o,?_,?_⟩
  ·have hb:pK r k={r.pop with at_:=k}:=by unfold pK;rw [afE zw.o]
   rw [hb];have A2:=((HA.o.iu 1 (ι k) (r':={r.pop with at_:=k}) rfl rfl rfl rfl rfl rfl HA.o.r.gm).drewN 1).xh HM.o HR.o;rw [HR.o] at A2;exact A2
  ·refine oF.o.trans (RO':=RO') (Kept.cE (S:=U'.l) (((da.refl _ w').setCell (by rw [<-HR.o];simp [Ru.l]) _).drewN 1) (fun b hb=>HA.o.sep.ur hb) HA.o.sep.cY) HO.o
 ·have hz:(n==0)=false:=by simpa using hn
  go_wp2;refine afI (afT rfl _ _ _) rfl ⟨rfl,RO',HO.o,?_,oF.o⟩;have hb:pK r k=r.pop:=by unfold pK;rw [abH (by rw [zw.o];exact hn)]
  rw [hb];exact HA.o.xh HM.o HR.o
theorem S5 (h:cD w C U RO K p c t used hv jv s r) (i:Ins) {k:Nat} (hk:i.a=k) {n:Int} {rest:List Int} (fj:r.stack=n::rest) (hl:rest.length < 1000000) {m:Int} {lrest:List Int} (aaj:r.loops=m::lrest) (Hh:lrest.length < 1000000):
 Calls prog 117 #[ρ C.mb,aQ i] w (bX w C.mb U.rb RO K p c t used (.tuple #[]) (s,vI r k)):=by
 have H0:=h.box (.cells (aA i) 40);have HP:=ae (uQ H0 fj hl);have jg:=ae (ay.new w 40 (aA i));have kW:=ae (Kept.ah (RO:=RO) ((afL w.heap.size w).alloc (afF _) (.cells (aA i) 40)) h.sep.cY);have uu:=ae hk;have zw:=ae (show r.fO=n by unfold Rn.fO;rw [fj];rfl);clear h H0 hk;unfold aQ;unfold aA at*;go_enter func117,ntmps117;go_wp2_with fail;generalize eO:w.heap.size=bx at HP jg ⊢;refine HP.o.mono ?_;rintro e w' ⟨rfl,RO',ho,⟨C',U',hv',jx,kX,lE,A⟩,uK⟩;have oC:w'.cell? (π C.mb 60)=some (ρ U.rb):=by rw [<-kX,<-lE];exact A.m.aM.cell 60
 have r1:w'.cell? (π U.rb 1)=some (ι r.at_):=by rw [<-lE];exact A.r.c_.cell 1
 have rf:∀o,w'.frozen? (π U.rb o)=false:=by rw [<-lE];exact A.r.c_.frozen
 have e1:w'.cell? (π bx 1)=some (ι k):=by rw [<-uu.o];exact (ay.jU jg.o uK smm).cell 1
 have HA:=ae A;have oF:=ae (kW.o.trans uK (fun b hb=>by simp [hb]));have HO:=ae (show ∀b,b∈RO->b∈RO' from fun b hb=>ho b (by simp [hb]));have HM:=ae kX;have HR:=ae lE;clear A uK ho kX lE HP jg eO kW;by_cases hn:n=0
 ·subst hn;have HL:=ae (Ge HA.o (n:=m) (rest:=lrest) aaj Hh k);rw [HM.o] at HL;go_wp2_with fail;refine HL.o.mono ?_;intro e w2 hd;have mT:=hd.pre (RO:=RO) oF.o HO.o;rw [HR.o] at mT;have hb:vI r k=jr r.pop k:=by unfold vI;rw [afE zw.o]
  exact agG
 ·have hz:(n==0)=false:=by simpa using hn
  go_wp2;refine afI (afT rfl _ _ _) rfl ⟨rfl,RO',HO.o,?_,oF.o⟩;have hb:vI r k=r.pop:=by unfold vI;rw [abH (by rw [zw.o];exact hn)]
  rw [hb];exact HA.o.xh HM.o HR.o
structure aak (w:World) (C:Co) (RO:List Nat):Prop where
 nd:C.l.Nodup
 lt:∀b,b∈C.l->b < w.heap.size
 ro:∀b,b∈C.l->b∉RO
 cY:∀b,b∈RO->b < w.heap.size
structure Mx (w:World) (C:Co) (RO:List Nat) (K:Kc) (p:aO) (c:Cp) (s:St) (t:fI) (used:Int) (rv:Value):Prop where
 m:oX w C RO K p c s t used rv
 sep:aak w C RO
structure bu (w w':World) (C C':Co):Prop where
 mb:C'.mb=C.mb
 f:da C.l w w'
 c:∀b,b∈C'.l->b∈C.l\/w.heap.size<=b
theorem bu.refl (w:World) (C:Co):bu w w C C:=⟨rfl,da.refl _ w,fun _ h=> .inl h⟩
theorem bu.trans {w w1 w2:World} {C C1 C2:Co} (h:bu w w1 C C1) (k:bu w1 w2 C1 C2):bu w w2 C C2:=
 ⟨k.mb.trans h.mb,⟨k.f.os.trans h.f.os,k.f.tape.trans h.f.tape,k.f.output.trans h.f.output,Nat.le_trans h.f.size k.f.size,fun i hi hs=>(k.f.block i (afQ hi h.f.size) (fun hc=>by rcases h.c i hc with hc|hc;exact hs hc;omega)).trans (h.f.block i hi hs)⟩,
   fun b hb=>by rcases k.c b hb with hb|hb;exact h.c b hb;have:=h.f.size;exact .inr omm⟩
theorem bu.below {w w':World} {C:Co} (b:Below w.heap.size w w'):bu w w' C C:=⟨rfl,da.ah b,fun _ h=> .inl h⟩
def vK (w:World) (C:Co) (RO:List Nat) (K:Kc) (p:aO) (c:Cp) (t:fI) (used:Int) (rv:Value) (v:Value) (s:St) (e:Ending) (w':World):Prop:=
 e= .returned v/\∃C',bu w w' C C'/\Mx w' C' RO K p c s t used rv
variable {C':Co} {s':St} {rv:Value}
theorem Mx.later (h:Mx w C RO K p c s t used rv) (b:Below w.heap.size w w'):Mx w' C RO K p c s t used rv:=
 ⟨h.m.aB (da.ah (S:=[]) b) smm smm,h.sep.nd,fun b' hb=>afQ (h.sep.lt b' hb) b.size,h.sep.ro,fun b' hb=>afQ (h.sep.cY b' hb) b.size⟩
theorem Mx.drewN (h:Mx w C RO K p c s t used rv) (n:Nat):Mx (w.drewN n) C RO K p c s t used rv:=h.later (au _ _ n)
theorem Mx.box (h:Mx w C RO K p c s t used rv) (o:Obj):Mx (w.alloc o) C RO K p c s t used rv:=h.later ((afL _ w).alloc (afF _) _)
theorem Mx.cr (h:Mx w C RO K p c s t used rv) {b:Nat} (hb:b∈RO):b∉C.l:=fun hc=>h.sep.ro b hc hb
theorem cD.mx (h:cD w C U RO K p c t used hv jv s r):Mx w C RO K p c s t used (ρ U.rb):=
 ⟨h.m,(List.nodup_append.1 h.sep.nd).1,fun b hb=>h.sep.lt b (by simp [hb]),fun b hb=>h.sep.ro b (by simp [hb]),h.sep.cY⟩
theorem Mx.less (h:Mx w C RO K p c s t used rv) (hs:∀b,b∈RO'->b∈RO\/(b < w.heap.size/\b∉C.l)) (hp:∀b,b∈RO->b∈RO'):Mx w C RO' K p c s t used rv:=
 ⟨h.m.more hp,h.sep.nd,h.sep.lt,fun b hb hc=>by rcases hs b hc with hc|hc;exact h.sep.ro b hb hc;exact hc.2 hb,fun b hb=>by rcases hs b hb with hb|hb;exact h.sep.cY b hb;exact hb.1⟩
theorem cD.oh (h:cD w C U RO K p c t used hv jv s r) {t':fI} {used':Int} (k:bu w w' C C') (m:Mx w' C' RO K p c s' t' used' (ρ U.rb)):cD w' C' U RO K p c t' used' hv jv s' r:=by
 refine ⟨m.m,?_,?_,?_,?_,m.sep.cY⟩
 ·rw [k.mb];exact h.r.aB k.f (fun b hb=>h.sep.uc hb) (fun b hb=>h.sep.cr hb)
 ·rw [agj];refine ⟨m.sep.nd,(List.nodup_append.1 h.sep.nd).2.1,fun a ha b hb e=>?_⟩;subst e;rcases k.c a ha with hc|hc
  ·exact h.sep.cu hc hb
  ·have:=h.sep.lt a (by simp [hb]);omega
 ·intro b hb;rcases List.mem_append.1 hb with hb|hb
  ·exact m.sep.lt b hb
  ·exact afQ (h.sep.lt b (by simp [hb])) k.f.size
 ·intro b hb;rcases List.mem_append.1 hb with hb|hb
  ·exact m.sep.ro b hb
  ·exact h.sep.ro b (by simp [hb])
theorem cD.kept (h:cD w C U RO K p c t used hv jv s r) (k:bu w w' C C'):Kept RO w w':=Kept.cE k.f (fun b hb=>h.sep.cr hb) h.sep.cY
structure Xq (C:Co):Prop where
 mx:C.mb≠C.xb
 ms:C.mb≠C.xs
 ma:C.mb∉bp C.ab C.V C.L
 mv:C.mb∉vb C.vs
 xs:C.xb≠C.xs
 xa:C.xb∉bp C.ab C.V C.L
 xv:C.xb∉vb C.vs
 sa:C.xs∉bp C.ab C.V C.L
 sv:C.xs∉vb C.vs
 av:∀b,b∈bp C.ab C.V C.L->b∉vb C.vs
theorem Co.rel {C:Co} (h:C.l.Nodup):Xq C:=by unfold Co.l at h;rw [List.nodup_cons] at h;obtain ⟨h0,h⟩:=h;rw [List.nodup_cons] at h;obtain ⟨h1,h⟩:=h;rw [List.nodup_cons] at h;obtain ⟨h2,h⟩:=h;rw [agj] at h;simp only [afV,af2,not_or] at h0 h1 h2;exact ⟨h0.1,h0.2.1,h0.2.2.1,h0.2.2.2,h1.1,h1.2.1,h1.2.2,h2.1,h2.2,fun b hb hc=>h.2.2 b hb b hc rfl⟩
theorem Mx.rel (h:Mx w C RO K p c s t used rv):Xq C:=Co.rel h.sep.nd
theorem BE {p:aO} {a:Nd} {q e:Nat} {x:eW} (hq:q < p.ap.length):eS p (gd a q e x)=eS p a+1:=by
 unfold eS;have h1:=kT (k:=p.ap.length) (f:=fun p=>(a.ls p).length) (g:=fun p=>((gd a q e x).ls p).length) hq (fun j hj=>by
  show (aL a.ls q _ j).length=_;rw [aj _ _ hj])
 have h2:((gd a q e x).ls q).length=(a.ls q).length+1:=by show (aL a.ls q _ q).length=_;rw [an,jk]
 rw [h2] at h1;omega
theorem o_ {p:aO} {a:Nd} {q n:Nat} (hq:q < p.ap.length) (hn:n∈a.ls q):eS p (takeN a q n)+1=eS p a:=by
 unfold eS;have h1:=kT (k:=p.ap.length) (f:=fun p=>(a.ls p).length) (g:=fun p=>((takeN a q n).ls p).length) hq (fun j hj=>by
  show (aL a.ls q _ j).length=_;rw [aj _ _ hj])
 have h2:((takeN a q n).ls q).length=(a.ls q).length - 1:=by show (aL a.ls q _ q).length=_;rw [an,agr hn]
 have h3:0 < (a.ls q).length:=agw hn;rw [h2] at h1;omega
theorem Mx.reads (h:Mx w C RO K p c s t used rv):w.cell? (π C.mb 9)=some (ρ C.ab)/\w.cell? (π C.mb 10)=some (ρ C.xb)/\w.cell? (π C.mb 12)=some (ι s.total)/\w.cell? (π C.mb 0)=some K.g/\∀o,w.frozen? (π C.mb o)=false:=
 ⟨h.m.aM.cell 9,h.m.aM.cell 10,h.m.aM.cell 12,h.m.aM.cell 0,h.m.aM.frozen⟩
theorem Mx.ap (h:Mx w C RO K p c s t used rv) {q:Nat} (hq:q < p.ap.length):∃b cap,K.g= .slice (some (π b 0)) p.ap.length cap/\b∈RO/\w.cell? (π b q)=some (.bool (p.ap.getD q false)):=by obtain ⟨b,cap,fN,nO,lF,hb⟩:=h.m.prog.g.some omm;refine ⟨b,cap,fN,h.m.prog.ro b (.inl (aK.2 (by rw [fN];rfl))),?_⟩;have h3:=h.m.prog.g;rw [fN] at h3;exact h3.cell (o:=q) omm
theorem Mx.total (h:Mx w C RO K p c s t used rv) (n:Int):bu w (w.setCell (π C.mb 12) (ι n)) C C/\Mx (w.setCell (π C.mb 12) (ι n)) C RO K p c {s with total:=n} t used rv:=by
 have R:=h.rel;have F:da [C.mb] w (w.setCell (π C.mb 12) (ι n)):=(da.refl _ w).setCell smm _;refine ⟨⟨rfl,F.mono (by intro k hk;simp at hk;subst hk;simp [Co.l]),fun _ hb=> .inl hb⟩,⟨⟨?_,?_,?_,?_,?_⟩,h.sep.nd,fun b hb=>afQ (h.sep.lt b hb) F.size,h.sep.ro,fun b hb=>afQ (h.sep.cY b hb) F.size⟩⟩
 ·exact h.m.aM.set 12 _
 ·exact h.m.prog.aB F fun b hb hc=>by simp at hc;subst hc;exact h.cr hb (by simp [Co.l])
 ·exact h.m.ar.aB F fun b hb hc=>by simp at hc;subst hc;exact R.ma hb
 ·exact h.m.ix.aB F ⟨by simp;exact fun e=>R.mx e.symm,by simp;exact fun e=>R.ms e.symm⟩
 ·exact h.m.vs.aB F fun b hb hc=>by simp at hc;subst hc;exact R.mv (aK.2 hb)
theorem adi {p:Prop} (h:p:=by
 intro b hb hc;rcases key b hb with hb|hb
 ·exact h.sep.ro b hb hc
 ·have:=h.sep.cY b hc;omega):p:=h
theorem abR {p:Prop} (h:p:=by
 exact afQ (h.sep.lt b (by simp [Co.l,iN])) F.size):p:=h
theorem adh {p:Prop} (h:p:=by
 have e1:C.l=(C.mb::C.xb::C.xs::[C.ab])++(vb C.V++(vb C.L++vb C.vs)):=by simp [Co.l,bp,vb]
 have e2:({C with V:=V'}:Co).l=(C.mb::C.xb::C.xs::[C.ab])++(vb V'++(vb C.L++vb C.vs)):=by simp [Co.l,bp,vb]
 rw [e2];refine jw (n:=w.heap.size) (v:=C.V) ?_ (fun b hb=>?_) (fun b hb=>?_)
 ·rw [<-e1];exact h.sep.nd
 ·rw [<-e1] at hb;exact h.sep.lt b hb
 ·rcases hV b (aK.1 hb) with h'|h'
  ·exact .inl (aK.2 h')
  ·exact .inr h'):p:=h
theorem adg {p:Prop} (h:p:=by
 intro b hb;simp only [Co.l,bp,afV,af2,Option.mem_toList] at hb ⊢;rcases hb with hb|hb|hb|(hb|hb|hb)|hb
 ·exact .inl (.inl hb)
 ·exact .inl (.inr (.inl hb))
 ·exact .inl (.inr (.inr (.inl hb)))
 ·exact .inl (.inr (.inr (.inr (.inl (.inl hb)))))
 ·rcases hV b hb with h'|h'
  ·exact .inl (.inr (.inr (.inr (.inl (.inr (.inl h'))))))
  ·exact .inr h'
 ·exact .inl (.inr (.inr (.inr (.inl (.inr (.inr hb))))))
 ·exact .inl (.inr (.inr (.inr (.inr hb))))):p:=h
theorem Mx.Rh (h:Mx w C RO K p c s t used rv) {V':Value} {a':Nd} (f:da (bp C.ab C.V C.L) w w') (ha:bP w' C.ab V' C.L K.nd p.ap.length a') (hV:∀b,V'.ownBlock=some b->C.V.ownBlock=some b\/w.heap.size<=b)
 {s':St} (h1:s'.a=a') (h2:s'.vars=s.vars) (h3:s'.total=s.total) (Ξ:cL w C.xb C.xs K.nd (eS p a') s'.f):bu w w' C {C with V:=V'}/\Mx w' {C with V:=V'} RO K p c s' t used rv:=by
 have R:=h.rel;have F:da C.l w w':=f.mono (by intro k hk;simp [Co.l,hk]);have key:∀b,b∈({C with V:=V'}:Co).l->b∈C.l\/w.heap.size<=b:=by exact adg
 refine ⟨⟨rfl,F,key⟩,⟨⟨?_,?_,?_,?_,?_⟩,?_,?_,?_,?_⟩⟩
 ·rw [h3];exact h.m.aM.aB f R.ma
 ·exact h.m.prog.aB F fun b hb=>h.cr hb
 ·rw [h1];exact ha
 ·rw [h1];exact Ξ.aB f ⟨R.xa,R.sa⟩
 ·rw [h2];exact h.m.vs.aB f fun b hb hc=>R.av b hc (aK.2 hb)
 ·exact adh
 ·intro b hb;have iN:=hb;simp only [Co.l,afV,af2] at iN;rcases iN with iN|iN|iN|iN|iN
  ·exact abR
  ·exact abR
  ·exact abR
  ·exact ha.lt b iN
  ·exact abR
 ·exact adi
 ·exact fun b hb=>afQ (h.sep.cY b hb) F.size
theorem Mx.both {w1 w2:World} (h:Mx w C RO K p c s t used rv) {V':Value} {a':Nd} {f':Nat->Option Nat} (f1:da (bp C.ab C.V C.L) w w1) (ha:bP w1 C.ab V' C.L K.nd p.ap.length a') (hV:∀b,V'.ownBlock=some b->C.V.ownBlock=some b\/w.heap.size<=b)
 (f2:da [C.xb,C.xs] w1 w2) (hx:cL w2 C.xb C.xs K.nd (eS p a') f'):bu w w2 C {C with V:=V'}/\Mx w2 {C with V:=V'} RO K p c ⟨a',f',s.vars,s.total⟩ t used rv:=by
 have R:=h.rel;have hlen:=ha.lt;have F1:da C.l w w1:=f1.mono (by intro k hk;simp [Co.l,hk]);have F2:da C.l w1 w2:=f2.mono (by intro k hk;simp at hk;rcases hk with rfl|rfl<;>simp [Co.l]);have F:=F1.trans F2;have key:∀b,b∈({C with V:=V'}:Co).l->b∈C.l\/w.heap.size<=b:=by exact adg
 have hxV:∀b,b∈bp C.ab V' C.L->b∉[C.xb,C.xs]:=by
  intro b hb hc;have dn:b∈bp C.ab C.V C.L\/w.heap.size<=b:=by
   simp only [bp,afV,af2,Option.mem_toList] at hb ⊢;rcases hb with hb|hb|hb
   ·exact .inl (.inl hb)
   ·rcases hV b hb with h'|h'
    ·exact .inl (.inr (.inl h'))
    ·exact .inr h'
   ·exact .inl (.inr (.inr hb))
  simp at hc;rcases hc with rfl|rfl
  ·rcases dn with dn|dn
   ·exact R.xa dn
   ·have:=h.sep.lt C.xb (by simp [Co.l]);omega
  ·rcases dn with dn|dn
   ·exact R.sa dn
   ·have:=h.sep.lt C.xs (by simp [Co.l]);omega
 have FJ:C.mb∉[C.xb,C.xs]:=by simp;exact ⟨R.mx,R.ms⟩
 refine ⟨⟨rfl,F,key⟩,⟨⟨?_,?_,?_,?_,?_⟩,?_,?_,?_,?_⟩⟩
 ·exact (h.m.aM.aB f1 R.ma).aB f2 FJ
 ·exact h.m.prog.aB F fun b hb=>h.cr hb
 ·exact ha.aB f2 hxV
 ·exact hx
 ·exact (h.m.vs.aB f1 fun b hb hc=>R.av b hc (aK.2 hb)).aB f2 fun b hb hc=>by
   simp at hc;rcases hc with rfl|rfl
   ·exact R.xv (aK.2 hb)
   ·exact R.sv (aK.2 hb)
 ·exact adh
 ·intro b hb;have iN:=hb;simp only [Co.l,afV,af2] at iN;rcases iN with iN|iN|iN|iN|iN
  ·exact abR
  ·exact abR
  ·exact abR
  ·exact afQ (ha.lt b iN) F2.size
  ·exact abR
 ·exact adi
 ·exact fun b hb=>afQ (h.sep.cY b hb) F.size
def Gf (w w1:World) (C:Co) (K:Kc) (p:aO) (s:St) (V':Value) (a':Nd):Prop:=
 bP w1 C.ab V' C.L K.nd p.ap.length a'/\da (bp C.ab C.V C.L) w w1/\(∀b,V'.ownBlock=some b->C.V.ownBlock=some b\/w.heap.size<=b)/\cL w1 C.xb C.xs K.nd (eS p s.a) s.f
theorem Mx.zx (h:Mx w C RO K p c s t used rv) {w1:World} {V':Value} {a':Nd} (ha:bP w1 C.ab V' C.L K.nd p.ap.length a') (f:da (bp C.ab C.V C.L) w w1) (hV:∀b,V'.ownBlock=some b->C.V.ownBlock=some b\/w.heap.size<=b):Gf w w1 C K p s V' a':=
 ⟨ha,f,hV,h.m.ix.aB f ⟨h.rel.xa,h.rel.sa⟩⟩
theorem Mx.vL (h:Mx w C RO K p c s t used rv) {w1:World} (f:da (bp C.ab C.V C.L) w w1):w1.cell? (π C.mb 9)=some (ρ C.ab)/\w1.cell? (π C.mb 10)=some (ρ C.xb)/\w1.cell? (π C.mb 12)=some (ι s.total)/\w1.cell? (π C.mb 0)=some K.g/\∀o,w1.frozen? (π C.mb o)=false:=by have hm:=h.m.aM.aB f h.rel.ma;exact ⟨hm.cell 9,hm.cell 10,hm.cell 12,hm.cell 0,hm.frozen⟩
theorem Gg (h:Mx w C RO K p c s t used rv) (gm:K.nd<=4194304) (hg:p.ap.length<=256) {q d:Nat} (hq:q < p.ap.length) (he:d<=1) (x:eW) (hx:s.f x.key=none) (wI:eS p s.a < K.nd) (ht: -1073741824<=s.total/\s.total<=1073741824):
 Calls prog 270 #[ρ C.mb,ι q,ι d,bG x] w (vK w C RO K p c t used rv (.tuple #[]) (ja (aw p c) s q d x)):=by
 have dQ:=h.box (.cells (aH x) 118);have H0:=ae (dQ.drewN 1);have HB:=ae (bu.below (C:=C) (((afL w.heap.size w).alloc (afF _) (.cells (aH x) 118)).trans (au _ _ 1)));have HX:=ae hx;have HT:=ae ht;have hP:=dT.ae1 H0.o.m.ar gm hg hq he x wI;obtain ⟨m9,-,-,-,-⟩:=dQ.reads;have eO:ay (w.alloc (.cells (aH x) 118)) w.heap.size 118 (aH x):=ay.new w _ _;have jg:=ae eO;have Ig:w.heap.size∉bp C.ab C.V C.L:=fun hc=>by have:=h.m.ar.lt _ hc;omega
 obtain ⟨b0,b1,b2,b3,b4⟩:=eO.c5;have Vl:Hid (∀w2,da (bp C.ab C.V C.L) ((w.alloc (.cells (aH x) 118)).drewN 1) w2->ay w2 w.heap.size 118 (aH x)):=ae fun w2 f=>(eO.drewN 1).aB f Ig;have C1:Hid (Calls prog 306 #[ρ C.ab,ι q,ι d,bG x] ((w.alloc (.cells (aH x) 118)).drewN 1) fun r w2=>
  r= .returned (.tuple #[ι (s.a.fs 0),ι 0])/\(w2.cell? (π C.mb 9)=some (ρ C.ab)/\w2.cell? (π w.heap.size 0)=some (.int .u64 x.key)/\w2.cell? (π w.heap.size 1)=some (ι (x.tg 0))/\w2.cell? (π w.heap.size 2)=some (ι (x.tg 1))/\w2.cell? (π w.heap.size 3)=some (ι (x.tg 2))/\w2.cell? (π w.heap.size 4)=some (ι (x.tg 3)))/\
  Hid (∃V',Gf ((w.alloc (.cells (aH x) 118)).drewN 1) w2 C K p s V' (gd s.a q d x))):=by
  refine ae (hP.mono ?_);rintro r w2 ⟨rfl,V',ha,f,hV⟩;have dn:=Vl.o w2 f;exact ⟨rfl,⟨(H0.o.vL f).1,dn.cell 0,dn.cell 1,dn.cell 2,dn.cell 3,dn.cell 4⟩,ae ⟨V',H0.o.zx ha f hV⟩⟩
 clear eO h hx ht hP Ig dQ;unfold bG at*;unfold aH at*;obtain ⟨w1,jo⟩:∃w1,w1=w.alloc (.cells #[.int .u64 x.key,ι (x.tg 0),ι (x.tg 1),ι (x.tg 2),ι (x.tg 3)] 118):=⟨_,rfl⟩;rw [<-jo] at m9 b0 b1 b2 b3 b4 C1 H0 HB Vl jg;go_enter func270,ntmps270;go_wp2_with fail;rw [<-jo];clear jo;generalize w.heap.size=bx at*
 go_region_held3 (fun wx=>wx.cell? (π C.mb 9)=some (ρ C.ab)/\wx.cell? (π bx 0)=some (.int .u64 x.key)/\wx.cell? (π bx 1)=some (ι (x.tg 0))/\wx.cell? (π bx 2)=some (ι (x.tg 1))/\wx.cell? (π bx 3)=some (ι (x.tg 2))/\wx.cell? (π bx 4)=some (ι (x.tg 3))) (first|exact ⟨m9,b0,b1,b2,b3,b4⟩|assumption) ((go_at_call 306;refine C1.o.mono ?_;rintro r w2 ⟨rfl,hS,hM⟩))
 obtain ⟨-,b0',-,-,-,-⟩:=hS;have ⟨V',Jr⟩:=hM.o;have Ο:=ae Jr;obtain ⟨-,g10,-,-,-⟩:=H0.o.vL Jr.2.1;have S6:=ae (Ix.Lc (v:=s.a.fs 0) (Jr.2.2.2.drewN 1) HX.o omm);have fg:=ae (Vl.o w2 Jr.2.1);clear m9 b0 b1 b2 b3 b4 C1 Vl jg Jr hM;go_wp2_with fail
 go_still_tail 7,krr
 change wpList _ _ _ _ _ (w2.drewN 1);obtain ⟨w3,Ri⟩:∃w3,w3=w2.drewN 1:=⟨_,rfl⟩;rw [<-Ri];rw [<-Ri] at S6;have HW3:=ae Ri;clear Ri;go_wp2_with fail;refine S6.o.mono ?_;rintro e w4 ⟨rfl,f4,x4⟩;obtain ⟨Rj,Eb⟩:=H0.o.both Ο.o.2.1 Ο.o.1 Ο.o.2.2.1 (((da.refl _ w2).drewN 1).trans (by rw [<-HW3.o];exact f4)) (by rw [BE hq];exact x4);obtain ⟨-,-,g12,g0,gf⟩:=Eb.reads;obtain ⟨gb,kw,jZ,vM,UC⟩:=Eb.ap hq;have Jp:=ae Rj;have Db:=ae Eb;rw [jZ] at g0;clear jZ Rj Eb f4 x4 b0' g10 S6;have Pa:(aw p c).gh q=p.ap.getD q false:=rfl;have Vy:=ae Pa;clear Pa;dsimp only at g12;generalize p.ap.getD q false=gq at*;generalize p.ap.length=ng at*;have S7:IntKind.i64.wrap (s.total+1)=s.total+1:=afU _ ⟨by have:=HT.o;omega,by have:=HT.o;omega⟩;cases gq
 ·go_wp2;refine afI (afT rfl _ _ _) rfl ?_;obtain ⟨k1,k2⟩:=Db.o.total (s.total+1);have e:ja (aw p c) s q d x=⟨gd s.a q d x,Vm.aL s.f x.key (some (s.a.fs 0)),s.vars,s.total+1⟩:=by unfold ja;rw [Vy.o];rfl
  rw [e];exact ⟨rfl,{C with V:=V'},HB.o.trans (Jp.o.trans k1),k2⟩
 ·go_wp2;refine afI (afT rfl _ _ _) rfl ?_;have e:ja (aw p c) s q d x=⟨gd s.a q d x,Vm.aL s.f x.key (some (s.a.fs 0)),s.vars,s.total⟩:=by unfold ja;rw [Vy.o];rfl
  rw [e];exact ⟨rfl,{C with V:=V'},HB.o.trans Jp.o,Db.o⟩
theorem Mx.aB (h:Mx w C RO K p c s t used rv) {S:List Nat} (f:da S w w') (hc:∀b,b∈C.l->b∉S) (hr:∀b,b∈RO->b∉S):Mx w' C RO K p c s t used rv:=
 ⟨h.m.aB f hc hr,h.sep.nd,fun b' hb=>afQ (h.sep.lt b' hb) f.size,h.sep.ro,fun b' hb=>afQ (h.sep.cY b' hb) f.size⟩
theorem bu.new {w2 w3:World} (k:bu w w2 C C') {bx:Nat} (hb:w.heap.size<=bx) (f:da [bx] w2 w3):bu w w3 C C':=
 ⟨k.mb,⟨f.os.trans k.f.os,f.tape.trans k.f.tape,f.output.trans k.f.output,Nat.le_trans k.f.size f.size,fun i hi hs=>(f.block i (afQ hi k.f.size) sso).trans (k.f.block i hi hs)⟩,k.c⟩
def ky:Array Value:=#[.int .u64 0,ι 0,ι 0,ι 0,ι 0]
theorem adj {p:Prop} (h:p:=by
 rw [e];exact afI (v:= .agg #[.int .u64 y.key,ι (y.tg 0),ι (y.tg 1),ι (y.tg 2),ι (y.tg 3)]) (by simp [results,results272,go_sem,e0,e1,e2,e3,e4]) rfl ⟨rfl,C,T3,k3⟩):p:=h
theorem Rk (h:Mx w C RO K p c s t used rv) (hI:Inv (aw p c) s) (gm:K.nd<=4194304) (hg:p.ap.length<=256) {q d:Nat} (hq:q < p.ap.length) (he:d<=1) (bz:s.a.ls q≠[]) (ht: -1073741824<=s.total/\s.total<=1073741824):
 Calls prog 272 #[ρ C.mb,ι q,ι d] w (vK w C RO K p c t used rv (bG (s.a.val (ck s.a q d))) (jn (aw p c) s q d)):=by
 have hm:=fi (e:=d) bz;have hf:=(hI.idx _ _).2 ⟨q,hq,hm,rfl⟩;have dQ:=h.box (.cells ky 118);have H0:=ae dQ;have HB:=ae (bu.below (C:=C) ((afL w.heap.size w).alloc (afF _) (.cells ky 118)));have HF:=ae hf;have HT:=ae ht;have pY:=ae (o_ (a:=s.a) hq hm);have hP:=dT.WS dQ.m.ar gm hg hq he bz;obtain ⟨m9,-,-,-,-⟩:=dQ.reads;have eO:ay (w.alloc (.cells ky 118)) w.heap.size 118 ky:=ay.new w _ _;have jg:=ae eO;have Ig:w.heap.size∉C.l:=fun hc=>by have:=h.sep.lt _ hc;omega
 have NI:w.heap.size∉RO:=fun hc=>by have:=h.sep.cY _ hc;omega
 have S_:=ae (And.intro Ig NI);have kV:=ae (show jn (aw p c) s q d=⟨takeN s.a q (ck s.a q d),Vm.aL s.f (s.a.val (ck s.a q d)).key none,s.vars,if p.ap.getD q false then s.total else s.total - 1⟩ from rfl);clear h hf ht eO Ig NI dQ bz hm hI;generalize s.a.val (ck s.a q d)=y at*;unfold bG at hP ⊢;unfold ky at*;have HP:=ae hP;clear hP;go_enter func272,ntmps272;go_wp2_with fail;obtain ⟨bx,eO⟩:∃bx,bx=w.heap.size:=⟨_,rfl⟩;rw [<-eO] at jg S_ ⊢;have rF:=ae (Nat.le_of_eq eO.symm);clear eO;refine HP.o.mono ?_;rintro e w2 ⟨rfl,f2,a2⟩;have Jr:=H0.o.zx a2 f2 (fun b hb=> .inl hb);obtain ⟨-,g10,-,-,-⟩:=H0.o.vL f2;have Ο:=ae Jr;have Ta:=jg.o.aB f2 (fun hc=>S_.o.1 (by simp [Co.l,hc]));have Vo:=Ta.lt;have F3:da (bp C.ab C.V C.L) (w.alloc (.cells #[.int .u64 0,ι 0,ι 0,ι 0,ι 0] 118)) ((w2.alloc (.cells #[.int .u64 y.key,ι (y.tg 0),ι (y.tg 1),ι (y.tg 2),ι (y.tg 3)] 118)).drewN 1):=(f2.alloc _).drewN 1;have B3:Below w2.heap.size w2 ((w2.alloc (.cells #[.int .u64 y.key,ι (y.tg 0),ι (y.tg 1),ι (y.tg 2),ι (y.tg 3)] 118)).drewN 1):=((afL _ w2).alloc (afF _) _).trans (au _ _ 1);have A3:=a2.later B3;have X3:=Jr.2.2.2.later B3;rw [<-pY.o] at X3;have hD:=Ix.qK X3 HF.o;have hy:=(ay.new w2 118 #[.int .u64 y.key,ι (y.tg 0),ι (y.tg 1),ι (y.tg 2),ι (y.tg 3)]);have Vz:w2.heap.size∉[C.xb,C.xs]:=by have l1:=H0.o.sep.lt C.xb (by simp [Co.l]);have l2:=H0.o.sep.lt C.xs (by simp [Co.l]);have l3:=f2.size;simp;omega
 have qq:bx∉[C.xb,C.xs]:=by have:=S_.o.1;simp [Co.l] at this ⊢;exact ⟨this.2.1,this.2.2.1⟩
 have Xr:=(Ta.alloc (.cells #[.int .u64 y.key,ι (y.tg 0),ι (y.tg 1),ι (y.tg 2),ι (y.tg 3)] 118)).drewN 1;have HY:=ae (hy.drewN 1);have aal:=ae Xr;have Rl:=ae (And.intro Vz qq);have i10:(w2.alloc (.cells #[.int .u64 y.key,ι (y.tg 0),ι (y.tg 1),ι (y.tg 2),ι (y.tg 3)] 118)).cell? (π C.mb 10)=some (ρ C.xb):=(H0.o.vL (f2.alloc _)).2.1;have y0:=hy.c1;have DK:=ae F3;have zy:=ae A3;have HD:=ae hD;clear f2 a2 Jr m9 HP jg Ta F3 B3 A3 X3 hD Vz qq Xr hy g10;go_wp2_with fail;generalize w2.alloc (.cells #[.int .u64 y.key,ι (y.tg 0),ι (y.tg 1),ι (y.tg 2),ι (y.tg 3)] 118)=w3 at*;generalize w2.heap.size=yb at*
 go_still_tail 6,krr
 change wpList _ _ _ _ _ (w3.drewN 1);generalize w3.drewN 1=w4 at*;go_wp2_with fail;refine HD.o.mono ?_;rintro e w5 ⟨rfl,f5,x5⟩;obtain ⟨Rj,Eb⟩:=H0.o.both DK.o zy.o (fun b hb=> .inl hb) f5 x5;obtain ⟨-,-,g12,g0,gf⟩:=Eb.reads;obtain ⟨gb,kw,jZ,vM,UC⟩:=Eb.ap hq;have hy5:=HY.o.aB f5 Rl.o.1;have BG:=aal.o.aB f5 Rl.o.2;have Jp:=ae Rj;have Db:=ae Eb;rw [jZ] at g0;clear jZ Rj Eb f5 x5 i10 y0 HD;dsimp only at g12;obtain ⟨Y0,Y1,Y2,Y3,Y4⟩:=hy5.c5;obtain ⟨Z0,Z1,Z2,Z3,Z4⟩:=BG.c5;have zf:∀o,w5.frozen? (π bx o)=false:=BG.frozen;have n1:yb≠C.mb:=hy5.ne Db.o.m.aM dee;have n2:bx≠C.mb:=BG.ne Db.o.m.aM dee;have nA:=ae BG;clear hy5 BG;have S7:IntKind.i64.wrap (s.total - 1)=s.total - 1:=afU _ ⟨by have:=HT.o;omega,by have:=HT.o;omega⟩;generalize p.ap.getD q false=gq at*;generalize p.ap.length=ng at*;cases gq
 ·go_wp2;obtain ⟨k1,k2⟩:=Db.o.total (s.total - 1);have uw:ay (w5.setCell (π C.mb 12) (ι (s.total - 1))) bx 118 _:=nA.o.other n2 _ _;have r6:=dT.jp uw y;have F6:da [bx] (w5.setCell (π C.mb 12) (ι (s.total - 1))) (dr (w5.setCell (π C.mb 12) (ι (s.total - 1))) bx 0 y):=fD (da.refl _ _) smm 0 y;have k3:=k2.aB F6 (fun b hb hc=>by simp at hc;subst hc;exact S_.o.1 hb) (fun b hb hc=>by simp at hc;subst hc;exact S_.o.2 hb);have T3:=(HB.o.trans (Jp.o.trans k1)).new rF.o F6;change bodyPost _ _ _ _ _ (dr (w5.setCell (π C.mb 12) (ι (s.total - 1))) bx 0 y);generalize dr (w5.setCell (π C.mb 12) (ι (s.total - 1))) bx 0 y=w7 at*;obtain ⟨e0,e1,e2,e3,e4,_⟩:=jc r6;have e:jn (aw p c) s q d=⟨takeN s.a q (ck s.a q d),Vm.aL s.f y.key none,s.vars,s.total - 1⟩:=kV.o;exact adj
 ·go_wp2;have uw:ay w5 bx 118 _:=nA.o;have r6:=dT.jp uw y;have F6:da [bx] w5 (dr w5 bx 0 y):=fD (da.refl _ _) smm 0 y;have k3:=Db.o.aB F6 (fun b hb hc=>by simp at hc;subst hc;exact S_.o.1 hb) (fun b hb hc=>by simp at hc;subst hc;exact S_.o.2 hb);have T3:=(HB.o.trans Jp.o).new rF.o F6;change bodyPost _ _ _ _ _ (dr w5 bx 0 y);generalize dr w5 bx 0 y=w7 at*;obtain ⟨e0,e1,e2,e3,e4,_⟩:=jc r6;have e:jn (aw p c) s q d=⟨takeN s.a q (ck s.a q d),Vm.aL s.f y.key none,s.vars,s.total⟩:=kV.o;exact adj
theorem Mx.vars (h:Mx w C RO K p c s t used rv) {b m cap i:Nat} (hv:C.vs= .slice (some (π b 0)) m cap) (hi:i < p.vars.length) (n:Int):
 bu w (w.setCell (π b i) (ι n)) C C/\Mx (w.setCell (π b i) (ι n)) C RO K p c {s with vars:=Vm.aL s.vars i n} t used rv:=by
 have R:=h.rel;have hob:C.vs.ownBlock=some b:=by rw [hv];rfl
 have F:da (vb C.vs) w (w.setCell (π b i) (ι n)):=(da.refl _ w).setCell (aK.2 hob) _;refine ⟨⟨rfl,F.mono (by intro k hk;simp [Co.l,hk]),fun _ hb=> .inl hb⟩,⟨⟨?_,?_,?_,?_,?_⟩,h.sep.nd,fun b' hb=>afQ (h.sep.lt b' hb) F.size,h.sep.ro,fun b' hb=>afQ (h.sep.cY b' hb) F.size⟩⟩
 ·exact h.m.aM.aB F R.mv
 ·exact h.m.prog.aB F fun b' hb hc=>h.cr hb (by simp [Co.l,hc])
 ·exact h.m.ar.aB F fun b' hb hc=>R.av b' hb hc
 ·exact h.m.ix.aB F ⟨R.xv,R.sv⟩
 ·have h3:=h.m.vs;rw [hv] at h3 ⊢;refine (h3.set (o:=i) omm (ι n)).congr fun o ho=>?_;show (if o=i then _ else _)=ι (Vm.aL s.vars i n o);rw [Vm.cG];split<;>rfl
theorem Mx.Pb (h:Mx w C RO K p c s t used rv) {i:Nat} (hi:i < p.vars.length):∃b cap,C.vs= .slice (some (π b 0)) p.vars.length cap/\w.cell? (π b i)=some (ι (s.vars i))/\∀o,w.frozen? (π b o)=false:=by obtain ⟨b,cap,fN,nO,lF,hb⟩:=h.m.vs.some omm;have h3:=h.m.vs;rw [fN] at h3;exact ⟨b,cap,fN,h3.cell (o:=i) omm,fun o=>h3.frozen o⟩
theorem Ec (h:Mx w C RO K p c s t used rv) {x1 x2 x3 i:Nat} {oE op b' c' d':Int} (hi:i < p.vars.length)
 (h1:ay w x1 3 #[ι oE]) (h2:ay w x2 35 #[ρ C.mb]) (h3:ay w x3 40 #[ι op,ι i,ι b',ι c',ι d']):
 Calls prog 215 #[ρ x1,ρ x2,ρ x3] w (vK w C RO K p c t used rv (.tuple #[]) {s with vars:=Vm.aL s.vars i oE}):=by
 obtain ⟨vb,aam,hv,hc,hf⟩:=h.Pb hi;have k5:w.cell? (π C.mb 11)=some C.vs:=h.m.aM.cell 11;have c1:=h1.c1;have c2:=h2.c1;have c3:w.cell? (π x3 1)=some (ι i):=h3.cell 1;have HF:=ae (h.vars hv hi oE);rw [hv] at k5;clear h h1 h2 h3 hv;generalize p.vars.length=nv at*;go_enter func215,ntmps215;go_wp2;go_region;go_wp2;refine afI (afT rfl _ _ _) rfl ?_;obtain ⟨k1,k2⟩:=HF.o;exact ⟨rfl,C,k1.trans (bu.below (au _ _ 1)),k2.drewN 1⟩
theorem Mx.set (h:Mx w C RO K p c s t used rv) {n:Nat} {x:eW} (f:da (bp C.ab C.V C.L) w w') (ha:bP w' C.ab C.V C.L K.nd p.ap.length (GZ s.a n x)):bu w w' C C/\Mx w' C RO K p c (kD s n x) t used rv:=
 h.Rh (s':=kD s n x) f ha (fun b hb=> .inl hb) rfl rfl rfl h.m.ix
theorem BH (h:Mx w C RO K p c s t used rv) {x1 x2 n q:Nat} {oE:eW} (hf:s.f oE.key=some n) (hq:q < p.ap.length) (hn:n∈s.a.ls q)
 (h1:ay w x1 35 #[ρ C.mb]) (h2:ay w x2 118 (aH oE)):
 Calls prog 269 #[ρ x1,ρ x2] w (vK w C RO K p c t used rv (.tuple #[]) (kD s n oE)):=by
 obtain ⟨m9,m10,-,-,-⟩:=h.reads;have c1:=h1.c1;obtain ⟨c2,c3,c4,c5,c6⟩:=h2.c5;have HG:=ae (fun k=>Ix.pJ (h.m.ix.drewN k) hf);have HS:=ae (fun k=>dT.Q8 ((h.m.ar.drewN k).drewN 1) hq hn oE);have H:=ae h;clear h hf hn h1 h2;unfold bG at HS;go_enter func269,ntmps269;go_wp2_with fail;go_quiet ((go_at_call 59;exact DC (HG.o _)));go_wp2_with fail;have tC:=ae (HS.o nq);have HA:=ae ((H.o.drewN nq).drewN 1);have HB:=ae (bu.below (C:=C) ((au w.heap.size w nq).trans (au w.heap.size (w.drewN nq) 1)));have d1:(w.drewN nq).cell? (π x1 0)=some (ρ C.mb):=c1;have d2:(w.drewN nq).cell? (π x2 0)=some (.int .u64 oE.key):=c2;have d3:(w.drewN nq).cell? (π x2 1)=some (ι (oE.tg 0)):=c3;have d4:(w.drewN nq).cell? (π x2 2)=some (ι (oE.tg 1)):=c4;have d5:(w.drewN nq).cell? (π x2 3)=some (ι (oE.tg 2)):=c5;have d6:(w.drewN nq).cell? (π x2 4)=some (ι (oE.tg 3)):=c6;have d9:(w.drewN nq).cell? (π C.mb 9)=some (ρ C.ab):=m9;clear HS HG c1 c2 c3 c4 c5 c6 m9 m10;generalize w.drewN nq=w1 at*
 go_still_tail 6,krr
 change wpList _ _ _ _ _ (w1.drewN 1);generalize w1.drewN 1=w2 at*;go_wp2_with fail;refine tC.o.mono ?_;rintro e w3 ⟨rfl,f3,a3⟩;obtain ⟨k1,k2⟩:=HA.o.set f3 a3;have pZ:=ae k1;have kY:=ae k2;clear f3 a3 k1 k2 tC;go_wp2;exact afI (afT rfl _ _ _) rfl ⟨rfl,C,HB.o.trans pZ.o,kY.o⟩
theorem adk {p:Prop} (h:p:=by
 go_wp2_with fail;refine HC.o.mono ?_;rintro e w2 ⟨rfl,C',k1,k2⟩;have pZ:=ae k1;have kY:=ae k2;clear k1 k2 HC;go_wp2;exact afI (afT rfl _ _ _) rfl ⟨rfl,C',pZ.o,kY.o⟩):p:=h
theorem Ed (h:Mx w C RO K p c s t used rv) (hI:Inv (aw p c) s) (gm:K.nd<=4194304) (hg:p.ap.length<=256) {q d:Nat} (hq:q < p.ap.length) (he:d<=1) (bz:s.a.ls q≠[]) (ht: -1073741824<=s.total/\s.total<=1073741824) {x1 x2 x3:Nat}
 (h1:ay w x1 35 #[ρ C.mb]) (h2:ay w x2 3 #[ι q]) (h3:ay w x3 3 #[ι d]):
 Calls prog 271 #[ρ x1,ρ x2,ρ x3] w (vK w C RO K p c t used rv (.tuple #[]) (jn (aw p c) s q d)):=by
 have c1:=h1.c1;have c2:=h2.c1;have c3:=h3.c1;have HC:=ae (Rk h hI gm hg hq he bz ht);clear h h1 h2 h3 hI bz ht;go_enter func271,ntmps271;exact adk
theorem Ee (h:Mx w C RO K p c s t used rv) (gm:K.nd<=4194304) (hg:p.ap.length<=256) {q d:Nat} (hq:q < p.ap.length) (he:d<=1) (x:eW) (hx:s.f x.key=none) (wI:eS p s.a < K.nd) (ht: -1073741824<=s.total/\s.total<=1073741824) {x1 x2 x3 x4:Nat}
 (h1:ay w x1 35 #[ρ C.mb]) (h2:ay w x2 3 #[ι q]) (h3:ay w x3 3 #[ι d]) (h4:ay w x4 118 (aH x)):
 Calls prog 275 #[ρ x1,ρ x2,ρ x3,ρ x4] w (vK w C RO K p c t used rv (.tuple #[]) (ja (aw p c) s q d x)):=by
 have c1:=h1.c1;have c2:=h2.c1;have c3:=h3.c1;unfold aH at h4;obtain ⟨e0,e1,e2,e3,e4,-⟩:=jc h4;have HC:=ae (Gg h gm hg hq he x hx wI ht);clear h h1 h2 h3 h4 hx wI ht;unfold bG at HC;go_enter func275,ntmps275;exact adk
end
end Go.Proofs.YtblkblclmbhjiaaGreat.Ma
