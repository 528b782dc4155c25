/- Of the proof that VmKeeps holds: a key keeps its node, what traps leaves no trace. No condition. -/
import Derived.Test.YtblkblclmbhjiaaGreatL5
import Derived.RangeFuncBox
import Derived.Maps.AppendAt
import Derived.Lib.Bytes
import Derived.StillTailTactics
import Derived.Deep.RegionLaw
set_option linter.unusedVariables false
set_option linter.unusedSimpArgs false
set_option maxHeartbeats 40000000
set_option maxRecDepth 100000
namespace Go.Proofs.YtblkblclmbhjiaaGreat.gP
open Go.RowKit ak
theorem O6 {w:World} {b s az count n e:Nat} {z:Value} {S:Tb Value} (h:dH w b s az count n (dB z S)) (g:xE n e) {em:Nat} (oN:em < n) (il:S em=none) (key:Nat) (v:Int)
 (hm:count < az) (GY:az<=n) (ht:S (find n S key)=none):
 Calls Tryz.prog 307 #[ρ b,.int .u64 key,ι v] w fun r w'=>r= .returned (ι 0)/\ax [b,s] w w'/\dH w' b s az (count+1) n (dB z (putAt n S key (ι v))):=by
 have hs:=g.small;have hp:=g.pos;have hq:=iQ g.pos S key;have Be:∀m,ax [b,s] w (((((w.drewN m).setCell (π b 1) (ι ((count:Int)+1))).setCell (π s (find n S key*3)) (.bool true)).setCell (π s (find n S key*3+1)) (.int .u64 key)).setCell (π s (find n S key*3+2)) (ι v))/\
  dH (((((w.drewN m).setCell (π b 1) (ι ((count:Int)+1))).setCell (π s (find n S key*3)) (.bool true)).setCell (π s (find n S key*3+1)) (.int .u64 key)).setCell (π s (find n S key*3+2)) (ι v)) b s az (count+1) n (dB z (putAt n S key (ι v))):=by
  intro m;refine ⟨(((ax.refl _ w).drewN m).setCell (by simp) _).nQ (by simp) _ _ _,?_⟩;unfold putAt;rw [JQ];exact ((h.drewN m).AQ (count+1)).nQ hq true key (ι v)
 have Hq:(dB z S (find n S key)).1=false:=by unfold dB;rw [ht]
 have H1:=ae (za h g oN il key);rw [Hq] at H1;have HR:=ae Be;clear Be Hq ht;generalize find n S key=q at hq H1 HR ⊢;generalize putAt n S key (ι v)=S' at HR ⊢;have d0:=h.k0 q hq;have d1:=h.k1 q hq;have d2:=h.k2 q hq;have h0:=h.c0;have h1:=h.c1;obtain ⟨cp,h2⟩:=h.c2;have bz:=h.ne;have fs:∀o,w.frozen? (π s o)=false:=h.fs;have fb:∀o,w.frozen? (π b o)=false:=h.fb;have iR:((az:Int)==0)=false:=by simp;omega
 have aa5:((count:Int)==(az:Int))=false:=by simp;omega
 clear h g il;go_enter Tryz.func307,Tryz.ntmps307;go_wp2_with (go_at_call 132;refine H1.o.mono ?_;rintro e w' ⟨rfl,m,rfl⟩);go_quiet (fail);go_wp2;go_ret;exact ⟨rfl,HR.o _⟩
theorem xM {w:World} {b s az count n e:Nat} {z:Value} {S:Tb Value} (h:dH w b s az count n (dB z S)) (g:xE n e) {em:Nat} (oN:em < n) (il:S em=none) (key:Nat):
 Calls Tryz.prog 59 #[ρ b,.int .u64 key] w fun r w'=>
  r= .returned (.tuple #[(dB z S (find n S key)).2.2,.bool (dB z S (find n S key)).1])/\∃m,w'=w.drewN m:=by
 obtain ⟨cp,h1⟩:=h.c2;have hs:=g.small;have hp:=g.pos;have hq:=iQ g.pos S key;have H1:=ae (za h g oN il key);generalize find n S key=q at hq H1 ⊢;have d2:=h.k2 q hq;generalize dB z S q=cq at*;clear h g;go_enter Tryz.func59,Tryz.ntmps59;go_wp2_with (go_at_call 132;refine H1.o.mono ?_;rintro e w' ⟨rfl,m,rfl⟩);go_ret2;exact ⟨rfl,_,rfl⟩
def DR (w0:World) (b s az count n:Nat) (z:Value) (F:Tb Value) (em:Nat) (f:Nat) (s6 s7:Value) (wr:World):Prop:=
 ∃(i k:Nat) (S:Tb Value) (st:Bool×Nat×Value) (sv:Int),s6=ι i/\s7=ι k/\i < n/\k < n/\xD n S i k em/\cA n k em<=f/\fV n f S i k=F/\st.2.2=ι sv/\(∀j k u,S j=some (k,u)->∃x,u=ι x)/\
  dH wr b s az count n (aL (dB z S) i st)/\ax [b,s] w0 wr
theorem DR.move {w0:World} {b s az count n:Nat} {z:Value} {F S:Tb Value} {em f:Nat} {i k y:Nat} {v:Int} {st:Bool×Nat×Value} {wr:World} (D:xD n S i k em) (hd:cA n k em<=f+1) (hF:fV n (f+1) S i k=F)
 (hi:∀j k u,S j=some (k,u)->∃x,u=ι x) (hI:dH wr b s az count n (aL (dB z S) i st)) (hR:ax [b,s] w0 wr) (hk:S k=some (y,ι v)) (hh:cA n i k<=cA n (home n y) k) (m:Nat):
 DR w0 b s az count n z F em f (ι k) (ι (nx n k)) ((((wr.drewN m).setCell ⟨s,i*3,none⟩ (.bool true)).setCell ⟨s,i*3+1,none⟩ (.int .u64 y)).setCell ⟨s,i*3+2,none⟩ (ι v)):=by
 have AC:k≠em:=fun h=>by rw [h,D.wU] at hk;simp at hk
 refine ⟨k,nx n k,aL (aL S i (S k)) k none,(true,y,ι v),v,rfl,rfl,D.lk,jf D.lk,D.move hk hh,?_,?_,rfl,?_,?_,(hR.drewN m).nQ (by simp) _ _ _⟩
 ·rw [iA D.lk D.le AC] at hd;omega
 ·rw [<-hF];conv=>rhs;unfold fV
  rw [hk];simp only [hh,if_true]
 ·intro j x u hj;unfold aL at hj;split at hj
  ·simp at hj
  ·split at hj
   ·exact hi k x u hj
   ·exact hi j x u hj
 ·have h1:=(hI.drewN m).nQ D.li true y (ι v);have e:aL (dB z (aL (aL S i (S k)) k none)) k (true,y,ι v)=aL (aL (dB z S) i st) i (true,y,ι v):=by
   funext j;by_cases hj:j=k
   ·subst hj;rw [an,aj _ _ (fun e=>D.ik e.symm),aj _ _ (fun e=>D.ik e.symm)];unfold dB;rw [hk]
   ·rw [aj _ _ hj];by_cases hi:j=i
    ·subst hi;rw [an];unfold dB;rw [aj _ _ hj,an,hk]
    ·rw [aj _ _ hi,aj _ _ hi];unfold dB;rw [aj _ _ hj,aj _ _ hi]
  rw [e];exact h1
theorem DR.stay {w0:World} {b s az count n:Nat} {z:Value} {F S:Tb Value} {em f:Nat} {i k y:Nat} {v:Value} {st:Bool×Nat×Value} {sv:Int} {wr:World} (D:xD n S i k em) (hd:cA n k em<=f+1) (hF:fV n (f+1) S i k=F)
 (fj:st.2.2=ι sv) (hi:∀j k u,S j=some (k,u)->∃x,u=ι x) (hI:dH wr b s az count n (aL (dB z S) i st)) (hR:ax [b,s] w0 wr) (hk:S k=some (y,v)) (hh:¬cA n i k<=cA n (home n y) k) (m:Nat):
 DR w0 b s az count n z F em f (ι i) (ι (nx n k)) (wr.drewN m):=by
 have AC:k≠em:=fun h=>by rw [h,D.wU] at hk;simp at hk
 refine ⟨i,nx n k,S,st,sv,rfl,rfl,D.li,jf D.lk,D.stay hk hh,?_,?_,fj,hi,hI.drewN m,hR.drewN m⟩
 ·rw [iA D.lk D.le AC] at hd;omega
 ·rw [<-hF];conv=>rhs;unfold fV
  rw [hk];simp only [hh,if_false]
theorem Ia {w:World} {b s az count n e:Nat} {z:Value} {S:Tb Value} (h:dH w b s az count n (dB z S)) (g:xE n e) {em:Nat} (oN:em < n) (il:S em=none) (key:Nat) (ht:S (find n S key)=none):
 Calls Tryz.prog 66 #[ρ b,.int .u64 key] w fun r w'=>r= .returned (.tuple #[ι 0,.bool false])/\∃m,w'=w.drewN m:=by
 have hs:=g.small;have hp:=g.pos;have hq:=iQ g.pos S key;have Hq:(dB z S (find n S key)).1=false:=by unfold dB;rw [ht]
 have H1:=ae (za h g oN il key);rw [Hq] at H1;clear Hq ht;generalize find n S key=q at hq H1 ⊢;clear h g il;go_enter Tryz.func66,Tryz.ntmps66;go_wp2_with (go_at_call 132;refine H1.o.mono ?_;rintro e w' ⟨rfl,m,rfl⟩);go_ret2;exact ⟨rfl,_,rfl⟩
theorem ab5 {p:Prop} (h:p:=by
 go_wp2_with (go_at_call 141;refine (Μ.o _ k Ν (by go_simp) hk).mono ?_;rintro e w' ⟨rfl,rfl⟩)
 go_roundg f
 case measure=>omega
 case rel=>exact HM.o _):p:=h
theorem Ib {w:World} {b s az count n e:Nat} {S:Tb Value} (h:dH w b s az (count+1) n (dB (ι 0) S)) (g:xE n e) (I:Inv n S) (hc:count < n) {em:Nat} (oN:em < n) (il:S em=none) (key:Nat)
 {v:Int} (ht:S (find n S key)=some (key,ι v)) (hint:∀i k u,S i=some (k,u)->∃x,u=ι x):
 Calls Tryz.prog 66 #[ρ b,.int .u64 key] w fun r w'=>r= .returned (.tuple #[ι v,.bool true])/\
  ax [b,s] w w'/\dH w' b s az count n (dB (ι 0) (ke n S (find n S key))):=by
 have hs:=g.small;have hp:=g.pos;have hq:=iQ g.pos S key;have Hq:dB (ι 0) S (find n S key)=(true,key,ι v):=by unfold dB;rw [ht]
 have H1:=ae (za h g oN il key);rw [Hq] at H1;have hqe:find n S key≠em:=fun e'=>by rw [e',il] at ht;simp at ht
 have hD:=xD.start I hq oN il hqe;generalize find n S key=q at*;have d2:=h.k2 q hq;rw [Hq] at d2;have h1:=h.c1;obtain ⟨cp,h2⟩:=h.c2;have fb:∀o,w.frozen? ⟨b,o,none⟩=false:=h.fb;have hDR:∀m,DR w b s az count n (ι 0) (ke n S q) em n (ι q) (ι (nx n q)) ((w.drewN m).setCell ⟨b,1,none⟩ (ι count)):=by
  intro m;refine ⟨q,nx n q,aL S q none,(true,key,ι v),v,rfl,rfl,hq,jf hq,hD,Nat.le_of_lt (qZ (jf hq) oN),rfl,rfl,?_,?_,((ax.refl _ w).drewN m).setCell (by simp) _⟩
  ·intro j x u hj;unfold aL at hj;split at hj
   ·simp at hj
   ·exact hint j x u hj
  have h':=(h.drewN m).AQ count;have e:dB (ι 0) S=aL (dB (ι 0) (aL S q none)) q (true,key,ι v):=by
   funext j;by_cases hj:j=q
   ·rw [hj,an,Hq]
   ·rw [aj _ _ hj];unfold dB;rw [aj _ _ hj]
  rw [<-e];exact h'
 have Λ:=ae hDR;have Μ:=ae (fun (wx:World) (i:Nat) (cp:Nat) (hx:wx.cell? ⟨b,2,none⟩=some (.slice (some ⟨s,0,none⟩) n cp)) (hi:i < n)=>Bi hx g hi);have Xl:=ae (fun (wx:World) (y:Nat) (cp:Nat) (hx:wx.cell? ⟨b,2,none⟩=some (.slice (some ⟨s,0,none⟩) n cp))=>Kr hx g y);clear hDR hD h I ht Hq hqe;go_enter Tryz.func66,Tryz.ntmps66;go_wp2_with (first|(go_at_call 132;refine H1.o.mono ?_;rintro e w' ⟨rfl,m,rfl⟩)|(go_at_call 141;refine (Μ.o _ q cp (by go_simp) hq).mono ?_;rintro e w' ⟨rfl,rfl⟩));clear H1
 go_loopg [6,7] n (fun f s6 s7 wr=>DR w b s az count n (ι 0) (ke n S q) em f s6 s7 wr)
 case atStart=>exact Λ.o m
 case round=>
  clear Λ h1 h2 d2;obtain ⟨i,k,S',st,sv,rfl,rfl,hi,hk,D,hd,hF,fj,dK,hI,hR⟩:=hrel;have Ww:=D.ik;have bz:=hI.ne;obtain ⟨Ν,c2⟩:=hI.c2;have k0:=hI.k0 k hk;have k1:=hI.k1 k hk;have i0:=hI.k0 i hi;have i1:=hI.k1 i hi;have i2:=hI.k2 i hi;have fs:∀o,wr.frozen? ⟨s,o,none⟩=false:=hI.fs;have k2:=hI.k2 k hk;rw [aj _ _ (fun e=>Ww e.symm)] at k0 k1 k2;rw [an] at i0 i1 i2;rw [fj] at i2;cases hS:S' k with
  |none=>
   have qJ:dB (ι 0) S' k=(false,0,ι 0):=by unfold dB;rw [hS]
   rw [qJ] at k0;have Xm:ax [b,s] w (((wr.setCell ⟨s,i*3,none⟩ (.bool false)).setCell ⟨s,i*3+1,none⟩ (.int .u64 0)).setCell ⟨s,i*3+2,none⟩ (ι 0))/\
    dH (((wr.setCell ⟨s,i*3,none⟩ (.bool false)).setCell ⟨s,i*3+1,none⟩ (.int .u64 0)).setCell ⟨s,i*3+2,none⟩ (ι 0)) b s az count n (dB (ι 0) (ke n S q)):=by
    refine ⟨hR.nQ (by simp) _ _ _,?_⟩;have h':=hI.nQ hi false 0 (ι 0);have e:aL (aL (dB (ι 0) S') i st) i (false,0,ι 0)=dB (ι 0) (ke n S q):=by
     have:fV n gk S' i k=S':=by cases gk<;>simp [fV,hS]
     rw [<-hF,this];funext j;by_cases hj:j=i
     ·rw [hj,an];unfold dB;rw [D.tV]
     ·rw [aj _ _ hj,aj _ _ hj]
    rw [e] at h';exact h'
   have HF:=ae Xm;clear Xm hI hR hF D hd dK hS qJ k1 k2 fj Μ Xl hint;go_wp2;go_ret2;exact ⟨rfl,HF.o⟩
  |some x=>
   obtain ⟨y,u⟩:=x;obtain ⟨x,rfl⟩:=dK k y u hS;have qJ:dB (ι 0) S' k=(true,y,ι x):=by unfold dB;rw [hS]
   rw [qJ] at k0 k1 k2;obtain ⟨f,rfl⟩:∃f,gk=f+1:=by
    cases gk with
    |zero=>exfalso;have:=D.le;have:k=em:=by have:=dc n k em;omega
           rw [this,D.wU] at hS;simp at hS
    |succ f=>exact ⟨f,rfl⟩
   have hhl:=jB g.pos y;have a1:=AS g hhl hk;have a2:=AS g hi hk;by_cases hh:cA n i k<=cA n (home n y) k
   ·have HM:=ae (fun m=>DR.move D hd hF dK hI hR hS hh m);clear hI hR hF D hd dK hS qJ fj hint;generalize cA n (home n y) k=dy at*;generalize cA n i k=di at*;have HH:=ae (Xl.o wr y Ν c2);clear Xl;generalize home n y=hy at*;go_wp2_with (first|(go_at_call 142;refine HH.o.mono ?_;rintro e w' ⟨rfl,rfl⟩));go_quiet (fail);go_wp2;go_region;exact ab5
   ·have HM:=ae (fun m=>DR.stay D hd hF fj dK hI hR hS hh m);clear hI hR hF D hd dK hS qJ fj hint;generalize cA n (home n y) k=dy at*;generalize cA n i k=di at*;have HH:=ae (Xl.o wr y Ν c2);clear Xl;generalize home n y=hy at*;go_wp2_with (first|(go_at_call 142;refine HH.o.mono ?_;rintro e w' ⟨rfl,rfl⟩));go_quiet (fail);exact ab5
theorem Ic:(Tryz.prog.info? 199).map (fun i=>(i.zero,i.size,i.bytes))=some (some (.agg #[.bool false,.int .u64 0,ι 0]),3,24):=by kernel_rfl
def Made (w:World) (az:Nat) (z:Value) (r:Ending) (w':World):Prop:=
 r= .returned (.tuple #[ρ (w.heap.size+1),ι 0])/\∃n e,Fit az n e/\dH w' (w.heap.size+1) w.heap.size az 0 n (dB z fun _=>none)/\ax [] w w'/\w'.heap.size=w.heap.size+2
theorem Bs (az:Nat) (w:World) (hn:az<=4194304):
 Calls Tryz.prog 57 #[ι az] w (Made w az (ι 0)):=by
 obtain ⟨i0,hi,gA,jF,r_⟩:=info_parts Ic;have WU:∀(n:Nat) (wx:World),n<=16777216->(Instr.makeSlice 195 (ι n) (ι n)).run Tryz.prog wx= .ok (.slice (some (π wx.heap.size 0)) n n) (wx.alloc (.cells (madeCells #[.bool false,.int .u64 0,ι 0] (n*3)) 199)):=by intro n wx hn;have:=run_make (P:=Tryz.prog) wx 195 199 i0 _ Tryz.underlying195 hi gA .i64 .i64 n n (by omega) (by omega) (by rw [r_];omega) (by omega);rw [jF] at this;exact this
 have HMK:=ae WU;clear WU hi gA jF r_;go_enter Tryz.func57,Tryz.ntmps57;go_wp2
 go_loopg [4] 30 (fun f s4 wr=>w=wr/\∃e n:Nat,s4=ι n/\xE n e/\e+f=31/\n<=16777216/\(n=2\/n < 4*az))
 case atStart=>exact ⟨rfl,1,2,rfl,⟨rfl,by omega,by omega⟩,rfl,by omega,.inl rfl⟩
 case round=>
  obtain ⟨rfl,e,n,rfl,g,hf,hs,hl⟩:=hrel;by_cases h:n < 2*az
  ·have h1:=g.n;have h2:=g.ge;have h3:=g.le;have hg':gk≠0->xE (n*2) (e+1):=fun _=>⟨by rw [g.n,Nat.pow_succ],by omega,by omega⟩;have hb:gk≠0:=by
    intro h0;have:e=31:=by omega
    rw [this] at h1;omega
   have HG:=ae (hg' hb);have HB:=ae hb;clear hg' hb g h1 HMK hl;go_wp2
   go_roundg (gk - 1)
   case measure=>have:=HB.o;omega
   case rel=>exact ⟨rfl,e+1,n*2,by go_num,HG.o,by have:=HB.o;omega,by omega,by omega⟩
  ·have Xn:Fit az n e:=⟨g,by omega,hl⟩;have hp:=g.pos;have HF:=ae Xn;have h':=HMK.o n w hs;clear HMK g hl hf hs Xn;go_wp2;go_ret2;refine ⟨rfl,n,e,HF.o,dH.made (t:=197) (u:=199) (by omega) hp ?_ ?_,((ax.refl _ _).alloc _).alloc _,by simp⟩
   ·have:=q_ (w.alloc (.cells (madeCells #[.bool false,.int .u64 0,ι 0] (n*3)) 199)) (.cells #[ι az,ι 0,.slice (some (π w.heap.size 0)) n n] 197);rwa [aE] at this
   ·rw [Below.heap_alloc _ _ _ (by simp)];exact q_ _ _
end Go.Proofs.YtblkblclmbhjiaaGreat.gP
namespace Go.Proofs.YtblkblclmbhjiaaGreat.gP
open Go.RowKit ak Go.Sort Go.Lib
theorem gr (W:World) (xs:List Value) (t:TypeId) (N:Nat) (hN:N=W.heap.size):∀j u,xs[j]? =some u->(W.alloc (.cells xs.toArray t)).cell? (((π N 0):Addr).add j)=some u:=by
 intro j u hj;subst hN;have e:((π W.heap.size 0):Addr).add j=(π W.heap.size j):=by
  unfold Addr.add;split
  ·next h=>rw [h]
  ·simp
 rw [e,dR (q_ W _)];simpa using hj
def cH (S:Tb Value):Nat->List (Nat×Int)
 |0=>[]
 |i+1=>cH S i++(match S i with|some (k,.int _ v)=>[(k,v)]|_=>[])
def kM (x:Nat×Int):List Value:=[.bool true,.int .u64 x.1,ι x.2]
def qh (l:List (Nat×Int)):List Value:=l.flatMap kM
theorem zb (a b:List (Nat×Int)):qh (a++b)=qh a++qh b:=by simp [qh]
theorem xS (S:Tb Value):∀i,(cH S i).length<=i:=by
 intro i
 induction i with
 |zero=>simp [cH]
 |succ i ih=>unfold cH;split<;>simp<;>omega
theorem Hb (L:List (Nat×Int)):∀i (hi:i < L.length) c,c < 3->(qh L)[i*3+c]? =(kM L[i])[c]? :=by
 induction L with
 |nil=>intro i hi;simp at hi
 |cons x L ih=>
  intro i hi c hc;have hx:qh (x::L)=kM x++qh L:=by simp [qh]
  rw [hx];cases i with
  |zero=>rw [List.getElem?_append_left (by simp [kM];omega)];simp
  |succ i=>rw [List.getElem?_append_right (by simp [kM];omega)];have:=ih i (by simpa using hi) c hc;rw [show (i+1)*3+c - (kM x).length=i*3+c from by simp [kM];omega];simpa using this
theorem Hc {w:World} {g:Nat} {e:TypeId} {yQ:Array Value} {L:List (Nat×Int)} (uS:w.heap[g]? =some (.cells yQ e (0,0))) (FA:yQ.toList.take (L.length*3)=qh L):HoldsK kM 3 w g 0 L.toArray:=by
 intro j hj;rw [size_flatK] at hj;simp only [List.size_toArray] at hj;have hi:j / 3 < L.length:=by omega
 refine ⟨?_,iC uS _⟩;rw [dR uS,get_flatK _ _ _ _ (by simpa using hj)];have h1:=Hb L (j / 3) hi (j % 3) (Nat.mod_lt _ (by decide));rw [<-FA,show j / 3*3+j % 3=j from by omega,List.getElem?_take,if_pos hj] at h1;rw [Nat.zero_add,<-Array.getElem?_toList,h1];have h2:L.toArray[j / 3]! =L[j / 3]:=by simp [hi]
 rw [h2];have h3:j % 3 < (kM L[j / 3]).length:=by simp [kM];omega
 simp [h3]
def zc (w:World) (base:Nat) (lv:Value) (L:List (Nat×Int)):Prop:=
 (L=[]/\lv=ν)\/∃g cap,lv= .slice (some (π g 0)) L.length cap/\base<=g/\g < w.heap.size/\L≠[]/\
   ∀i (hi:i < L.length),w.cell? (π g (i*3))=some (.bool true)/\w.cell? (π g (i*3+1))=some (.int .u64 L[i].1)/\w.cell? (π g (i*3+2))=some (ι L[i].2)
theorem wZ {w:World} {g cap base:Nat} {L:List (Nat×Int)} (h:HoldsK kM 3 w g 0 L.toArray) (hb:base<=g) (hg:g < w.heap.size) (bz:L≠[]):zc w base (.slice (some (π g 0)) L.length cap) L:=by
 refine .inr ⟨g,cap,rfl,hb,hg,bz,fun i hi=>?_⟩;have key:∀c,c < 3->w.cell? (π g (i*3+c))=some ((kM L[i])[c]!):=by
  intro c hc;have:=(h (i*3+c) (by rw [size_flatK];simp;omega)).1;rw [get_flatK _ _ _ _ (by simp;omega)] at this;rw [Nat.zero_add,show (i*3+c) / 3=i from by omega,show (i*3+c) % 3=c from by omega] at this;have h2:L.toArray[i]! =L[i]:=by simp [hi]
  rw [h2] at this;exact this
 exact ⟨key 0 (by decide),key 1 (by decide),key 2 (by decide)⟩
theorem oz {α:Type} [Inhabited α] (enc:α->List Value) (k:Nat) (w:World) (c_ off m:Nat) (dk:Array α) (os:Array Obj) (j:Nat) (hj:j < w.heap.size) (bz:j≠c_):(sortWorldK enc k w c_ off m dk os).heap[j]? =w.heap[j]? :=by simp only [sortWorldK,grow,putRowK,putRow,mapBlock,Go.Sort.ahead];rw [Array.getElem?_append_left (by simpa using hj),Array.getElem?_modify,if_neg (fun e=>bz e.symm)]
theorem Bm {d d':Array (Nat×Int)} (h:PermIn 0 d.size d d'):d'.toList.Perm d.toList:=by
 obtain ⟨h1,_,h3⟩:=h;have a:d'.extract 0 d.size=d':=by rw [<-h1];simp
 have b:d.extract 0 d.size=d:=by simp
 rw [a,b] at h3;exact h3
theorem FD (x y:Nat×Int):ltOf (fun x y:Nat×Int=>Lib.compareInt x.1 y.1) x y=decide (x.1 < y.1):=by
 unfold ltOf Lib.compareInt;by_cases h1:x.1 < y.1
 ·simp [h1]
 ·by_cases h2:y.1 < x.1<;>simp [h1,h2]
theorem SG:SWO (ltOf fun x y:Nat×Int=>Lib.compareInt x.1 y.1) where
 irrefl x:=by rw [FD];simp
 trans x y z h1 h2:=by rw [FD] at*;simp at*;omega
 ntrans x y z h1 h2:=by rw [FD] at*;simp at*;omega
theorem Bn {d:Array (Nat×Int)} {N:Nat} (hN:N=d.size) (h:SortedIn (ltOf fun x y:Nat×Int=>Lib.compareInt x.1 y.1) 0 N d):d.toList.Pairwise (fun a b=>a.1<=b.1):=by rw [List.pairwise_iff_getElem];intro i j hi hj Sv;have:=h i j (Nat.zero_le _) Sv (by rw [hN];simpa using hj);rw [FD] at this;simp only [Array.length_toList] at hi hj;rw [getElem!_pos d i hi,getElem!_pos d j hj] at this;simp at this;simpa using this
theorem abT {p:Prop} (h:p:=by
 go_enter Tryz.func139,Tryz.ntmps139;go_wp2;go_ret;exact ⟨rfl,rfl⟩):p:=h
theorem WL (x y:Nat) (w:World):Calls Tryz.prog 139 #[.int .u64 x,.int .u64 y] w fun e w'=>e= .returned (ι (Lib.compareInt x y))/\w=w':=by
 unfold Lib.compareInt;rcases Nat.lt_trichotomy x y with h|h|h
 ·have h1:(x:Int) < y:=by omega
  rw [if_pos h1];clear h;exact abT
 ·subst h;rw [if_neg (by omega),if_neg (by omega)];exact abT
 ·have h1:(y:Int) < x:=by omega
  rw [if_neg (by omega),if_pos h1];clear h;exact abT
theorem Hd (x y:Nat×Int) (W:World):Calls Tryz.prog 138 #[.agg #[.bool true,.int .u64 x.1,ι x.2],.agg #[.bool true,.int .u64 y.1,ι y.2]] W fun e w'=>e= .returned (ι (Lib.compareInt x.1 y.1))/\∃q os',w'=grow (W.drewN q) os':=by have Ku:=ae (fun W'=>WL x.1 y.1 W');generalize Lib.compareInt x.1 y.1=r at Ku ⊢;go_enter Tryz.func138,Tryz.ntmps138;go_wp2_with (go_at_call 139;refine (Ku.o _).mono ?_;rintro e w' ⟨rfl,rfl⟩);go_ret;exact ⟨rfl,0,_,by rw [alloc_eq_grow,alloc_eq_grow,grow_grow];rfl⟩
theorem He (c_ off size:Nat) (w:World):CmpLays Tryz.prog 138 #[] kM 3 (fun x y=>Lib.compareInt x.1 y.1) c_ off size w:=
 fun _ _ _ _ x y=>Hd x y _
theorem ON (fv:Value) (w:World):Calls Tryz.prog 276 #[ν,ι 0,ι 0,fv] w fun e w'=>e= .returned (.tuple #[])/\w=w':=by go_enter Tryz.func276,Tryz.ntmps276;go_wp2;refine wp_loop_once ?_;go_wp2;go_end0;exact ⟨rfl,rfl⟩
theorem OO (fv:Value) (l:Int) (w:World):Calls Tryz.prog 227 #[ν,ι 0,ι 0,ι l,fv] w fun e w'=>e= .returned (.tuple #[])/\w=w':=by have H:=ae (ON fv w);go_enter Tryz.func227,Tryz.ntmps227;go_wp2;refine wp_loop_once ?_;go_wp2_with (go_at_call 276;refine H.o.mono ?_;rintro e w' ⟨rfl,rfl⟩);refine bodyPost_ret (results_none rfl _ _ _) rfl ?_;exact ⟨rfl,rfl⟩
theorem Kv (fv:Value) (w:World):Calls Tryz.prog 137 #[ν,fv] w fun e w'=>e= .returned (.tuple #[])/\w=w':=by have H1:=ae (Tryz.bits_Len 0 w (by omega) (by omega));have H2:=ae (fun l=>OO fv l w);go_enter Tryz.func137,Tryz.ntmps137;go_wp2_with fail;refine H1.o.mono ?_;rintro e w' ⟨rfl,rfl⟩;go_wp2_with fail;refine (H2.o _).mono ?_;rintro e w' ⟨rfl,rfl⟩;go_wp2;go_end0;exact ⟨rfl,rfl⟩
def Bo (w:World) (L:List (Nat×Int)) (w':World):Prop:=
 Below w.heap.size w w'/\w.heap.size < w'.heap.size/\∃lv,Boxed w' w.heap.size 195 lv/\zc w' (w.heap.size+1) lv L
def zd (S:Tb Value) (n:Nat) (L:List (Nat×Int)):Prop:=L.Perm (cH S n)/\L.Pairwise (fun a b=>a.1<=b.1)
theorem WM {w:World} {b s az count n e:Nat} {S:Tb Value} (h:dH w b s az count n (dB (ι 0) S)) (g:xE n e) (hint:∀i k u,S i=some (k,u)->∃x,u=ι x):
 Calls Tryz.prog 65 #[ρ b] w fun r w'=>r= .returned (.func (.func 140) #[] #[ρ w.heap.size])/\∃L,zd S n L/\Bo w L w':=by
 obtain ⟨i0,hi,gA,jF,r_⟩:=info_parts (show (Tryz.prog.info? 199).map (fun i=>(i.zero,i.size,i.bytes))=some (some (.agg #[.bool false,.int .u64 0,ι 0]),3,24) by kernel_rfl);have hsm:n<=1099511627776:=g.small;obtain ⟨cp,c2⟩:=h.c2;have HI:=ae h;have Vo:=h.lb;have nT:=h.ls;have HN:=ae hint;clear h g hint;go_enter Tryz.func65,Tryz.ntmps65;go_wp2
 go_loopg [11] n (fun f FE wr=>∃(i:Nat) (lv:Value),FE=ι i/\i+f=n/\Boxed wr w.heap.size 195 lv/\wr.ownsRow w.heap.size 199 3 lv (cH S i).length (qh (cH S i))/\Below w.heap.size w wr/\(cH S i=[]->lv=ν))
 case atStart=>exact ⟨0,ν,rfl,by omega,Boxed.new _ _ _,World.ownsRow_nil ..,(Below.refl _ w).alloc (Nat.le_refl _) _,fun _=>rfl⟩
 case round=>
  obtain ⟨i,lv,rfl,hif,pU,fo,hB,iZ⟩:=hrel;have SH:dH wr b s az count n (dB (ι 0) S):=HI.o.iK (hB.block b Vo) (hB.block s nT);by_cases a8:i < n
  ·have k0:=SH.k0 i a8;have k1:=SH.k1 i a8;have k2:=SH.k2 i a8;have bc:=pU.cell;have bf:=pU.frozen;have kN:=hB.size;have sr:=pU.lt;cases hS:S i with
   |none=>
    have hc:dB (ι 0) S i=(false,0,ι 0):=by unfold dB;rw [hS]
    rw [hc] at k0 k1 k2;have he:cH S (i+1)=cH S i:=by simp only [cH,hS,List.append_nil]
    have HW:=ae (And.intro pU (And.intro fo hB));have HE:=ae he;have HL:=ae iZ;clear pU fo hB SH hc hS he iZ;go_wp2_with fail
    go_roundg (gk - 1)
    case measure=>omega
    case rel=>exact ⟨i+1,lv,by go_num,by omega,HW.o.1.alloc _,by rw [HE.o];exact HW.o.2.1.alloc _,HW.o.2.2.alloc kN _,by rw [HE.o];exact HL.o⟩
   |some x=>
    obtain ⟨k,u⟩:=x;obtain ⟨v,rfl⟩:=HN.o i k u hS;have hc:dB (ι 0) S i=(true,k,ι v):=by unfold dB;rw [hS]
    rw [hc] at k0 k1 k2;have he:cH S (i+1)=cH S i++[(k,v)]:=by simp only [cH,hS]
    have hle:=xS S i;have HE:=ae he;have HB:=ae hB;have HX:=ae pU;have HO:=ae fo;have C3:=ae (show (cH S i).length+1<=maxLen by unfold maxLen;omega);have C4:=ae (show ((cH S i).length+1)*24<=140737488355328 by omega);have C2:=ae (show ∀u∈kM (k,v),u.oneCell'=true by intro u hu;simp [kM] at hu;rcases hu with rfl|rfl|rfl<;>rfl);clear pU fo hB SH hc hS he iZ;go_wp2_with ((at_builtin;refine wpList_append_own _ rfl _ _ 195 rfl w.heap.size 199 i0 (.agg #[.bool false,.int .u64 0,ι 0]) 3 24 Tryz.underlying195 hi gA jF r_ rfl (by decide) lv _ _ rfl ((HO.o.alloc _).alloc _) (π (wr.heap.size+1) 0) 1 1 (kM (k,v)) rfl rfl (gr _ (kM (k,v)) _ _ (by simp)) C2.o C3.o C4.o (by simp;omega) ?_;intro v' w1 Kw fe DN;obtain ⟨fN,NK,Q5,jd,dn⟩:=(HX.o.alloc _).appended (by decide) (HO.o.alloc _) (by simp;omega) (Nat.le_refl _) Kw fe;have nO:=fN.cell;have Jk:=fN.frozen;have OP:=ae NK;have rj:=ae Q5;have fg:=ae dn;obtain ⟨g',mI,rfl⟩:=ownsRow_succ Kw;clear fN NK Q5 jd dn Kw fe DN))
    go_roundg (gk - 1)
    case measure=>omega
    case rel=>refine ⟨i+1,_,by go_num,by omega,OP.o,?_,HB.o.trans (((Below.refl _ _).alloc kN _).trans fg.o),fun h=>by rw [HE.o] at h;simp at h⟩;rw [HE.o,zb,List.length_append];exact rj.o
  ·obtain rfl:i=n:=by omega
   have hlen:=xS S i;rcases fo.2 with ⟨rfl,h0⟩|⟨gb,cap,yQ,rfl,rl,uS,Bp,aac,aad,FA⟩
   ·have DN:cH S i=[]:=List.eq_nil_of_length_eq_zero h0;have bc:=pU.cell;have HF:Hid (∃L,zd S i L/\Bo w L wr):=ae ⟨[],⟨by rw [DN],.nil⟩,hB,pU.lt,_,pU,.inl ⟨rfl,rfl⟩⟩;have H2:=ae (Kv (.func (.func 138) #[] #[]) wr);clear DN pU fo hB SH h0 iZ;go_wp2_with (go_at_call 137;refine H2.o.mono ?_;rintro e w' ⟨rfl,rfl⟩);go_ret;exact ⟨rfl,HF.o⟩
   ·have bz:gb≠w.heap.size:=by intro e';have:=pU;unfold Boxed at this;rw [<-e',uS] at this;simp at this
    have hgs:gb < wr.heap.size:=(Array.getElem?_eq_some_iff.1 uS).1;have bc:=pU.cell;have sr:=pU.lt;have kN:=hB.size;by_cases hz:cH S i=[]
    ·have:=iZ hz;simp at this
    ·clear iZ;have eg:∀args w,(callFunc 138 args).run Tryz.prog w= .ok (.enter 138 args) w:=enters_of Tryz.func138 (by kernel_rfl) rfl;have hH:=Hc uS FA;have Ku:=AnyQ.slices_SortFunc Tryz.WK 3 Tryz.isAgg199 Tryz.sizeOf199 kM (fun _=>rfl) (fun x v hv=>by simp [kM] at hv;rcases hv with rfl|rfl|rfl<;>rfl) (fun x y=>Lib.compareInt x.1 y.1) SG 138 #[] gb 0 cap (cH S i).toArray wr eg (He gb 0 _ wr) hH hgs (by simp;omega);have Q6:∀(d':Array (Nat×Int)) (m:Nat) (os:Array Obj),PermIn 0 (cH S i).toArray.size (cH S i).toArray d'->SortedIn (ltOf fun x y:Nat×Int=>Lib.compareInt x.1 y.1) 0 (cH S i).toArray.size d'->
      ∃L,zd S i L/\Bo w L (sortWorldK kM 3 wr gb 0 m d' os):=by
      intro d' m os hp hs;have hpl:=Bm hp;have hds:d'.size=(cH S i).toArray.size:=hp.1;have Q7:d'.toList.length=(cH S i).length:=by simpa using hds
      have aae:=size_sortWorldK_c kM 3 wr gb 0 m d' os;refine ⟨d'.toList,⟨by simpa using hpl,Bn hds.symm hs⟩,?_,by omega,.slice (some (π gb 0)) (cH S i).length cap,?_,?_⟩
      ·exact hB.trans ⟨rfl,rfl,rfl,aae,fun k hk=>oz kM 3 wr gb 0 m d' os k (by omega) (by omega)⟩
      ·unfold Boxed;rw [oz kM 3 wr gb 0 m d' os _ sr (fun e=>bz e.symm)];exact pU
      ·rw [<-Q7];refine wZ ?_ (by omega) (by omega) (fun e'=>hz (List.eq_nil_of_length_eq_zero (by rw [<-Q7,e'];rfl)));exact holdsK_sortWorldK_c kM 3 wr gb 0 (cH S i).toArray d' m os hH hgs hds
     have HP:=ae Q6;have HC:=ae Ku;simp only [List.size_toArray] at HC HP;clear Q6 Ku hH eg pU fo hB SH uS Bp aac aad FA hz;generalize cH S i=L0 at*;go_wp2_with fail;refine HC.o.mono ?_;rintro e w' ⟨rfl,d',m,os,hp,hs,rfl⟩;have HF:=ae (HP.o d' m os hp hs);go_wp2;go_ret;exact ⟨rfl,HF.o⟩
end Go.Proofs.YtblkblclmbhjiaaGreat.gP
namespace Go.Proofs.YtblkblclmbhjiaaGreat.dT
open Go.RowKit ak.Vm
open ak hiding aL an aj
def SI (w:World) (ab:Nat) (V L:Value) (az nl:Nat) (R':Raw) (n:Nat) (r:Ending) (w':World):Prop:=
 r= .returned (.tuple #[ι n,ι 0])/\∃V',qg w' ab V' L az nl R'/\ax (bp ab V L) w w'/\∀b,V'.ownBlock=some b->V.ownBlock=some b\/w.heap.size<=b
theorem Hg:(Tryz.prog.info? 202).map (fun i=>(i.zero,i.size,i.bytes))=some (some (.agg #[.int .u64 0,ι 0,ι 0,ι 0,ι 0,ι 0,ι 0,ι 0]),8,64):=by kernel_rfl
def qE:List Value:=[.int .u64 0,ι 0,ι 0,ι 0,ι 0,ι 0,ι 0,ι 0]
theorem OQ {w:World} {V:Value} {R:Raw} (h:w.ownsRow 0 202 8 V (R.made+1) (eE (R.made*8) (ep R)++qE)):Row w 202 8 V (R.made+1) (ep (pT R dI)):=by
 unfold Row;have e:eE ((R.made+1)*8) (ep (pT R dI))=eE (R.made*8) (ep R)++qE:=by
  rw [show (R.made+1)*8=R.made*8+8 by omega,pD];congr 1
  ·refine nS fun o ho=>?_;unfold ep pT;dsimp only;have:o / 8≠R.made:=by omega
   rw [aj _ _ this,aj _ _ this,aj _ _ this]
  ·have hk:∀i,i < 8->(R.made*8+i) / 8=R.made/\(R.made*8+i) % 8=i:=fun i hi=>by omega
   unfold qE;simp only [show List.range 8=[0,1,2,3,4,5,6,7] from rfl,List.map_cons,List.map_nil];unfold ep pT;dsimp only;simp only [(hk 0 (by omega)).1,(hk 0 (by omega)).2,(hk 1 (by omega)).1,(hk 1 (by omega)).2,(hk 2 (by omega)).1,(hk 2 (by omega)).2,(hk 3 (by omega)).1,(hk 3 (by omega)).2,(hk 4 (by omega)).1,(hk 4 (by omega)).2,(hk 5 (by omega)).1,(hk 5 (by omega)).2,(hk 6 (by omega)).1,(hk 6 (by omega)).2,(hk 7 (by omega)).1,(hk 7 (by omega)).2,an];rfl
 rw [e];exact h
theorem Kx {w:World} {ab nb cn lb cl az nl q e:Nat} {R:Raw} (h:dO w ab nb cn lb cl az nl R) (v:eW) (hq:q < nl) (he:e<=1) {m:Nat} (r8:R.cS=(m:Int)) (hm:m < R.made) (hu:R.used < az) (dA:R.ends q e < 0\/∃k:Nat,R.ends q e=(k:Int)/\k < R.made/\k≠m) (hc:R.cR q<=4194304) (yZ:R.made<=az) (qV:az<=4194304) (iZ:nl<=256):
 Calls Tryz.prog 306 #[ρ ab,ι q,ι e,bG v] w fun r w'=>r= .returned (.tuple #[ι m,ι 0])/\ax [ab,nb,lb] w w'/\dO w' ab nb cn lb cl az nl (gH R q e v):=by
 have ul:Below w.heap.size w (w.alloc (.cells #[.int .u64 v.key,ι (v.tg 0),ι (v.tg 1),ι (v.tg 2),ι (v.tg 3)] 118)):=(Below.refl _ w).alloc (Nat.le_refl _) _;have AF:=ay.new w 118 #[.int .u64 v.key,ι (v.tg 0),ι (v.tg 1),ι (v.tg 2),ι (v.tg 3)];have tw:=h.later ul;have HI:=ae (G_ tw.c hq he);have DJ:=ae tw;have gp:=ae ul;have tz:=ae AF;have hz:=tw.apart AF;have HL:=ae (fun wx (hx:dO wx ab nb cn lb cl az nl (iu (tW R) m v))=>DH hx (n:=m) (by show m < R.made;exact hm) hq he dA (by show R.cR q<=_;exact hc) (by show R.made<=_;omega) iZ);have HP:=ae (show gH R q e v={e_ (iu (tW R) m v) m q e with used:=R.used+1} by unfold gH;rw [r8,if_neg (by omega),if_neg (by omega)];rfl);have WN:=ae r8;have HUS:=ae (show (e_ (iu (tW R) m v) m q e).used=R.used from rfl);have h0:=tw.h0;clear h tw ul AF dA hc r8;unfold bG;obtain ⟨w1,jo⟩:∃w1,w1=w.alloc (.cells #[.int .u64 v.key,ι (v.tg 0),ι (v.tg 1),ι (v.tg 2),ι (v.tg 3)] 118):=⟨_,rfl⟩;rw [<-jo] at HI DJ gp tz h0;obtain ⟨d1,d2,d3⟩:=DJ.o.ne;obtain ⟨a1,a3,a4,k0,k1,k2,k3,k4,b5,b6,b7,fn,fa⟩:=DJ.o.facts hm;obtain ⟨g0,g1,g2,g3,g4,gf⟩:=jc tz.o;rw [WN.o] at a3;go_enter Tryz.func306,Tryz.ntmps306;go_wp2_with fail;rw [<-jo];clear jo;have SE:Hid (ax [ab,nb,lb] w w1):=ae (ax.ah gp.o);clear gp;generalize w.heap.size=bx at tz hz g0 g1 g2 g3 g4 gf ⊢;have bz:((R.used:Int)==(az:Int))=false:=by simp;omega
 refine HI.o.mono ?_;rintro r w' ⟨rfl,rfl⟩;go_wp2_with fail;go_region;go_wp2_with fail;obtain ⟨w2,qD⟩:∃w2,w2=(w1.setCell (π ab 3) (ι (R.bK m 0))).drew:=⟨_,rfl⟩;rw [<-qD];have tZ:tW R={R with cS:=R.bK m 0}:=by unfold tW;rw [WN.o];rfl
 have hX2:dO w2 ab nb cn lb cl az nl (tW R):=by rw [qD,tZ];exact (DJ.o.Bf (R.bK m 0)).drewN 1
 have hR2:=tz.o.aB (show ax [ab] w1 w2 by rw [qD];exact ((ax.refl [ab] w1).setCell (by simp) _).drew) (by simp;omega);have hF2:ax [ab,nb,lb] w w2:=by rw [qD];exact (SE.o.setCell (by simp) _).drew
 have lN:=ae hX2;have rj:=ae hR2;have tB:=ae hF2;clear qD tZ hX2 hR2 hF2 a1 a3 a4 k0 k1 k2 k3 k4 b5 b6 b7 fn fa g0 g1 g2 g3 g4 gf h0 SE DJ tz HI;obtain ⟨a1,a3,a4,k0,k1,k2,k3,k4,b5,b6,b7,fn,fa⟩:=lN.o.facts (n:=m) hm;obtain ⟨g0,g1,g2,g3,g4,gf⟩:=jc rj.o;have Bq:(tW R).made=R.made:=rfl;rw [Bq] at a1;clear Bq a3 a4;go_region;go_wp2_with fail;have Jl:dO ((dr w2 nb (m*8) v).drewN 1) ab nb cn lb cl az nl (iu (tW R) m v):=(lN.o.yY (n:=m) hm v).drewN 1;have HF:=ae ((fD (b:=nb) tB.o (by simp) (m*8) v).drewN 1);have HC:=ae (HL.o _ Jl);clear Jl;refine HC.o.mono ?_;rintro r w3 ⟨rfl,F3,X3⟩;have c4:=X3.h4;rw [HUS.o] at c4;have c4f:=X3.fa;have Jj:=ae X3;have DK:=ae F3;clear X3 F3 HL HC;go_wp2;go_ret2;refine ⟨rfl,(HF.o.trans DK.o).setCell (by simp) _,?_⟩;rw [HP.o];exact Jj.o.yW (R.used+1)
theorem appended {w w4:World} {ab az nl g cap:Nat} {V L:Value} {R:Raw} {o:Obj} (X:qg w ab V L az nl R) (fo:w4.ownsRow 0 202 8 (.slice (some (π g 0)) (R.made+1) cap) (R.made+1) (eE (R.made*8) (ep R)++qE))
 (hg:(w.alloc o).grownBy w4 V.ownBlock) (pG:V.ownBlock=some g\/g=w.heap.size+1):
 w4.cell? (π ab 1)=some V/\(∀o,w4.frozen? (π ab o)=false)/\ax (bp ab V L) w (w4.setCell (π ab 1) (.slice (some (π g 0)) (R.made+1) cap))/\
 qg (w4.setCell (π ab 1) (.slice (some (π g 0)) (R.made+1) cap)) ab (.slice (some (π g 0)) (R.made+1) cap) L az nl (pT R dI)/\(V.ownBlock=some g\/w.heap.size<=g)/\ax (V.ownBlock.toList) w w4:=by
 have h4:ay w4 ab 191 #[ι az,V,L,ι R.cS,ι R.used]:=(X.head.alloc o).grown hg (fun e=>X.nb e.symm);have hn:=OQ fo;have hga:g≠ab:=by have:=hn.eF h4 (by decide);simpa [Value.ownBlock] using this
 have hl:Row w4 194 3 L nl (lW R):=(X.lists.alloc o).grown hg (by
  rcases X.lists.ne X.nodes (by decide) with h|h
  ·exact .inl h
  ·exact .inr h)
 have qW:ax (V.ownBlock.toList) w w4:=by refine ((ax.refl _ w).alloc o).trans ⟨hg.os,hg.tape,hg.output,hg.size,fun k hk hs=>hg.block k hk ?_⟩;intro e;exact hs (by rw [<-e];simp)
 refine ⟨h4.cell 1,h4.frozen,((qW.mono (T:=bp ab V L) (by intro k hk;simp [bp] at hk ⊢;exact .inr (.inl hk))).setCell (by simp [bp]) _),⟨h4.set 1 _,hn.other (by simp [Value.ownBlock];exact hga) _ _,hl.other X.lb _ _⟩,?_,qW⟩;rcases pG with h|h
 ·exact .inl h
 ·exact .inr (by omega)
theorem DO {w:World} {V:Value} {n:Nat} (h:(V=ν/\n=0)\/∃b cap,V= .slice (some (π b 0)) n cap/\n<=cap/\cap<=maxLen/\b < w.heap.size) (wx:World):
 (Builtin.len_ #[189] 3 #[V]).run Tryz.prog wx= .ok (ι n) wx:=by
 rcases h with ⟨rfl,rfl⟩|⟨b,cap,rfl,_⟩
 ·exact run_len_slice (P:=Tryz.prog) wx 189 3 none 0 0 (by kernel_rfl)
 ·exact run_len_slice (P:=Tryz.prog) wx 189 3 (some (π b 0)) n cap (by kernel_rfl)
theorem Ky {w:World} {ab lb cl az nl q e:Nat} {V:Value} {R:Raw} (h:qg w ab V (.slice (some (π lb 0)) nl cl) az nl R) (v:eW) (hq:q < nl) (he:e<=1) (r8:R.cS < 0) (hu:R.used < az) (dA:R.ends q e < 0\/∃k:Nat,R.ends q e=(k:Int)/\k < R.made/\k≠R.made) (hc:R.cR q<=4194304) (FJ:R.made < 4194304) (qV:az<=4194304) (iZ:nl<=256):
 Calls Tryz.prog 306 #[ρ ab,ι q,ι e,bG v] w (SI w ab V (.slice (some (π lb 0)) nl cl) az nl (gH R q e v) R.made):=by
 obtain ⟨i0,hi,gA,jF,r_⟩:=info_parts Hg;have ul:Below w.heap.size w (w.alloc (.cells #[.int .u64 v.key,ι (v.tg 0),ι (v.tg 1),ι (v.tg 2),ι (v.tg 3)] 118)):=(Below.refl _ w).alloc (Nat.le_refl _) _;have AF:=ay.new w 118 #[.int .u64 v.key,ι (v.tg 0),ι (v.tg 1),ι (v.tg 2),ι (v.tg 3)];have tw:=h.later ul;have HI:=ae (G_ tw hq he);have DJ:=ae tw;have gp:=ae ul;have tz:=ae AF;have HL:=ae (fun (wx:World) (nb cn:Nat) (hx:dO wx ab nb cn lb cl az nl (iu (pT R dI) R.made v))=>DH hx (n:=R.made) (by show R.made < R.made+1;omega) hq he (by rcases dA with h1|⟨k,h1,h2,h3⟩;exact .inl h1;exact .inr ⟨k,h1,by show k < R.made+1;omega,h3⟩) (by show R.cR q<=_;exact hc) (by show R.made+1<=_;omega) iZ);have HP:=ae (show gH R q e v={e_ (iu (pT R dI) R.made v) R.made q e with used:=R.used+1} by unfold gH;rw [if_pos r8,if_pos r8]);have HUS:=ae (show (e_ (iu (pT R dI) R.made v) R.made q e).used=R.used from rfl);obtain ⟨a0,a1,-,a3,a4⟩:=tw.head.c5;have ir:=h.nodes.val;have eN:V.ownBlock≠some ab:=h.nb;have dn:∀b,V.ownBlock=some b->b < w.heap.size:=fun b hb=>(World.ownsRow.lt h.nodes b hb).2;have wN:=h.vl;have Vo:=h.lb;have C2:∀u∈qE,u.oneCell'=true:=by decide
 have C3:R.made+1<=maxLen:=by unfold maxLen;omega
 have C4:(R.made+1)*64<=140737488355328:=by omega
 have Ζ:=ae C2;have Η:=ae C3;have HC4:=ae C4;clear h tw ul AF dA hc C2 C3 C4;unfold bG;obtain ⟨w1,jo⟩:∃w1,w1=w.alloc (.cells #[.int .u64 v.key,ι (v.tg 0),ι (v.tg 1),ι (v.tg 2),ι (v.tg 3)] 118):=⟨_,rfl⟩;rw [<-jo] at HI DJ gp tz a0 a1 a3 a4;generalize hfd:R.cS=Km at*;have HFD:=ae hfd;clear hfd;have bz:((R.used:Int)==(az:Int))=false:=by simp;omega
 have Kz:=ae ir;have dC:=ae eN;have fg:=ae dn;have ki:=ae wN;have Vp:=ae Vo;clear ir eN dn wN Vo;have hlen:=DO Kz.o;go_enter Tryz.func306,Tryz.ntmps306;go_wp2_with fail;rw [<-jo];clear jo;generalize eO:w.heap.size=bx at tz ⊢;refine HI.o.mono ?_;rintro r w' ⟨rfl,rfl⟩;go_wp2_with fail;go_region;obtain ⟨w2,qD⟩:∃w2,w2=w1.drew:=⟨_,rfl⟩;rw [<-qD];have lN:Hid (qg w2 ab V (.slice (some (π lb 0)) nl cl) az nl R):=by rw [qD];exact ae (DJ.o.drewN 1)
 have tB:Hid (ax [] w w2):=by rw [qD];exact ae ((ax.ah gp.o).drew)
 have rj:Hid (ay w2 bx 118 #[.int .u64 v.key,ι (v.tg 0),ι (v.tg 1),ι (v.tg 2),ι (v.tg 3)]):=by rw [qD];exact tz.o
 have ze:Hid (w1.heap.size=w2.heap.size):=by rw [qD];exact ae rfl
 have b1:w2.cell? (π ab 1)=some V:=lN.o.head.cell 1;have b3:w2.cell? (π ab 3)=some (ι Km):=by rw [<-HFD.o];exact lN.o.head.cell 3
 have lab:=lN.o.head.lt;clear a0 a1 a3 a4 qD DJ gp tz HI;have WO:(w2.alloc (.cells #[.int .u64 0,ι 0,ι 0,ι 0,ι 0,ι 0,ι 0,ι 0] 202)).heap.size=w2.heap.size+1:=by simp
 have tC:=ae WO;clear WO;go_wp2_with ((at_builtin;refine wpList_append_lies _ rfl _ _ 189 rfl 0 202 i0 (.agg #[.int .u64 0,ι 0,ι 0,ι 0,ι 0,ι 0,ι 0,ι 0]) 8 64 Tryz.underlying189 hi gA jF r_ rfl (by decide) V _ _ rfl ((lN.o.nodes).alloc _) (π w2.heap.size 0) 1 1 qE rfl rfl (gP.gr _ qE _ _ rfl) Ζ.o (by decide) Η.o HC4.o (Nat.zero_le _) _ tC.o ?_;intro g cap w4 fo fe pG um;obtain ⟨j1,j2,j3,j4,j5,j6⟩:=appended lN.o fo fe pG;have J3:=ae j3;have J4:=ae j4;have J5:=ae j5;have J6:=ae j6;clear fo fe pG j3 j4 j5 j6));obtain ⟨w5,hw5⟩:∃w5,w5=w4.setCell (π ab 1) (.slice (some (π g 0)) (R.made+1) cap):=⟨_,rfl⟩;rw [<-hw5] at J3 J4 ⊢;have WQ:dO w5 ab g cap lb cl az nl (pT R dI):=⟨J4.o,Nat.succ_pos _⟩;have Vq:bx∉bp ab V (.slice (some (π lb 0)) nl cl):=by have e1:=lN.o.head.ne rj.o (by decide);have e2:=lN.o.nodes.eF rj.o (by decide);have e3:=lN.o.lists.eF rj.o (by decide);simp [bp,Value.ownBlock] at e2 e3 ⊢;refine ⟨fun e=>e1 e.symm,e2,fun e=>e3 e.symm⟩
 have hR5:=rj.o.aB J3.o Vq;have OR:=ae ((tB.o.mono (T:=bp ab V (.slice (some (π lb 0)) nl cl)) (by simp)).trans J3.o);have HG:Hid (V.ownBlock=some g\/w.heap.size<=g):=ae (by rcases J5.o with h1|h1;exact .inl h1;exact .inr (by have:=tB.o.size;omega));have HX5:=ae WQ;obtain ⟨d1,d2,d3⟩:=WQ.ne;have hn5:R.made < (pT R dI).made:=Nat.lt_succ_self _;obtain ⟨a1,a3,a4,k0,k1,k2,k3,k4,b5,b6,b7,fn,fa⟩:=WQ.facts hn5;obtain ⟨g0,g1,g2,g3,g4,gf⟩:=jc hR5;have Jm:bx≠ab/\bx≠g/\bx≠lb:=WQ.apart hR5;have Bq:(pT R dI).made=R.made+1:=rfl;rw [Bq] at a1;clear Bq a3 a4 hw5 WQ Vq hR5 hn5 j1 j2 b1 b3 J3 J4 J5 J6 lN tB rj ze tC Kz dC fg ki Vp hlen lab;go_region;go_wp2_with fail;have WR:dO ((dr w5 g (R.made*8) v).drewN 1) ab g cap lb cl az nl (iu (pT R dI) R.made v):=(HX5.o.yY (n:=R.made) (Nat.lt_succ_self _) v).drewN 1;have Jn:Hid (ax [g] w5 ((dr w5 g (R.made*8) v).drewN 1)):=ae ((fD (b:=g) (ax.refl [g] w5) (by simp) (R.made*8) v).drewN 1);have HC:=ae (HL.o _ _ _ WR);clear WR;refine HC.o.mono ?_;rintro r w7 ⟨rfl,F7,X7⟩;have c4:=X7.h4;rw [HUS.o] at c4;have c4f:=X7.fa;have HX7:=ae X7;have NM:=ae F7;clear X7 F7 HL HC;go_wp2;go_ret2;refine ⟨rfl,.slice (some (π g 0)) (R.made+1) cap,?_,?_,?_⟩
 ·rw [HP.o];exact (HX7.o.yW (R.used+1)).c
 ·have f1:ax (g::bp ab V (.slice (some (π lb 0)) nl cl)) w _:=(((OR.o.mono (by intro k hk;simp [hk])).trans (Jn.o.mono (by intro k hk;simp at hk;simp [hk]))).trans (NM.o.mono (by intro k hk;simp [bp,Value.ownBlock] at hk ⊢;rcases hk with rfl|rfl|rfl<;>simp))).setCell (p:=(π ab 4)) (by simp [bp]) (ι (R.used+1));refine f1.Wx fun k hk=>?_;rcases List.mem_cons.1 hk with rfl|hk
  ·rcases HG.o with h1|h1
   ·left;simp [bp,h1]
   ·exact .inr h1
  ·exact .inl hk
 ·intro b hb;have:g=b:=by simpa [Value.ownBlock] using hb
  subst this;exact HG.o
def bP (w:World) (ab:Nat) (V L:Value) (az nl:Nat) (a:Nd):Prop:=∃R A,qg w ab V L az nl R/\ra nl R A none/\abs A=a/\R.made<=az
theorem SJ {l:List Nat} {n m:Nat} (pR:l.Nodup) (h:kK l n=(m:Int)):m≠n:=by
 induction l with
 |nil=>simp [kK] at h
 |cons a t ih=>
  have h2:=List.nodup_cons.1 pR;unfold kK at h;split at h
  ·next e=>
   subst e;cases t with
   |nil=>simp [hd] at h
   |cons b t=>
    simp [hd] at h;intro e;subst e;have:b=m:=by omega
    subst this;exact h2.1 (by simp)
  ·exact ih h2.2 h
section
variable {nl:Nat} {R:Raw} {A:Ar}
theorem xT (h:ra nl R A none) {q n e:Nat} (hq:q < nl) (hn:n∈A.ls q) (he:e<=1):oK R n e:=by
 unfold oK;rw [h.bK q n e hq hn he];rcases Sm (dir e (A.ls q)) n with h1|h1
 ·left;omega
 ·right;obtain ⟨m,hm⟩:=Int.eq_ofNat_of_zero_le h1;have eG:=Ft hm;rw [iD] at eG;exact ⟨m,hm,by rw [h.made];exact h.wW q m hq eG,SJ (kS.2 (h.nd q hq)) hm⟩
theorem DP (h:ra nl R A none) {q:Nat} (hq:q < nl):(A.ls q).length<=R.used:=by rw [h.used];exact AW (f:=fun q=>(A.ls q).length) hq
theorem zg (h:ra nl R A none):R.used+A.fr.length=R.made:=by have:=h.Sl;simp at this;rw [h.made];exact this
theorem KD (h:ra nl R A none) (hm:R.made<=4194304) (iZ:nl<=256) {q n:Nat} (hq:q < nl) (hn:n∈A.ls q):Rm R nl n q:=by have h1:=DP h hq;have h2:=zg h;have h3:=List.length_pos_of_mem hn;have h4:=h.cR q hq;exact ⟨by rw [h.made];exact h.wW q n hq hn,hq,h.own q n hq hn,xT h hq hn (by omega),xT h hq hn (by omega),by omega,by omega,hm,iZ,by omega,by omega⟩
theorem uo (h:ra nl R A none) {q e:Nat} (hq:q < nl) (he:e<=1):R.ends q e < 0/\A.ls q=[]\/∃k:Nat,R.ends q e=(k:Int)/\k∈A.ls q/\k=ck (abs A) q e:=by
 rw [h.ends q e hq he];unfold ck;show _\/∃k:Nat,_/\_/\k=(hd (dir (1 - e) (A.ls q))).toNat;cases hh:dir (1 - e) (A.ls q) with
 |nil=>
  left;refine ⟨by simp [hd],?_⟩;cases hl:A.ls q with
  |nil=>rfl
  |cons x t=>
   have:x∈dir (1 - e) (A.ls q):=by rw [iD,hl];simp
   rw [hh] at this;simp at this
 |cons x t=>right;refine ⟨x,rfl,?_,by simp [hd]⟩;rw [<-iD (1 - e),hh];simp
end
section
variable {w:World} {ab az nl:Nat} {V L:Value} {a:Nd}
theorem bP.aB {S:List Nat} {w':World} (h:bP w ab V L az nl a) (f:ax S w w') (hs:∀b,b∈bp ab V L->b∉S):bP w' ab V L az nl a:=by obtain ⟨R,A,hC,hR,hA,hm⟩:=h;exact ⟨R,A,hC.aB f hs,hR,hA,hm⟩
theorem bP.later {w':World} (h:bP w ab V L az nl a) (b:Below w.heap.size w w'):bP w' ab V L az nl a:=by obtain ⟨R,A,hC,hR,hA,hm⟩:=h;exact ⟨R,A,hC.later b,hR,hA,hm⟩
theorem bP.drewN (h:bP w ab V L az nl a) (n:Nat):bP (w.drewN n) ab V L az nl a:=by obtain ⟨R,A,hC,hR,hA,hm⟩:=h;exact ⟨R,A,hC.drewN n,hR,hA,hm⟩
theorem bP.lt (h:bP w ab V L az nl a):∀b,b∈bp ab V L->b < w.heap.size:=by
 obtain ⟨R,A,hC,hR,hA,hm⟩:=h;intro b hb;simp [bp] at hb;rcases hb with rfl|hb|hb
 ·exact hC.head.lt
 ·exact (World.ownsRow.lt hC.nodes b hb).2
 ·exact (World.ownsRow.lt hC.lists b hb).2
theorem uT (h:bP w ab V L az nl a) {q:Nat} (hq:q < nl):Calls Tryz.prog 204 #[ρ ab,ι q] w fun r w'=>r= .returned (ι (a.ls q).length)/\w=w':=by obtain ⟨R,A,hC,hR,rfl,hm⟩:=h;have:=WI hC hq;rw [hR.cR q hq] at this;exact this
theorem xU (h:bP w ab V L az nl a) {q e:Nat} (hq:q < nl) (he:e<=1) (bz:a.ls q≠[]):Calls Tryz.prog 134 #[ρ ab,ι q,ι e] w fun r w'=>r= .returned (.tuple #[ι (ck a q e),.bool true])/\w=w':=by
 obtain ⟨R,A,hC,hR,rfl,hm⟩:=h;have:=Kl hC hq he;rcases uo hR hq he with ⟨_,h1⟩|⟨k,h1,h2,h3⟩
 ·exact absurd h1 bz
 ·rw [xO h1,h3] at this;exact this
theorem xV (h:bP w ab V L az nl a) {q e:Nat} (hq:q < nl) (he:e<=1) (bz:a.ls q=[]):Calls Tryz.prog 134 #[ρ ab,ι q,ι e] w fun r w'=>r= .returned (.tuple #[ι 0,.bool false])/\w=w':=by
 obtain ⟨R,A,hC,hR,rfl,hm⟩:=h;have:=Kl hC hq he;rcases uo hR hq he with ⟨h1,_⟩|⟨k,h1,h2,h3⟩
 ·rw [xP h1] at this;exact this
 ·exfalso;have bz:A.ls q=[]:=bz;rw [bz] at h2;simp at h2
theorem DQ (h:bP w ab V L az nl a) {q n e:Nat} (hq:q < nl) (hn:n∈a.ls q) (he:e<=1):Calls Tryz.prog 135 #[ρ ab,ι n,ι e] w fun r w'=>r= .returned (d_ (kK (dir e (a.ls q)) n))/\w=w':=by obtain ⟨R,A,hC,hR,rfl,hm⟩:=h;have h1:n∈A.ls q:=hn;have:=SC hC (n:=n) (by rw [hR.made];exact hR.wW q n hq h1) (by rw [hR.own q n hq h1];omega) hm he;rw [hR.bK q n e hq h1 he] at this;exact this
theorem KH (h:bP w ab V L az nl a) {q n:Nat} (hq:q < nl) (hn:n∈a.ls q):Calls Tryz.prog 208 #[ρ ab,ι n] w fun r w'=>r= .returned (.tuple #[bG (a.val n),ι 0])/\Below w.heap.size w w':=by obtain ⟨R,A,hC,hR,rfl,hm⟩:=h;have h1:n∈A.ls q:=hn;have:=xM hC (n:=n) (by rw [hR.made];exact hR.wW q n hq h1) (by rw [hR.own q n hq h1];omega) hm;rw [hR.val] at this;exact this
theorem zh (h:bP w ab V L az nl a) {q n:Nat} (hq:q < nl) (hn:n∈a.ls q):Calls Tryz.prog 60 #[ρ ab,ι n] w fun r w'=>r= .returned (.tuple #[ι q,.bool true])/\w=w':=by obtain ⟨R,A,hC,hR,rfl,hm⟩:=h;have h1:n∈A.ls q:=hn;have:=SB hC (n:=n) (by rw [hR.made];exact hR.wW q n hq h1) (by rw [hR.own q n hq h1];omega) hm;rw [hR.own q n hq h1] at this;exact this
theorem ss {R:Raw} (h:qg w ab V L az nl R) {n q:Nat} (hn:n < R.made) (hq:q < nl):∃nb cn lb cl,V= .slice (some (π nb 0)) R.made cn/\L= .slice (some (π lb 0)) nl cl/\dO w ab nb cn lb cl az nl R:=by obtain ⟨nb,cn,rfl⟩:=oM h hn;obtain ⟨lb,cl,rfl⟩:=oL h hq;exact ⟨nb,cn,lb,cl,rfl,rfl,h,by omega⟩
theorem Q8 (h:bP w ab V L az nl a) {q n:Nat} (hq:q < nl) (hn:n∈a.ls q) (x:eW):Calls Tryz.prog 268 #[ρ ab,ι n,bG x] w fun r w'=>r= .returned (ι 0)/\ax (bp ab V L) w w'/\bP w' ab V L az nl (GZ a n x):=by
 obtain ⟨R,A,hC,hR,rfl,hm⟩:=h;have h1:n∈A.ls q:=hn;have a8:n < R.made:=by rw [hR.made];exact hR.wW q n hq h1
 obtain ⟨nb,cn,lb,cl,rfl,rfl,hX⟩:=ss hC a8 hq;refine (Kj hX a8 (by rw [hR.own q n hq h1];omega) hm x).mono ?_;rintro r w' ⟨rfl,f,x'⟩;exact ⟨rfl,f,_,_,x'.c,yS hR n x,rfl,hm⟩
theorem acC {p:Prop} (h:p:=by
 refine ⟨by rw [hR.val];rfl,f,_,A',?_,Q9,FO,by rw [G3];exact hm⟩;have:=x'.c;rw [G3] at this;exact this):p:=h
theorem WS (h:bP w ab V L az nl a) (qi:az<=4194304) (iZ:nl<=256) {q e:Nat} (hq:q < nl) (he:e<=1) (bz:a.ls q≠[]):Calls Tryz.prog 308 #[ρ ab,ι q,ι e] w fun r w'=>r= .returned (.tuple #[bG (a.val (ck a q e)),ι 0])/\ax (bp ab V L) w w'/\bP w' ab V L az nl (takeN a q (ck a q e)):=by
 obtain ⟨R,A,hC,hR,rfl,hm⟩:=h;rcases uo hR hq he with ⟨_,h1⟩|⟨k,h1,h2,h3⟩
 ·exact absurd h1 bz
 ·rw [<-h3];have r:=KD hR (by omega) iZ hq h2;obtain ⟨nb,cn,lb,cl,rfl,rfl,hX⟩:=ss hC r.hn hq;obtain ⟨A',Q9,FO⟩:=AZ hR hq h2;refine (uQ hX r he h1).mono ?_;rintro r' w' ⟨rfl,f,x'⟩;have G3:(jD R k).made=R.made:=(jN R k).2.1;exact acC
theorem Br (h:bP w ab V L az nl a) (qi:az<=4194304) (iZ:nl<=256) {q n:Nat} (hq:q < nl) (hn:n∈a.ls q):Calls Tryz.prog 67 #[ρ ab,ι n] w fun r w'=>r= .returned (.tuple #[bG (a.val n),ι 0])/\ax (bp ab V L) w w'/\bP w' ab V L az nl (takeN a q n):=by obtain ⟨R,A,hC,hR,rfl,hm⟩:=h;have h2:n∈A.ls q:=hn;have r:=KD hR (by omega) iZ hq h2;obtain ⟨nb,cn,lb,cl,rfl,rfl,hX⟩:=ss hC r.hn hq;obtain ⟨A',Q9,FO⟩:=AZ hR hq h2;refine (Kq hX r hm).mono ?_;rintro r' w' ⟨rfl,f,x'⟩;have G3:(jD R n).made=R.made:=(jN R n).2.1;exact acC
theorem SK (h:bP w ab V L az nl a) (qi:az<=4194304) (iZ:nl<=256) {q n e:Nat} (hq:q < nl) (hn:n∈a.ls q) (he:e<=1):Calls Tryz.prog 274 #[ρ ab,ι n,ι q,ι e] w fun r w'=>r= .returned (ι 0)/\ax (bp ab V L) w w'/\bP w' ab V L az nl (mZ a n q e):=by
 obtain ⟨R,A,hC,hR,rfl,hm⟩:=h;have h2:n∈A.ls q:=hn;have r:=KD hR (by omega) iZ hq h2;obtain ⟨nb,cn,lb,cl,rfl,rfl,hX⟩:=ss hC r.hn hq;obtain ⟨A',Q9,FO⟩:=Kb hR hq h2 he;obtain ⟨hcut,_⟩:=yR hR hq h2;have nT:∀k,k∈(qB A n q).ls q->k∈A.ls q/\k≠n:=by intro k hk;have hk:k∈aL A.ls q ((A.ls q).erase n) q:=hk;rw [an] at hk;exact ⟨List.mem_of_mem_erase hk,fun e=>by subst e;exact (hR.nd q hq).not_mem_erase hk⟩
 have dA:(cP R n).ends q e < 0\/∃m:Nat,(cP R n).ends q e=(m:Int)/\m < R.made/\m≠n:=by
  have:=hcut.ends q e hq he;have this:(cP R n).ends q e=_:=this;rw [this];cases hh:dir (1 - e) ((qB A n q).ls q) with
  |nil=>left;simp [hd]
  |cons x t=>
   right;have hx:x∈(qB A n q).ls q:=by rw [<-iD (1 - e),hh];simp
   obtain ⟨h3,h4⟩:=nT x hx;exact ⟨x,rfl,by rw [hR.made];exact hR.wW q x hq h3,h4⟩
 have hc:(cP R n).cR q<=4194304:=by
  have h5:(cP R n).cR q=_:=hcut.cR q hq;have h6:((qB A n q).ls q).length=(A.ls q).length - 1:=by show (aL A.ls q ((A.ls q).erase n) q).length=_;rw [an,List.length_erase_of_mem h2]
  have:=r.hc;have:=hR.cR q hq;omega
 refine (SF hX r hm hq he dA hc).mono ?_;rintro r' w' ⟨rfl,f,x'⟩;have G3:(pE R n q e).made=R.made:=(jN R n).2.1;refine ⟨rfl,f,_,A',?_,Q9,FO,by rw [G3];exact hm⟩;have:=x'.c;rw [G3] at this;exact this
def OS (w:World) (ab:Nat) (V L:Value) (az nl:Nat) (a':Nd) (n:Nat) (r:Ending) (w':World):Prop:=
 r= .returned (.tuple #[ι n,ι 0])/\∃V',bP w' ab V' L az nl a'/\ax (bp ab V L) w w'/\∀b,V'.ownBlock=some b->V.ownBlock=some b\/w.heap.size<=b
theorem SL (h:bP w ab V L az nl a) (qi:az<=4194304) (iZ:nl<=256) {q e:Nat} (hq:q < nl) (he:e<=1) (x:eW) (lq:(cF nl fun q=>(a.ls q).length) < az):
 Calls Tryz.prog 306 #[ρ ab,ι q,ι e,bG x] w (OS w ab V L az nl (gd a q e x) (a.fs 0)):=by
 obtain ⟨R,A,hC,hR,rfl,hm⟩:=h;have Vj:R.used < az:=by rw [hR.used];exact lq
 have hul:=zg hR;obtain ⟨A',Q9,FO,CZ⟩:=Ka hR hq he x;have Hh:=DP hR hq;have OI:=hR.cR q hq;have dA:∀n,(n∈A.fr\/n=A.made)->R.ends q e < 0\/∃k:Nat,R.ends q e=(k:Int)/\k < R.made/\k≠n:=by
  intro n hn;rcases uo hR hq he with ⟨h1,_⟩|⟨k,h1,h2,_⟩
  ·exact .inl h1
  ·refine .inr ⟨k,h1,by rw [hR.made];exact hR.wW q k hq h2,?_⟩;intro e';subst e';rcases hn with hn|hn
   ·exact hR.re hq h2 hn
   ·have:=hR.wW q k hq h2;omega
 cases hf:A.fr with
 |nil=>
  have kL:R.cS < 0:=by rw [hR.wX,hf];decide
  rw [hf] at hul;simp at hul;rw [if_pos kL] at CZ;obtain ⟨lb,cl,rfl⟩:=oL hC hq;refine (Ky hC x hq he kL Vj (by have:=dA A.made (.inr rfl);rw [<-hR.made] at this;exact this) (by omega) (by omega) qi iZ).mono ?_;rintro r w' ⟨rfl,V',hV,f,hb⟩;refine ⟨by rw [CZ],V',⟨_,A',hV,Q9,FO,?_⟩,f,hb⟩;unfold gH;rw [if_pos kL,if_pos kL];show R.made+1<=az;omega
 |cons m t=>
  have WT:R.cS=(m:Int):=by rw [hR.wX,hf];rfl
  have eG:m∈A.fr:=by rw [hf];simp
  have a8:m < R.made:=by rw [hR.made];exact hR.JS m eG
  rw [if_neg (by omega),WT,Int.toNat_natCast] at CZ;obtain ⟨nb,cn,lb,cl,rfl,rfl,hX⟩:=ss hC a8 hq;refine (Kx hX x hq he WT a8 Vj (dA m (.inl eG)) (by omega) hm qi iZ).mono ?_;rintro r w' ⟨rfl,f,x'⟩;have G3:(gH R q e x).made=R.made:=by unfold gH;rw [if_neg (by omega),if_neg (by omega)];rfl
  refine ⟨by rw [CZ],_,⟨_,A',?_,Q9,FO,by rw [G3];exact hm⟩,f,fun b hb=> .inl hb⟩;have:=x'.c;rw [G3] at this;exact this
end
theorem Hi:(Tryz.prog.info? 194).map (fun i=>(i.zero,i.size,i.bytes))=some (some (.agg #[ι 0,ι 0,ι 0]),3,24):=by kernel_rfl
def gL (i o:Nat):Value:=if o / 3 < i/\o % 3 < 2 then ι (-1) else ι 0
def KI:Raw:={made:=0,cS:= -1,used:=0,val:=fun _=>dI,own:=fun _=>0,bK:=fun _ _=>0,ends:=fun _ _=> -1,cR:=fun _=>0}
def zk:Nd:=⟨fun _=>[],fun _=>dI,fun i=>i⟩
theorem uU (n:Nat):(cF n fun _=>0)=0:=by
 induction n with
 |zero=>rfl
 |succ n ih=>show cF n _+0=0;rw [ih]
theorem Hj (nl:Nat):ra nl KI {made:=0,fr:=[],ls:=fun _=>[],val:=fun _=>dI} none:=
 ⟨rfl,rfl,fun _ _=>List.Pairwise.nil,List.Pairwise.nil,fun _ _ _ h=>by simp at h,fun _ h=>by simp at h,fun _ _ _ h=>by simp at h,fun _ h=>by simp at h,fun n h=>by simp at h,fun _ h=>by simp at h,
   fun _ _ _ _ h=>by simp at h,fun q e _ he=>by show (-1:Int)=hd (dir (1 - e) []);rw [Ou];rfl,fun _ _=>rfl,rfl,fun _ h=>by simp at h,(uU nl).symm,rfl⟩
theorem Hk:abs {made:=0,fr:=[],ls:=fun _=>[],val:=fun _=>dI}=zk:=by refine Nd.ext rfl rfl ?_;funext i;show 0+i=i;omega
theorem OT (nl:Nat):∀o,o < nl*3->gL nl o=lW KI o:=by
 intro o ho;unfold gL lW;by_cases h:o % 3 < 2
 ·rw [if_pos ⟨by omega,h⟩,if_pos h];rfl
 ·rw [if_neg (fun h'=>h h'.2),if_neg h];rfl
theorem OU (i:Nat):(fun o=>if o=i*3+1 then ι (-1) else if o=i*3 then ι (-1) else gL i o)=gL (i+1):=by
 funext o;unfold gL;by_cases h1:o=i*3+1
 ·rw [if_pos h1,if_pos ⟨by omega,by omega⟩]
 ·rw [if_neg h1];by_cases h2:o=i*3
  ·rw [if_pos h2,if_pos ⟨by omega,by omega⟩]
  ·rw [if_neg h2];by_cases h3:o / 3 < i/\o % 3 < 2
   ·rw [if_pos h3,if_pos ⟨by omega,h3.2⟩]
   ·rw [if_neg h3,if_neg (by omega)]
structure Mk (w wr:World) (az nl i:Nat):Prop where
 head:ay wr (w.heap.size+1) 191 #[ι az,ν,.slice (some (π w.heap.size 0)) nl nl,ι (-1),ι 0]
 row:Row wr 194 3 (.slice (some (π w.heap.size 0)) nl nl) nl (gL i)
 aB:ax [] w wr
theorem Mk.next {w wr:World} {az nl i:Nat} (h:Mk w wr az nl i) (hi:i < nl):Mk w ((wr.setCell (π w.heap.size (i*3)) (ι (-1))).setCell (π w.heap.size (i*3+1)) (ι (-1))) az nl (i+1):=by have h1:=(h.row.set (o:=i*3) (by omega) (ι (-1))).set (o:=i*3+1) (by omega) (ι (-1));rw [OU] at h1;exact ⟨(h.head.other (by omega) _ _).other (by omega) _ _,h1,(h.aB.qz (by simp) _).qz (by simp) _⟩
theorem Bs (az nl:Nat) (w:World) (hm:az<=4194304) (iZ:nl<=256):
 Calls Tryz.prog 56 #[ι az,ι nl] w fun e w'=>e= .returned (.tuple #[ρ (w.heap.size+1),ι 0])/\ax [] w w'/\
  bP w' (w.heap.size+1) ν (.slice (some (π w.heap.size 0)) nl nl) az nl zk:=by
 obtain ⟨i0,hi,gA,jF,r_⟩:=info_parts Hi;have WU:∀(n:Nat) (wx:World),n<=256->(Instr.makeSlice 188 (ι n) (ι n)).run Tryz.prog wx= .ok (.slice (some (π wx.heap.size 0)) n n) (wx.alloc (.cells (madeCells #[ι 0,ι 0,ι 0] (n*3)) 194)):=by intro n wx hn;have:=run_make (P:=Tryz.prog) wx 188 194 i0 _ Tryz.underlying188 hi gA .i64 .i64 n n (by omega) (by omega) (by rw [r_];omega) (by omega);rw [jF] at this;exact this
 have aaf:=WU nl w iZ;have HM0:Hid (Mk w ((w.alloc (.cells (madeCells #[ι 0,ι 0,ι 0] (nl*3)) 194)).alloc (.cells #[ι az,ν,.slice (some (π w.heap.size 0)) nl nl,ι (-1),ι 0] 191)) az nl 0):=by
  have b1:=ay.new w 194 (madeCells #[ι 0,ι 0,ι 0] (nl*3));have b2:=ay.new (w.alloc (.cells (madeCells #[ι 0,ι 0,ι 0] (nl*3)) 194)) 191 #[ι az,ν,.slice (some (π w.heap.size 0)) nl nl,ι (-1),ι 0];rw [aE] at b2;refine ⟨b2,Row.made (b1.alloc _) (by simp [madeCells]) (by unfold maxLen;omega) fun o ho=>?_,((ax.refl [] w).alloc _).alloc _⟩;have hq:o=(o / 3)*3+o % 3:=by omega
  obtain ⟨m0,m1,m2⟩:=iB (ι 0) (ι 0) (ι 0) nl (o / 3) (by omega);have h0:gL 0 o=ι 0:=by unfold gL;rw [if_neg (by omega)]
  rw [h0,hq];have hr:o % 3=0\/o % 3=1\/o % 3=2:=by omega
  rcases hr with hr|hr|hr<;>rw [hr]
  ·exact m0
  ·exact m1
  ·exact m2
 clear WU hi gA jF r_;have t1:decide ((az:Int) < 0)=false:=by simp
 have t2:decide ((4194304:Int) < (az:Int))=false:=by simp;omega
 have t3:decide ((nl:Int) < 0)=false:=by simp
 have t4:decide ((256:Int) < (nl:Int))=false:=by simp;omega
 go_enter Tryz.func56,Tryz.ntmps56;go_wp2
 go_loopg [32] nl (fun f s32 wr=>∃i:Nat,s32=ι i/\i+f=nl/\Hid (Mk w wr az nl i))
 case atStart=>exact ⟨0,rfl,by omega,HM0⟩
 case round=>
  clear HM0 aaf;obtain ⟨i,rfl,hif,H⟩:=hrel;by_cases a8:i < nl
  ·have c2:wr.cell? (π (w.heap.size+1) 2)=some (.slice (some (π w.heap.size 0)) nl nl):=H.o.head.cell 2;have c0:=H.o.row.cell (o:=i*3) (by omega);have c1:=H.o.row.cell (o:=i*3+1) (by omega);have cf:=H.o.row.frozen;have HN:=ae (H.o.next a8);have bz:w.heap.size+1≠w.heap.size:=by omega
   clear H;generalize gL i (i*3)=x0 at*;generalize gL i (i*3+1)=x1 at*;go_wp2
   go_roundg (gk - 1)
   case measure=>omega
   case rel=>exact ⟨i+1,by go_num,by omega,HN⟩
  ·have hi:i=nl:=by omega
   subst hi;clear a8;go_wp2;go_ret2;refine ⟨rfl,H.o.aB,_,_,⟨H.o.head,?_,H.o.row.congr (OT i)⟩,Hj i,Hk,Nat.zero_le _⟩;exact Row.nil _ _ _ _
def t_ (x:Nat×eW):List Value:=[ι x.1,.int .u64 x.2.key,ι (x.2.tg 0),ι (x.2.tg 1),ι (x.2.tg 2),ι (x.2.tg 3)]
def qj (l:List (Nat×eW)):List Value:=l.flatMap t_
def rowsOf (a:Nd) (l:List Nat):List (Nat×eW):=l.map fun n=>(n,a.val n)
theorem zl (a b:List (Nat×eW)):qj (a++b)=qj a++qj b:=by simp [qj]
theorem Bt (a:Nd) (l:List Nat) (n:Nat):rowsOf a (l++[n])=rowsOf a l++[(n,a.val n)]:=by simp [rowsOf]
theorem mJ (a:Nd) (l:List Nat):(rowsOf a l).length=l.length:=by simp [rowsOf]
theorem rm:(Tryz.prog.info? 206).map (fun i=>(i.zero,i.size,i.bytes))=some (some (.agg #[ι 0,.int .u64 0,ι 0,ι 0,ι 0,ι 0]),6,48):=by kernel_rfl
section
variable {w:World} {ab az nl:Nat} {V L:Value} {a:Nd}
theorem bP.node (h:bP w ab V L az nl a) {q n:Nat} (hq:q < nl) (hn:n∈a.ls q):∃nb cn m,w.cell? (π ab 1)=some (.slice (some (π nb 0)) m cn)/\n < m/\m<=az/\
 w.cell? (π nb (n*8))=some (.int .u64 (a.val n).key)/\w.cell? (π nb (n*8+1))=some (ι ((a.val n).tg 0))/\w.cell? (π nb (n*8+2))=some (ι ((a.val n).tg 1))/\
 w.cell? (π nb (n*8+3))=some (ι ((a.val n).tg 2))/\w.cell? (π nb (n*8+4))=some (ι ((a.val n).tg 3)):=by
 obtain ⟨R,A,hC,hR,rfl,hm⟩:=h;have h2:n∈A.ls q:=hn;have a8:n < R.made:=by rw [hR.made];exact hR.wW q n hq h2
 obtain ⟨nb,cn,lb,cl,rfl,rfl,hX⟩:=ss hC a8 hq;obtain ⟨k0,k1,k2,k3,k4⟩:=hX.aW a8;rw [hR.val] at k0 k1 k2 k3 k4;exact ⟨nb,cn,R.made,hX.h1,a8,hm,k0,k1,k2,k3,k4⟩
theorem bP.uV (h:bP w ab V L az nl a) {q:Nat} (hq:q < nl):(a.ls q).length<=az/\(a.ls q).Nodup:=by
 obtain ⟨R,A,hC,hR,rfl,hm⟩:=h;have h1:=DP hR hq;have h2:=zg hR;have h3:(A.ls q).length<=az:=by omega
 exact ⟨h3,hR.nd q hq⟩
structure DS (w wr:World) (a:Nd) (l pre:List Nat) (lv:Value):Prop where
 box:Boxed wr w.heap.size 203 lv
 own:wr.ownsRow w.heap.size 206 6 lv pre.length (qj (rowsOf a pre))
 zm:Below w.heap.size w wr
 nil:pre=[]->lv=ν
theorem WV (h:bP w ab V L az nl a) (qi:az<=4194304) {q:Nat} (hq:q < nl):
 Calls Tryz.prog 64 #[ρ ab,ι q,ι 0] w fun r w'=>r= .returned (.func (.func 136) #[] #[ρ w.heap.size])/\∃lv,DS w w' a (a.ls q) (a.ls q) lv:=by
 obtain ⟨i0,hi,gA,jF,r_⟩:=info_parts rm;obtain ⟨hlen,gm⟩:=h.uV hq;have ul:Below w.heap.size w (w.alloc (.cells #[ν] 203)):=(Below.refl _ w).alloc (Nat.le_refl _) _;have H0:=ae (h.later ul);have HA:=ae h;have aa4:=h.lt ab (by simp [bp]);have gp:=ae ul;have WW:=ae gm;have HS0:Hid (DS w (w.alloc (.cells #[ν] 203)) a (a.ls q) [] ν):=ae ⟨Boxed.new _ _ _,World.ownsRow_nil ..,ul,fun _=>rfl⟩;have HPS:=ae (fun (bz:a.ls q≠[])=>xU H0.o hq (e:=0) (by omega) bz);have Vs:=ae (fun (bz:a.ls q=[])=>xV H0.o hq (e:=0) (by omega) bz);have Jo:=ae (fun (wx:World) (hx:bP wx ab V L az nl a) (n:Nat) (hn:n∈a.ls q)=>DQ hx hq hn (e:=1) (by omega));clear h ul gm;have key:∀(n0:Nat) (WZ:Bool),(WZ=true->∃rest,a.ls q=n0::rest)->(WZ=false->a.ls q=[])->
  Calls Tryz.prog 134 #[ρ ab,ι q,ι 0] (w.alloc (.cells #[ν] 203)) (fun r w'=>r= .returned (.tuple #[ι n0,.bool WZ])/\w.alloc (.cells #[ν] 203)=w')->
  Calls Tryz.prog 64 #[ρ ab,ι q,ι 0] w fun r w'=>r= .returned (.func (.func 136) #[] #[ρ w.heap.size])/\∃lv,DS w w' a (a.ls q) (a.ls q) lv:=by
  intro n0 WZ h1 h2 Si;have Vt:=ae Si;have Jp:=ae h1;have uW:=ae h2;clear Si h1 h2;go_enter Tryz.func64,Tryz.ntmps64;go_wp2_with (go_at_call 134;refine Vt.o.mono ?_;rintro r w' ⟨rfl,rfl⟩);clear Vt
  go_loopg [8,9] (a.ls q).length (fun f s8 s9 wr=>∃(n:Nat) (ok:Bool) (pre:List Nat) (lv:Value),s8=ι n/\s9= .bool ok/\Hid (pre.length+f=(a.ls q).length)/\Hid (ok=true->∃rest,a.ls q=pre++n::rest)/\Hid (ok=false->a.ls q=pre)/\Hid (DS w wr a (a.ls q) pre lv))
  case atStart=>exact ⟨n0,WZ,[],ν,rfl,rfl,ae (by simp),Jp,ae (fun e=>uW.o e),HS0⟩
  case round=>
   clear HS0 Jp uW HPS Vs H0 gp;obtain ⟨n,ok,pre,lv,rfl,rfl,HF,H1,H2,H⟩:=hrel;have bc:=H.o.box.cell;have bf:=H.o.box.frozen;cases ok
   ·have hl:=H2.o rfl;go_wp2;go_ret;have h':=H.o;rw [hl] at h';exact ⟨rfl,lv,h'⟩
   ·obtain ⟨rest,hl⟩:=H1.o rfl;have hn:n∈a.ls q:=by rw [hl];simp
    have hr:bP wr ab V L az nl a:=HA.o.later H.o.zm;obtain ⟨nb,cn,m,c1,hnm,yZ,k0,k1,k2,k3,k4⟩:=hr.node hq hn;have yO:kK (dir 1 (a.ls q)) n=hd rest:=by show kK (a.ls q) n=_;rw [hl];refine jC ?_ _;intro hm;have:=WW.o;rw [hl] at this;exact (List.nodup_append.1 this).2.2 n hm n (by simp) rfl
    have sr:=H.o.box.lt;have hpl:pre.length+1<=(a.ls q).length:=by rw [hl];simp
    have C3:=ae (show pre.length+1<=maxLen by unfold maxLen;omega);have C4:=ae (show (pre.length+1)*48<=140737488355328 by omega);have C2:=ae (show ∀u∈t_ (n,a.val n),u.oneCell'=true by intro u hu;simp [t_] at hu;rcases hu with rfl|rfl|rfl|rfl|rfl|rfl<;>rfl);obtain ⟨n1,W_,uG,hq1,kO⟩:∃(n1:Nat) (W_:Bool),d_ (hd rest)= .tuple #[ι n1,.bool W_]/\(W_=true->∃r2,a.ls q=(pre++[n])++n1::r2)/\(W_=false->a.ls q=pre++[n]):=by
     cases rest with
     |nil=>exact ⟨0,false,xP (by decide),(fun e=>by cases e),fun _=>hl⟩
     |cons m' r2=>exact ⟨m',true,xO rfl,(fun _=>⟨r2,by rw [hl];simp⟩),(fun e=>by cases e)⟩
    have Fv:=fun (wx:World) (hx:bP wx ab V L az nl a)=>Jo.o wx hx n hn;rw [yO,uG] at Fv;have NO:=ae Fv;have SM:=ae hq1;have HQ2:=ae kO;clear uG hq1 kO Fv;have HN:=ae hn;have HL:=ae hl;have HX:=ae yO;clear hn hl yO hr H1 H2;have HXD:=ae (show Boxed wr.drew w.heap.size 203 lv from H.o.box);have Q_:=ae (show wr.drew.ownsRow w.heap.size 206 6 lv pre.length (qj (rowsOf a pre)) from H.o.own);have kN:w.heap.size<=wr.heap.size:=H.o.zm.size;generalize hv:a.val n=v at*;have HV:=ae hv;clear hv;go_wp2_with fail
    go_region_law ((refine step_append_lies _ rfl (.tmp 26) (.tmp 37) 203 rfl w.heap.size 206 i0 (.agg #[ι 0,.int .u64 0,ι 0,ι 0,ι 0,ι 0]) 6 48 Tryz.underlying203 hi gA jF r_ rfl (by decide) lv _ _ (by simp [Act.eval,Act.put]) (Q_.o.alloc _) (π wr.heap.size 0) 1 1 (t_ (n,v)) (by simp [Act.eval,Act.put]) rfl (gP.gr _ (t_ (n,v)) _ _ (by simp)) C2.o (by decide) C3.o C4.o (by simp;omega) _ rfl ?_;intro g cap w1 fo fe pG um;obtain ⟨fN,NK,Q5,jd,dn⟩:=HXD.o.appended (by decide) Q_.o kN (Nat.le_refl _) fo fe;have nO:=fN.cell;have Jk:=fN.frozen;have OP:=ae NK;have rj:=ae Q5;have fg:=ae dn;clear fN NK Q5 jd dn fo fe pG))
    all_goals
     have FU:=(H.o.zm.trans (au w.heap.size wr 1)).trans fg.o;have dC:=ae FU;clear FU;go_wp2_with fail;refine (NO.o _ (HA.o.later dC.o)).mono ?_;rintro r w' ⟨rfl,rfl⟩;have tC:Hid (DS w (w1.setCell (π w.heap.size 0) (.slice (some (π g 0)) (pre.length+1) cap)) a (a.ls q) (pre++[n]) (.slice (some (π g 0)) (pre.length+1) cap)):=ae ⟨OP.o,by rw [List.length_append,Bt,zl,HV.o];exact rj.o,dC.o,fun e=>by simp at e⟩;go_wp2_with fail
     go_roundg (gk - 1)
     case measure=>have:=HF.o;omega
     case rel=>exact ⟨n1,W_,pre++[n],_,rfl,rfl,ae (by have:=HF.o;simp;omega),SM,HQ2,tC⟩
 by_cases bz:a.ls q=[]
 ·exact key 0 false (fun e=>by cases e) (fun _=>bz) (Vs.o bz)
 ·cases hl:a.ls q with
  |nil=>exact absurd hl bz
  |cons x t=>
   have hx:ck a q 0=x:=by unfold ck;show (hd (dir 1 (a.ls q))).toNat=x;rw [hl];rfl
   have:=HPS.o bz;rw [hx] at this;rw [<-hl];exact key x true (fun _=>⟨t,hl⟩) (fun e=>by cases e) this
end
end Go.Proofs.YtblkblclmbhjiaaGreat.dT
