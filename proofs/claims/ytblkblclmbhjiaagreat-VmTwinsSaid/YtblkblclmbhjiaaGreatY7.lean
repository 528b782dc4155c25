import Derived.Test.YtblkblclmbhjiaaGreatY6
set_option linter.all false
set_option maxHeartbeats 40000000
set_option maxRecDepth 100000
open Go.Proofs.Tryz
open Option renaming some->O,none->MT
open Go renaming Value->to,World->ek
open Go.Value renaming slice->H
open Go.Obj renaming cells->CA
open Go.Ending renaming returned->Vl
open Go.World renaming cell?->Vo
namespace Go.Ma
open Go.RowKit aj.Vm
open aj hiding aR an ak
open Vf (Kp fW pV aZ cV ia zq Fm sJ zp iw)
def FN(J:Nat->to):Act:={tmps:=#[J 0,J 1,J 2,J 3,J 4,J 5,J 6,J 7,J 8,J 9,J 10,J 11,J 12,J 13,J 14,J 15,J 16,J 17,J 18,J 19,J 20,J 21,J 22,J 23,J 24,J 25,J 26,J 27,J 28,J 29,J 30,J 31,J 32,J 33,J 34,J 35,J 36,J 37,J 38,J 39,J 40,J 41,J 42,J 43,J 44,J 45,J 46,J 47,J 48,J 49,J 50,J 51,J 52,J 53,J 54,J 55,J 56,J 57,J 58,J 59,J 60,J 61,J 62,J 63,J 64,J 65,J 66,J 67,J 68,J 69,J 70,J 71,J 72,J 73,J 74,J 75,J 76,J 77,J 78,J 79,J 80,J 81,J 82],defers:=[]}
def FN.of(A:Array to)(h:A=(FN λk=>A.getD k undef).tmps):({tmps:=A,defers:=[]}:Act)=FN λk=>A.getD k undef:=by rw[h];rfl
noncomputable def nwL(k:Nat):Code:=Mk.iS Proofs.Tryz.f16.body k
def mC(v:Nat->to):Array to:=#[v 0,v 1,v 2,v 3,v 4,v 5,v 6,v 7,v 8,v 9,v 10,v 11,v 12,v 13,v 14,v 15,v 16,v 17,v 18,v 19,v 20,v 21,v 22,v 23,v 24,v 25,v 26,v 27,v 28,v 29,v 30,v 31,v 32,v 33,v 34,v 35,v 36,v 37,v 38,v 39,v 40,v 41,v 42,v 43,v 44,v 45,v 46,v 47,v 48,v 49,v 50,v 51,v 52,v 53,v 54,v 55,v 56,v 57,v 58,v 59,v 60]
def mi(p:aQ)(c:Cp):Bool:=ia p c&&decide (dw (aC p c)<=4194304)
def acg(w:ek)(p:aQ)(c:Cp)(e:Ending)(w':ek):Prop:=Below w.heap.size w w'/\
 (((aW p).1≠0/\e=Vl (.tuple #[.pointer MT,Y (aW p).1]))\/((aW p).1=0/\mi p c=false/\e=Vl (.tuple #[.pointer MT,Y 45]))\/
  ((aW p).1=0/\mi p c=true/\∃(C:Co) (RO:List Nat) (K:Kc),e=Vl (.tuple #[V5 C.mb,Y 0])/\Mx w' C RO K p c (zs p) ⟨0,0,0,0⟩ 0 (.pointer MT)/\Gi K C.mb p c/\(∀b,b∈C.l++RO->w.heap.size<=b)))
def WT{w:ek}{e:TypeId}{size n:Nat}{v:to}{g:Nat->to}(h:Row w e size v n g):∃a m c,v=H a m c:=by rcases h.val with⟨e,-⟩|⟨_,_,e,-⟩<;>exact⟨_,_,_,e⟩
def Qa{P:Program}{fn:Func}{R:Ending->ek->Prop}{A:Array to}{w:ek}{t u:Tmp}(h:fn.results=#[.tmp t,.tmp u])(hR:R (Vl (.tuple #[A.getD t undef,A.getD u undef])) w):Exit.noGoto (bodyPost P fn R) .ret {tmps:=A,defers:=[]} w:=by rw[jO];exact Vf.TD h hR
def Gj(v:Nat->to)(o:Nat)(x:to):Nat->to:=λi=>if i=o then x else v i
def acy(v:Nat->to)(a b:to):(mC (Gj v 11 a)).setIfInBounds 11 b=mC (Gj v 11 b):=rfl
def vrC(p:aQ)(j:Nat):to:=Y (p.vars.getD j ⟨0,0,0⟩).init
def NL(V7:ek)(p:aQ)(va:to)(mb:Nat)(v:Nat->to)(m:Nat)(a:Act)(W:ek):Prop:=∃(J:Nat->to) (i:Nat) (vs:to),a=FN J/\J 10=V5 mb/\J 62=va/\J 63=Y p.vars.length/\J 64=Y i/\i<=p.vars.length/\m+i=p.vars.length+1/\
 Hid (aA [mb] V7 W)/\Hid (Row W 3 1 vs i (vrC p))/\Hid (∀b,vs.ownBlock=O b->V7.heap.size<=b)/\Hid (aF W mb 113 (mC (Gj v 11 vs)))
def C7{p:Prop}(h:p:=by
 obtain⟨-,y0,y1⟩:=fj;exact qj):p:=h
def nw1{V7:ek}{p:aQ}{va:Option Addr}{vc mb:Nat}{v:Nat->to}{Q:Exit->Act->ek->Prop}(HV:Hid (aZ V7 3 (H va p.vars.length vc) p.vars.length (dP p)))(HM:Hid (∃cs,aF V7 mb 113 cs))(hl:p.vars.length<=16)
 (d_:∀(J:Nat->to) W vs,J 10=V5 mb->aA [mb] V7 W->Row W 3 1 vs p.vars.length (vrC p)->(∀b,vs.ownBlock=O b->V7.heap.size<=b)->aF W mb 113 (mC (Gj v 11 vs))->Q (.exit 0) (FN J) W)
 (HVM:Hid (∀b off c,0<p.vars.length->Value.slice va p.vars.length vc=H (O (I b off)) p.vars.length c->b≠mb))
 {a:Act} {W:ek} (h:NL V7 p (H va p.vars.length vc) mb v (p.vars.length+1) a W):(Code.loop (nwL 0)).wp prog Q a W:=by
 refine Mk.aN (λm a W=>NL V7 p (H va p.vars.length vc) mb v m a W) (p.vars.length+1) h ?_ ?_
 ·rintro a W ⟨J,i,vs,-,-,-,-,-,h1,h2,-⟩;omega
 rintro m a0 W ⟨J,i,vs,rfl,nM,j62,j63,j64,hi,hm,HF,HR,HO,HB⟩;unfold FN
 conv=>arg 2;whnf
 have w2:=mO i G;rw[nM,j62,j63,j64];clear nM j62 j63 j64;by_cases be:i<p.vars.length
 ·obtain⟨b,off,cap,e,q1,q2,lb,hc⟩:=HV.o.some G G;have hbm:=HVM.o b off cap G e;simp only[cz]at e;obtain⟨rfl,-,rfl⟩:=e;have gU:∀k,k<3->Vo W (I b (off+i*3+k))=O (dP p (i*3+k)):=λk hk=>by have h9:=hc (i*3+k) G;rw[<-Nat.add_assoc]at h9;exact(bk (HF.o.block _ lb (by simpa using hbm))).trans h9
  have c0:=gU 0 G;have c1:=gU 1 G;have c2:=gU 2 G;obtain⟨x,hx⟩:∃x,p.vars.getD i ⟨0,0,0⟩=x:=⟨_,rfl⟩;have Oz:dP p (i*3+0)=Y x.init/\dP p (i*3+1)=Y x.lo/\dP p (i*3+2)=Y x.hi:=by unfold dP;rw[show(i*3+0) / 3=i by omega,show(i*3+1) / 3=i by omega,show(i*3+2) / 3=i by omega,show(i*3+0) % 3=0 by omega,show(i*3+1) % 3=1 by omega,show(i*3+2) % 3=2 by omega,hx];exact⟨rfl,rfl,rfl⟩
  rw[Oz.1,Nat.add_zero]at c0;rw[Oz.2.1]at c1;rw[Oz.2.2]at c2;have HX:=Z hx;have dE:=Z be;clear hx Oz gU hc q2;obtain⟨sa,sn,sc,rfl⟩:=WT HR.o;have lb2:=aH c0;obtain⟨W1,CW⟩:∃W1,W1=W.alloc (CA #[Y x.init,Y x.lo,Y x.hi] 122):=⟨_,rfl⟩;have k1:aF W1 W.heap.size 122 #[Y x.init,Y x.lo,Y x.hi]:=by rw[CW];exact aF.new _ _ _
  have fI:Below W.heap.size W W1:=by rw[CW];exact(aY _ _).alloc (aL _) _
  have Jl:=HB.o.of (fI.block _ HB.o.lt);have Dt:=HR.o.aG (aA.af (S:=[]) fI) ay;have TO:Vo W1 (I mb 11)=O (H sa sn sc):=Jl.cell 11;have z0:=k1.c1;have P_:mb∉(Value.slice sa sn sc).ownBlock.toList:=λhh=>HR.o.eZ HB.o bd (by simpa using hh);have TM:W.heap.size∉(Value.slice sa sn sc).ownBlock.toList:=λhh=>by have:=(fE HR.o W.heap.size (by simpa using hh)).2;omega
  have HN:=Z (And.intro P_ TM);have Dn:=Z Jl;have Dk:=Z Dt;have HFW:=Z ((aA.af (S:=[mb]) fI));have zH:=Z fI.size;have lm:=Jl.lt;have lk:=k1.lt;have jN:Hid (i+1<=maxLen/\(i+1)*8<=140737488355328):=Z ⟨by unfold maxLen;omega,G⟩;clear k1 fI Jl Dt P_ TM;go_wp2_with fail;rw[<-CW];clear CW c0 c1 c2 lb2 lb;generalize GZ:W.heap.size=vb at*;have HVB:=Z GZ;clear GZ;refine Gd.region [11] (λ_=>True) (λwx=>Vo wx (I mb 11)=O (H sa sn sc)/\Vo wx (I vb 0)=O (Y x.init)) bh ⟨trivial,TO,z0⟩ (λau=>?_);have HD:=Z (az W1.heap.size W1 1);change Hid (Below W1.heap.size W1 W1.drew)at HD;generalize W1.drew=V0 at*;refine Mk.Rr 0 (v:=?_) rfl (λwz fj=>?_) au ?_;rotate_left
  ·exact C7
  refine Mk.pt ?_;refine Mk.Rr 1 (v:=?_) rfl (λwz fj=>?_) au ?_;rotate_left
  ·exact C7
  refine Mk.pt ?_;refine Mk.Rr 2 (v:=?_) rfl (λwz fj=>?_) au ?_;rotate_left
  ·exact C7
  refine Mk.pt ?_;refine Mk.Rr 3 (v:=?_) rfl (λwz fj=>?_) au ?_;rotate_left
  ·exact C7
  refine Mk.pt ?_;refine Mk.Rr 4 (v:=?_) rfl (λwz fj=>?_) au ?_;rotate_left
  ·exact C7
  refine Mk.pt ?_;refine Mk.Rr 5 (v:=?_) rfl (λwz fj=>?_) au ?_;rotate_left
  ·exact C7
  refine Mk.pt ?_;refine Mk.Rr 6 (v:=?_) rfl (λwz fj=>?_) au ?_;rotate_left
  ·exact C7
  refine Mk.pt ?_;refine Mk.Yb (rs:=[7]) (Gd.eC.cons rfl (λK hK=>?_) Gd.eC.nil);refine fH ?_;go_simp;have dC:Below W1.heap.size W1 (V0.alloc (CA #[Y x.init] 3)):=HD.o.alloc HD.o.size _;have Bj:(V0.alloc (CA #[Y x.init] 3)).cell? (I mb 11)=O (H sa sn sc)/\(V0.alloc (CA #[Y x.init] 3)).cell? (I vb 0)=O (Y x.init):=⟨(bk (dC.block _ lm)).trans TO,(bk (dC.block _ lk)).trans z0⟩;clear au;refine hK.out _ _ ⟨trivial,Bj⟩ (λau=>?_);clear hK K;refine Mk.pt ?_;refine Mk.Yb (rs:=[8]) (Gd.eC.cons rfl (λK hK=>?_) Gd.eC.nil);refine cJ rfl (.tmp 72) (.tmp 75) 24 rfl 3 underlying24 Vf.ck rfl bd (H sa sn sc) i (vrC p) (by simp[Act.eval,Act.put]) (Dk.o.aG (aA.af (S:=[]) dC) ay) (I V0.heap.size 0) 1 1 (λ_=> Y x.init) (by simp[Act.eval,Act.put]) ?_ (λj _=>rfl) jN.o.1 jN.o.2 ?_
  ·intro j hj;obtain rfl:j=0:=G;exact(aF.new V0 3 #[Y x.init]).cell 0
  intro v2 w2 r2 f2 i2;obtain⟨WU,WV,WW,rfl⟩:=WT r2;have Dq:Vo w2 (I mb 11)=O (H sa sn sc)/\Vo w2 (I vb 0)=O (Y x.init):=⟨(bk (f2.block _ (aH Bj.1) HN.o.1)).trans Bj.1,(bk (f2.block _ (aH Bj.2) HN.o.2)).trans Bj.2⟩;have jZ:=(Dn.o.of (dC.block _ Dn.o.lt)).aG f2 HN.o.1;have nI:=Z jZ;have sR:=Z (show Row w2 3 1 (H WU WV WW) (i+1) (vrC p)from r2.congr (λo ho=>by
   unfold fY vrC;by_cases e:o<i*1
   ·rw[aB e]
   ·rw[aw e];obtain rfl:o=i:=G;rw[HX.o]))
  have Ay:=Z (show aA [mb] V7 (w2.setCell (I mb 11) (H WU WV WW))from by
   have g1:aA [mb] V7 (V0.alloc (CA #[Y x.init] 3)):=(HF.o.trans HFW.o).trans (aA.af dC);have g2:aA [mb] V7 w2:=⟨f2.os.trans g1.os,f2.tape.trans g1.tape,f2.output.trans g1.output,cU g1.size f2.size,λk hk hn=>(f2.block k (dz hk g1.size) (λhm=>by have:=HO.o k (by simpa using hm);omega)).trans (g1.block k hk hn)⟩;exact g2.setCell (p:=(I mb 11)) ay _)
  have yL:=Z (show∀b,(Value.slice WU WV WW).ownBlock=O b->V7.heap.size<=b from λb X=>by
   rcases i2 with h|h
   ·exact HO.o b (by rw[<-h];exact X)
   ·rw[h]at X;have h1:=fF X;have h2:=dC.size;have h3:=HF.o.size;have h4:=HFW.o.size;simp only[aM]at h1 h2;omega)
  obtain⟨y0,y1⟩:=Dq;have ET:Vo w2 (I mb 11)=O (H sa sn sc)/\Vo w2 (I vb 0)=O (Y x.init):=⟨y0,y1⟩;have fz:=jZ.frozen;have ZP:=jZ.lt;clear au jZ r2 f2 i2 Bj dC;refine hK.out _ _ ⟨trivial,ET⟩ (λau=>?_);clear hK K;refine Mk.pt ?_;refine Mk.Rr 9 (v:=?_) rfl (λwz fj=>?_) au ?_;rotate_left
  ·exact C7
  refine Mk.pt ?_;refine Mk.Rr 10 (v:=?_) rfl (λwz fj=>?_) au ?_;rotate_left
  ·exact C7
  refine Mk.pt ?_;refine Mk.Yb (rs:=[11]) (Gd.eC.last rfl bh (λK hK=>?_) Gd.eC.nil);refine fH ?_;go_simp;refine hK.out _ _ trivial ?_;clear hK K;refine Mk.pt ?_;refine Gd.done bh ⟨rfl,?_⟩ _;have eF:=Z (show aF (w2.setCell (I mb 11) (H WU WV WW)) mb 113 (mC (Gj v 11 (H WU WV WW)))by rw[<-acy v (H sa sn sc)];exact nI.o.set 11 _);have HR3:=Z (sR.o.other (c:=mb) (λe=>(sR.o.eZ nI.o bd) e) 11 (H WU WV WW));clear au y0 y1 ET fz ZP;go_wp2;exact⟨_,i+1,_,FN.of _ rfl,rfl,rfl,rfl,rfl,dE.o,G,Ay,HR3,yL,eF⟩
 ·obtain rfl:i=p.vars.length:=G;clear be;go_wp2;exact Eq.mpr (bu (λa=>Q (.exit 0) a W) (FN.of _ rfl)) (d_ _ _ _ rfl HF.o HR.o HO.o HB.o)
def ZQ(K:Kp)(p:aQ)(c:Cp)(qs:to)(nd:Int)(z:to):Nat->to:=λi=>if i<18 then(#[K.g,K.v,K.t,K.o,Y p.aT,K.c,Y c.size,qs,Y nd,.pointer MT,.pointer MT,Vn,Y 0,Y 0,Y 0,Y 0,Y 0,Y 0]:Array to).getD i undef else if i<60 then z else .pointer MT
def RN2(w W2:ek)(p:aQ)(c:Cp)(nd:Int)(a:Act)(W:ek):Prop:=∃(J:Nat->to) (K:Kp) (qs z:to) (mb:Nat),a=FN J/\J 2=V5 w.heap.size/\J 8=Y nd/\J 10=V5 mb/\Hid (Below W2.heap.size W2 W)/\Hid (Vf.P7 W2 W K p)/\Hid (Vf.Own W2 W 3 1 c.aK.length qs (aX c.aK))/\Hid (aF W mb 113 (mC (ZQ K p c qs nd z)))/\Hid (W2.heap.size<=mb)
def acf{w W5 W6 V6 W7 V7 W9:ek}{K1:Kp}{p:aQ}{c:Cp}{qs vs:to}{mb:Nat}(sr:bq p=0)(tb:tM p)(ni:mi p c=true)(jo:∃W2:ek,w.heap.size<=W2.heap.size/\Vf.P7 W2 W5 K1 p/\Vf.Own W2 W5 3 1 c.aK.length qs (aX c.aK)/\W2.heap.size<=mb)(CQ:Below w.heap.size w W5)
 (WS:∃cs,aF W5 mb 113 cs) (f6:aA [] W5 W6) (ha6:eB.bS W6 (W5.heap.size+1) Vn (H (O (I W5.heap.size 0)) p.ax.length p.ax.length) (dw (aC p c)) p.ax.length eB.BR) (g6:aA [mb] W6 V6)
 (f7:aA [] V6 W7) (hi7:Ix.cX W7 (V6.heap.size+1) V6.heap.size (dw (aC p c)) 0 (λ_=>MT)) (hz7:W7.heap.size=V6.heap.size+2) (g7:aA [mb] W7 V7) (hs7:V7.heap.size=W7.heap.size) (g9:aA [mb] V7 W9) (hvs:Row W9 3 1 vs p.vars.length (vrC p)) (hvl:∀b,vs.ownBlock=O b->V7.heap.size<=b)
 (hmc:aF W9 mb 113 (iJ ⟨K1.g,K1.v,K1.t,K1.o,K1.c,qs,dw (aC p c),λn=>bj mb n⟩ ⟨mb,W5.heap.size+1,V6.heap.size+1,V6.heap.size,Vn,H (O (I W5.heap.size 0)) p.ax.length p.ax.length,vs⟩ p c 0 ⟨0,0,0,0⟩ 0 (.pointer MT))):
 Below w.heap.size w W9/\∃(C:Co) (RO:List Nat) (K:Kc),C.mb=mb/\Mx W9 C RO K p c (zs p) ⟨0,0,0,0⟩ 0 (.pointer MT)/\Gi K C.mb p c/\(∀b,b∈C.l++RO->w.heap.size<=b):=by
 obtain⟨W2,h2,Gp,hqo,oR⟩:=jo;obtain⟨cs5,WS⟩:=WS;have I9:=WS.lt;have up:∀{a0c a0a:ek},aA [] a0c a0a->aA [mb] a0c a0a:=λf=>f.mono ay;have f59:aA [mb] W5 W9:=((((up f6).trans g6).trans (up f7)).trans g7).trans g9;have afg:W5.heap.size+1<W6.heap.size:=by obtain⟨R,A,hc,-⟩:=ha6;exact hc.head.lt
 have s6:=g6.size;have s9:=g9.size;have MC:∀{E:TypeId} {size n:Nat} {v:to} {g:Nat->to},Vf.Own W2 W5 E size n v g->E≠113->Row W9 E size v n g/\(∀b,b∈vb v->W2.heap.size<=b/\b<W5.heap.size/\b≠mb):=λh hE=>by have bm:∀b,b∈vb _->b≠mb:=λb X e=>h.1.eZ WS hE (by rw[<-e];exact aU.1 X);exact⟨h.1.aG f59 (λb X=>by have:=bm b (aU.2 X);simpa using this),λb X=>⟨(h.2 b (aU.1 X)).1,(h.2 b (aU.1 X)).2,bm b X⟩⟩
 obtain⟨rg,ace⟩:=MC Gp.g bd;obtain⟨rv,acd⟩:=MC Gp.v bd;obtain⟨rt,it⟩:=MC Gp.t bd;obtain⟨ro,acb⟩:=MC Gp.o bd;obtain⟨rc,aca⟩:=MC Gp.c bd;obtain⟨ab9,ab8⟩:=MC hqo bd;have hRO:∀b,b∈vb K1.g++vb K1.v++vb K1.t++vb K1.o++vb K1.c++vb qs->W2.heap.size<=b/\b<W5.heap.size/\b≠mb:=by
  intro b X;simp only[fk]at X;rcases X with((((X|X)|X)|X)|X)|X
  ·exact ace b X
  ·exact acd b X
  ·exact it b X
  ·exact acb b X
  ·exact aca b X
  ·exact ab8 b X
 have GZ:∀b,b∈vb vs->V7.heap.size<=b/\b<W9.heap.size:=λb X=>⟨hvl b (aU.1 X),(fE hvs b (aU.1 X)).2⟩;have hvn:(vb vs).Nodup:=by unfold vb;cases vs.ownBlock<;>simp
 have Io:=ni;unfold mi at Io;simp only[fp,ft]at Io;have kw:W5.heap.size<=W9.heap.size:=f59.size;refine⟨CQ.trans (f59.below CQ.size jz),⟨mb,W5.heap.size+1,V6.heap.size+1,V6.heap.size,Vn,H (O (I W5.heap.size 0)) p.ax.length p.ax.length,vs⟩,vb K1.g++vb K1.v++vb K1.t++vb K1.o++vb K1.c++vb qs,⟨K1.g,K1.v,K1.t,K1.o,K1.c,qs,dw (aC p c),λn=>bj mb n⟩,rfl,⟨⟨hmc,⟨rg,rv,rt,ro,rc,ab9,?_⟩,?_,?_,hvs⟩,⟨?_,?_,?_,?_⟩⟩,⟨Vf.Bl Io.1,rfl,Io.2,sr,λn _=>rfl⟩,?_⟩
 ·intro b X;simp only[fk];rcases X with X|X|X|X|X|X<;>simp[X]
 ·refine ha6.aG (((g6.trans (up f7)).trans g7).trans g9) ?_;intro b X;simp only[bp,Value.ownBlock,Option.toList,dK,List.nil_append,List.not_mem_nil,or_false]at X;rcases X with rfl|rfl<;>simp<;>omega
 ·have h0:e_ p (zs p).a=0:=eB.xQ _;show Ix.cX W9 (V6.heap.size+1) V6.heap.size (dw (aC p c)) (e_ p (zs p).a) (zs p).f;rw[h0];have e1:V6.heap.size+1≠mb:=G;have e2:V6.heap.size≠mb:=G;exact hi7.aG (g7.trans g9) ⟨by simpa using e1,by simpa using e2⟩
 ·simp only[Co.l,bp,Value.ownBlock,Option.toList,List.nil_append,List.cons_append];simp only[List.nodup_cons,dK,fk,List.not_mem_nil,or_false,not_or];refine⟨⟨G,G,G,G,λh=>?_⟩,⟨G,G,G,λh=>?_⟩,⟨G,G,λh=>?_⟩,⟨G,λh=>?_⟩,λh=>?_,hvn⟩
  all_goals (have:=(GZ _ h).1;omega)
 ·intro b X;simp only[Co.l,bp,Value.ownBlock,Option.toList,List.nil_append,List.cons_append,dK,fk,List.not_mem_nil,or_false]at X;rcases X with rfl|rfl|rfl|rfl|rfl|X
  ·omega
  ·omega
  ·omega
  ·omega
  ·omega
  ·exact(GZ b X).2
 ·intro b X hr;have h1:=hRO b hr;simp only[Co.l,bp,Value.ownBlock,Option.toList,List.nil_append,List.cons_append,dK,fk,List.not_mem_nil,or_false]at X;rcases X with rfl|rfl|rfl|rfl|rfl|X
  ·exact h1.2.2 rfl
  ·omega
  ·omega
  ·omega
  ·omega
  ·have:=(GZ b X).1;omega
 ·intro b X;have:=hRO b X;omega
 ·intro b X;rw[fk]at X;rcases X with X|X
  ·simp only[Co.l,bp,Value.ownBlock,Option.toList,List.nil_append,List.cons_append,dK,fk,List.not_mem_nil,or_false]at X;have:=CQ.size;rcases X with rfl|rfl|rfl|rfl|rfl|X
   ·omega
   ·omega
   ·omega
   ·omega
   ·omega
   ·have:=(GZ b X).1;omega
  ·have:=(hRO b X).1;omega
def Ef{w:ek}{K:Kp}{p:aQ}{c:Cp}{qv:to}(h:fW w K p)(hq:aZ w 1 qv c.aK.length (aX c.aK)):Calls prog 16 #[pV K p,cV c qv] w (acg w p c):=by
 obtain⟨⟨ga,gc,g1,g2,g3⟩,⟨va,vc,v1,v2,v3⟩,⟨ta,tc,t1,t2,t3⟩,⟨oa,oc,o1,o2,o3⟩,⟨ca,cc,c1,c2,c3⟩⟩:=h.sl;obtain⟨qa,qc,rfl,-,-⟩:=hq.val;have LW:=Z (λV (X:Below w.heap.size w V)=>Vf.IF (w:=V) (h.aG (aA.af X)));have HFT:=Z (λV (X:Below w.heap.size w V) hg=>Vf.IG V (c:=c) (h.aG (aA.af X)) (hq.aG (aA.af X)) hg);have HTW:=Z (λV (X:Below w.heap.size w V) hm=>Vf.sI V (h.aG (aA.af X)) hm);have yM:=Z (λV (X:Below w.heap.size w V) hn=>Vf.mM (w:=V) (hq.aG (aA.af X)) hn (λ_ _=>rfl));have a0g:=Z h;have HQ:=Z hq;obtain⟨W0,kX⟩:∃W0,W0=(w.alloc (CA #[H ga p.ax.length gc,H va p.vars.length vc,H ta p.aS.length tc,H oa p.on.length oc,Y p.aT,H ca p.code.length cc] 27)).alloc (CA #[Y c.size,H qa c.aK.length qc] 29):=⟨_,rfl⟩;have kp:aF W0 w.heap.size 27 #[H ga p.ax.length gc,H va p.vars.length vc,H ta p.aS.length tc,H oa p.on.length oc,Y p.aT,H ca p.code.length cc]:=by rw[kX];exact(aF.new _ _ _).alloc _
 have kc:aF W0 (w.heap.size+1) 29 #[Y c.size,H qa c.aK.length qc]:=by rw[kX];exact aF.bR ay
 have ep:Below w.heap.size w W0:=by rw[kX];exact((aY _ _).alloc (aL _) _).alloc ay _
 have HKV:=Z v1;unfold pV cV at*;rw[g1,v1,t1,o1,c1]at LW HFT HTW ⊢;clear h hq g1 v1 t1 o1 c1 g2 g3 v2 v3 t2 t3 o2 o3 c2 c3;go_enter func16,ntmps16;go_wp2_with fail;rw[<-kX];refine(LW.o _ ep).mono ?_;rintro e W1 ⟨w_,ms,rfl,⟨x9,y9,z9,rfl⟩,X,h1⟩;have KP:=Z (kp.of (X.block _ kp.lt));have KC:=Z (kc.of (X.block _ kc.lt));have cR:=Z (ep.trans (X.mono ep.size));have tu:=Z (show w.heap.size+1<W1.heap.size by have:=X.size;have:=kc.lt;omega);have H1:=Z h1;clear kp kc X ep kX h1 LW;obtain⟨ve,ZR⟩:∃v,aW p=v:=⟨_,rfl⟩;have Ua:=Z ZR;rw[ZR]at H1 ⊢;obtain⟨e1,e2⟩:=ve;clear ZR;dsimp only;obtain⟨p0,p1,p2,p3,p4,p5⟩:=KP.o.c6;obtain⟨k0,k1⟩:=KC.o.c2;have lp:=KP.o.lt;have lc:=KC.o.lt;have ZS:=Z (λcs T vF T2=>(cR.o.alloc cR.o.size (CA cs T)).alloc (by simp;have:=cR.o.size;omega) (CA vF T2));by_cases he:e1=0
 case neg=>
  have bm:(e1 !=0)=true:=by simpa using he
  have HE:=Z he;clear he;go_wp2;go_quiet (fail);go_wp2_with fail;refine Qa rfl ?_;exact⟨(ZS.o _ _ _ _).trans (az _ _ _),.inl ⟨by rw[Ua.o];exact HE.o,by rw[Ua.o];rfl⟩⟩
 subst he;have Nn:=Z (show bq p=0 by
  by_cases h0:bq p=0
  ·exact h0
  ·have:=Ua.o;unfold aW at this;rw[aB h0]at this;exact absurd (Prod.mk.inj this).1 h0)
 have TB:=Z (cE Nn.o).1;have zt:=TB.o.g;have Ub:=Z (λV X=>HFT.o V X zt);unfold zq at Ub;have HNK:=Z (show(ia p c&&decide (dw (aC p c)<=4194304))=mi p c from rfl);rw[HNK.o]at Ub;generalize gP:(if ia p c=true then((dw (aC p c):Nat):Int)else 0)=nd at*;have M0:=Z gP;clear gP zt HFT;go_wp2_with fail;refine(Ub.o _ (ZS.o _ _ _ _)).mono ?_;rintro e W2 ⟨rfl,X⟩;have dC:Below W1.heap.size W1 W2:=(((aY _ _).alloc (aL _) _).alloc ay _).trans (X.mono jz);have KP2:=Z (KP.o.of (dC.block _ KP.o.lt));have KC2:=Z (KC.o.of (dC.block _ KC.o.lt));have eF:=Z (cR.o.trans (dC.mono cR.o.size));have wL:=Z (show w.heap.size+1<W2.heap.size by have:=tu.o;have:=dC.size;omega);clear X dC p0 p1 p2 p3 p4 p5 k0 k1 lp lc ZS Ub;cases ni:mi p c with
 |false=>have Ad:=Z ni;clear ni;go_wp2_with fail;refine Qa rfl ?_;exact⟨eF.o,.inr (.inl ⟨by rw[Ua.o],Ad.o,rfl⟩)⟩
 |true=>
 have Ad:=Z ni;clear ni;obtain⟨p0,p1,p2,p3,p4,p5⟩:=KP2.o.c6;obtain⟨k0,k1⟩:=KC2.o.c2;have lp:=KP2.o.lt;have lc:=KC2.o.lt;have aew:=Z (show Vf.Mod p from⟨by have:=TB.o.g;omega,by have:=TB.o.v;omega,by have:=TB.o.t;omega,by have:=TB.o.on;have:=TB.o.g;omega,by have:=TB.o.code;omega⟩);have HQ8:=Z (show c.aK.length*8<=140737488355328 by
  have h:=Ad.o;unfold mi ia at h;simp only[fp,ft]at h;have:=h.1.1.2;have:=TB.o.g;omega)
 have IH:=Z (show nd=((dw (aC p c):Nat):Int)/\dw (aC p c)<=4194304 by
  have h:=Ad.o;unfold mi at h;simp only[fp,ft]at h;rw[<-M0.o,aB h.1];exact⟨rfl,h.2⟩)
 have ZO:=Z (λV (X:Below W2.heap.size W2 V)=>HTW.o V (eF.o.trans (X.mono eF.o.size)) aew.o);have ZN:=Z (λV (X:Below W2.heap.size W2 V)=>yM.o V (eF.o.trans (X.mono eF.o.size)) HQ8.o);clear HTW yM;go_wp2;refine wp_mono (Q:=λe a W=>e=Exit.normal/\RN2 w W2 p c nd a W) ?_ ?_
 ·refine Mk.bH (S:=λwx=>Below W2.heap.size W2 wx) bh (az _ W2 1) (λau=>?_);refine Mk.tk 0 (v:=?_) rfl (λwz fj=>?_) au ?_;rotate_left
  ·have key:∀b i v,b<W2.heap.size->Vo W2 (I b i)=O v->Vo wz (I b i)=O v:=λb i v X hc=>(bk (fj.block _ X)).trans hc;exact qX5
  refine Mk.pt ?_;refine Mk.fC 2 ?_;refine Mk.tk 3 (v:=?_) rfl (λwz fj=>?_) au ?_;rotate_left
  ·have key:∀b i v,b<W2.heap.size->Vo W2 (I b i)=O v->Vo wz (I b i)=O v:=λb i v X hc=>(bk (fj.block _ X)).trans hc;have y0:=key _ _ _ lc k0;exact qj
  refine Mk.pt ?_;refine Mk.fC 4 ?_;refine Mk.tk 5 (v:=?_) rfl (λwz fj=>?_) au ?_;rotate_left
  ·have key:∀b i v,b<W2.heap.size->Vo W2 (I b i)=O v->Vo wz (I b i)=O v:=λb i v X hc=>(bk (fj.block _ X)).trans hc;have y0:=key _ _ _ lc k1;exact qj
  refine Mk.pt ?_;refine Mk.fC 8 ?_;refine Mk.oD (rs:=[1]) (bZ rfl (λK9 hK=>?_) cK);refine fH ?_;go_simp;refine(ZO.o _ au).mono ?_;rintro e Wt ⟨K1,rfl,Gp,hbt⟩;obtain⟨kg,kv,kt,ko,kc⟩:=K1;obtain⟨ag,mg,cg,eg⟩:=WT Gp.g.1;obtain⟨av,mv,cv,ev⟩:=WT Gp.v.1;obtain⟨at_,mt,ct,et⟩:=WT Gp.t.1;obtain⟨ao,mo,co,eo⟩:=WT Gp.o.1;obtain⟨ac,mc,cc9,ec⟩:=WT Gp.c.1;dsimp only at eg ev et eo ec;subst eg ev et eo ec;unfold pV;dsimp only;have hS:=au.trans (hbt.mono au.size);have afh:=au.size;clear au;refine hK.out _ _ hS (λau=>?_);clear hK K9;refine Mk.pt ?_;refine Mk.oD (rs:=[6]) (bZ rfl (λK9 hK=>?_) cK);refine fH ?_;go_simp;refine(ZN.o _ au).mono ?_;rintro e ab7 ⟨qs,rfl,hrq,hbq,hiq⟩;obtain⟨aq,mq,cq,rfl⟩:=WT hrq;have hS:=au.trans (hbq.mono au.size);have ZM:=au.size;clear au;refine hK.out _ _ hS (λau=>?_);clear hK K9;refine Mk.pt ?_;refine Mk.fC 7 ?_;refine Mk.fC 9 ?_;refine Mk.oD (rs:=[10]) (bZ rfl (λK9 hK=>?_) cK);refine fH ?_;go_simp;refine hK.out _ _ (au.alloc au.size _) (λau=>?_);clear hK K9;refine Mk.pt ?_;refine Mk.fC 11 ?_;refine fx bh ⟨rfl,rfl,_,⟨H ag mg cg,H av mv cv,H at_ mt ct,H ao mo co,H ac mc cc9⟩,H aq mq cq,.nilFunc,_,FN.of _ rfl,rfl,rfl,rfl,Z au,Z ?_,Z ⟨hrq.alloc _,hiq.mono ZM ay⟩,Z ?_,Z (cU ZM hbq.size)⟩ _
  ·have h0:Vf.P7 W2 Wt ⟨H ag mg cg,H av mv cv,H at_ mt ct,H ao mo co,H ac mc cc9⟩ p:=⟨Gp.g,Gp.v,Gp.t,Gp.o,Gp.c⟩;have wD:Below Wt.heap.size Wt (ab7.alloc (CA #[H ag mg cg,H av mv cv,H at_ mt ct,H ao mo co,Y p.aT,H ac mc cc9,Y c.size,H aq mq cq,Y nd,.pointer MT,.pointer MT,Vn,Y 0,Y 0,Y 0,Y 0,Y 0,Y 0,.nilFunc,.nilFunc,.nilFunc,.nilFunc,.nilFunc,.nilFunc,.nilFunc,.nilFunc,.nilFunc,.nilFunc,.nilFunc,.nilFunc,.nilFunc,.nilFunc,.nilFunc,.nilFunc,.nilFunc,.nilFunc,.nilFunc,.nilFunc,.nilFunc,.nilFunc,.nilFunc,.nilFunc,.nilFunc,.nilFunc,.nilFunc,.nilFunc,.nilFunc,.nilFunc,.nilFunc,.nilFunc,.nilFunc,.nilFunc,.nilFunc,.nilFunc,.nilFunc,.nilFunc,.nilFunc,.nilFunc,.nilFunc,.nilFunc,.pointer MT] 113)):=hbq.alloc hbq.size _;exact⟨h0.g.later wD,h0.v.later wD,h0.t.later wD,h0.o.later wD,h0.c.later wD⟩
  ·exact aF.new _ _ _
 rintro e a W5 ⟨rfl,J,K1,qs,z,mb,rfl,j2,j8,nM,nU,HPO,HQS,wI,jN⟩;clear p0 p1 p2 p3 p4 p5 k0 k1 lp lc ZO ZN;unfold FN;have hN:=IH.o.1;rw[j2,j8,nM,hN];have hN4:=IH.o.2;subst hN;clear j2 j8 nM M0;have ZT:=Z (eF.o.trans (nU.o.mono eF.o.size));have KP5:=Z (KP2.o.of (nU.o.block _ KP2.o.lt));have HWL:=Z (show w.heap.size≠mb by have:=wL.o;have:=jN.o;omega);have p0:=KP5.o.c1;have lp:=KP5.o.lt;have zt:=TB.o.g;have HAR:=Z (λV=>eB.Ef (dw (aC p c)) p.ax.length V hN4 G);have HIX:=Z (λV=>Ix.Ts (dw (aC p c)) V hN4);generalize hNN:dw (aC p c)=N at*;have tW:=Z hNN;clear hNN;go_wp2_with fail;refine(HAR.o W5).mono ?_;rintro e W6 ⟨rfl,f6,ha6⟩;have km6:aF W6 mb 113 (mC (ZQ K1 p c qs N z)):=wI.o.aG f6 ay;have m9:Vo W6 (I mb 9)=O (.pointer MT):=km6.cell 9;have fz6:=km6.frozen;have lm6:=km6.lt;have Uc:=Z (show aF (W6.setCell (I mb 9) (V5 (W5.heap.size+1))) mb 113 (mC (Gj (ZQ K1 p c qs N z) 9 (V5 (W5.heap.size+1))))from km6.set 9 _);have We:=Z (show aA [mb] W6 (W6.setCell (I mb 9) (V5 (W5.heap.size+1)))from(aA.refl _ _).setCell (p:=(I mb 9)) ay _);have MZ:=Z f6;have HA6:=Z ha6;clear f6 ha6 km6 p0 lp;go_wp2_with fail;obtain⟨V6,hV6⟩:∃V,V=W6.setCell (I mb 9) (V5 (W5.heap.size+1)):=⟨_,rfl⟩;rw[<-hV6]at Uc We ⊢;clear m9 fz6 lm6 hV6;refine(HIX.o V6).mono ?_;rintro r W7 ⟨rfl,f7,hi7,hz7⟩;have km7:aF W7 mb 113 (mC (Gj (ZQ K1 p c qs N z) 9 (V5 (W5.heap.size+1)))):=Uc.o.aG f7 ay;have m10:Vo W7 (I mb 10)=O (.pointer MT):=km7.cell 10;have fz7:=km7.frozen;have lm7:=km7.lt;have ZU:aA [mb] W5 W7:=(((aA.mono MZ.o ay).trans We.o).trans (aA.mono f7 ay));have kp7:=KP5.o.aG ZU (by have:=HWL.o;simpa using this);have p1:Vo W7 (I w.heap.size 1)=O (H va p.vars.length vc):=kp7.cell 1;have lp:=kp7.lt;have HG7:=Z (show aA [mb] W7 (W7.setCell (I mb 10) (V5 (V6.heap.size+1)))from(aA.refl _ _).setCell (p:=(I mb 10)) ay _);have HM7:=Z (show aF (W7.setCell (I mb 10) (V5 (V6.heap.size+1))) mb 113 (mC (Gj (Gj (ZQ K1 p c qs N z) 9 (V5 (W5.heap.size+1))) 10 (V5 (V6.heap.size+1))))from km7.set 10 _);have Rk:=Z f7;have HI7:=Z hi7;have HZ7:=Z hz7;have aex:=Z ZU;have hnw:=HWL.o;clear f7 hi7 hz7 km7 ZU kp7;go_wp2_with fail;obtain⟨V7,hV7⟩:∃V,V=W7.setCell (I mb 10) (V5 (V6.heap.size+1)):=⟨_,rfl⟩;have HS7:=Z (show V7.heap.size=W7.heap.size by rw[hV7];simp);rw[<-hV7]at HG7 HM7 ⊢;clear m10 fz7 lm7 p1 lp hV7 hnw;have HVR:=Z (show aZ V7 3 (H va p.vars.length vc) p.vars.length (dP p)by
  have h0:=a0g.o.v;rw[HKV.o]at h0;exact h0.aG (aA.af (ZT.o.trans ((aex.o.trans HG7.o).below ZT.o.size (by have:=jN.o;have:=eF.o.size;simp;omega)))))
 refine nw1 (V7:=V7) (mb:=mb) (v:=Gj (Gj (ZQ K1 p c qs N z) 9 (V5 (W5.heap.size+1))) 10 (V5 (V6.heap.size+1))) HVR (Z ⟨_,HM7.o⟩) TB.o.v (λJ W8 vs nM ZV hr8 ho8 OK=>?_) (Z (λb off cp hn e=>?_)) ⟨_,0,Vn,FN.of _ rfl,rfl,rfl,rfl,rfl,cM _,G,Z (aA.refl _ _),Z (Row.nil _ _ _ _),Z (λb X=>by cases X),Z HM7.o⟩;rotate_left
 ·have h0:=a0g.o.v;rw[HKV.o]at h0;obtain⟨b',Zp,oh,e',-,-,hl,-⟩:=h0.some hn G;rw[e]at e';simp only[cz,im,Addr.mk.injEq]at e';have:=jN.o;have:=eF.o.size;omega
 unfold FN;rw[nM];have HF8:=Z ZV;have HR8:=Z hr8;have HO8:=Z ho8;have ub:=Z (wX (v:=Gj (Gj (Gj (ZQ K1 p c qs N z) 9 (V5 (W5.heap.size+1))) 10 (V5 (V6.heap.size+1))) 11 vs) OK);have aey:=Z (λe=>hr8.eZ OK bd e);clear nM ZV hr8 ho8 OK;go_wp2_with fail;refine ub.o.mono ?_;rintro e W9 ⟨rfl,P5,wZ⟩;have iz:=acf (w:=w) (c:=c) Nn.o TB.o Ad.o ⟨W2,eF.o.size,HPO.o,HQS.o,jN.o⟩ ZT.o ⟨_,wI.o⟩ MZ.o (by rw[tW.o];exact HA6.o) We.o Rk.o (by rw[tW.o];exact HI7.o) HZ7.o HG7.o HS7.o (HF8.o.trans P5) (HR8.o.aG P5 (λb X hm=>aey.o (by simp at hm;rw[<-hm];exact X))) HO8.o (by rw[tW.o];exact wZ);have HD:=Z iz;clear iz P5 wZ ub;go_wp2_with fail;refine Qa rfl ?_;obtain⟨h1,C,RO,K9,rfl,h3,h4,h5⟩:=HD.o;exact⟨h1,.inr (.inr ⟨by rw[Ua.o],Ad.o,C,RO,K9,rfl,h3,h4,h5⟩)⟩
end Go.Ma
namespace Go.Ma
open Go.RowKit aj.Vm
open aj hiding aR an ak
open eB (bS bL eN)
open Ix (cX)
section
variable {w w' wr:ek}{C C' C1:Co}{U U':Ru}{RO RO' pS:List Nat}{K:Kc}{p:aQ}{c:Cp}{t t':dZ}{used used':Int}{hv hv':to}{jv kT:Nat->to}{s s' s0 s1:St}{t0:dZ}{Bb:Int}{r r':Rn}{rv rv':to}{mb rb bx:Nat}{T:Map}{st:Std}
def zY.setAt{key:Nat}{a:Int}(h:zY w wr bx C K p c s t used key a (.pointer MT))(a':Int):zY w (wr.setCell (I (bx+1+1) 1) (Y a')) bx C K p c s t used key a' (.pointer MT):=by have F:aA [bx+1+1] wr (wr.setCell (I (bx+1+1) 1) (Y a')):=(aA.refl _ wr).setCell ay _;refine⟨h.at_,h.mx.aG F (λb X hc=>by simp at hc;subst hc;exact h.nc X) (λb X hc=>by rw[List.mem_singleton]at hc;subst hc;exact h.no X),h.b2.aG F jz,h.b4.aG F ay,h.b5.aG F ay,h.rb.set 1 _,h.nc,h.no,h.Cz.trans (Kept.dn (RO:=Ma.rest w C) F (λb X hc=>by rw[List.mem_singleton]at hc;subst hc;exact h.no (by simp[X])) (λb X=>h.mx.sep.dO b (by simp[X]))) (λb X=>X)⟩
def Mx.behind{w1 w2:ek}(h:Mx w C RO K p c s t used rv){a':Nd}{f':Nat->Option Nat}(f1:aA [C.xb,C.xs] w w1)(f2:aA (bp C.ab C.V C.L) w1 w2)(ha:bS w2 C.ab C.V C.L K.nd p.ax.length a')
 (hx:cX w1 C.xb C.xs K.nd (e_ p a') f'):bT w w2 C C/\Mx w2 C RO K p c ⟨a',f',s.vars,s.total⟩ t used rv:=by
 have R:=h.rel;have F1:aA C.l w w1:=f1.mono (by intro k hk;simp at hk;rcases hk with rfl|rfl<;>simp[Co.l]);have F2:aA C.l w1 w2:=f2.mono (by intro k hk;simp[Co.l,hk]);have F:=F1.trans F2;have Jl:C.mb∉[C.xb,C.xs]:=by simp;exact⟨R.mx,R.ms⟩
 refine⟨⟨rfl,F,λ_ X=> .inl X⟩,⟨⟨?_,?_,?_,?_,?_⟩,h.sep.nd,λb X=>dz (h.sep.lt b X) F.size,h.sep.ro,λb X=>dz (h.sep.dO b X) F.size⟩⟩
 ·exact(h.m.bg.aG f1 Jl).aG f2 R.ma
 ·exact h.m.prog.aG F λb X=>h.cr X
 ·exact ha
 ·exact hx.aG f2 ⟨R.xa,R.sa⟩
 ·exact(h.m.vs.aG f1 λb X hc=>by
   simp at hc;rcases hc with rfl|rfl
   ·exact R.xv (aU.2 X)
   ·exact R.sv (aU.2 X)).aG f2 λb X hc=>R.av b hc (aU.2 X)
def xj(w:ek)(C:Co)(RO:List Nat)(K:Kc)(p:aQ)(c:Cp)(t:dZ)(used:Int)(s:St)(key:Nat)(e:Ending)(w':ek):Prop:=
 e=Vl (Y (jd p c s key))/\∃C',bT w w' C C'/\Mx w' C' RO K p c (jJ p c s key) (if jd p c s key=0 then t else{t with qG:=wrap64 (t.qG+1)}) used rv0
where rv0:to:= .pointer MT
def ab0(h:Mx w C RO K p c s t used (.pointer MT)){key:Nat}(hf:s.f key=MT):
 Calls prog 26 #[V5 C.mb,.int .u64 key] w (xj w C RO K p c t used s key):=by
 have m10:=Sw h.m.bg;have HD:=Z (Ix.GY h.m.ix hf);have HE:=Z (λn=>show xj w C RO K p c t used s key (Vl (Y 0)) (w.drewN n)from by
  have e1:jd p c s key=0:=by unfold jd;rw[hf]
  have e2:jJ p c s key=s:=by unfold jJ;rw[hf]
  refine⟨by rw[e1],C,bT.below (az _ _ n),?_⟩;rw[e1,e2,aB rfl];exact h.drewN n)
 clear h hf;go_enter func26,ntmps26;go_wp2_with fail;refine HD.o.mono ?_;rintro e w1 ⟨rfl,n,rfl⟩;go_wp2;go_ret;exact HE.o n
def abZ(h:Mx w C RO K p c s t used (.pointer MT))(hI:Inv (aC p c) s)(gP:K.nd<=4194304)(hg:p.ax.length<=256){key n q:Nat}(hf:s.f key=O n)(hq:q<p.ax.length)(hn:n∈s.a.ls q)(ht: -1073741824<=s.total/\s.total<=1073741824):
 Calls prog 26 #[V5 C.mb,.int .u64 key] w (xj w C RO K p c t used s key):=by
 have m10:=Sw h.m.bg;have hk:(s.a.val n).key=key:=by obtain⟨q',Q_,hn',hk⟩:=(hI.idx key n).1 hf;exact hk
 have hle:=qJ (a:=s.a) hq hn;have HX:=h.m.ix;rw[<-hle]at HX;have HD:=Z (Ix.ss HX hf);have P6:jJ p c s key=⟨takeN s.a q n,Vm.aR s.f key MT,s.vars,if p.ax.getD q false then s.total else s.total-1⟩:=by unfold jJ;rw[hf];dsimp only;rw[mT hI.wf hq hn];unfold gB;rw[hk];rfl
 have gi:jd p c s key=if p.ax.getD q false then 2 else 1:=by unfold jd;rw[hf];dsimp only;rw[mT hI.wf hq hn]
 have Ui:=Z P6;have Uj:=Z gi;have HT:=Z ht;have a0g:=Z h;have Z5:=Z (And.intro hn (And.intro gP hg));have R:=h.rel;have nx:C.mb∉[C.xb,C.xs]:=by simp;exact⟨R.mx,R.ms⟩
 have nar:∀b,b∈bp C.ab C.V C.L->b∉[C.xb,C.xs]:=by
  intro b X hc;simp at hc;rcases hc with rfl|rfl
  ·exact R.xa X
  ·exact R.sa X
 have NX:=Z (And.intro nx (And.intro nar R.ma));clear h hf hk hle HX P6 gi ht nx nar R hn gP hg hI;go_enter func26,ntmps26;go_wp2_with fail;refine HD.o.mono ?_;rintro e w1 ⟨rfl,f1,x1⟩;have fI:=a0g.o.m.bg.aG f1 NX.o.1;have m9:Vo w1 (I C.mb 9)=O (V5 C.ab):=fI.cell 9;have a1:=a0g.o.m.ar.aG f1 NX.o.2.1;have HL:=Z (eB.GS a1 hq Z5.o.1);have HU:=Z (eB.Ee a1 Z5.o.2.1 Z5.o.2.2 hq Z5.o.1);have E7:=Z f1;have xI:=Z x1;have cR:=Z fI;clear f1 x1 fI a1 m10 HD;go_wp2_with fail;refine HL.o.mono ?_;rintro e w1' ⟨rfl,rfl⟩;go_wp2_with fail;refine HU.o.mono ?_;rintro e w2 ⟨rfl,f2,a2⟩;obtain⟨hT,hM⟩:=a0g.o.behind E7.o f2 a2 xI.o;have g16:Vo w2 (I C.mb 16)=O (Y t.qG):=hM.m.bg.cell 16;have fm:∀o,w2.frozen? (I C.mb o)=false:=hM.m.bg.frozen;have g0:Vo w2 (I C.mb 0)=O K.g:=hM.m.bg.cell 0;have g12:Vo w2 (I C.mb 12)=O (Y s.total):=hM.m.bg.cell 12;obtain⟨gb,ov,lG,yk,zI⟩:=hM.ax hq;have ngb:gb≠C.mb:=λe=>hM.cr yk (by rw[e];simp[Co.l]);rw[lG]at g0;have Px:=Z hT;have HM:=Z hM;have Ye:IntKind.i64.wrap (s.total-1)=s.total-1:=bJ _ ⟨by have:=HT.o;omega,by have:=HT.o;omega⟩;clear f2 a2 hT hM m9 HL HU yk lG;generalize hgq:p.ax.getD q false=gq at*;generalize p.ax.length=ng at*;have HGQ:=Z hgq;clear hgq;cases gq
 ·have Dk:=Z (show jd p c s key=1 by rw[Uj.o];rfl);have sR:=Z (show jJ p c s key=⟨takeN s.a q n,Vm.aR s.f key MT,s.vars,s.total-1⟩by rw[Ui.o];rfl);clear Uj Ui;go_wp2;go_ret;refine⟨show Ending.returned (Y 1)=_ by rw[Dk.o],C,?_⟩;rw[Dk.o,aw bd,sR.o];obtain⟨k1,m1⟩:=HM.o.rH 16 (Y (wrap64 (t.qG+1))) (t':={t with qG:=wrap64 (t.qG+1)}) (used':=used) (rv':= .pointer MT) rfl;obtain⟨k2,m2⟩:=m1.total (s.total-1);exact⟨Px.o.trans (k1.trans k2),m2⟩
 ·have Dk:=Z (show jd p c s key=2 by rw[Uj.o];rfl);have sR:=Z (show jJ p c s key=⟨takeN s.a q n,Vm.aR s.f key MT,s.vars,s.total⟩by rw[Ui.o];rfl);clear Uj Ui;go_wp2;go_ret;refine⟨show Ending.returned (Y 2)=_ by rw[Dk.o],C,?_⟩;rw[Dk.o,aw bd,sR.o];obtain⟨k1,m1⟩:=HM.o.rH 16 (Y (wrap64 (t.qG+1))) (t':={t with qG:=wrap64 (t.qG+1)}) (used':=used) (rv':= .pointer MT) rfl;exact⟨Px.o.trans k1,m1⟩
def abX(h:Mx w C RO K p c s t used (.pointer MT))(hI:Inv (aC p c) s)(gP:K.nd<=4194304)(hg:p.ax.length<=256)(key:Nat)(ht: -1073741824<=s.total/\s.total<=1073741824):
 Calls prog 26 #[V5 C.mb,.int .u64 key] w (xj w C RO K p c t used s key):=by
 cases hf:s.f key with
 |none=>exact ab0 h hf
 |some n=>obtain⟨q,hq,hn,-⟩:=(hI.idx key n).1 hf;exact abZ h hI gP hg hf hq hn ht
def Qj(h:Mx w C RO K p c s t used rv):Calls prog 28 #[V5 C.mb] w (λe w'=>e=Vl (Y used)/\w=w'):=by have m17:Vo w (I C.mb 17)=O (Y used):=h.m.bg.cell 17;clear h;go_enter func28,ntmps28;go_wp2;exact zM
def Uk(t:dZ):to:= .agg #[Y t.xX,Y t.mW,Y t.Ga,Y t.qG]
def abW(h:Mx w C RO K p c s t used rv):Calls prog 29 #[V5 C.mb] w (λe w'=>e=Vl (Uk t)/\Below w.heap.size w w'):=by have m13:Vo w (I C.mb 13)=O (Y t.xX):=h.m.bg.cell 13;have m14:Vo w (I C.mb 14)=O (Y t.mW):=h.m.bg.cell 14;have m15:Vo w (I C.mb 15)=O (Y t.Ga):=h.m.bg.cell 15;have m16:Vo w (I C.mb 16)=O (Y t.qG):=h.m.bg.cell 16;have lm:=h.m.bg.lt;clear h;unfold Uk;go_enter func29,ntmps29;go_wp2;exact bK (v:= .agg #[Y t.xX,Y t.mW,Y t.Ga,Y t.qG]) (by simp[results,results29,go_sem]) rfl ⟨rfl,(aY _ _).alloc (aL _) _⟩
end
end Go.Ma
section
def ZL{p:Prop}(h:p:=by
 go_wp2;exact Eq.mpr (bu (λa=>Code.wp prog P8 _ a w5) (FP.of _ rfl)) (ab6 HM.o HV.o HS.o HH.o HI.o hk Ud.o HX.o nU.o cY (λk=>Array.getD _ k undef))):p:=h
namespace Go.Ma
open Go.RowKit aj.Vm
open aj hiding aR an ak
def Ue:Nat->Code->Code
 |0,c=>c
 |n+1,.seq _ b=>Ue n b
 |_,c=>c
def FP(bx:Nat)(X:Bool)(D:List Deferred)(J:Nat->to):Act:={tmps:=#[J 0,J 1,V5 bx,J 3,V5 (bx+1),V5 (bx+1+1+1),.bool X,J 7,J 8,J 9,J 10,J 11,J 12,J 13,J 14,J 15,J 16,J 17,J 18,J 19,J 20,J 21,J 22,J 23,J 24,J 25,J 26,J 27,J 28,J 29,J 30,J 31,J 32,J 33,J 34,J 35,J 36,J 37,J 38,J 39,J 40,J 41,J 42,J 43,J 44,J 45,J 46,J 47,J 48,J 49,J 50,J 51,J 52,J 53,J 54,J 55,J 56,J 57,J 58,J 59,J 60,J 61,J 62,J 63,J 64,J 65,J 66,J 67,J 68,J 69,J 70,J 71,J 72,J 73,J 74,J 75,J 76,J 77,J 78,J 79,J 80,J 81,J 82,J 83,J 84,J 85,J 86,J 87,J 88,J 89,J 90,J 91,J 92,J 93,J 94,J 95,J 96,J 97,J 98,J 99,J 100,J 101,J 102,J 103,J 104,J 105,J 106,J 107,J 108,J 109,J 110,J 111,J 112,J 113,J 114,J 115,J 116,J 117,J 118],defers:=D}
def FP.of{bx:Nat}{X:Bool}{D:List Deferred}(A:Array to)(h:A=(FP bx X D λk=>A.getD k undef).tmps):({tmps:=A,defers:=D}:Act)=FP bx X D λk=>A.getD k undef:=by rw[h];rfl
def DD(bx:Nat):List Deferred:=[{target:= .fn (.func 61) #[V5 bx,V5 (bx+1+1+1),V5 (bx+1)],args:=#[]}]
def Uf(bx:Nat)(X:Bool)(a:Act):Prop:=∃J,a=FP bx X (DD bx) J
noncomputable def Fo:Code:=Ue 5 (Proofs.Tryz.f17.body.getD .skip)
noncomputable def P8:Code:=match Ue 4 (Proofs.Tryz.f17.body.getD .skip)with| .seq a _=>a|c=>c
noncomputable def aez:Code:=Ue 8 (Proofs.Tryz.f17.body.getD .skip)
def half(t:dZ)(X:Bool):dZ:=if X then{t with xX:=wrap64 (t.xX+1)}else{t with mW:=wrap64 (t.mW+1)}
def ab5{w:ek}{ta:Option Addr}{n sx:Nat}{g:Nat->to}(h:Row w 46 1 (H ta n sx) n g):Calls prog 63 #[H ta n sx] w (λe w'=>e=Vl (H ta n n)/\w=w'):=by
 rcases h.val with⟨e,h0⟩|⟨b,cap,e,h1,-,-⟩
 ·simp only[cz]at e;obtain⟨rfl,rfl,rfl⟩:=e;exact Pg w
 ·simp only[cz]at e;obtain⟨rfl,-,rfl⟩:=e;exact LY w h1
section
variable {w w7:ek}{C C1:Co}{RO pS:List Nat}{K:Kc}{p:aQ}{c:Cp}{t:dZ}{used:Int}{s s1:St}{bx key us:Nat}{told:List Nat}{ta:Option Addr}{sx:Nat}{X:Bool}{T:Map}{wN:Int}
def ab4(h:Mx w C RO K p c s t used (.pointer MT))(a0f:Over w w7 bx C C1 pS K p c s1 t us (H ta told.length sx) told 0 (.bool false) Vn (Y 0))(hT:jc p c s key=0)(hN:nr p c s key=s1)(hH:rG p c s key=X)(hL:rR p c s key=told)(hU:(uz p c s key).1=us)(J:Nat->to):
 Code.wp prog aez (bodyPostD prog Proofs.Tryz.f17 (je w C RO K p c t s key)) (FP bx X (DD bx) J) w7:=by
 have HH:=Z h;have HO:=Z a0f;have HX:=Z (show _/\_/\_/\_/\_ from⟨hT,hN,hH,hL,hU⟩);clear h a0f hT hN hH hL hU
 conv=>arg 2;whnf
 refine wp_seq ?_;refine wp_mono (Q:=λe a V=>e=Exit.normal/\Uf bx X a/\Over w V bx C C1 pS K p c s1 (half t X) us (H ta told.length sx) told 0 (.bool false) Vn (Y 0)) ?_ ?_
 ·have d2:=HO.o.b2.c1;have e13:Vo w7 (I C.mb 13)=O (Y t.xX):=by rw[<-HO.o.mb];exact HO.o.mx.m.bg.cell 13
  have e14:Vo w7 (I C.mb 14)=O (Y t.mW):=by rw[<-HO.o.mb];exact HO.o.mx.m.bg.cell 14
  have fm:∀o,w7.frozen? (I C.mb o)=false:=by rw[<-HO.o.mb];exact HO.o.mx.m.bg.frozen
  unfold FP DD;cases X with
  |true=>
   go_wp2
   first|exact⟨rfl,⟨_,FP.of _ rfl⟩,HO.o.rH 13 (Y (wrap64 (t.xX+1))) (t':=half t true) (used':=us) rfl⟩|exact⟨⟨_,FP.of _ rfl⟩,HO.o.rH 13 (Y (wrap64 (t.xX+1))) (t':=half t true) (used':=us) rfl⟩
  |false=>
   go_wp2
   first|exact⟨rfl,⟨_,FP.of _ rfl⟩,HO.o.rH 14 (Y (wrap64 (t.mW+1))) (t':=half t false) (used':=us) rfl⟩|exact⟨⟨_,FP.of _ rfl⟩,HO.o.rH 14 (Y (wrap64 (t.mW+1))) (t':=half t false) (used':=us) rfl⟩
 rintro e a w8 ⟨rfl,⟨ab3,rfl⟩,O8⟩;simp only[Exit.then];have d2:=O8.b2.c1;have g5:=O8.b5.c1;have g5t:Vo w8 (I (bx+1+1) 5)=O (H ta told.length sx):=by obtain⟨cs,q1,q2,q3⟩:=O8.rb;exact(q1.cell 5).trans q2
 have e15:Vo w8 (I C.mb 15)=O (Y (half t X).Ga):=by rw[<-O8.mb];exact O8.mx.m.bg.cell 15
 have fm:∀o,w8.frozen? (I C.mb o)=false:=by rw[<-O8.mb];exact O8.mx.m.bg.frozen
 have nmr:bx+1+1≠C.mb:=λe=>O8.nc (by rw[e,<-O8.mb];simp[Co.l]);have nm4:bx+1≠C.mb:=λe=>O8.mx.cr (b:=bx+1) (O8.ro _ ay) (by rw[e,<-O8.mb];simp[Co.l]);have HO8:=Z O8;clear O8;unfold FP DD;go_wp2;go_region;have O9:=(HO8.o.rH 15 (Y (wrap64 ((half t X).Ga+told.length))) (t':={half t X with Ga:=wrap64 ((half t X).Ga+told.length)}) (used':=us) rfl).draw 1;change Over w (w8.setCell (I C.mb 15) (Y (wrap64 ((half t X).Ga+told.length)))).drew bx C C1 pS K p c _ _ _ _ _ _ _ _ _ at O9;clear d2 g5 g5t e15 fm HO8;generalize(w8.setCell (I C.mb 15) (Y (wrap64 ((half t X).Ga+told.length)))).drew=w9 at*;have g5:=O9.b5.c1;have g5t:Vo w9 (I (bx+1+1) 5)=O (H ta told.length sx):=by obtain⟨cs,q1,q2,q3⟩:=O9.rb;exact(q1.cell 5).trans q2
 have b4f:∀o,w9.frozen? (I (bx+1) o)=false:=O9.b4.frozen;obtain⟨b40,b41,b42⟩:=O9.b4.c3;have HO9:=Z O9;clear O9 nmr nm4;go_wp2_with fail;refine(ab5 HO9.o.td).mono ?_;rintro e w8' ⟨rfl,rfl⟩;have hUN:=Z (HO9.o.close HH.o (bT.refl _ _) HO9.o.mx (sF _ (bx+1) (.bool X) (H ta told.length told.length) (Y 0)) (sG HO9.o.b4 (.bool X) (H ta told.length told.length) (Y 0)));go_wp2_with fail;refine leaves_cons (f:=61) (args:=#[V5 bx,V5 (bx+1+1+1),V5 (bx+1)]) ay (by simp[go_sem]) ?_;refine hUN.o.mono ?_;rintro e u' w10 ⟨rfl,rfl,C2,k3,m3,kb,td,tn⟩;obtain⟨Qe,Cv,hh,htd,Vw⟩:=HX.o;obtain⟨a0,a1,a2⟩:=kb.c3;have oY:=Z (show je w C RO K p c t s key (Vl (.agg #[.bool X,H ta told.length told.length,Y 0])) w10 from by
  refine⟨H ta told.length told.length,C2,?_,k3,?_,?_,λb X=>tn b (by cases ta with
   |none=>simp[vb,Value.ownBlock]at X
   |some a=>exact X)⟩
  ·rw[Qe,aB rfl,hh]
  ·rw[Cv,Qe,aB rfl,hh,htd,Vw];have e:tX t X told={half t X with Ga:=wrap64 ((half t X).Ga+told.length)}:=by unfold tX half;cases X<;>rfl
   rw[e];exact m3
  ·rw[Qe,aB rfl,htd];rcases td.val with⟨e,h0⟩|⟨b,cap,e,h1,-,-⟩
   ·simp only[cz]at e;exact .inl ⟨by rw[e.1,h0],List.length_eq_zero_iff.1 h0⟩
   ·simp only[cz]at e;obtain⟨rfl,-,rfl⟩:=e;obtain⟨cs,mB⟩:=td.dS;exact .inr ⟨b,cs,rfl,mB,λi hi=>(mB.cell i).symm.trans (td.cell (o:=i) G)⟩)
 clear hUN k3 m3 kb td tn HO9;refine⟨.agg #[.bool X,H ta told.length told.length,Y 0],?_,oY.o⟩;simp[results,results17,go_sem,a0,a1,a2]
def Uh(w:ek)(bx:Nat)(C:Co)(K:Kc)(p:aQ)(c:Cp)(s:St)(t:dZ)(key:Nat)(V:ek):Prop:=∃C1 pS ta sx,Over w V bx C C1 pS K p c (uz p c s key).2.1 t (uz p c s key).1 (H ta (uz p c s key).2.2.told.length sx) (uz p c s key).2.2.told (uz p c s key).2.2.bY (.bool false) Vn (Y 0)/\
 ((uz p c s key).2.2.bY≠0->∃U hv jv,U.rb=bx+1+1/\cS V C1 U pS K p c t (uz p c s key).1 hv jv (uz p c s key).2.1 (uz p c s key).2.2)
def ab2{V:ek}{tv:to}{n:Nat}{g:Nat->to}(h:Row V 46 1 tv n g):∃ta sx,tv=H ta n sx:=by exact YQ
def P9{p:Prop}(h:p:=by
 go_wp2
 first|exact⟨rfl,rfl,⟨_,FP.of _ rfl⟩⟩|exact⟨rfl,⟨_,FP.of _ rfl⟩⟩|exact⟨_,FP.of _ rfl⟩):p:=h
def ab1{w6:ek}(M:Gi K C.mb p c)(V:Env p c T)(hS:nw p)(h:Mx w C RO K p c s t used (.pointer MT))(hI:Inv (aC p c) s)(hk:key<18446744073709551616)(hH:rG p c s key=X)(hX:OO p c s key=wN)(B6:zY w w6 bx C K p c s t 0 key wN (V5 (bx+1+1)))(J:Nat->to):
 Code.wp prog Fo (bodyPostD prog Proofs.Tryz.f17 (je w C RO K p c t s key)) (FP bx X [] J) w6:=by
 have z_:∀(fn:Fn) (first cap:Array to) (w:ek),(Instr.makeFunc fn first cap).run prog w= .ok (.func fn first cap) w:=λ_ _ _ _=>rfl;have HM:=Z M;have HV:=Z V;have HS:=Z hS;have HH:=Z h;have HI:=Z hI;have HX:=Z hX;have Ud:=Z hH;have wk:=Z B6;clear M V hS h hI hX hH B6
 conv=>arg 2;whnf
 refine wp_seq ?_;refine wp_mono (Q:=λe a V=>e=Exit.normal/\V=w6/\Uf bx X a) ?_ ?_
 ·unfold FP;exact P9
 rintro e a V ⟨rfl,rfl,⟨a1i,rfl⟩⟩;simp only[Exit.then];refine wp_seq ?_;refine wp_mono (Q:=λe a V=>e=Exit.normal/\Uf bx X a/\Uh w bx C K p c s t key V) ?_ ?_
 ·have d2:=wk.o.b2.c1;have d5:=wk.o.b5.c1;have r1:Vo V (I (bx+1+1) 1)=O (Y wN):=wk.o.rb.cell 1;by_cases qw:wN<0
  ·have Rb:¬0<=wN:=G;have HR:=Z (show Uh w bx C K p c s t key V from by
    have jn:uz p c s key=(0,(s,iB key 0)):=by unfold uz;rw[HX.o,aB qw]
    unfold Uh;rw[jn];exact⟨C,_,MT,0,wk.o.YR,λh=>absurd rfl h⟩)
   unfold FP DD;go_wp2
   first|exact⟨rfl,⟨_,FP.of _ rfl⟩,HR.o⟩|exact⟨⟨_,FP.of _ rfl⟩,HR.o⟩
  ·have Rb:0<=wN:=G;obtain⟨a,rfl⟩:∃a:Nat,wN=a:=⟨wN.toNat,G⟩;have N_:yN V V C.mb (bx+1+1) (bx::(bx+1)::(bx+1+1+1)::Ma.rest w C) K p c t T s (s,iB key a) jC:=by have fQ:=at_mem HV.o HI.o key;rw[HX.o]at fQ;have MB:=Cg HV.o fQ Rb key;have hl:=EF HV.o HS.o fQ Rb key;rw[Int.toNat_natCast]at MB hl;exact⟨0,_,_,_,λb X=>X,⟨C,_,_,_,rfl,rfl,wk.o.all⟩,Kept.refl _ _,MB,yG HI.o hk a,⟨aL _,aL _,aL _,aL _⟩,hl,by rw[Nat.zero_add],G⟩
   have HR:=Z (O6 HM.o HV.o N_);have HZ:=Z (show uz p c s key=lR p c jC (s,iB key a)by unfold uz;rw[HX.o,aw G,Int.toNat_natCast]);clear N_;unfold FP DD;go_wp2_with fail;refine HR.o.mono ?_;rintro e w7 ⟨rfl,pS,ho,fD,hkp⟩;have HRZ:=Z (show Uh w bx C K p c s t key w7 from by
    obtain⟨C1,tv,a0f,U,hv,jv,oE,A⟩:=wk.o.ran fD ho hkp;rw[<-HZ.o]at a0f A;obtain⟨ta,sx,rfl⟩:=ab2 a0f.td;exact⟨C1,pS,ta,sx,a0f,λ_=>⟨U,hv,jv,oE,A⟩⟩)
   clear HR fD ho hkp d2 d5 r1;go_wp2
   first|exact⟨rfl,⟨_,FP.of _ rfl⟩,HRZ.o⟩|exact⟨⟨_,FP.of _ rfl⟩,HRZ.o⟩
 rintro e a w7 ⟨rfl,⟨J2,rfl⟩,C1,pS,ta,sx,a0f,hA⟩;simp only[Exit.then];have g5:=a0f.b5.c1;have g6:Vo w7 (I (bx+1+1) 6)=O (Y (uz p c s key).2.2.bY):=by obtain⟨cs,q1,q2,q3⟩:=a0f.rb;exact(q1.cell 6).trans q3
 have HO:=Z a0f;have HA:=Z hA;clear a0f hA wk;generalize hz:uz p c s key=z at*;have HZ:=Z hz;clear hz;by_cases vQ:z.2.2.bY=0
 ·rw[vQ]at g6 HO;have HT:=Z vQ;clear vQ HA;refine wp_seq ?_;refine wp_mono (Q:=λe a V=>e=Exit.normal/\V=w7/\Uf bx X a) ?_ ?_
  ·unfold FP DD;exact P9
  rintro e a V ⟨rfl,rfl,⟨J3,rfl⟩⟩;simp only[Exit.then];have Qe:jc p c s key=0:=by unfold jc;rw[HZ.o,HT.o]
  exact ab4 HH.o HO.o Qe (by unfold nr;rw[Qe,aB rfl,HZ.o]) Ud.o (by unfold rR;rw[HZ.o]) (by rw[HZ.o]) J3
 ·have afi:(z.2.2.bY==0)=false:=by simpa using vQ
  have afj:(z.2.2.bY !=0)=true:=by simpa using vQ
  have HAA:=Z (HA.o vQ);generalize Te:z.2.2.bY=tt at*;obtain⟨b40,b41,b42⟩:=HO.o.b4.c3;have b4f:∀o,w7.frozen? (I (bx+1) o)=false:=HO.o.b4.frozen;unfold FP DD;go_wp2_with fail;rw[pF HO.o.b4 rfl,pF HO.o.b4 rfl,pF HO.o.b4 rfl];have sO:=V9 HV.o HS.o HI.o hk;rw[HZ.o]at sO;obtain⟨Qg,aeA,-,-,Qh,-⟩:=sO;have hjl:z.2.2.bz.length<1000000:=by have:=Qh.bz;unfold jC at aeA;omega
  obtain⟨U,hv,jv,oE,A⟩:=HAA.o;have hUA:=Pb (s0:=s) (b2:=bx) (b5:=bx+1+1+1) (b4:=bx+1) (by rw[HO.o.mb];exact HM.o) A Qg.inv Qg.zX (by rw[Te];exact vQ) hjl (by rw[HO.o.mb];exact HO.o.b2) (by rw[oE];exact HO.o.b5) HO.o.b4 (HO.o.ro _ ay) (HO.o.ro _ ay);refine leaves_cons (f:=61) (args:=#[V5 bx,V5 (bx+1+1+1),V5 (bx+1)]) ay (by simp[go_sem]) ?_;refine hUA.mono ?_;rintro e u' w9 ⟨rfl,rfl,C2,wz,k1,k2,kf,kb⟩;obtain⟨k3,m3⟩:=HO.o.Pf HH.o k1 k2;obtain⟨k4,m4⟩:=yQ HH.o HO.o.at_ k3 m3 (k2.cr (HO.o.ro _ ay)) kf;have Qe:jc p c s key=tt:=by unfold jc;rw[HZ.o,Te]
  have Cv:nr p c s key=s:=by unfold nr;rw[Qe,aw vQ]
  obtain⟨a0,a1,a2⟩:=kb.c3;rw[Te]at a2;have oY:=Z (show je w C RO K p c t s key (Vl (.agg #[.bool false,Vn,Y tt])) w9 from by
   refine⟨Vn,C2,?_,k4,?_,?_,?_⟩
   ·rw[Qe,aw vQ]
   ·rw[Cv,Qe,aw vQ,HZ.o];exact m4
   ·rw[Qe,aw vQ];exact .inl ⟨rfl,rfl⟩
   ·exact λb X=>by simp[vb,Value.ownBlock]at X)
  clear k1 k2 kf kb k3 m3 k4 m4 hUA Qg Qh;refine⟨.agg #[.bool false,Vn,Y tt],?_,oY.o⟩;simp[results,results17,go_sem,a0,a1,a2]
def ab6{w5:ek}{Kk:Act->ek->Prop}(M:Gi K C.mb p c)(V:Env p c T)(hS:nw p)(h:Mx w C RO K p c s t used (.pointer MT))(hI:Inv (aC p c) s)(hk:key<18446744073709551616)(hH:rG p c s key=X)(hX:OO p c s key=wN)(B5:zY w w5 bx C K p c s t used key wN (.pointer MT))(hK:∀a V,Code.wp prog Fo (bodyPostD prog Proofs.Tryz.f17 (je w C RO K p c t s key)) a V->Kk a V)(J:Nat->to):
 Code.wp prog P8 (Exit.then Kk (bodyPostD prog Proofs.Tryz.f17 (je w C RO K p c t s key))) (FP bx X [] J) w5:=by
 have nU:=Z B5;have HT:=Z (λw6 (B6:zY w w6 bx C K p c s t 0 key wN (V5 (bx+1+1))) J=>hK _ _ (ab1 M V hS h hI hk hH hX B6 J));clear M V hS h hI hk hH hX hK;have d2:=B5.b2.c1;have d5:=B5.b5.c1;have f60:∀o,w5.frozen? (I C.mb o)=false:=B5.mx.m.bg.frozen;have sS:Vo w5 (I C.mb 60)=O (.pointer MT):=B5.mx.m.bg.cell 60;have m17:Vo w5 (I C.mb 17)=O (Y used):=B5.mx.m.bg.cell 17;have nm:bx≠C.mb:=λe=>B5.mx.cr (b:=bx) ay (by rw[e];simp[Co.l]);have nm5:bx+1+1+1≠C.mb:=λe=>B5.mx.cr (b:=bx+1+1+1) ay (by rw[e];simp[Co.l]);clear B5;unfold FP
 conv=>arg 2;whnf
 go_wp2;go_region;have B6:=nU.o.enter.draw 1;change zY w ((w5.setCell (I C.mb 60) (V5 (bx+1+1))).setCell (I C.mb 17) (Y 0)).drew bx C K p c s t 0 key wN (V5 (bx+1+1))at B6;simp only[Exit.then];exact Eq.mpr (bu (λa=>Kk a _) (FP.of _ rfl)) (HT.o _ B6 (λk=>Array.getD _ k undef))
end
end Go.Ma
end
namespace Go.Ma
open Go.RowKit aj.Vm
open aj hiding aR an ak
open eB (bS bL eN)
open Ix (cX)
section
variable {w w' wr:ek}{C C' C1:Co}{U U':Ru}{RO RO' pS:List Nat}{K:Kc}{p:aQ}{c:Cp}{t t':dZ}{used used':Int}{hv hv':to}{jv kT:Nat->to}{s s' s0 s1:St}{t0:dZ}{Bb:Int}{r r':Rn}{rv rv':to}{mb rb bx:Nat}{T:Map}{st:Std}
def wm(M:Gi K C.mb p c)(V:Env p c T)(hS:nw p)(h:Mx w C RO K p c s t used (.pointer MT))(hI:Inv (aC p c) s){key:Nat}(hk:key<18446744073709551616)(hf:s.f key=MT):
 Calls prog 17 #[V5 C.mb,.int .u64 key] w (je w C RO K p c t s key):=by
 have z_:∀(fn:Fn) (first cap:Array to) (w:ek),(Instr.makeFunc fn first cap).run prog w= .ok (.func fn first cap) w:=λ_ _ _ _=>rfl;have m4:Vo w (I C.mb 4)=O (Y p.aT):=h.m.bg.cell 4;have lm:C.mb<w.heap.size:=h.m.bg.lt;have B4:=B7 h key p.aT;have HM:=Z M;have HV:=Z V;have HS:=Z hS;have HI:=Z hI;have HF:=Z hf;have m10:((((w.alloc (CA #[V5 C.mb] 35)).alloc (CA #[.bool false,Vn,Y 0] 44)).alloc (CA #[.int .u64 key,Y p.aT,Vn,Vn,Vn,Vn,Y 0,Vn,.bool false] 126)).alloc (CA #[V5 (w.heap.size+1+1)] 111)).cell? (I C.mb 10)=O (V5 C.xb):=B4.mx.m.bg.cell 10;have HG:=Z (Ix.AI B4.mx.m.ix (key:=key) hf);have jK:=Z B4;have Ud:=Z (show rG p c s key=false by unfold rG;rw[hf]);have HH:=Z h;clear M V hS hI hf B4 h
 go_enter_defers func17,ntmps17
 go_wp2_with fail;refine HG.o.mono ?_;rintro e w5 ⟨rfl,n5,rfl⟩;have B5:=jK.o.draw n5;have nU:=Z B5;clear jK HG m10 m4 lm;generalize gu:w.heap.size=bx at*;generalize World.drewN _ _=w5 at*;clear gu;have HX:=Z (show OO p c s key=p.aT by unfold OO;rw[HF.o]);clear B5;exact ZL
def oA{p:Prop}(h:p:=by
 intro wz fj
 (try dsimp only at fj)
 exact qj):p:=h
def Bn(M:Gi K C.mb p c)(V:Env p c T)(hS:nw p)(h:Mx w C RO K p c s t used (.pointer MT))(hI:Inv (aC p c) s){key:Nat}(hk:key<18446744073709551616){n q:Nat}(hf:s.f key=O n)(hq:q<p.ax.length)(hn:n∈s.a.ls q){g:Bool}(hg:p.ax.getD q false=g):
 Calls prog 17 #[V5 C.mb,.int .u64 key] w (je w C RO K p c t s key):=by
 have z_:∀(fn:Fn) (first cap:Array to) (w:ek),(Instr.makeFunc fn first cap).run prog w= .ok (.func fn first cap) w:=λ_ _ _ _=>rfl;have m4:Vo w (I C.mb 4)=O (Y p.aT):=h.m.bg.cell 4;have lm:C.mb<w.heap.size:=h.m.bg.lt;have B4:=B7 h key p.aT;have HM:=Z M;have HV:=Z V;have HS:=Z hS;have HI:=Z hI;have HF:=Z hf;have m10:((((w.alloc (CA #[V5 C.mb] 35)).alloc (CA #[.bool false,Vn,Y 0] 44)).alloc (CA #[.int .u64 key,Y p.aT,Vn,Vn,Vn,Vn,Y 0,Vn,.bool false] 126)).alloc (CA #[V5 (w.heap.size+1+1)] 111)).cell? (I C.mb 10)=O (V5 C.xb):=B4.mx.m.bg.cell 10;have HG:=Z (Ix.uH B4.mx.m.ix (key:=key) hf);have jK:=Z B4;have Ud:=Z (show rG p c s key= !g by unfold rG;rw[hf];dsimp only;rw[mT hI.wf hq hn,hg]);have HX:=Z (show OO p c s key=p.on.getD q 0 by unfold OO;rw[hf];dsimp only;rw[mT hI.wf hq hn]);have hqo:q<p.on.length:=by rw[(cE M.check).1.on];exact hq
 have HQ:=Z (And.intro hq hn);have HGH:=Z hg;have HH:=Z h;clear M V hS hI hf B4 h hq hn hg
 go_enter_defers func17,ntmps17
 go_wp2_with fail;refine HG.o.mono ?_;rintro e w5 ⟨rfl,n5,rfl⟩;have B5:=jK.o.draw n5;have nU:=Z B5;clear jK HG m10 m4 lm;generalize gu:w.heap.size=bx at*;generalize World.drewN _ _=w5 at*;clear gu;have HL:=Z (eB.GS B5.mx.m.ar HQ.o.1 HQ.o.2);have d2:=B5.b2.c1;have d5:=B5.b5.c1;have m9:Vo w5 (I C.mb 9)=O (V5 C.ab):=B5.mx.m.bg.cell 9;obtain⟨ob,ZZ,hov,RD,Cw,aeB⟩:=B5.mx.m.prog.o.some G;obtain⟨gb,ov,lG,Jo,hg2,aeC⟩:=B5.mx.m.prog.g.some (by have:=HQ.o.1;omega);have m3:Vo w5 (I C.mb 3)=O (H (O (I ob 0)) p.on.length ZZ):=by rw[<-hov];exact B5.mx.m.bg.cell 3
 have m0:Vo w5 (I C.mb 0)=O (H (O (I gb 0)) p.ax.length ov):=by rw[<-lG];exact B5.mx.m.bg.cell 0
 have oq:Vo w5 (I ob q)=O (Y (p.on.getD q 0)):=by have h3:=B5.mx.m.prog.o;rw[hov]at h3;exact h3.cell (o:=q) G
 have gq:Vo w5 (I gb q)=O (.bool g):=by have h3:=B5.mx.m.prog.g;rw[lG]at h3;rw[<-HGH.o];exact h3.cell (o:=q) (by have:=HQ.o.1;omega)
 have hqg:q<p.ax.length:=HQ.o.1;have RX:∀o,w5.frozen? (I (bx+1+1) o)=false:=B5.rb.frozen;have r1:Vo w5 (I (bx+1+1) 1)=O (Y p.aT):=B5.rb.cell 1;have rm:=B5.mx.m.prog.ro;have nob:ob≠bx+1+1:=λe=>B5.no (by have h5:=rm ob (.inr (.inr (.inr (.inl (aU.2 (by rw[hov];rfl))))));rw[e]at h5;exact h5);have ngb:gb≠bx+1+1:=λe=>B5.no (by have h5:=rm gb (.inl (aU.2 (by rw[lG];rfl)));rw[e]at h5;exact h5);have nmb:C.mb≠bx+1+1:=λe=>B5.nc (by rw[<-e];simp[Co.l]);clear B5 hov RD Cw aeB lG Jo hg2 aeC rm;generalize M5:p.on.getD q 0=wN at*;clear M5;generalize p.on.length=ol at*;generalize p.ax.length=gl at*;generalize p.aT=ms at*;go_wp2_with fail;refine HL.o.mono ?_;rintro e w5' ⟨rfl,rfl⟩;have hSS:(w5.drew.setCell (I (bx+1+1) 1) (Y wN)).cell? (I bx 0)=O (V5 C.mb)/\(w5.drew.setCell (I (bx+1+1) 1) (Y wN)).cell? (I (bx+1+1+1) 0)=O (V5 (bx+1+1))/\(w5.drew.setCell (I (bx+1+1) 1) (Y wN)).cell? (I C.mb 3)=O (H (O (I ob 0)) ol ZZ)/\
  (w5.drew.setCell (I (bx+1+1) 1) (Y wN)).cell? (I C.mb 0)=O (H (O (I gb 0)) gl ov)/\(w5.drew.setCell (I (bx+1+1) 1) (Y wN)).cell? (I ob q)=O (Y wN)/\(w5.drew.setCell (I (bx+1+1) 1) (Y wN)).cell? (I gb q)=O (.bool g):=
  ⟨(bM G).trans d2,(bM G).trans d5,(bM nmb).trans m3,(bM nmb).trans m0,(bM nob).trans oq,(bM ngb).trans gq⟩
 have Gn:=Z hSS;clear hSS nmb nob ngb;go_wp2;refine Mk.bH (S:=(λwx=>Vo wx (I bx 0)=O (V5 C.mb)/\Vo wx (I (bx+1+1+1) 0)=O (V5 (bx+1+1))/\Vo wx (I C.mb 3)=O (H (O (I ob 0)) ol ZZ)/\Vo wx (I C.mb 0)=O (H (O (I gb 0)) gl ov)/\Vo wx (I ob q)=O (Y wN)/\Vo wx (I gb q)=O (.bool g))) bh ⟨d2,d5,m3,m0,oq,gq⟩ (λau=>?_);refine Mk.tk 0 (v:=?_) rfl ?_ cY ?_;rotate_left
 ·exact oA
 refine Mk.pt ?_;refine Mk.tk 1 (v:=?_) rfl ?_ cY ?_;rotate_left
 ·exact oA
 refine Mk.pt ?_;refine Mk.tk 2 (v:=?_) rfl ?_ cY ?_;rotate_left
 ·exact oA
 refine Mk.pt ?_;refine Mk.tk 3 (v:=?_) rfl ?_ cY ?_;rotate_left
 ·exact oA
 refine Mk.pt ?_;refine Mk.tk 4 (v:=?_) rfl ?_ cY ?_;rotate_left
 ·exact oA
 refine Mk.pt ?_;refine Mk.tk 5 (v:=?_) rfl ?_ cY ?_;rotate_left
 ·exact oA
 refine Mk.pt ?_;refine Mk.tk 6 (v:=?_) rfl ?_ cY ?_;rotate_left
 ·exact oA
 refine Mk.pt ?_;refine Mk.tk 7 (v:=?_) rfl ?_ cY ?_;rotate_left
 ·exact oA
 refine Mk.pt ?_;refine Mk.tk 8 (v:=?_) rfl ?_ cY ?_;rotate_left
 ·exact oA
 refine Mk.pt ?_;refine Mk.tk 9 (v:=?_) rfl ?_ cY ?_;rotate_left
 ·exact oA
 refine Mk.pt ?_;refine Mk.tk 10 (v:=?_) rfl ?_ cY ?_;rotate_left
 ·exact oA
 refine Mk.pt ?_;refine Mk.tk 11 (v:=?_) rfl ?_ cY ?_;rotate_left
 ·exact oA
 refine Mk.pt ?_;refine Mk.tk 12 (v:=?_) rfl ?_ cY ?_;rotate_left
 ·exact oA
 refine Mk.pt ?_;refine Mk.tk 13 (v:=?_) rfl ?_ cY ?_;rotate_left
 ·exact oA
 refine Mk.pt ?_;refine Mk.tk 14 (v:=?_) rfl ?_ cY ?_;rotate_left
 ·exact oA
 refine Mk.pt ?_;refine Mk.tk 15 (v:=?_) rfl ?_ cY ?_;rotate_left
 ·exact oA
 refine Mk.pt ?_;refine Mk.tk 16 (v:=?_) rfl ?_ cY ?_;rotate_left
 ·exact oA
 refine Mk.pt ?_;refine Mk.tk 17 (v:=?_) rfl ?_ cY ?_;rotate_left
 ·exact oA
 refine Mk.pt ?_;refine Mk.tk 18 (v:=?_) rfl ?_ cY ?_;rotate_left
 ·exact oA
 refine Mk.pt ?_;refine Mk.tk 19 (v:=?_) rfl ?_ cY ?_;rotate_left
 ·exact oA
 refine Mk.pt ?_;refine dJ (rs:=[20]) bh ay ?_;refine bZ rfl (λK hK=>?_) cK;refine fH ?_;go_simp;refine hK.out _ _ Gn.o (λau=>?_);clear hK K;refine Mk.pt ?_;refine Mk.tk 21 (v:=?_) rfl ?_ cY ?_;rotate_left
 ·exact oA
 refine Mk.pt ?_;refine fx bh ⟨rfl,?_⟩ _;clear au Gn;have B5:=(nU.o.setAt wN).draw 1;change zY w (w5.setCell (I (bx+1+1) 1) (Y wN)).drew bx C K p c s t used key wN (.pointer MT)at B5;clear nU d2 d5 m9 m3 m0 oq gq hqg hqo RX r1 HL;have nU:=Z B5;generalize(w5.setCell (I (bx+1+1) 1) (Y wN)).drew=w5 at*;clear B5;exact ZL
end
end Go.Ma
namespace Go.Ma
open Go.RowKit aj.Vm Go.Shelf
open aj hiding aR an ak
def Row.mG{w:ek}{e:TypeId}{size n:Nat}{v:to}{g:Nat->to}(h:Row w e size v n g):∃a m cap,v=H a m cap:=by
 rcases h.val with⟨rfl,-⟩|⟨b,cap,rfl,-⟩
 ·exact⟨_,_,_,rfl⟩
 ·exact⟨_,_,_,rfl⟩
def vo{T:List Nat}{W W':ek}(f:aA T W W')(hc:∀b,b∈T->Mk.On W b)(B:Nat):KeepsFrom B W W':=
 ⟨f.size,λk o _ hk ho=>(f.block k (Array.getElem?_eq_some_iff.1 hk).1 (λX=>by
   obtain⟨o',h1,h2⟩:=hc k X;rw[hk]at h1;cases h1;rw[ho]at h2;cases h2)).trans hk⟩
end Go.Ma
namespace Go.Ix
open Go.RowKit aj
open Su (nR xS uG)
open gR (cZ BP Ed)
structure jQ(f:Nat->Option Nat)(L:List (Nat×Nat)):Prop where
 up:L.Pairwise (λa b=>a.1<b.1)
 mem:∀k v,(k,v)∈L↔f k=O v
def jQ.rX{f:Nat->Option Nat}{L L':List (Nat×Nat)}(h:jQ f L)(h':jQ f L'):L=L':=by
 have hm:∀x,x∈L↔x∈L':=λx=>by obtain⟨k,v⟩:=x;rw[h.mem,h'.mem]
 have a:=h.up;have b:=h'.up;clear h h'
 induction L generalizing L' with
 |nil=>
  cases L' with
  |nil=>rfl
  |cons y t=>exact absurd ((hm y).2 ay) ay
 |cons x t ih=>
  cases L' with
  |nil=>exact absurd ((hm x).1 ay) ay
  |cons y t'=>
   obtain⟨a1,a2⟩:=List.pairwise_cons.1 a;obtain⟨b1,b2⟩:=List.pairwise_cons.1 b;have hxy:x=y:=by
    rcases List.mem_cons.1 ((hm x).1 ay)with e|hx
    ·exact e
    rcases List.mem_cons.1 ((hm y).2 ay)with e|hy
    ·exact e.symm
    have:=b1 x hx;have:=a1 y hy;omega
   subst hxy;rw[ih (L':=t') (λz=>?_) a2 b2];constructor
   ·intro hz;rcases List.mem_cons.1 ((hm z).1 (by simp[hz]))with e|h'
    ·subst e;have:=a1 z hz;omega
    ·exact h'
   ·intro hz;rcases List.mem_cons.1 ((hm z).2 (by simp[hz]))with e|h'
    ·subst e;have:=b1 z hz;omega
    ·exact h'
def Fu{S:Tb to}{n:Nat}{x:Nat×Int}(h:x∈cZ S n):∃i k,i<n/\S i=O (x.1,.int k x.2):=by
 induction n with
 |zero=>simp[cZ]at h
 |succ n ih=>
  unfold cZ at h;rw[List.mem_append]at h;rcases h with h|h
  ·obtain⟨i,k,hi,hs⟩:=ih h;exact⟨i,k,G,hs⟩
  ·split at h
   ·next k kk v hs=>simp at h;subst h;exact⟨n,kk,G,hs⟩
   ·simp at h
def abS{S:Tb to}{n i k:Nat}{kk:IntKind}{v:Int}(hi:i<n)(h:S i=O (k,.int kk v)):(k,v)∈cZ S n:=by
 induction n with
 |zero=>omega
 |succ n ih=>
  unfold cZ;rw[List.mem_append];by_cases e:i=n
  ·subst e;right;rw[h];simp
  ·left;exact ih G
def abR{S:Tb to}{n:Nat}(a0d:Inv n S):∀m,m<=n->(cZ S m).Pairwise (λa b=>a.1≠b.1):=by
 intro m
 induction m with
 |zero=>intro _;exact .nil
 |succ m ih=>
  intro hm;unfold cZ;rw[List.pairwise_append];refine⟨ih G,?_,?_⟩
  ·split<;>simp
  ·intro a ha b X;split at X
   ·next k kk v hs=>simp at X;subst X;obtain⟨i,k',hi,Ea⟩:=Fu ha;intro e;have:=a0d.rX i m k _ _ G G (by rw[Ea];simp only[]at e;rw[e]) hs;omega
   ·simp at X
def abQ{n count aE e:Nat}{S:Tb to}(T:nR n count aE e S):∀m,m<=n->(cZ S m).length=dr m S:=by
 intro m
 induction m with
 |zero=>intro _;simp[cZ,dr]
 |succ m ih=>
  intro hm;unfold cZ;rw[oK,ih G];cases hS:S m with
  |none=>simp[dr,hS]
  |some p=>obtain⟨k,u⟩:=p;obtain⟨x,rfl⟩:=T.int m k u hS;simp[dr,hS]
def WZ(x:Nat×Nat):Nat×Int:=(x.1,(x.2:Int))
def all'{w:ek}{b s aE count:Nat}{f:Nat->Option Nat}(h:cX w b s aE count f):Calls prog 65 #[V5 b] w λr w'=>
 r=Vl (.func (.func 140) #[] #[V5 w.heap.size])/\∃L:List (Nat×Nat),jQ f L/\L.length=count/\Ed w (L.map WZ) w':=by
 obtain⟨n,e,S,hI,T,hf,hn⟩:=h;refine(gR.Pw hI T.fit.Vq T.int).mono ?_;rintro r w' ⟨rfl,L0,⟨hp,hs⟩,hA⟩;have hv:∀x,x∈L0->∃v:Nat,x.2=v/\f x.1=O v:=λx hx=>by obtain⟨i,kk,hi,hS⟩:=Fu (hp.mem_iff.1 hx);obtain⟨v,hu⟩:=hn i _ _ hi hS;simp at hu;exact⟨v,hu.2,(hf _ _).2 ⟨i,hi,by rw[hS,hu.1,hu.2]⟩⟩
 have hl:(L0.map λx=>(x.1,x.2.toNat)).map WZ=L0:=by rw[List.map_map];refine(List.map_congr_left λx hx=>?_).trans (List.map_id L0);obtain⟨v,h1,-⟩:=hv x hx;obtain⟨k,y⟩:=x;simp only at h1;subst h1;simp[WZ]
 refine⟨rfl,L0.map λx=>(x.1,x.2.toNat),⟨?_,λk v=>?_⟩,?_,by rw[hl];exact hA⟩
 ·rw[List.pairwise_map];have h1:L0.Pairwise (λa b=>a.1≠b.1):=(hp.pairwise_iff (λh=>λe=>h e.symm)).2 (abR T.inv n (aL _));exact(h1.and hs).imp λ⟨a,b⟩=>by simp only;omega
 ·constructor
  ·intro hm;obtain⟨x,hx,Um⟩:=List.mem_map.1 hm;obtain⟨v',h1,h2⟩:=hv x hx;simp at Um;rw[<-Um.1,h2,<-Um.2,h1];simp
  ·intro hm;obtain⟨i,hi,hS⟩:=(hf k v).1 hm;exact List.mem_map.2 ⟨(k,(v:Int)),hp.mem_iff.2 (abS hi hS),ay⟩
 ·rw[List.length_map,hp.length_eq,abQ T n (aL _),T.dr]
end Go.Ix
namespace Go.Ma
open Go.RowKit aj.Vm Go.Shelf
open aj hiding aR an ak
open eB (bS bL eN)
open Ix (cX)
def iH(l:List Nat):List Int:=l.map λn:Nat=>(n:Int)
def fV(l:List Nat):(iH l).length=l.length:=by simp[iH]
def Bo(l:List Nat)(x:Nat):iH (l++[x])=iH l++[(x:Int)]:=by simp[iH]
def rA(l:List Nat)(i:Nat):(iH l).getD i 0=((l.getD i 0:Nat):Int):=by
 unfold iH;by_cases h:i<l.length
 ·simp[List.getD,h]
 ·simp[List.getD,h]
def mN{α:Type}(l:List α)(x d:α)(o:Nat):(o<l.length->(l++[x]).getD o d=l.getD o d)/\(o=l.length->(l++[x]).getD o d=x):=by
 constructor
 ·intro h;simp[List.getD,AJ,h]
 ·intro h;subst h;simp[List.getD]
def eS.snoc{w w':ek}{lo hi hi':Nat}{v v':to}{l:List Int}{x:Int}(h:eS w lo hi v l)(hr:Row w' 3 1 v' (l.length+1) (fY (l.length*1) (aX l) λ_=> Y x))(hv:ki lo hi' v'):eS w' lo hi' v' (l++[x]):=by
 refine⟨?_,hv⟩;rw[oK,E0];refine hr.congr λo ho=>?_;unfold fY aX;by_cases h1:o<l.length
 ·rw[aB G,(mN l x 0 o).1 h1]
 ·rw[aw G,(mN l x 0 o).2 G]
def pU(l:List Nat)(i:Nat):to:= .int .u64 (l.getD i 0:Nat)
structure lV(w:ek)(lo hi:Nat)(v:to)(l:List Nat):Prop where
 row:Row w 46 1 v l.length (pU l)
 i_:ki lo hi v
def lV.off{w w':ek}{lo hi:Nat}{v:to}{l:List Nat}{S:List Nat}(h:lV w lo hi v l)(f:aA S w w')(k:oF w lo hi [46] S):lV w' lo hi v l:=⟨Row.off h.row h.i_ ay f k,h.i_⟩
def lV.mono{w:ek}{lo hi tZ hi':Nat}{v:to}{l:List Nat}(h:lV w lo hi v l)(h1:tZ<=lo)(h2:hi<=hi'):lV w tZ hi' v l:=⟨h.row,h.i_.mono h1 h2⟩
def lV.snoc{w w':ek}{lo hi hi':Nat}{v v':to}{l:List Nat}{x:Nat}(h:lV w lo hi v l)(hr:Row w' 46 1 v' (l.length+1) (fY (l.length*1) (pU l) λ_=> .int .u64 x))(hv:ki lo hi' v'):lV w' lo hi' v' (l++[x]):=by
 refine⟨?_,hv⟩;rw[oK,E0];refine hr.congr λo ho=>?_;unfold fY pU;by_cases h1:o<l.length
 ·rw[aB G,(mN l x 0 o).1 h1]
 ·rw[aw G,(mN l x 0 o).2 G]
def RR:List TypeId:=[24,3]
structure zu(w:ek)(lo hi:Nat)(v:to)(P:List (List Nat))(lv:Nat->to):Prop where
 row:Row w 24 1 v P.length lv
 i_:ki lo hi v
 q:∀q,q<P.length->eS w lo hi (lv q) (iH (P.getD q []))
 sep:∀q q',q<P.length->q'<P.length->q≠q'->(lv q).ownBlock=MT\/(lv q).ownBlock≠(lv q').ownBlock
def zu.off{w w':ek}{lo hi:Nat}{v:to}{P:List (List Nat)}{lv:Nat->to}{S:List Nat}(h:zu w lo hi v P lv)(f:aA S w w')(k:oF w lo hi RR S):zu w' lo hi v P lv:=
 ⟨Row.off h.row h.i_ (by simp[RR]) f k,h.i_,λq hq=>(h.q q hq).off f (k.sub (by simp[RR,uX])),h.sep⟩
def zu.mono{w:ek}{lo hi tZ hi':Nat}{v:to}{P:List (List Nat)}{lv:Nat->to}(h:zu w lo hi v P lv)(h1:tZ<=lo)(h2:hi<=hi'):zu w tZ hi' v P lv:=⟨h.row,h.i_.mono h1 h2,λq hq=>(h.q q hq).mono h1 h2,h.sep⟩
def zu.snoc{w w':ek}{lo hi:Nat}{v v':to}{P:List (List Nat)}{lv:Nat->to}(h:zu w lo hi v P lv){l:List Nat}{ev:to}(he:eS w' lo w'.heap.size ev (iH l))(hle:hi<=w.heap.size)
 {S:List Nat} (f:aA S w w') (hS:oF w lo hi uX S) (hr:Row w' 24 1 v' (P.length+1) (fY (P.length*1) lv λ_=>ev)) (hv:ki lo w'.heap.size v') (hn:∀b,ev.ownBlock=O b->hi<=b):
 zu w' lo w'.heap.size v' (P++[l]) (λq=>if q<P.length then lv q else ev):=by
 have hlen:(P++[l]).length=P.length+1:=by simp
 refine⟨?_,hv,λq hq=>?_,λq q' hq Q_ bm=>?_⟩
 ·rw[hlen];refine hr.congr λo ho=>?_;unfold fY;dsimp only;by_cases h1:o<P.length
  ·rw[aB G,aB h1]
  ·rw[aw G,aw h1]
 ·rw[hlen]at hq;by_cases h1:q<P.length
  ·rw[aB h1,(mN P l [] q).1 h1];exact((h.q q h1).off f hS).mono (aL _) (cU hle f.size)
  ·rw[aw h1,(mN P l [] q).2 G];exact he
 ·rw[hlen]at hq Q_;by_cases h1:q<P.length
  ·by_cases h2:q'<P.length
   ·rw[aB h1,aB h2];exact h.sep q q' h1 h2 bm
   ·exact qX7
  ·by_cases h2:q'<P.length
   ·exact qX8
   ·omega
structure PL where
 lists:List (List Nat)
 free:List Nat
 keys:List Nat
 nodes:List Int
 deriving DecidableEq
structure mj(w:ek)(lo h1 h2 hi:Nat)(a b c d:to)(L:PL)(lv:Nat->to):Prop where
 ls:zu w lo h1 a L.lists lv
 fr:eS w h1 h2 b (iH L.free)
 ks:lV w h2 hi c L.keys
 ns:eS w h2 hi d L.nodes
 le:lo<=h1/\h1<=h2/\h2<=hi
abbrev dT:to:=Vn
structure K0(w:ek)(xb:Nat)(W:ek)(nd:Nat)(held:Nat->Bool)(cs:Array to)(Ds:List Nat):Prop where
 rO:Below w.heap.size w W
 low:xb+1<=W.heap.size
 kW:w.heap.size+2<xb
 b2:aF W w.heap.size 52 #[dT,dT,dT,dT]
 b3:aF W (w.heap.size+1) 52 cs
 hr:Row W 4 1 (H (O (I (w.heap.size+2) 0)) nd nd) nd (λn=> .bool (held n))
 hx:aF W (xb) 22 #[H (O (I (w.heap.size+2) 0)) nd nd]
 sV:Mk.Marks W Ds
 ml:∀D,D∈Ds->xb+1<=D
structure K3(w:ek)(xb:Nat)(W:ek)(h1 h2 nd:Nat)(held:Nat->Bool)(a b c d:to)(P:List (List Nat))(fr ks:List Nat)(ns:List Int)(Ds:List Nat)(lv:Nat->to):Prop where
 k:K0 w xb W nd held #[a,b,c,d] Ds
 lay:mj W (xb+1) h1 h2 W.heap.size a b c d ⟨P,fr,ks,ns⟩ lv
section
variable {w W W':ek}{xb h1 h2 nd:Nat}{held:Nat->Bool}{a b c d:to}{P:List (List Nat)}{fr ks:List Nat}{ns:List Int}{Ds:List Nat}{lv:Nat->to}{cs:Array to}
def mj.off{w w':ek}{lo hi:Nat}{L:PL}{T:List Nat}(h:mj w lo h1 h2 hi a b c d L lv)(f:aA T w w')(k:oF w lo hi (46::RR) T):mj w' lo h1 h2 hi a b c d L lv:=by
 obtain⟨l1,l2,l3⟩:=h.le;have key:∀x y Es,lo<=x->y<=hi->(∀e,e∈Es->e∈46::RR)->oF w x y Es T:=λx y Es hx hy hE b X=>by
  rcases k b X with h'|⟨E,cs,e1,e2⟩|h'
  ·exact .inl G
  ·exact .inr (.inl ⟨E,cs,e1,λhc=>e2 (hE _ hc)⟩)
  ·exact .inr (.inr h')
 exact⟨h.ls.off f (key _ _ _ (aL _) G (by simp[RR])),h.fr.off f (key _ _ _ l1 l3 (by simp[RR,uX])),h.ks.off f (key _ _ _ G (aL _) ay),h.ns.off f (key _ _ _ G (aL _) (by simp[RR,uX])),h.le⟩
def mj.mono{w:ek}{lo hi hi':Nat}{L:PL}(h:mj w lo h1 h2 hi a b c d L lv)(hh:hi<=hi'):mj w lo h1 h2 hi' a b c d L lv:=
 ⟨h.ls,h.fr,h.ks.mono (aL _) hh,h.ns.mono (aL _) hh,h.le.1,h.le.2.1,cU h.le.2.2 hh⟩
def K0.aG(h:K0 w xb W nd held cs Ds){T:List Nat}(f:aA T W W')(hT:∀x,x∈T->xb+1<=x)(hD:∀D,D∈Ds->D∉T):K0 w xb W' nd held cs Ds:=by
 have kW:=h.kW;have nn:∀k,k<xb+1->k∉T:=λk hk hc=>by have:=hT k hc;omega
 exact⟨h.rO.trans (f.below h.rO.size (λk hk=>by have:=hT k hk;omega)),cU h.low f.size,h.kW,h.b2.aG f (nn _ G),h.b3.aG f (nn _ G),h.hr.aG f (λx hx=>by simp[Value.ownBlock]at hx;subst hx;exact nn _ G),h.hx.aG f (nn _ G),
  h.sV.keeps (λk hk=>f.block k (h.sV.lt hk) (hD k hk)),h.ml⟩
def K0.hold(h:K0 w xb W nd held cs Ds){x:Nat}(hx:x<nd):K0 w xb (W.setCell (I (w.heap.size+2) x) (.bool true)) nd (λn=>held n||n==x) cs Ds:=by
 have kW:=h.kW;have f:aA [w.heap.size+2] W (W.setCell (I (w.heap.size+2) x) (.bool true)):=(aA.refl _ W).setCell ay _;refine⟨h.rO.setCell (by show w.heap.size<=w.heap.size+2;omega) _,cU h.low f.size,h.kW,h.b2.aG f ay,h.b3.aG f ay,?_,h.hx.aG f jz,h.sV.keeps (λk hk=>f.block k (h.sV.lt hk) (by simp;have:=h.ml k hk;omega)),h.ml⟩;refine(h.hr.set (o:=x) G (.bool true)).congr λo ho=>?_;by_cases e:o=x
 ·rw[aB e];simp[e]
 ·rw[aw e];simp[e]
def K0.set(h:K0 w xb W nd held cs Ds)(o:Nat)(v:to):K0 w xb (W.setCell (I (w.heap.size+1) o) v) nd held (cs.setIfInBounds o v) Ds:=by have kW:=h.kW;have f:aA [w.heap.size+1] W (W.setCell (I (w.heap.size+1) o) v):=(aA.refl _ W).setCell ay _;exact⟨h.rO.setCell (by show w.heap.size<=w.heap.size+1;omega) _,cU h.low f.size,h.kW,h.b2.aG f ay,h.b3.set o v,h.hr.aG f (λx hx=>by simp[Value.ownBlock]at hx;subst hx;simp),h.hx.aG f jz,h.sV.keeps (λk hk=>f.block k (h.sV.lt hk) (by simp;have:=h.ml k hk;omega)),h.ml⟩
def K0.mark(h:K0 w xb W nd held cs Ds){D:Nat}(hD:W.heap[D]? =O (.deferred (O [])))(hn:D∉Ds)(hl:xb+1<=D):K0 w xb W nd held cs (D::Ds):=by
 have kW:=h.kW;exact
 ⟨h.rO,h.low,h.kW,h.b2,h.b3,h.hr,h.hx,h.sV.cons hD hn,λk hk=>by rcases List.mem_cons.1 hk with rfl|hk;exact hl;exact h.ml k hk⟩
def K0.Qm(h:K0 w xb W nd held cs Ds){W_:Nat->Bool}(e:∀n,n<nd->held n=W_ n):K0 w xb W nd W_ cs Ds:=by
 have kW:=h.kW;exact
 ⟨h.rO,h.low,h.kW,h.b2,h.b3,h.hr.congr (λo ho=>by rw[e o G]),h.hx,h.sV,h.ml⟩
def K3.aG(h:K3 w xb W h1 h2 nd held a b c d P fr ks ns Ds lv){T:List Nat}(f:aA T W W')(hT:∀x,x∈T->xb+1<=x/\(W.heap.size<=x\/(∃o:Obj,W.heap[x]? =O o/\o.isCells=false)\/∃E cs,aF W x E cs/\E∉46::RR))(hD:∀D,D∈Ds->D∉T):K3 w xb W' h1 h2 nd held a b c d P fr ks ns Ds lv:=by
 have kW:=h.k.kW;have oo:oF W (xb+1) W.heap.size (46::RR) T:=λx hx=>by
  rcases(hT x hx).2 with h'|h'|h'
  ·exact .inl (.inr h')
  ·exact .inr (.inr h')
  ·exact .inr (.inl h')
 exact⟨h.k.aG f (λx hx=>(hT x hx).1) hD,(h.lay.off f oo).mono f.size⟩
def K3.later(h:K3 w xb W h1 h2 nd held a b c d P fr ks ns Ds lv)(bl:Below W.heap.size W W'):K3 w xb W' h1 h2 nd held a b c d P fr ks ns Ds lv:=h.aG (aA.af (S:=[]) bl) ay ay
def K3.grown(h:K3 w xb W h1 h2 nd held a b c d P fr ks ns Ds lv){B:Nat}(hB:xb+1<=B)(Ae:∀D,D∈Ds->D<B){row:Option Nat}(hg:W.grownBy W' row)(hr:∀r,row=O r->B<=r/\∃o:Obj,W.heap[r]? =O o/\o.isCells=false):K3 w xb W' h1 h2 nd held a b c d P fr ks ns Ds lv:=by have kW:=h.k.kW;have hm:∀x,x∈row.toList->B<=x/\∃o:Obj,W.heap[x]? =O o/\o.isCells=false:=λx hx=>hr x (by simpa using hx);exact h.aG (eK hg) (λx hx=>⟨by have:=(hm x hx).1;omega,.inr (.inl (hm x hx).2)⟩) (λD hD hc=>by have:=(hm D hc).1;have:=Ae D hD;omega)
def K3.hold(h:K3 w xb W h1 h2 nd held a b c d P fr ks ns Ds lv){x:Nat}(hx:x<nd):K3 w xb (W.setCell (I (w.heap.size+2) x) (.bool true)) h1 h2 nd (λn=>held n||n==x) a b c d P fr ks ns Ds lv:=by have kW:=h.k.kW;have f:aA [w.heap.size+2] W (W.setCell (I (w.heap.size+2) x) (.bool true)):=(aA.refl _ W).setCell ay _;exact⟨h.k.hold hx,(h.lay.off f (λy hy=>by simp at hy;subst hy;exact .inl (.inl G))).mono f.size⟩
def K3.of(h:K0 w xb W nd held #[a,b,c,d] Ds)(o:Nat)(v:to){a' b' c' d':to}(e:(#[a,b,c,d]:Array to).setIfInBounds o v=#[a',b',c',d']){h1' h2':Nat}{P':List (List Nat)}{fr' ks':List Nat}{ns':List Int}{lv':Nat->to}(hl:mj W (xb+1) h1' h2' W.heap.size a' b' c' d' ⟨P',fr',ks',ns'⟩ lv'):
 K3 w xb (W.setCell (I (w.heap.size+1) o) v) h1' h2' nd held a' b' c' d' P' fr' ks' ns' Ds lv':=by
 have kW:=h.kW;have f:aA [w.heap.size+1] W (W.setCell (I (w.heap.size+1) o) v):=(aA.refl _ W).setCell ay _;exact⟨by rw[<-e];exact h.set o v,(hl.off f (λy hy=>by simp at hy;subst hy;exact .inl (.inl G))).mono f.size⟩
structure I1(w:ek)(xb:Nat)(W6 W:ek)(lb h1 nd:Nat)(held:Nat->Bool)(a:to)(P:List (List Nat))(Ds:List Nat)(lv:Nat->to)(pre:List Nat)(nv:to):Prop where
 k:K3 w xb W h1 h1 nd held a dT dT dT P [] [] [] Ds lv
 bx:aF W lb 24 #[nv]
 ns:eS W W6.heap.size W.heap.size nv (iH pre)
 sz:xb+1<=lb/\h1<=lb/\lb<W6.heap.size/\W6.heap.size<=W.heap.size
section
variable {W6:ek}{lb:Nat}{pre:List Nat}{nv:to}
def I1.grown(h:I1 w xb W6 W lb h1 nd held a P Ds lv pre nv)(Ae:∀D,D∈Ds->D<W6.heap.size){row:Option Nat}(hg:W.grownBy W' row)(hr:∀r,row=O r->W6.heap.size<=r/\∃o:Obj,W.heap[r]? =O o/\o.isCells=false):I1 w xb W6 W' lb h1 nd held a P Ds lv pre nv:=by have kW:=h.k.k.kW;obtain⟨z1,z2,z3,z4⟩:=h.sz;have f:=eK hg;have hm:∀b,b∈row.toList->W6.heap.size<=b/\∃o:Obj,W.heap[b]? =O o/\o.isCells=false:=λb X=>hr b (by simpa using X);exact⟨h.k.grown (B:=W6.heap.size) G Ae hg hr,h.bx.of (Mk.On.grown h.bx.AH hg λr e=>(hr r e).2),(h.ns.off f (λb X=> .inr (.inr (hm b X).2))).mono (aL _) hg.size,z1,z2,z3,cU z4 hg.size⟩
def I1.next(h:I1 w xb W6 W lb h1 nd held a P Ds lv pre nv){w1 w3:ek}(b1:Below W.heap.size W w1)(f3:aA nv.ownBlock.toList w1 w3){v':to}{x:Nat}(hx:x<nd)(r3:Row w3 3 1 v' (pre.length+1) (fY (pre.length*1) (aX (iH pre)) λ_=> Y x))(i3:v'.ownBlock=nv.ownBlock\/v'.ownBlock=O w1.heap.size):
 I1 w xb W6 ((w3.setCell (I lb 0) v').setCell (I (w.heap.size+2) x) (.bool true)) lb h1 nd (λn=>held n||n==x) a P Ds lv (pre++[x]) v'/\
  aA (lb::(w.heap.size+2)::nv.ownBlock.toList) W ((w3.setCell (I lb 0) v').setCell (I (w.heap.size+2) x) (.bool true))/\(∀k,k∈lb::(w.heap.size+2)::nv.ownBlock.toList->Mk.On W k)/\
  ((∀o,w3.frozen? (I lb o)=false)/\Vo w3 (I lb 0)=O nv/\Vo w3 (I xb 0)=O (H (O (I (w.heap.size+2) 0)) nd nd)/\(∀o,w3.frozen? (I (w.heap.size+2) o)=false)/\Vo w3 (I (w.heap.size+2) x)=O (.bool (held x))):=by
 have kW:=h.k.k.kW;obtain⟨z1,z2,z3,z4⟩:=h.sz;have hn:∀b,b∈nv.ownBlock.toList->nv.ownBlock=O b:=λb X=>by simpa using X
 have F1:aA [] W w1:=aA.af b1;have F3:aA nv.ownBlock.toList W w3:=(F1.mono ay).trans f3;have Qo:∀b,v'.ownBlock=O b->b<w3.heap.size:=λb X=>(fE r3 b X).2;have tJ:ki W6.heap.size w3.heap.size v':=λb X=>⟨by
  rcases i3 with h'|h'
  ·exact(h.ns.i_ b (by rw[<-h',X])).1
  ·rw[X]at h';simp at h';have:=F1.size;omega,Qo b X⟩
 have ns3:eS w3 W6.heap.size w3.heap.size v' (iH (pre++[x])):=by rw[Bo];exact eS.snoc h.ns (by rw[fV];exact r3) tJ
 have nD:∀b,b∈nv.ownBlock.toList->b∉Ds:=λb X=>h.k.k.sV.not (Row.AH h.ns.row (hn b X));have k3:K3 w xb w3 h1 h1 nd held a dT dT dT P [] [] [] Ds lv:=by obtain⟨l1,l2,l3⟩:=h.k.lay.le;refine⟨h.k.k.aG F3 (λb X=>by have:=h.ns.i_ b (hn b X);omega) (λD hD hc=>nD D hc hD),?_⟩;exact⟨h.k.lay.ls.off F3 (λb X=> .inl (.inr (by have:=h.ns.i_ b (hn b X);omega))),⟨Row.nil _ _ _ _,ki.nil _ _⟩,⟨Row.nil _ _ _ _,ki.nil _ _⟩,⟨Row.nil _ _ _ _,ki.nil _ _⟩,l1,l2,by have:=F3.size;omega⟩
 have Qp:aF w3 lb 24 #[nv]:=h.bx.aG F3 (λhc=>by have:=h.ns.i_ lb (hn lb hc);omega);have F4:aA [lb] w3 (w3.setCell (I lb 0) v'):=(aA.refl _ w3).setCell ay _;have k4:K3 w xb (w3.setCell (I lb 0) v') h1 h1 nd held a dT dT dT P [] [] [] Ds lv:=by obtain⟨l1,l2,l3⟩:=k3.lay.le;refine⟨k3.k.aG F4 jz (λD hD hc=>by simp at hc;subst hc;exact k3.k.sV.not Qp.AH hD),?_⟩;exact⟨k3.lay.ls.off F4 (λb X=>by simp at X;subst X;exact .inl (.inr z2)),⟨Row.nil _ _ _ _,ki.nil _ _⟩,⟨Row.nil _ _ _ _,ki.nil _ _⟩,⟨Row.nil _ _ _ _,ki.nil _ _⟩,l1,l2,by have:=F4.size;omega⟩
 have F5:aA [w.heap.size+2] (w3.setCell (I lb 0) v') ((w3.setCell (I lb 0) v').setCell (I (w.heap.size+2) x) (.bool true)):=(aA.refl _ _).setCell ay _;refine⟨⟨k4.hold hx,(Qp.set 0 v').aG F5 jz,?_,z1,z2,z3,by have:=F3.size;have:=F4.size;have:=F5.size;omega⟩,?_,λk hk=>?_,Qp.frozen,Qp.cell 0,k3.k.hx.cell 0,k3.k.hr.frozen,k3.k.hr.cell (o:=x) G⟩
 ·refine((ns3.off F4 (λb X=>by simp at X;subst X;exact .inr (.inl ⟨_,_,Qp,by simp[uX]⟩))).off F5 (λb X=>by simp at X;subst X;exact .inl (.inl G))).mono (aL _) (cU F4.size F5.size)
 ·exact((F3.mono (by intro k hk;simp[hk])).trans (F4.mono (by intro k hk;simp at hk;simp[hk]))).trans (F5.mono (by intro k hk;simp at hk;simp[hk]))
 ·rcases List.mem_cons.1 hk with rfl|hk
  ·exact h.bx.AH
  rcases List.mem_cons.1 hk with rfl|hk
  ·exact Row.AH h.k.k.hr rfl
  ·exact Row.AH h.ns.row (hn k hk)
def I1.list(h:I1 w xb W6 W lb h1 nd held a P Ds lv pre nv){w1 w3:ek}(b1:Below W.heap.size W w1)(f3:aA a.ownBlock.toList w1 w3){v':to}(r3:Row w3 24 1 v' (P.length+1) (fY (P.length*1) lv λ_=>nv))(i3:v'.ownBlock=a.ownBlock\/v'.ownBlock=O w1.heap.size){D:Nat}(hD:W.heap[D]? =O (.deferred (O [])))(hD6:W6.heap.size<=D)(Ae:∀D,D∈Ds->D<W6.heap.size):
 (∀o,w3.frozen? (I (w.heap.size+1) o)=false)/\Vo w3 (I (w.heap.size+1) 0)=O a/\w.heap.size+1<w3.heap.size/\∃lv',K3 w xb (w3.setCell (I (w.heap.size+1) 0) v') w3.heap.size w3.heap.size nd held v' dT dT dT (P++[pre]) [] [] [] (D::Ds) lv':=by
 have kW:=h.k.k.kW;obtain⟨z1,z2,z3,z4⟩:=h.sz;obtain⟨l1,l2,l3⟩:=h.k.lay.le;have ha:∀b,b∈a.ownBlock.toList->a.ownBlock=O b:=λb X=>by simpa using X
 have F1:aA [] W w1:=aA.af b1;have F3:aA a.ownBlock.toList W w3:=(F1.mono ay).trans f3;have ls1:=h.k.lay.ls.off F1 (oF.nil _ _ _ _);have ns1:=h.ns.off F1 (oF.nil _ _ _ _);have ty:∀lo hi,oF w1 lo hi uX a.ownBlock.toList:=λlo hi b X=>by obtain⟨cs,mB⟩:=ls1.row.Tf (ha b X);exact .inr (.inl ⟨_,cs,mB,by simp[uX]⟩)
 have ns3:=ns1.off f3 (ty _ _);have Qo:∀b,v'.ownBlock=O b->b<w3.heap.size:=λb X=>(fE r3 b X).2;have J7:=h.k.k.low;have tJ:ki (xb+1) w3.heap.size v':=λb X=>⟨by
  rcases i3 with h'|h'
  ·exact(ls1.i_ b (by rw[<-h',X])).1
  ·rw[X]at h';simp at h';have:=F1.size;omega,Qo b X⟩
 have l3':=zu.snoc (w:=w1) (w':=w3) ls1 (ns3.mono G F3.size) (by have:=F1.size;omega) f3 (ty _ _) r3 tJ (λb X=>by have:=h.ns.i_ b X;omega);have abP:∀b,b∈a.ownBlock.toList->b∉Ds:=λb X=>h.k.k.sV.not (Row.AH h.k.lay.ls.row (ha b X));have k3:K0 w xb w3 nd held #[a,dT,dT,dT] Ds:=h.k.k.aG F3 (λb X=>(h.k.lay.ls.i_ b (ha b X)).1) (λD hD hc=>abP D hc hD);have hDn:D∉Ds:=λhc=>by have:=Ae D hc;omega
 have hDa:D∉a.ownBlock.toList:=λhc=>by have:=h.k.lay.ls.i_ D (ha D hc);omega
 have hD3:w3.heap[D]? =O (.deferred (O [])):=(F3.block D (Array.getElem?_eq_some_iff.1 hD).1 hDa).trans hD;refine⟨k3.b3.frozen,k3.b3.cell 0,k3.b3.lt,_,K3.of (k3.mark hD3 hDn G) 0 v' rfl ⟨l3',⟨Row.nil _ _ _ _,ki.nil _ _⟩,⟨Row.nil _ _ _ _,ki.nil _ _⟩,⟨Row.nil _ _ _ _,ki.nil _ _⟩,by have:=k3.low;omega,aL _,aL _⟩⟩
end
def K3.free(h:K3 w xb W h1 h2 nd held a b dT dT P fr [] [] Ds lv){w1 w3:ek}(b1:Below W.heap.size W w1)(f3:aA b.ownBlock.toList w1 w3){v':to}{x:Nat}(r3:Row w3 3 1 v' (fr.length+1) (fY (fr.length*1) (aX (iH fr)) λ_=> Y x))(i3:v'.ownBlock=b.ownBlock\/v'.ownBlock=O w1.heap.size):
 (∀o,w3.frozen? (I (w.heap.size+1) o)=false)/\Vo w3 (I (w.heap.size+1) 1)=O b/\w.heap.size+1<w3.heap.size/\K3 w xb (w3.setCell (I (w.heap.size+1) 1) v') h1 w3.heap.size nd held a v' dT dT P (fr++[x]) [] [] Ds lv:=by
 have kW:=h.k.kW;obtain⟨l1,l2,l3⟩:=h.lay.le;have X:∀k,k∈b.ownBlock.toList->b.ownBlock=O k:=λk hk=>by simpa using hk
 have F1:aA [] W w1:=aA.af b1;have F3:aA b.ownBlock.toList W w3:=(F1.mono ay).trans f3;have Qo:∀k,v'.ownBlock=O k->k<w3.heap.size:=λk hk=>(fE r3 k hk).2;have tJ:ki h1 w3.heap.size v':=λk hk=>⟨by
  rcases i3 with h'|h'
  ·exact(h.lay.fr.i_ k (by rw[<-h',hk])).1
  ·rw[hk]at h';simp at h';have:=F1.size;omega,Qo k hk⟩
 have fr3:eS w3 h1 w3.heap.size v' (iH (fr++[x])):=by rw[Bo];exact eS.snoc h.lay.fr (by rw[fV];exact r3) tJ
 have bD:∀k,k∈b.ownBlock.toList->k∉Ds:=λk hk=>h.k.sV.not (Row.AH h.lay.fr.row (X k hk));have k3:K0 w xb w3 nd held #[a,b,dT,dT] Ds:=h.k.aG F3 (λk hk=>by have:=h.lay.fr.i_ k (X k hk);omega) (λD hD hc=>bD D hc hD);have ls3:=h.lay.ls.off F3 (λk hk=> .inl (.inr (by have:=h.lay.fr.i_ k (X k hk);omega)));refine⟨k3.b3.frozen,k3.b3.cell 1,k3.b3.lt,K3.of k3 1 v' rfl ⟨ls3,fr3,⟨Row.nil _ _ _ _,ki.nil _ _⟩,⟨Row.nil _ _ _ _,ki.nil _ _⟩,l1,by have:=F3.size;omega,aL _⟩⟩
def K3.PV(h:K3 w xb W h1 h2 nd held a b c d P fr ks ns Ds lv){w1 wy:ek}(F1:aA c.ownBlock.toList W w1)(b2:Below w1.heap.size w1 wy):Row wy 3 1 d ns.length (aX ns):=by
 refine(h.lay.ns.row.aG F1 λk hk hc=>?_).aG (aA.af (S:=[]) b2) ay;rcases Row.ne h.lay.ns.row h.lay.ks.row bd with h'|h'
 ·rw[hk]at h';cases h'
 ·have XH:c.ownBlock=O k:=by simpa using hc
  exact h' (by rw[hk,XH])
def K3.pair(h:K3 w xb W h1 h2 nd held a b c d P fr ks ns Ds lv){w1 wy w2:ek}{v1 v2:to}{key:Nat}{n:Int}(F1:aA c.ownBlock.toList W w1)(r1:Row w1 46 1 v1 (ks.length+1) (fY (ks.length*1) (pU ks) λ_=> .int .u64 key))(i1:∀k,v1.ownBlock=O k->c.ownBlock=O k\/W.heap.size<=k)
 (b2:Below w1.heap.size w1 wy) (f2:aA d.ownBlock.toList wy w2) (r2:Row w2 3 1 v2 (ns.length+1) (fY (ns.length*1) (aX ns) λ_=> Y n)) (i2:v2.ownBlock=d.ownBlock\/v2.ownBlock=O wy.heap.size):
 (∀o,w2.frozen? (I (w.heap.size+1) o)=false)/\Vo w2 (I (w.heap.size+1) 2)=O c/\Vo w2 (I (w.heap.size+1) 3)=O d/\w.heap.size+1<w2.heap.size/\
   K3 w xb ((w2.setCell (I (w.heap.size+1) 2) v1).setCell (I (w.heap.size+1) 3) v2) h1 h2 nd held a b v1 v2 P fr (ks++[key]) (ns++[n]) Ds lv/\
   aA ((w.heap.size+1)::(c.ownBlock.toList++d.ownBlock.toList)) W ((w2.setCell (I (w.heap.size+1) 2) v1).setCell (I (w.heap.size+1) 3) v2)/\∀k,k∈(w.heap.size+1)::(c.ownBlock.toList++d.ownBlock.toList)->Mk.On W k:=by
 have kW:=h.k.kW;obtain⟨l1,l2,l3⟩:=h.lay.le;have hc:∀k,k∈c.ownBlock.toList->c.ownBlock=O k:=λk hk=>by simpa using hk
 have hd:∀k,k∈d.ownBlock.toList->d.ownBlock=O k:=λk hk=>by simpa using hk
 have F2:aA (c.ownBlock.toList++d.ownBlock.toList) W w2:=((F1.trans (aA.af (S:=c.ownBlock.toList) b2)).mono (by intro k hk;simp at hk;simp[hk])).trans (f2.mono (by intro k hk;simp at hk;simp[hk]));have fD:∀k,k∈c.ownBlock.toList++d.ownBlock.toList->h2<=k/\Mk.On W k:=λk hk=>by
  rcases List.mem_append.1 hk with hk|hk
  ·exact⟨(h.lay.ks.i_ k (hc k hk)).1,Row.AH h.lay.ks.row (hc k hk)⟩
  ·exact⟨(h.lay.ns.i_ k (hd k hk)).1,Row.AH h.lay.ns.row (hd k hk)⟩
 have lt1:∀k,v1.ownBlock=O k->k<w1.heap.size:=λk hk=>(fE r1 k hk).2;have lt2:∀k,v2.ownBlock=O k->k<w2.heap.size:=λk hk=>(fE r2 k hk).2;have Eu:w1.heap.size<=wy.heap.size:=b2.size;have s22:wy.heap.size<=w2.heap.size:=f2.size;have s01:W.heap.size<=w1.heap.size:=F1.size;have r1y:=r1.aG (aA.af (S:=[]) b2) ay;have rNy:=h.PV F1 b2;have r12:Row w2 46 1 v1 (ks.length+1) (fY (ks.length*1) (pU ks) λ_=> .int .u64 key):=r1y.aG f2 (λk hk XH=>by
  rcases Row.ne r1y rNy bd with h'|h'
  ·rw[hk]at h';cases h'
  ·exact h' (by rw[hk,hd k XH]))
 have k2:lV w2 h2 w2.heap.size v1 (ks++[key]):=lV.snoc h.lay.ks r12 (λk hk=>⟨by
  rcases i1 k hk with h'|h'
  ·exact(h.lay.ks.i_ k h').1
  ·omega,by have:=lt1 k hk;omega⟩)
 have n2:eS w2 h2 w2.heap.size v2 (ns++[n]):=eS.snoc h.lay.ns r2 (λk hk=>⟨by
  rcases i2 with h'|h'
  ·exact(h.lay.ns.i_ k (by rw[<-h',hk])).1
  ·rw[hk]at h';simp at h';omega,lt2 k hk⟩)
 have ls2:=h.lay.ls.off F2 (λk hk=> .inl (.inr (by have:=(fD k hk).1;omega)));have fr2:=h.lay.fr.off F2 (λk hk=> .inl (.inr (fD k hk).1));have Gq:K0 w xb w2 nd held #[a,b,c,d] Ds:=h.k.aG F2 (λk hk=>by have:=(fD k hk).1;omega) (λD hD hk=>h.k.sV.not (fD D hk).2 hD);have e1:=K3.of Gq 2 v1 (a':=a) (b':=b) (c':=v1) (d':=d) rfl (lv':=lv) (h1':=h1) (h2':=h2) (P':=P) (fr':=fr) (ks':=ks++[key]) (ns':=[]);have F4:aA [w.heap.size+1] w2 (w2.setCell (I (w.heap.size+1) 2) v1):=(aA.refl _ w2).setCell ay _;have F5:aA [w.heap.size+1] (w2.setCell (I (w.heap.size+1) 2) v1) ((w2.setCell (I (w.heap.size+1) 2) v1).setCell (I (w.heap.size+1) 3) v2):=(aA.refl _ _).setCell ay _;have kk4:=(Gq.set 2 v1).set 3 v2;clear e1;have oo:∀(wz:ek) lo hi Es,xb+1<=lo->oF wz lo hi Es [w.heap.size+1]:=λwz lo hi Es hl k hk=>by simp at hk;subst hk;exact .inl (.inl G)
 have aeD:mj w2 (xb+1) h1 h2 w2.heap.size a b v1 v2 ⟨P,fr,ks++[key],ns++[n]⟩ lv:=⟨ls2,fr2,k2,n2,l1,l2,G⟩;refine⟨Gq.b3.frozen,Gq.b3.cell 2,Gq.b3.cell 3,Gq.b3.lt,⟨kk4,((aeD.off F4 (oo _ _ _ _ (aL _))).off F5 (oo _ _ _ _ (aL _))).mono (cU F4.size F5.size)⟩,?_,λk hk=>?_⟩
 ·exact((F2.mono (by intro k hk;simp at hk ⊢;exact .inr hk)).trans (F4.mono (by intro k hk;simp at hk;simp[hk]))).trans (F5.mono (by intro k hk;simp at hk;simp[hk]))
 ·rcases List.mem_cons.1 hk with rfl|hk
  ·exact h.k.b3.AH
  ·exact(fD k hk).2
end
open eB (Eh wG wS rowsOf)
open Ix (jQ)
open gR (wF dM BO)
attribute [local go_sem] Oper.semAt_some
def iP(s:St)(q n:Nat):Bool:=(List.range q).any λi=>(s.a.ls i).contains n
def abI(s:St)(q n:Nat):iP s (q+1) n=(iP s q n||(s.a.ls q).contains n):=by unfold iP;rw[List.range_succ];simp
def sP{M:Nat}:∀(k:Nat) (f:Nat->Nat),(∀i,i<k->f i<=M)->cT k f<=k*M
 |0,_,_=>by simp[cT]
 |k+1,f,h=>by have h1:=sP k f (λi hi=>h i G);have h2:=h k G;rw[cT,Nat.succ_mul];omega
def abG(l:List Nat)(x n:Nat):(l++[x]).contains n=(l.contains n||n==x):=by rw[jy];simp
def mj.lower{w:ek}{lo tZ h1 h2 hi:Nat}{a b c d:to}{L:PL}{lv:Nat->to}(h:mj w lo h1 h2 hi a b c d L lv)(hh:tZ<=lo):mj w tZ h1 h2 hi a b c d L lv:=
 ⟨h.ls.mono hh (aL _),h.fr,h.ks,h.ns,cU hh h.le.1,h.le.2⟩
def gY(p:aQ)(s:St)(nd k:Nat):List Nat:=(List.range k).filter λn=> !(iP s p.ax.length n)
def C_(p:aQ)(s:St)(nd:Nat)(L:List (Nat×Nat)):PL:=⟨(List.range p.ax.length).map s.a.ls,gY p s nd nd,L.map (·.1),iH (L.map (·.2))⟩
def ul(w:ek)(p:aQ)(s:St)(nd:Nat)(e:Ending)(w':ek):Prop:=
 ∃L a b c d h1 h2 lv,jQ s.f L/\e=Vl (.agg #[a,b,c,d])/\Below w.heap.size w w'/\mj w' w.heap.size h1 h2 w'.heap.size a b c d (C_ p s nd L) lv
def aeg:(prog.info? 24).map (λi=>(i.zero,i.size,i.bytes))=O (O Vn,1,24):=by kernel_rfl
def vp:(prog.info? 46).map (λi=>(i.zero,i.size,i.bytes))=O (O (.int .u64 0),1,8):=by kernel_rfl
def FrL(w:ek)(xb mb nq q:Nat)(Ds:List Nat)(a:Act):Prop:=∃J:Nat->to,a={tmps:=#[V5 mb,J 1,V5 w.heap.size,V5 (w.heap.size+1),V5 xb,J 5,J 6,J 7,J 8,J 9,J 10,J 11,J 12,J 13,J 14,J 15,J 16,J 17,J 18,J 19,J 20,J 21,Y nq,Y q,J 24,J 25,J 26,J 27,J 28,J 29,J 30,J 31,J 32,J 33,J 34,J 35,J 36,J 37,J 38,J 39,J 40,J 41,J 42,J 43,J 44,J 45,J 46,J 47,J 48,J 49,J 50,J 51,J 52,J 53,J 54,J 55,J 56,J 57,J 58,J 59,J 60,J 61,J 62,J 63,J 64,J 65,J 66,J 67,J 68,J 69,J 70,J 71,J 72,J 73,J 74,J 75,J 76,J 77,J 78,J 79,J 80,J 81,J 82,J 83],defers:=Mk.marksOf Ds}
def FrM(w:ek)(xb lb x:Nat)(a:Act):Prop:=∃J:Nat->to,a={tmps:=#[J 0,J 1,V5 w.heap.size,V5 (w.heap.size+1),V5 xb,J 5,V5 lb,Y x,J 8,J 9,J 10,J 11,J 12,J 13,J 14,J 15,J 16,J 17,J 18,J 19,J 20,J 21,J 22,J 23,J 24,J 25,J 26,J 27,J 28,J 29,J 30,J 31,J 32,J 33,J 34,J 35,J 36,J 37,J 38,J 39,J 40,J 41,J 42,J 43,J 44,J 45,J 46,J 47,J 48,J 49,J 50,J 51,J 52,J 53,J 54,J 55,J 56,J 57,J 58,J 59,J 60,J 61,J 62,J 63,J 64,J 65,J 66,J 67,J 68,J 69,J 70,J 71,J 72,J 73,J 74,J 75,J 76,J 77,J 78,J 79,J 80,J 81,J 82,J 83],defers:=[]}
def FrN(w:ek)(xb mb nd k:Nat)(Ds:List Nat)(a:Act):Prop:=∃J:Nat->to,a={tmps:=#[V5 mb,J 1,V5 w.heap.size,V5 (w.heap.size+1),V5 xb,J 5,J 6,J 7,J 8,J 9,J 10,J 11,J 12,J 13,J 14,J 15,J 16,J 17,J 18,J 19,J 20,J 21,J 22,J 23,J 24,J 25,J 26,J 27,J 28,J 29,J 30,J 31,J 32,J 33,J 34,J 35,J 36,J 37,J 38,J 39,J 40,J 41,J 42,J 43,J 44,J 45,J 46,J 47,H (O (I (w.heap.size+2) 0)) nd nd,Y nd,Y k,J 51,J 52,J 53,J 54,J 55,J 56,J 57,J 58,J 59,J 60,J 61,J 62,J 63,J 64,J 65,J 66,J 67,J 68,J 69,J 70,J 71,J 72,J 73,J 74,J 75,J 76,J 77,J 78,J 79,J 80,J 81,J 82,J 83],defers:=Mk.marksOf Ds}
def FrO(w:ek)(x:Nat)(y:Int)(a:Act):Prop:=∃J:Nat->to,a={tmps:=#[J 0,J 1,V5 w.heap.size,V5 (w.heap.size+1),J 4,J 5,J 6,J 7,J 8,J 9,.int .u64 x,Y y,J 12,J 13,J 14,J 15,J 16,J 17,J 18,J 19,J 20,J 21,J 22,J 23,J 24,J 25,J 26,J 27,J 28,J 29,J 30,J 31,J 32,J 33,J 34,J 35,J 36,J 37,J 38,J 39,J 40,J 41,J 42,J 43,J 44,J 45,J 46,J 47,J 48,J 49,J 50,J 51,J 52,J 53,J 54,J 55,J 56,J 57,J 58,J 59,J 60,J 61,J 62,J 63,J 64,J 65,J 66,J 67,J 68,J 69,J 70,J 71,J 72,J 73,J 74,J 75,J 76,J 77,J 78,J 79,J 80,J 81,J 82,J 83],defers:=[]}
def Gr(w:ek)(c d:to)(wx:ek):Prop:=Vo wx (I (w.heap.size+1) 2)=O c/\Vo wx (I (w.heap.size+1) 3)=O d
def Gr.aG{w W W':ek}{c d:to}(h:Gr w c d W){T:List Nat}(f:aA T W W')(h1:w.heap.size+1∉T):Gr w c d W':=by obtain⟨a1,a2⟩:=h;exact⟨(bk (f.block _ (aH a1) h1)).trans a1,(bk (f.block _ (aH a2) h1)).trans a2⟩
def Gr.alloc{w W:ek}{c d:to}(h:Gr w c d W)(o:Obj):Gr w c d (W.alloc o):=h.aG ((aA.refl [] W).alloc o) ay
section
variable {w W W':ek}{xb h1 h2 nd:Nat}{held:Nat->Bool}{a b c d:to}{P:List (List Nat)}{fr ks:List Nat}{ns:List Int}{Ds:List Nat}{lv:Nat->to}
def K3.up(h:K3 w xb W h1 h2 nd held a b dT dT P fr [] [] Ds lv):K3 w xb W h1 W.heap.size nd held a b dT dT P fr [] [] Ds lv:=
 ⟨h.k,⟨h.lay.ls,h.lay.fr.mono (aL _) h.lay.le.2.2,⟨Row.nil _ _ _ _,ki.nil _ _⟩,⟨Row.nil _ _ _ _,ki.nil _ _⟩,h.lay.le.1,cU h.lay.le.2.1 h.lay.le.2.2,aL _⟩⟩
def K3.lst(h:K3 w xb W h1 h2 nd held a b c d P fr ks ns Ds lv):Gr w c d W:=⟨h.k.b3.cell 2,h.k.b3.cell 3⟩
structure Keyed(w:ek)(xb:Nat)(W w1:ek)(h1 h2 nd:Nat)(held:Nat->Bool)(a b c d v1:to)(P:List (List Nat))(fr ks:List Nat)(ns:List Int)(Ds:List Nat)(lv:Nat->to)(key:Nat)(n:Int)(FB:List Nat)(B:Nat):Prop where
 at_:∀wy,Below w1.heap.size w1 wy->Gr w c d wy/\Row wy 3 1 d ns.length (aX ns)
 fin:∀wy,Below w1.heap.size w1 wy->∀v2 w2,Row w2 3 1 v2 (ns.length+1) (fY (ns.length*1) (aX ns) λ_=> Y n)->aA d.ownBlock.toList wy w2->(v2.ownBlock=d.ownBlock\/v2.ownBlock=O wy.heap.size)->
  Gr w c d w2/\(∀o,w2.frozen? (I (w.heap.size+1) o)=false)/\w.heap.size+1<w2.heap.size/\
   KeepsFrom B W ((w2.setCell (I (w.heap.size+1) 2) v1).setCell (I (w.heap.size+1) 3) v2)/\wF FB W ((w2.setCell (I (w.heap.size+1) 2) v1).setCell (I (w.heap.size+1) 3) v2)/\
   K3 w xb ((w2.setCell (I (w.heap.size+1) 2) v1).setCell (I (w.heap.size+1) 3) v2) h1 h2 nd held a b v1 v2 P fr (ks++[key]) (ns++[n]) Ds lv
def K3.keyed(h:K3 w xb W h1 h2 nd held a b c d P fr ks ns Ds lv){V w1:ek}(b1:Below W.heap.size W V){v1:to}{key:Nat}(n:Int)(r1:Row w1 46 1 v1 (ks.length+1) (fY (ks.length*1) (pU ks) λ_=> .int .u64 key))(f1:aA c.ownBlock.toList V w1)(i1:v1.ownBlock=c.ownBlock\/v1.ownBlock=O V.heap.size)
 {FB:List Nat} (Qq:∀k,k∈FB->k<W.heap.size/\k<h2/\k≠w.heap.size+1) (B:Nat):Gr w c d w1/\Keyed w xb W w1 h1 h2 nd held a b c d v1 P fr ks ns Ds lv key n FB B:=by
 have kW:=h.k.kW;obtain⟨l1,l2,l3⟩:=h.lay.le;have F0:aA c.ownBlock.toList W V:=aA.af b1;have F1:aA c.ownBlock.toList W w1:=F0.trans f1;have nc:w.heap.size+1∉c.ownBlock.toList:=λhc=>by have:=h.lay.ks.i_ _ (by simpa using hc);omega
 have nd':w.heap.size+1∉d.ownBlock.toList:=λhc=>by have:=h.lay.ns.i_ _ (by simpa using hc);omega
 have s1:=h.lst.aG F1 nc;have aef:∀wy,Below w1.heap.size w1 wy->Gr w c d wy:=λwy b2=>s1.aG (aA.af (S:=[]) b2) ay;refine⟨s1,λwy b2=>⟨aef wy b2,h.PV F1 b2⟩,λwy b2 v2 w2 r2 f2 i2=>?_⟩;obtain⟨p1,p2,p3,p4,p5,p6,p7⟩:=h.pair F1 r1 (λk hk=>by
  rcases i1 with h'|h'
  ·exact .inl (by rw[<-h',hk])
  ·rw[hk]at h';simp at h';subst h';exact .inr F0.size) b2 f2 r2 i2
 refine⟨⟨p2,p3⟩,p1,p4,vo p6 p7 B,λk hk=>p6.block k (Qq k hk).1 (λhc=>?_),p5⟩;obtain⟨q1,q2,q3⟩:=Qq k hk;rcases List.mem_cons.1 hc with hc|hc
 ·exact q3 hc
 rcases List.mem_append.1 hc with hc|hc
 ·have:=h.lay.ks.i_ k (by simpa using hc);omega
 ·have:=h.lay.ns.i_ k (by simpa using hc);omega
def acO(w:ek)(xb mb nd:Nat)(p:aQ)(s:St)(m:Nat)(a:Act)(W:ek):Prop:=
 ∃(q:Nat) (Ds:List Nat) (av:to) (lv:Nat->to) (h1:Nat),q<=p.ax.length/\m+q=p.ax.length+1/\FrL w xb mb p.ax.length q Ds a/\Hid (K3 w xb W h1 h1 nd (iP s q) av dT dT dT ((List.range q).map s.a.ls) [] [] [] Ds lv)
def acP(w:ek)(xb mb nd:Nat)(p:aQ)(s:St)(m:Nat)(a:Act)(W:ek):Prop:=
 ∃(k:Nat) (Ds:List Nat) (av bv:to) (lv:Nat->to) (h1 h2:Nat),k<=nd/\m+k=nd+1/\FrN w xb mb nd k Ds a/\Hid (K3 w xb W h1 h2 nd (iP s p.ax.length) av bv dT dT ((List.range p.ax.length).map s.a.ls) (gY p s nd k) [] [] Ds lv)
end
section
variable {w w':ek}{C C':Co}{RO RO':List Nat}{K:Kc}{p:aQ}{c:Cp}{t t':dZ}{used used':Int}{s s':St}{rv rv':to}
def Z6{p:Prop}(h:p:=by
 intro wz fj
 (try dsimp only at fj)
 exact qj):p:=h
def T1{p:Prop}(h:p:=by
 intro v2 w2 r2 f2 i2;obtain⟨WU,WV,WW,rfl⟩:=Row.mG r2;obtain⟨RI,ff,TN,gm,jZ,l8⟩:=M8.o.fin w1 (aY _ _) _ w2 r2 f2 i2;exact My):p:=h
def My{p:Prop}(h:p:=by
 obtain⟨e2,e3⟩:=id RI;have E7:=Z gm;have Ay:=Z jZ;have Dl:=Z l8;clear r2 f2 i2 gm jZ l8;clear au;refine hK.out _ _ ⟨trivial,RI⟩ (λau=>?_);clear hK K;refine Mk.pt ?_;refine Gd.ready (rs:=[11]) bh ay ?_;refine Gd.eC.last rfl bh (λK hK=>?_) Gd.eC.nil;refine fH ?_;go_simp;refine hK.out _ _ trivial ?_;clear hK K;refine Mk.pt ?_;refine Gd.ready (rs:=[12]) bh ay ?_;refine Gd.eC.last rfl bh (λK hK=>?_) Gd.eC.nil;refine fH ?_;go_simp;refine hK.out _ _ trivial ?_;clear hK K;refine Mk.pt ?_;refine Gd.ready (rs:=[13]) bh ay ?_;refine Gd.eC.last rfl bh (λK hK=>?_) Gd.eC.nil;refine fH ?_;go_simp;refine hK.out _ _ trivial ?_;clear hK K;refine Mk.pt ?_;refine Gd.done bh ⟨rfl,?_⟩ _;clear e2 e3 ff TN RI
 gi_wp2_with fail
 exact⟨E7.o,Ay.o,_,_,by rw[List.map_append,List.map_append,HPK.o,HPN.o];exact Dl.o⟩):p:=h
def abF(h:Mx w C RO K p c s t used rv)(tb:tM p)(gP:K.nd<=4194304):
 Calls prog 19 #[V5 C.mb] w (ul w p s K.nd):=by
 have m8:Vo w (I C.mb 8)=O (Y K.nd):=h.m.bg.cell 8;have lm:=h.m.bg.lt;have a0g:=Z h;have HT:=Z tb;have zt:=tb.g;obtain⟨ga,gn,gc,lG⟩:=Row.mG h.m.prog.g;have AB:gn=p.ax.length:=by
  rcases h.m.prog.g.val with⟨h,h'⟩|⟨b,cap,h,-⟩
  ·rw[lG]at h;simp at h;omega
  ·rw[lG]at h;simp at h;omega
 obtain rfl:=AB;have HGV:=Z lG;have HN:=Z (show 1*K.nd<=281474976710656/\K.nd<=maxLen by unfold maxLen;omega);clear h tb lG;generalize RB:K.nd=nd at*;have Un:=Z RB;clear RB;refine(callsIn_wide (n:=9)).1 ?_;refine callsIn_of_wp_marks func19 rfl trivial ?_ rfl;simp only[ntmps19,List.size_toArray,List.length_cons,List.length_nil,Nat.reduceAdd,Nat.reduceSub,Array.replicate_succ,Array.replicate_zero,List.push_toArray,List.append_toArray,List.nil_append,List.cons_append];refine wpIn_wide.2 ?_;go_wp2_with (refine jr rfl (.tmp 15) (.tmp 15) 22 rfl 4 underlying22 Vf.sK rfl .i64 .i64 _ _ nd rfl rfl rfl rfl HN.o.1 HN.o.2 ?_);intro w2 bo Uo;have dC:Below w.heap.size w w2:=(((aY _ w).alloc (aL _) _).alloc ay _).trans (Uo.mono G);have kb2:aF w2 w.heap.size 52 #[dT,dT,dT,dT]:=((aF.new w _ _).alloc _).of (Uo.block _ G);have kb3:aF w2 (w.heap.size+1) 52 #[dT,dT,dT,dT]:=by have:=aF.new (w.alloc (CA #[dT,dT,dT,dT] 52)) 52 #[dT,dT,dT,dT];rw[aM]at this;exact this.of (Uo.block _ G)
 have pZ:w.heap.size+2<w2.heap.size:=by have:=(fE bo (w.heap.size+1+1) rfl).2;omega
 have k3:K3 w w2.heap.size (w2.alloc (CA #[H (O (I (w.heap.size+2) 0)) nd nd] 22)) (w2.heap.size+1) (w2.heap.size+1) nd (iP s 0) dT dT dT dT [] [] [] [] [] (λ_=>dT):=by refine⟨⟨dC.alloc dC.size _,ay,pZ,kb2.alloc _,kb3.alloc _,(bo.alloc _).congr (λo ho=>by simp[iP]),aF.new w2 _ _,Mk.Marks.nil _,ay⟩,?_⟩;refine⟨⟨Row.nil _ _ _ _,ki.nil _ _,λq hq=>absurd hq ay,λq q' hq=>absurd hq ay⟩,⟨Row.nil _ _ _ _,ki.nil _ _⟩,⟨Row.nil _ _ _ _,ki.nil _ _⟩,⟨Row.nil _ _ _ _,ki.nil _ _⟩,aL _,aL _,ay⟩
 have Dw:=Z k3;have m0:Vo w2 (I C.mb 0)=O (H ga p.ax.length gc):=by rw[<-HGV.o];exact(a0g.o.later dC).m.bg.cell 0
 have ZP:C.mb<w2.heap.size:=G;clear bo Uo dC kb2 kb3 pZ k3 m8;go_wp2;refine Mk.aN (acO w w2.heap.size C.mb nd p s) (p.ax.length+1) ?start ?zero ?round
 case start=>exact⟨0,[],_,_,_,cM _,G,qi rfl,Dw⟩
 case zero=>exact λa W hh=>by obtain⟨q,_,_,_,_,h1,h2,_⟩:=hh;omega
 clear Dw m0 ZP HN;generalize w2.heap.size=xb;clear w2
 case round=>
  rintro m a W ⟨q,Ds,av,lv,h1,hq,hm,⟨J,rfl⟩,hk⟩;have MW:=a0g.o.later hk.o.k.rO;have ZP:C.mb<W.heap.size:=MW.m.bg.lt;have kW:=hk.o.k.kW;by_cases be:q<p.ax.length
  ·have m9:Vo W (I C.mb 9)=O (V5 C.ab):=MW.m.bg.cell 9;obtain⟨wA,Qt⟩:∃wA,wA=W.alloc (CA #[Vn] 24):=⟨_,rfl⟩;have bA:Below W.heap.size W wA:=by rw[Qt];exact(aY _ _).alloc (aL _) _
   have Ke:=Z (MW.later bA);have RJ:=Z (hk.o.later bA);have kw:wA.heap.size=W.heap.size+1:=by rw[Qt];simp
   have kl:aF wA W.heap.size 24 #[Vn]:=by rw[Qt];exact aF.new W _ _
   have HL:=Z (eB.VL Ke.o.m.ar (by rw[Un.o];exact gP) be);have Xa:=Z kl;have jo:=hk.o.lay.le;have zH:=Z kw;clear MW bA kw kl;go_wp2_with fail;rw[<-Qt];clear Qt;refine HL.o.mono ?_;rintro e w6 ⟨rfl,Qu,AR⟩;have VF:W.heap.size+1=wA.heap.size:=zH.o.symm;have J7:=hk.o.k.low;generalize W.heap.size=lb at*;have oM:=Ke.o.m.ar.tB be;have hlen:(rowsOf s.a (s.a.ls q)).length<=4194304:=by rw[eB.kR];have:=oM.1;rw[Un.o]at this;omega
   have fD:∀y,y∈rowsOf s.a (s.a.ls q)->y.1<nd:=by intro y hy;unfold rowsOf at hy;obtain⟨n,hn,rfl⟩:=List.mem_map.1 hy;obtain⟨_,_,a1j,-,g1,g2,-⟩:=Ke.o.m.ar.node be hn;rw[Un.o]at g2;exact dz g1 g2
   have b6:=AR.rO;have Qv:wA.heap.size<w6.heap.size:=AR.box.lt;have HR6:=Z (wS AR);have uS:∀k,k∈dM Qu->wA.heap.size<=k/\k<w6.heap.size:=by
    intro k hk;rcases AR.own.2 with⟨rfl,_⟩|⟨g,cap,zF,rfl,g1,g2,_⟩
    ·simp[dM]at hk
    ·simp[dM]at hk;subst hk;exact⟨g1,(Array.getElem?_eq_some_iff.1 g2).1⟩
   have Qw:(rowsOf s.a (s.a.ls q)).attach.map (λy=>y.val)=rowsOf s.a (s.a.ls q):=List.attach_map_subtype_val _;have oC:(rowsOf s.a (s.a.ls q)).attach.map (λy=>y.val.1)=s.a.ls q:=by
    have e1:(rowsOf s.a (s.a.ls q)).attach.map (λy=>y.val.1)=((rowsOf s.a (s.a.ls q)).attach.map (λy=>y.val)).map (·.1):=by rw[List.map_map];rfl
    rw[e1,Qw];unfold rowsOf;rw[List.map_map];exact List.map_id _
   have Fw:=Z (eB.abU (α:={y // y∈rowsOf s.a (s.a.ls q)}) (λy=>y.val) Fence.wide 8 trivial rfl G wA.heap.size wA.heap.size Qu (rowsOf s.a (s.a.ls q)).attach (by rw[List.length_attach];omega) w6 AR.box (by rw[Qw];exact HR6.o) (λk hk=>(uS k hk).2));have No:=Z (RJ.o.later b6);have Ng:=Z (Xa.o.of (b6.block _ G));have HLS:=Z oC;have aeX:(rowsOf s.a (s.a.ls q)).attach.length<=4194304:=by rw[List.length_attach];exact hlen
   have me:=Z fD;have Ae:∀D,D∈Ds->D<w6.heap.size:=λD hD=>No.o.k.sV.lt hD;have Up:=Z Ae;clear oC Qw AR b6 HL RJ Xa Ke HR6 oM fD Ae hlen;generalize(rowsOf s.a (s.a.ls q)).attach=L at*;go_wp2_with fail;refine(wpIn_wide (n:=9)).1 ?_;refine wpIn_rangeFunc_ownH (n:=9) (F:=Fence.wide) rfl G (gf:=136) (lb:=#[V5 wA.heap.size]) rfl trivial (Proofs.enters_of func136 bh rfl) Fw.o wF.t
    (wF.b (by intro k hk;rcases List.mem_cons.1 hk with rfl|hk;exact Qv;exact(uS k hk).2)) (aY _ _) (λ_=>rfl)
    (λpre W=>∃nv,Hid (I1 w xb w6 W lb h1 nd (λn=>iP s q n||(pre.map λy=>y.val.1).contains n) av ((List.range q).map s.a.ls) Ds lv (pre.map λy=>y.val.1) nv))
    (λc pre W=>False) ?hI ?hIx ?h0 (λx a' W=>FrM w xb lb x.val.1 a') (λx a' _ W W' row hs hg hr=>hs) ?assign ?body ?done ?stop
   case hI=>exact λpre W W' row ⟨nv,hh⟩ hg hr=>⟨nv,hh.o.grown Up.o hg hr⟩
   case hIx=>exact λc pre W W' row hh _ _=>hh
   case h0=>exact⟨dT,⟨by have h6:=No.o;exact⟨h6.k.Qm (λn _=>by simp),h6.lay⟩,Ng.o,⟨Row.nil _ _ _ _,ki.nil _ _⟩,G,G,G,aL _⟩⟩
   case assign=>
    rintro l pre x W K ⟨nv,jh⟩ hK
    gi_wp2
    exact hK _ _ (KeepsFrom.refl _ _) (λ_ _=>rfl) ⟨nv,jh⟩ (qi rfl)
   case stop=>exact λD c pre W _ _ hh _=>absurd hh ay
   case body=>
    rintro l pre ⟨x,hx⟩ a' W hl hr ⟨nv,jh⟩ ⟨J2,rfl⟩ pZ;dsimp only;have hxn:=me.o x hx;generalize Um:x.1=xn at*;have HXE:=Z Um;clear Um;have c6:=jh.o.bx.c1;have abE:=jh.o.bx.lt;have bB:Below W.heap.size W (W.alloc (CA #[Y xn] 3)):=(aY _ _).alloc (aL _) _;have hpl:(pre.map (λy=>y.val.1)).length<L.length:=by rw[List.length_map];exact pZ
    generalize Ra:pre.map (λy=>y.val.1)=lp at*;have HPE:=Z Ra;have pY:=Z (show Row (W.alloc (CA #[Y xn] 3)) 3 1 nv lp.length (aX (iH lp))by have:=jh.o.ns.row.aG (aA.af (S:=[]) bB) ay;rw[fV]at this;exact this);have sD:=Z (show lp.length+1<=maxLen/\(lp.length+1)*8<=140737488355328 by unfold maxLen;omega);have Bx:=λv' w3 r3 f3 i3=>jh.o.next (w1:=W.alloc (CA #[Y xn] 3)) (w3:=w3) (v':=v') (x:=xn) bB f3 hxn r3 i3;have GU:=Z Bx;have hKB:∀k,k∈wA.heap.size::dM Qu->k<W.heap.size/\k≠lb/\k≠w.heap.size+2/\nv.ownBlock≠O k:=by
     intro k hk;have z:=jh.o.sz;have jZ:wA.heap.size<=k/\k<w6.heap.size:=by
      rcases List.mem_cons.1 hk with rfl|hk
      ·exact⟨aL _,Qv⟩
      ·exact uS k hk
     exact⟨G,G,G,λe=>by have:=jh.o.ns.i_ k e;omega⟩
    have SF:=Z hKB;clear Ra Bx hKB bB jh pZ
    gi_wp2_with (gi_at_builtin;refine acE rfl _ _ 24 rfl 3 underlying24 Vf.ck rfl bd nv lp.length (aX (iH lp)) rfl pY.o (I W.heap.size 0) 1 1 (λ_=> Y xn) rfl ?zZ ?E5 ?E6 ?Ii ?_)
    case zZ=>intro j hj;obtain rfl:j=0:=G;exact(aF.new W 3 #[Y xn]).cell 0
    case E5=>exact λj _=>rfl
    case E6=>exact sD.o.1
    case Ii=>exact sD.o.2
    intro v' w3 r3 f3 i3;obtain⟨va3,vn3,vc3,rfl⟩:=Row.mG r3;obtain⟨n1,n2,n3,n4,n5,n6,n7,n8⟩:=GU.o _ w3 (by rw[Nat.mul_one];exact r3) f3 (by rw[aM];exact i3);have N1:=Z n1;have N2:=Z n2;have N3:=Z n3;have nne:lb≠w.heap.size+2:=G;have afk:lb≠xb:=G;clear r3 f3 i3 n1 n2 n3 c6 abE
    gi_wp2_with fail
    refine⟨vo N2.o N3.o _,λk hk=>N2.o.block k (SF.o k hk).1 (λhc=>?_),H va3 vn3 vc3,?_⟩
    ·obtain⟨-,g2,g3,g4⟩:=SF.o k hk;simp only[dK,Option.mem_toList]at hc;rcases hc with hc|hc|hc
     ·exact g2 hc
     ·exact g3 hc
     ·exact g4 hc
    ·have h9:=N1.o;rw[List.map_append,HPE.o,List.map_cons,List.map_nil,HXE.o];exact⟨⟨h9.k.k.Qm (λn _=>by rw[abG,Bool.or_assoc]),h9.k.lay⟩,h9.bx,h9.ns,h9.sz⟩
   case done=>
    rintro D ys W hD rfl ⟨nv,jh⟩ Xb;rw[HLS.o]at jh;have r0:=jh.o.k.k.b3.c1;have r1:=jh.o.bx.c1;have l3:=jh.o.k.k.b3.lt;have l4:=jh.o.bx.lt;have lsl:w.heap.size+1≠lb:=G;have bB:Below W.heap.size W (W.alloc (CA #[nv] 24)):=(aY _ _).alloc (aL _) _;have bo:=jh.o.k.lay.ls.row.aG (aA.af (S:=[]) bB) (λ_ _=>by simp);have Z7:((List.range q).map s.a.ls).length=q:=by simp
    dsimp only at bo;rw[Z7]at bo;have pY:=Z bo;obtain⟨ea,en,ec,rfl⟩:=Row.mG jh.o.ns.row;have Ro:=Z (show q+1<=maxLen/\(q+1)*24<=140737488355328 by unfold maxLen;omega);have DA:=λv' w3 r3 f3 i3=>jh.o.list (w1:=W.alloc (CA #[H ea en ec] 24)) (w3:=w3) (v':=v') bB f3 r3 i3 Xb hD Up.o;rw[Z7]at DA;have Dl:=Z DA;clear jh bo bB DA Z7 Xb Fw HLS;go_wp2_with (at_builtin;refine bX rfl _ _ 50 rfl 24 underlying50 aeg rfl bd av q lv rfl pY.o (I W.heap.size 0) 1 1 (λ_=> H ea en ec) rfl ?zZ ?E5 ?E6 ?Ii ?_)
    case zZ=>intro j hj;obtain rfl:j=0:=G;exact(aF.new W 24 #[H ea en ec]).cell 0
    case E5=>exact λj _=>rfl
    case E6=>exact Ro.o.1
    case Ii=>exact Ro.o.2
    intro v' w3 r3 f3 i3;obtain⟨va3,vn3,vc3,rfl⟩:=Row.mG r3;obtain⟨g1,g2,g3,lv',g4⟩:=Dl.o _ w3 (by rw[Nat.mul_one];exact r3) f3 (by rw[aM];exact i3);have HG:=Z g4;clear r3 f3 i3 g4;go_wp2;refine⟨q+1,D::Ds,H va3 vn3 vc3,lv',w3.heap.size,G,G,qi rfl,Z ?_⟩;have h9:=HG.o;rw[List.range_succ,List.map_append];exact⟨h9.k.Qm (λn _=>(abI s q n).symm),h9.lay⟩
  ·obtain rfl:q=p.ax.length:=G;have x0:=hk.o.k.hx.c1;have lx:=hk.o.k.hx.lt;clear MW;go_wp2_with fail;have K0':Hid (K3 w xb W h1 h1 nd (iP s p.ax.length) av dT dT dT ((List.range p.ax.length).map s.a.ls) (gY p s nd 0) [] [] Ds lv):=hk;refine Mk.aN (acP w xb C.mb nd p s) (nd+1) ?yX ?E8 ?yY
   case yX=>exact⟨0,Ds,_,_,lv,_,_,cM _,G,qi rfl,K0'⟩
   case E8=>exact λa W hh=>by obtain⟨q,_,_,_,_,_,_,h1,h2,_⟩:=hh;omega
   clear K0' x0 lx hk ZP
   case yY=>
    rintro m2 a2 W2 ⟨k,Xc,av2,bv,Ze,g1,g2,gm,jZ,⟨J2,rfl⟩,wC⟩;have x1:Vo W2 (I (w.heap.size+2) k)=O (.bool (iP s p.ax.length k))\/¬k<nd:=by
     by_cases h:k<nd
     ·exact .inl (wC.o.k.hr.cell (o:=k) G)
     ·exact .inr h
    by_cases pZ:k<nd
    ·have x2:Vo W2 (I (w.heap.size+2) k)=O (.bool (iP s p.ax.length k)):=by
      rcases x1 with h|h
      ·exact h
      ·exact absurd pZ h
     have FZ:gY p s nd (k+1)=if iP s p.ax.length k=true then gY p s nd k else gY p s nd k++[k]:=by unfold gY;rw[List.range_succ,List.filter_append];cases hh:iP s p.ax.length k<;>simp[hh]
     clear x1;cases hh:iP s p.ax.length k with
     |true=>rw[hh]at x2 FZ;rw[aB rfl]at FZ;have Z8:=Z FZ;have zT:=Z (show K3 w xb W2 g1 g2 nd (iP s p.ax.length) av2 bv dT dT ((List.range p.ax.length).map s.a.ls) (gY p s nd (k+1)) [] [] Xc Ze by rw[FZ];exact wC.o);clear hh FZ wC;go_wp2;exact⟨k+1,Xc,_,_,Ze,g1,g2,G,G,qi rfl,zT⟩
     |false=>
      rw[hh]at x2 FZ;rw[aw bd]at FZ;have Z8:=Z FZ;have HHH:=Z hh;have r1:Vo W2 (I (w.heap.size+1) 1)=O bv:=wC.o.k.b3.cell 1;have l3:=wC.o.k.b3.lt;have bB:Below W2.heap.size W2 (W2.alloc (CA #[Y k] 3)):=(aY _ _).alloc (aL _) _;have hfl:(gY p s nd k).length<=k:=by unfold gY;exact cU (List.length_filter_le _ _) ay
      have pY:=Z (show Row (W2.alloc (CA #[Y k] 3)) 3 1 bv (gY p s nd k).length (aX (iH (gY p s nd k)))by have:=wC.o.lay.fr.row.aG (aA.af (S:=[]) bB) (λ_ _=>by simp);rw[fV]at this;exact this);have sD:=Z (show(gY p s nd k).length+1<=maxLen/\((gY p s nd k).length+1)*8<=140737488355328 by unfold maxLen;omega);have Bx:=λv' w3 r3 f3 i3=>wC.o.free (w1:=W2.alloc (CA #[Y k] 3)) (w3:=w3) (v':=v') (x:=k) bB f3 r3 i3;have GU:=Z Bx;clear hh FZ wC Bx bB hfl;generalize gY p s nd k=fl at*;go_wp2_with (at_builtin;refine bX rfl _ _ 24 rfl 3 underlying24 Vf.ck rfl bd bv fl.length (aX (iH fl)) rfl pY.o (I W2.heap.size 0) 1 1 (λ_=> Y k) rfl ?zZ ?E5 ?E6 ?Ii ?_)
      case zZ=>intro j hj;obtain rfl:j=0:=G;exact(aF.new W2 3 #[Y k]).cell 0
      case E5=>exact λj _=>rfl
      case E6=>exact sD.o.1
      case Ii=>exact sD.o.2
      intro v' w3 r3 f3 i3;obtain⟨va3,vn3,vc3,rfl⟩:=Row.mG r3;obtain⟨n1,n2,n3,n4⟩:=GU.o _ w3 (by rw[Nat.mul_one];exact r3) f3 (by rw[aM];exact i3);have N4:=Z n4;clear r3 f3 i3 n4;go_wp2;exact⟨k+1,Xc,_,_,Ze,g1,_,G,G,qi rfl,by rw[Z8.o];exact N4⟩
    ·obtain rfl:k=nd:=G;have MW2:=a0g.o.later wC.o.k.rO;have m10:Vo W2 (I C.mb 10)=O (V5 C.xb):=MW2.m.bg.cell 10;have HA:=Z (Ix.all' MW2.m.ix);have afl:e_ p s.a<=4294967296:=by have h1:=sP (M:=4194304) p.ax.length (λq=>(s.a.ls q).length) (λq hq=>by have:=(MW2.m.ar.tB hq).1;rw[Un.o]at this;omega);have h2:p.ax.length*4194304<=16*4194304:=Nat.mul_le_mul_right _ zt;show cT p.ax.length (λq=>(s.a.ls q).length)<=_;omega
     have zT:=Z wC.o;clear x1 MW2 wC;go_wp2_with fail;refine HA.o.mono ?_;rintro e w7 ⟨rfl,L,hKS,hLl,hAA⟩;obtain⟨bA,hsA,Qu,gu,bo⟩:=hAA;have uS:∀k,k∈dM Qu->W2.heap.size+1<=k/\k<w7.heap.size:=by
      intro k hk;rcases bo with⟨_,rfl⟩|⟨g,cap,rfl,e1,e2,-⟩
      ·simp[dM]at hk
      ·simp[dM]at hk;subst hk;exact⟨e1,e2⟩
     have HS7:=Z (zT.o.later bA);have J7:=zT.o.k.low;have Ae:∀D,D∈Xc->D<w7.heap.size:=λD hD=>HS7.o.k.sV.lt hD;have Up:=Z Ae;have Fw:=Z (gR.sq Fence.wide 8 trivial rfl G W2.heap.size (W2.heap.size+1) Qu (L.map Ix.WZ) (by rw[List.length_map];omega) w7 gu bo (λk hk=>(uS k hk).2));have HKS:=Z hKS;have La:(L.map Ix.WZ).length<=4294967296:=by rw[List.length_map];omega
     have Jl:(L.map Ix.WZ).map (·.1)=L.map (·.1):=by rw[List.map_map];rfl
     have rD:(L.map Ix.WZ).map (·.2)=iH (L.map (·.2)):=by unfold iH;rw[List.map_map,List.map_map];rfl
     have Dn:=Z Jl;have J_:=Z rD;clear Jl rD Ae bo gu bA HA zT m10;generalize hLu:L.map Ix.WZ=Lu at*;clear hLu;go_wp2_with fail;refine(wpIn_wide (n:=9)).1 ?_;refine wpIn_rangeFunc_ownH (n:=9) (F:=Fence.wide) rfl G (gf:=140) (lb:=#[V5 W2.heap.size]) rfl trivial (Proofs.enters_of func140 bh rfl) Fw.o wF.t
      (wF.b (by intro k hk;rcases List.mem_cons.1 hk with rfl|hk;exact hsA;exact(uS k hk).2)) (aY _ _) (λ_=>rfl)
      (λpre W=>∃cv dv,Hid (K3 w xb W g1 w7.heap.size k (iP s p.ax.length) av2 bv cv dv ((List.range p.ax.length).map s.a.ls) (gY p s k k) (pre.map (·.1)) (pre.map (·.2)) Xc Ze))
      (λc pre W=>False) ?hI ?hIx ?h0 (λx a' W=>FrO w x.1 x.2 a') (λx a' _ W W' row hs hg hr=>hs) ?assign ?body ?done ?stop
     case hI=>exact λpre W W' row ⟨cv,dv,hh⟩ hg hr=>⟨cv,dv,hh.o.grown G Up.o hg hr⟩
     case hIx=>exact λc pre W W' row hh _ _=>hh
     case h0=>exact⟨_,_,HS7.o.up⟩
     case assign=>
      rintro l pre x W K ⟨cv,dv,jh⟩ hK
      gi_wp2
      exact hK _ _ (KeepsFrom.refl _ _) (λ_ _=>rfl) ⟨cv,dv,jh⟩ (qi rfl)
     case stop=>exact λD c pre W _ _ hh _=>absurd hh ay
     case body=>
      rintro l pre x a' W hl hr ⟨cv,dv,jh⟩ ⟨J2,rfl⟩ pZ;have Xy:(pre.map (·.1)).length<Lu.length:=by rw[List.length_map];exact pZ
      have hpn:(pre.map (·.2)).length<Lu.length:=by rw[List.length_map];exact pZ
      obtain⟨xk,xn⟩:=x;have Qq:∀k,k∈W2.heap.size::dM Qu->k<W.heap.size/\k<w7.heap.size/\k≠w.heap.size+1:=by
       intro k hk;have hg:=jh.o.lay.le;have jZ:W2.heap.size<=k/\k<w7.heap.size:=by
        rcases List.mem_cons.1 hk with rfl|hk
        ·exact⟨aL _,hsA⟩
        ·exact⟨by have:=uS k hk;omega,(uS k hk).2⟩
       have:=jh.o.k.kW;exact⟨G,jZ.2,G⟩
      have HK:=Z (λV w1 v1 b1 r1 f1 i1=>jh.o.keyed (V:=V) (w1:=w1) (v1:=v1) (key:=xk) b1 xn r1 f1 i1 Qq w7.heap.size);have uj:=Z (show(pre.map (·.1)).length+1<=maxLen/\((pre.map (·.1)).length+1)*8<=140737488355328 by unfold maxLen;omega);have sD:=Z (show(pre.map (·.2)).length+1<=maxLen/\((pre.map (·.2)).length+1)*8<=140737488355328 by unfold maxLen;omega);have HRK:=Z (λV (b1:Below W.heap.size W V)=>jh.o.lay.ks.row.aG (aA.af (S:=[]) b1) ay);have ru:=jh.o.lst;have HCN:=Z (show∀b,b∈cv.ownBlock.toList->b<W.drew.heap.size from λb X=>(jh.o.lay.ks.i_ b (by simpa using X)).2);have bD:Below W.heap.size W W.drew:=az _ W 1;have jn:W.drew.heap.size=W.heap.size:=rfl;generalize Np:pre.map (λy:Nat×Int=>y.1)=lk at*;generalize CO:pre.map (λy:Nat×Int=>y.2)=ln at*;have HPK:=Z Np;have HPN:=Z CO;clear Np CO jh Qq pZ Xy hpn
      gi_wp2_with fail
      refine Gd.pA [11,13] (λ_=>True) (λwx=>Vo wx (I (w.heap.size+1) 2)=O cv/\Vo wx (I (w.heap.size+1) 3)=O dv) bh bh ⟨trivial,ru⟩ (λau=>?_);generalize W.drew=V at*;have Xd:=Z bD;have HZ:=Z jn;clear bD jn ru;refine Mk.Dm 0 ?_;refine Mk.Dm 1 ?_;refine Mk.Dm 2 ?_;refine Mk.Dm 5 ?_;refine Mk.Dm 6 ?_;refine Mk.Dm 7 ?_;refine Gd.ready (rs:=[3,8]) bh ay ?_;refine Gd.eC.cons rfl (λK hK=>?_) (Gd.eC.cons rfl (λK hK=>?_) Gd.eC.nil)
      ·refine fH ?_;go_simp;refine hK.out _ _ ⟨trivial,Gr.alloc au.2 _⟩ (λau=>?_);clear hK K;refine Mk.pt ?_;refine Gd.ready (rs:=[4,8]) bh ay ?_;refine Gd.eC.cons rfl (λK hK=>?_) (Gd.eC.cons rfl (λK hK=>?_) Gd.eC.nil)
       ·have cR:=Z (show Below W.heap.size W (V.alloc (CA #[.int .u64 xk] 46))from Xd.o.alloc Xd.o.size _);refine cJ rfl (.tmp 72) (.tmp 74) 41 rfl 46 underlying41 vp rfl bd cv lk.length (pU lk) (by simp[Act.eval,Act.put]) (HRK.o _ cR.o) (I V.heap.size 0) 1 1 (λ_=> .int .u64 xk) (by simp[Act.eval,Act.put]) ?_ (λj _=>rfl) uj.o.1 uj.o.2 ?_
        ·intro j hj;obtain rfl:j=0:=G;exact(aF.new V 46 #[.int .u64 xk]).cell 0
        intro v1 w1 r1 f1 i1;obtain⟨Z9,Z_,Vj,rfl⟩:=Row.mG r1;obtain⟨wY,Xe⟩:=HK.o _ w1 _ cR.o r1 f1 i1;have M8:=Z Xe;clear r1 f1 i1 Xe cR;clear au;refine hK.out _ _ ⟨trivial,wY⟩ (λau=>?_);clear hK K;refine Mk.pt ?_;refine Gd.Ot (i:=10) (v:=?_) rfl bh bh bh bh bh (λ_ _ _ h=>Mk.jx h) (Or.inl ⟨by rfl,?_⟩) cY ?_;rotate_left
        ·exact Z6
        refine Mk.pt ?_;refine Gd.ready (rs:=[8]) bh ay ?_;refine Gd.eC.cons rfl (λK hK=>?_) Gd.eC.nil;refine fH ?_;go_simp;refine hK.out _ _ ⟨trivial,Gr.alloc au.2 _⟩ (λau=>?_);clear hK K;refine Mk.pt ?_;refine Gd.ready (rs:=[9]) bh ay ?_;refine Gd.eC.cons rfl (λK hK=>?_) Gd.eC.nil;refine cJ rfl (.tmp 77) (.tmp 79) 24 rfl 3 underlying24 Vf.ck rfl bd dv ln.length (aX ln) (by simp[Act.eval,Act.put]) (M8.o.at_ (w1.alloc (CA #[Y xn] 3)) ((aY _ _).alloc (aL _) _)).2 (I w1.heap.size 0) 1 1 (λ_=> Y xn) (by simp[Act.eval,Act.put]) ?_ (λj _=>rfl) sD.o.1 sD.o.2 ?_
        ·intro j hj;obtain rfl:j=0:=G;exact(aF.new w1 3 #[Y xn]).cell 0
        intro v2 w2 r2 f2 i2;obtain⟨WU,WV,WW,rfl⟩:=Row.mG r2;obtain⟨RI,ff,TN,gm,jZ,l8⟩:=M8.o.fin (w1.alloc (CA #[Y xn] 3)) ((aY _ _).alloc (aL _) _) _ w2 r2 f2 i2;exact My
       ·refine fH ?_;go_simp;refine hK.out _ _ ⟨trivial,Gr.alloc au.2 _⟩ (λau=>?_);clear hK K;refine Mk.pt ?_;refine Gd.ready (rs:=[4]) bh ay ?_;refine Gd.eC.cons rfl (λK hK=>?_) Gd.eC.nil;have cR:=Z (show Below W.heap.size W ((V.alloc (CA #[.int .u64 xk] 46)).alloc (CA #[Y xn] 3))from(Xd.o.alloc Xd.o.size _).alloc (by rw[aM];have:=Xd.o.size;omega) _);refine cJ rfl (.tmp 72) (.tmp 74) 41 rfl 46 underlying41 vp rfl bd cv lk.length (pU lk) (by simp[Act.eval,Act.put]) (HRK.o _ cR.o) (I V.heap.size 0) 1 1 (λ_=> .int .u64 xk) (by simp[Act.eval,Act.put]) ?_ (λj _=>rfl) uj.o.1 uj.o.2 ?_
        ·intro j hj;obtain rfl:j=0:=G;exact((aF.new V 46 #[.int .u64 xk]).alloc (CA #[Y xn] 3)).cell 0
        intro v1 w1 r1 f1 i1;obtain⟨Z9,Z_,Vj,rfl⟩:=Row.mG r1;obtain⟨wY,Xe⟩:=HK.o _ w1 _ cR.o r1 f1 i1;have M8:=Z Xe;have Rl:=Z (show aF w1 (V.heap.size+1) 3 #[Y xn]by have:=(aF.new (V.alloc (CA #[.int .u64 xk] 46)) 3 #[Y xn]).aG f1 (λhc=>by have:=HCN.o _ hc;rw[aM]at this;omega);rw[aM]at this;exact this);clear r1 f1 i1 Xe cR;clear au;refine hK.out _ _ ⟨trivial,wY⟩ (λau=>?_);clear hK K;refine Mk.pt ?_;refine Gd.Ot (i:=10) (v:=?_) rfl bh bh bh bh bh (λ_ _ _ h=>Mk.jx h) (Or.inl ⟨by rfl,?_⟩) cY ?_;rotate_left
        ·exact Z6
        refine Mk.pt ?_;refine Gd.ready (rs:=[9]) bh ay ?_;refine Gd.eC.cons rfl (λK hK=>?_) Gd.eC.nil;refine cJ rfl (.tmp 77) (.tmp 79) 24 rfl 3 underlying24 Vf.ck rfl bd dv ln.length (aX ln) (by simp[Act.eval,Act.put]) (M8.o.at_ w1 (aY _ _)).2 (I (V.heap.size+1) 0) 1 1 (λ_=> Y xn) (by simp[Act.eval,Act.put]) ?_ (λj _=>rfl) sD.o.1 sD.o.2 ?_
        ·intro j hj;obtain rfl:j=0:=G;exact Rl.o.cell 0
        exact T1
      ·refine fH ?_;go_simp;refine hK.out _ _ ⟨trivial,Gr.alloc au.2 _⟩ (λau=>?_);clear hK K;refine Mk.pt ?_;refine Gd.ready (rs:=[3]) bh ay ?_;refine Gd.eC.cons rfl (λK hK=>?_) Gd.eC.nil;refine fH ?_;go_simp;refine hK.out _ _ ⟨trivial,Gr.alloc au.2 _⟩ (λau=>?_);clear hK K;refine Mk.pt ?_;refine Gd.ready (rs:=[4]) bh ay ?_;refine Gd.eC.cons rfl (λK hK=>?_) Gd.eC.nil;have cR:=Z (show Below W.heap.size W ((V.alloc (CA #[Y xn] 3)).alloc (CA #[.int .u64 xk] 46))from(Xd.o.alloc Xd.o.size _).alloc (by rw[aM];have:=Xd.o.size;omega) _);refine cJ rfl (.tmp 72) (.tmp 74) 41 rfl 46 underlying41 vp rfl bd cv lk.length (pU lk) (by simp[Act.eval,Act.put]) (HRK.o _ cR.o) (I (V.heap.size+1) 0) 1 1 (λ_=> .int .u64 xk) (by simp[Act.eval,Act.put]) ?_ (λj _=>rfl) uj.o.1 uj.o.2 ?_
       ·intro j hj;obtain rfl:j=0:=G;have:=(aF.new (V.alloc (CA #[Y xn] 3)) 46 #[.int .u64 xk]).cell 0;rw[aM]at this;exact this
       intro v1 w1 r1 f1 i1;obtain⟨Z9,Z_,Vj,rfl⟩:=Row.mG r1;obtain⟨wY,Xe⟩:=HK.o _ w1 _ cR.o r1 f1 i1;have M8:=Z Xe;have Rl:=Z (show aF w1 V.heap.size 3 #[Y xn]from((aF.new V 3 #[Y xn]).alloc (CA #[.int .u64 xk] 46)).aG f1 (λhc=>by have:=HCN.o _ hc;omega));clear r1 f1 i1 Xe cR;clear au;refine hK.out _ _ ⟨trivial,wY⟩ (λau=>?_);clear hK K;refine Mk.pt ?_;refine Gd.Ot (i:=10) (v:=?_) rfl bh bh bh bh bh (λ_ _ _ h=>Mk.jx h) (Or.inl ⟨by rfl,?_⟩) cY ?_;rotate_left
       ·exact Z6
       refine Mk.pt ?_;refine Gd.ready (rs:=[9]) bh ay ?_;refine Gd.eC.cons rfl (λK hK=>?_) Gd.eC.nil;refine cJ rfl (.tmp 77) (.tmp 79) 24 rfl 3 underlying24 Vf.ck rfl bd dv ln.length (aX ln) (by simp[Act.eval,Act.put]) (M8.o.at_ w1 (aY _ _)).2 (I V.heap.size 0) 1 1 (λ_=> Y xn) (by simp[Act.eval,Act.put]) ?_ (λj _=>rfl) sD.o.1 sD.o.2 ?_
       ·intro j hj;obtain rfl:j=0:=G;exact Rl.o.cell 0
       exact T1
     case done=>
      rintro D ys W hD rfl ⟨cv,dv,jh⟩ Xb;rw[Dn.o,J_.o]at jh;obtain⟨r0,r1,r2,r3⟩:=jh.o.k.b3.c4;obtain⟨s0,s1,s2,s3⟩:=jh.o.k.b2.c4;have abD:=jh.o.k.b2.frozen;have l2:=jh.o.k.b2.lt;have l3:=jh.o.k.b3.lt;have hDl:D<W.heap.size:=(Array.getElem?_eq_some_iff.1 Xb).1;have afm:=jh.o.k.kW;have hDn:D∉Xc:=λhc=>by have:=Up.o D hc;omega
      have kk:=jh.o.k.mark Xb hDn (by have:=jh.o.lay.le;omega);have lay:=jh.o.lay;obtain⟨a1,a2,a3,rfl⟩:=Row.mG lay.ls.row;obtain⟨b1,b2,b3,rfl⟩:=Row.mG lay.fr.row;obtain⟨c1,c2,c3,rfl⟩:=Row.mG lay.ks.row;obtain⟨d1,d2,d3,rfl⟩:=Row.mG lay.ns.row;clear jh Fw;go_wp2_with fail;have F9:∀v0 v1 v2 v3,aA [w.heap.size] W ((((W.setCell (I w.heap.size 0) v0).setCell (I w.heap.size 1) v1).setCell (I w.heap.size 2) v2).setCell (I w.heap.size 3) v3):=λv0 v1 v2 v3=>((((aA.refl [w.heap.size] W).setCell ay _).setCell ay _).setCell ay _).setCell ay _;have E9:∀v0 v1 v2 v3,aF ((((W.setCell (I w.heap.size 0) v0).setCell (I w.heap.size 1) v1).setCell (I w.heap.size 2) v2).setCell (I w.heap.size 3) v3) w.heap.size 52 #[v0,v1,v2,v3]:=λv0 v1 v2 v3=>(((kk.b2.set 0 v0).set 1 v1).set 2 v2).set 3 v3;have G9:∀v0 v1 v2 v3,Below w.heap.size w ((((W.setCell (I w.heap.size 0) v0).setCell (I w.heap.size 1) v1).setCell (I w.heap.size 2) v2).setCell (I w.heap.size 3) v3):=λv0 v1 v2 v3=>(((kk.rO.setCell (aL _) _).setCell (aL _) _).setCell (aL _) _).setCell (aL _) _;replace F9:=F9 (H a1 a2 a3) (H b1 b2 b3) (H c1 c2 c3) (H d1 d2 d3);replace E9:=E9 (H a1 a2 a3) (H b1 b2 b3) (H c1 c2 c3) (H d1 d2 d3);replace G9:=G9 (H a1 a2 a3) (H b1 b2 b3) (H c1 c2 c3) (H d1 d2 d3);have nlo:∀D',D'∈D::Xc->xb+1<=D':=kk.ml;have M9:=kk.sV.keeps λk hk=>F9.block k (kk.sV.lt hk) (by simp;have:=nlo k hk;omega);have abC:=lay.off F9 (λb X=>by simp at X;subst X;exact .inl (.inl G));have abB:=F9.size;generalize(((W.setCell (I w.heap.size 0) (H a1 a2 a3)).setCell (I w.heap.size 1) (H b1 b2 b3)).setCell (I w.heap.size 2) (H c1 c2 c3)).setCell (I w.heap.size 3) (H d1 d2 d3)=W9 at*;refine Mk.tC (D::Xc) _ M9 λW' Ei=>?_;have b':aF W' w.heap.size 52 #[H a1 a2 a3,H b1 b2 b3,H c1 c2 c3,H d1 d2 d3]:=E9.of (Ei.cells M9 E9.AH);have L':=abC.off Ei.aG (λb X=> .inr (.inr ⟨_,M9.at_ b X,rfl⟩));obtain⟨i0,i1,i2,i3⟩:=b'.c4;refine⟨.agg #[H a1 a2 a3,H b1 b2 b3,H c1 c2 c3,H d1 d2 d3],by simp[results,results19,go_sem,i0,i1,i2,i3],?_⟩;refine⟨L,_,_,_,_,g1,w7.heap.size,Ze,HKS.o,rfl,G9.trans (Ei.below λD' hD'=>by have:=nlo D' hD';omega),?_⟩;have abA:=L'.mono (hi':=W'.heap.size) (by rw[Ei.size];exact abB);exact abA.lower G
end
end Go.Ma
namespace Go.Ma
open Go.RowKit aj.Vm
open aj hiding aR an ak
open Vf (Kp fW pV aZ cV)
def iI(w:ek)(C:Co)(lo:Nat)(p:aQ)(c:Cp)(s:St)(t:dZ)(used:Int):Prop:=∃(RO:List Nat) (K:Kc) (T:Map),Mx w C RO K p c s t used (.pointer MT)/\Gi K C.mb p c/\Env p c T/\nw p/\Inv (aC p c) s/\(∀b,b∈C.l++RO->lo<=b)
section
variable {w w':ek}{C:Co}{lo:Nat}{p:aQ}{c:Cp}{s:St}{t:dZ}{used:Int}
def iI.later(h:iI w C lo p c s t used)(b:Below w.heap.size w w'):iI w' C lo p c s t used:=by obtain⟨RO,K,T,h1,h2⟩:=h;exact⟨RO,K,T,h1.later b,h2⟩
def iI.lt(h:iI w C lo p c s t used){b:Nat}(X:b∈C.l):lo<=b/\b<w.heap.size:=by obtain⟨RO,K,T,h1,-,-,-,-,h2⟩:=h;exact⟨h2 b (by simp[X]),h1.sep.lt b X⟩
def iI.aeE(h:iI w C lo p c s t used):tM p:=by obtain⟨RO,K,T,-,h2,-⟩:=h;exact(cE h2.check).1
def iI.inv(h:iI w C lo p c s t used):Inv (aC p c) s:=by obtain⟨RO,K,T,-,-,-,-,h2,-⟩:=h;exact h2
def bT.low{C':Co}(k:bT w w' C C')(h:∀b,b∈C.l->lo<=b)(hs:lo<=w.heap.size):Below lo w w':=k.f.below hs h
def aeF(w:ek)(C:Co)(lo:Nat)(p:aQ)(c:Cp)(s:St)(t:dZ)(key:Nat)(e:Ending)(w':ek):Prop:=
 ∃(tv:to) (C':Co),e=Vl (.agg #[.bool (if jc p c s key=0 then rG p c s key else false),tv,Y (jc p c s key)])/\bT w w' C C'/\
  iI w' C' lo p c (nr p c s key) (if jc p c s key=0 then tX t (rG p c s key) (rR p c s key)else t) (uz p c s key).1/\
  yP w' tv (if jc p c s key=0 then rR p c s key else[])/\∀b,b∈vb tv->b∉C'.l/\b∉Ma.rest w C
def abz(h:iI w C lo p c s t used)(hl:lo<=w.heap.size){key:Nat}(hk:key<18446744073709551616):
 Calls prog 17 #[V5 C.mb,.int .u64 key] w (aeF w C lo p c s t key):=by
 obtain⟨RO,K,T,h1,M,V,hS,hI,jo⟩:=h;have U_:Calls prog 17 #[V5 C.mb,.int .u64 key] w (je w C RO K p c t s key):=by
  cases hf:s.f key with
  |none=>exact wm M V hS h1 hI hk hf
  |some n=>obtain⟨q,hq,hn,-⟩:=(hI.idx key n).1 hf;exact Bn M V hS h1 hI hk hf hq hn rfl
 refine U_.mono ?_;rintro e w' ⟨tv,C',rfl,k,m,ht,X⟩;refine⟨tv,C',rfl,k,⟨RO,K,T,m,by rw[k.mb];exact M,V,hS,oW V hS hI hk,λb jV=>?_⟩,ht,X⟩;rw[fk]at jV;rcases jV with jV|jV
 ·rcases k.c b jV with h2|h2
  ·exact jo b (by simp[h2])
  ·omega
 ·exact jo b (by simp[jV])
def IK(h:iI w C lo p c s t used):Calls prog 19 #[V5 C.mb] w (ul w p s (dw (aC p c))):=by obtain⟨RO,K,T,h1,M,V,hS,hI,jo⟩:=h;have:=abF h1 (cE M.check).1 M.AY;rw[M.nd]at this;exact this
def Km(h:iI w C lo p c s t used):Calls prog 28 #[V5 C.mb] w (λe w'=>e=Vl (Y used)/\w'=w):=by obtain⟨RO,K,T,h1,-⟩:=h;exact(Qj h1).mono λe w' hh=>⟨hh.1,hh.2.symm⟩
def MP(w:ek)(p:aQ)(c:Cp)(e:Ending)(w':ek):Prop:=Below w.heap.size w w'/\
 ((¬((aW p).1=0/\mi p c=true)/\∃er:Int,er≠0/\e=Vl (.tuple #[.pointer MT,Y er]))\/
  ((aW p).1=0/\mi p c=true/\∃C:Co,e=Vl (.tuple #[V5 C.mb,Y 0])/\iI w' C w.heap.size p c (zs p) ⟨0,0,0,0⟩ 0))
def Qy{p:aQ}{c:Cp}(hv:(aW p).1=0)(ni:mi p c=true):∃T,Env p c T:=by obtain⟨hc,T,hT,-⟩:=tL rfl hv;have h:=ni;unfold mi at h;simp only[fp]at h;exact⟨T,hT,hc,Vf.Bl h.1⟩
def IM{K:Kp}{qv:to}(h:fW w K p)(hq:aZ w 1 qv c.aK.length (aX c.aK))(hS:(aW p).1=0->mi p c=true->nw p):Calls prog 16 #[pV K p,cV c qv] w (MP w p c):=by
 refine(Ef h hq).mono ?_;rintro e w' ⟨X,h1|h1|h1⟩
 ·exact⟨X,.inl ⟨λh=>h1.1 h.1,_,h1.1,h1.2⟩⟩
 ·exact⟨X,.inl ⟨λh=>by rw[h.2]at h1;exact absurd h1.2.1 ay,45,bd,h1.2.2⟩⟩
 ·obtain⟨hv,ni,C,RO,K',rfl,m,M,jo⟩:=h1;obtain⟨T,V⟩:=Qy hv ni;exact⟨X,.inr ⟨hv,ni,C,rfl,RO,K',T,m,M,V,hS hv ni,Kl c (cE M.check).1,jo⟩⟩
end
end Go.Ma
