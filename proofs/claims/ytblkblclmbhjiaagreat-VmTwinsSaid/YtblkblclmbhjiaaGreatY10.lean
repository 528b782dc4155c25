import Derived.Test.YtblkblclmbhjiaaGreatY8
import Derived.Test.YtblkblclmbhjiaaGreatY9
set_option linter.all false
set_option maxHeartbeats 40000000
set_option maxRecDepth 100000
open Go.Proofs.Tryz
open Option renaming some->O,none->MT
open Go renaming Value->to,World->ek
open Go.Value renaming slice->H
open Go.Obj renaming cells->CA
open Go.Ending renaming returned->Vl
open Go.World renaming cell?->Vo
namespace Go.Rv
open Go.RowKit aj.Vm
open aj hiding aR an ak
open Ma (dP ci aX vb aI aV)
open Vf (Kp fW pV rT bN aZ iw gZ)
def jt(p:aQ):Int×Int:=if bq p≠0 then(bq p,0)else match fB p p.code.length 0 (gO p)with| .inl (e,at_)=>(e,(at_:Int))| .inr _=>(0,0)
def adG(w:ek)(p:aQ)(e:Ending)(w':ek):Prop:=∃pv,e=Vl (.tuple #[pv,.agg #[Y (jt p).1,Y (jt p).2]])/\Below w.heap.size w w'
def vB{R:Ending->ek->Prop}{A:Array to}{W:ek}{fb:Nat}{u v pv:to}(h2:A.getD 2 undef=pv)(h3:A.getD 3 undef=V5 fb)(kf:aF W fb 99 #[u,v])
 (hR:R (Vl (.tuple #[pv,.agg #[u,v]])) W):bodyPost prog Proofs.Tryz.f144 R .ret {tmps:=A,defers:=[]} W:=by
 obtain⟨f0,f1⟩:=kf.c2;rw[yZ]at h2 h3;refine bK (v:= .tuple #[pv,.agg #[u,v]]) ?_ rfl hR;simp[results,results144,go_sem,h2,h3,f0,f1]
def RLK(W1:ek)(K:Kp)(p:aQ)(pb fb:Nat)(a:Act)(W:ek):Prop:=∃(J:Nat->to) (lb A U S:Nat),a=FL J/\J 1=V5 pb/\J 3=V5 fb/\J 5=Y p.code.length/\J 6=V5 lb/\Hid (Below W1.heap.size W1 W)/\Hid (LB W K p lb A U S (λ_=>s0) (λ_=>false))/\Hid (W1.heap.size<=A/\W1.heap.size<=U/\W1.heap.size<=S)
def q_:(prog.info? 262).map (λi=>(i.zero,i.size,i.bytes))=O (O (.agg #[.string ⟨#[]⟩,Y 0,Y 0,.bool false]),4,40):=by kernel_rfl
def nE:(prog.info? 4).map (λi=>(i.zero,i.size,i.bytes))=O (O (.bool false),1,1):=by kernel_rfl
def MQ(o:Nat):(#[.string ⟨#[]⟩,Y 0,Y 0,.bool false]:Array to).getD (o % 4) undef=Fz (λ_=>s0) o:=rfl
def Bu{p:Prop}(h:p:=by
 unfold IY;rw[HK.o.1,HK.o.2.1,HK.o.2.2.1,HK.o.2.2.2.1,HK.o.2.2.2.2];exact aF.new _ _ _):p:=h
def Iy{w:ek}{K:Kp}{p:aQ}(h:fW w K p):Calls prog 144 #[pV K p] w (adG w p):=by
 obtain⟨⟨ga,gc,g1,g2,g3⟩,⟨va,vc,v1,v2,v3⟩,⟨ta,tc,t1,t2,t3⟩,⟨oa,oc,o1,o2,o3⟩,⟨ca,cc,c1,c2,c3⟩⟩:=h.sl;have Nn:=Z (λV (X:Below w.heap.size w V)=>CF (w:=V) (h.aG (aA.af X)));have a0g:=Z h;obtain⟨W0,kX⟩:∃W0,W0=(w.alloc (CA #[H ga p.ax.length gc,H va p.vars.length vc,H ta p.aS.length tc,H oa p.on.length oc,Y p.aT,H ca p.code.length cc] 27)).alloc (CA #[Y 0,Y 0] 99):=⟨_,rfl⟩;have kp:aF W0 w.heap.size 27 (iw K p):=by rw[kX];unfold iw;rw[g1,v1,t1,o1,c1];exact(aF.new _ _ _).alloc _
 have kf:aF W0 (w.heap.size+1) 99 #[Y 0,Y 0]:=by rw[kX];exact aF.bR ay
 have ep:Below w.heap.size w W0:=by rw[kX];exact((aY _ _).alloc (aL _) _).alloc ay _
 have ru:W0.heap.size=w.heap.size+1+1:=by rw[kX];simp
 have HK:=Z (And.intro g1 (And.intro v1 (And.intro t1 (And.intro o1 c1))));unfold pV at Nn ⊢;rw[g1,v1,t1,o1,c1]at Nn ⊢;clear h g1 v1 t1 o1 c1 g2 g3 v2 v3 t2 t3 o2 o3 c2 c3;go_enter func144,ntmps144;go_wp2_with fail;rw[<-kX];refine(Nn.o _ ep).mono ?_;rintro e W1 ⟨rfl,X⟩;have KP:=Z (kp.of (X.block _ kp.lt));have KF:=Z (kf.of (X.block _ kf.lt));have cR:=Z (ep.trans (X.mono ep.size));have tu:Hid (w.heap.size+1<W1.heap.size):=Z (by have:=X.size;omega);clear kp kf X ep ru kX Nn;obtain⟨f0,f1⟩:=KF.o.c2;have hff:=KF.o.frozen;have lf:=KF.o.lt;by_cases sr:bq p=0
 case neg=>
  have HV:=Z (show jt p=(bq p,0)by unfold jt;rw[aB sr]);have bm:(bq p !=0)=true:=by simpa using sr
  generalize bq p=ce at*;clear sr;go_wp2_with fail
  first
   |refine vB (fb:=w.heap.size+1) rfl rfl ((KF.o.set 0 (.int .i64 ce)).set 1 (.int .i64 0)) ?_
   |(rw[jO];refine vB (fb:=w.heap.size+1) rfl rfl ((KF.o.set 0 (.int .i64 ce)).set 1 (.int .i64 0)) ?_)
  exact⟨_,by rw[HV.o],by exact(cR.o.setCell (p:=(I (w.heap.size+1) 0)) ay _).setCell (p:=(I (w.heap.size+1) 1)) ay _⟩
 obtain⟨tb,qT⟩:=cE sr;have HCD:=Z qT;have TB:=Z tb;have hlen:=tb.code;have uj:=Z (show jt p=(match fB p p.code.length 0 (gO p)with| .inl (e,at_)=>(e,(at_:Int))| .inr _=>(0,0))by unfold jt;rw[aw (by simp[sr])]);rw[sr];clear sr qT tb;have p0:Vo W1 (I w.heap.size 0)=O (H ga p.ax.length gc):=by rw[<-HK.o.1];exact KP.o.cell 0
 have p1:Vo W1 (I w.heap.size 1)=O (H va p.vars.length vc):=by rw[<-HK.o.2.1];exact KP.o.cell 1
 have p2:Vo W1 (I w.heap.size 2)=O (H ta p.aS.length tc):=by rw[<-HK.o.2.2.1];exact KP.o.cell 2
 have p3:Vo W1 (I w.heap.size 3)=O (H oa p.on.length oc):=by rw[<-HK.o.2.2.2.1];exact KP.o.cell 3
 have p4:Vo W1 (I w.heap.size 4)=O (Y p.aT):=KP.o.cell 4;have p5:Vo W1 (I w.heap.size 5)=O (H ca p.code.length cc):=by rw[<-HK.o.2.2.2.2];exact KP.o.cell 5
 have lp:=KP.o.lt;have jN:Hid (40*p.code.length<=281474976710656/\8*p.code.length<=281474976710656/\1*p.code.length<=281474976710656/\p.code.length<=maxLen):=Z ⟨G,G,G,by unfold maxLen;omega⟩;clear f0 f1 hff lf;go_wp2;refine wp_mono (Q:=λe a W=>e=Exit.normal/\RLK W1 K p w.heap.size (w.heap.size+1) a W) ?_ ?_
 ·refine Mk.bH (S:=λwx=>Below W1.heap.size W1 wx) bh (az _ W1 1) (λau=>?_);refine Mk.tk 0 (v:=?_) rfl (λwz fj=>?_) au ?_;rotate_left
  ·exact io
  refine Mk.pt ?_;refine Mk.fC 1 ?_;refine Mk.fC 3 ?_;refine Mk.fC 5 ?_;refine Mk.oD (rs:=[2,4,6]) (bZ rfl (λK9 hK=>?_) (bZ rfl (λK9 hK=>?_) (bZ rfl (λK9 hK=>?_) cK)))
  ·refine bO rfl (.tmp 21) (.tmp 21) 258 rfl 262 underlying258 q_ rfl bd .i64 .i64 _ _ p.code.length rfl rfl rfl rfl jN.o.1 jN.o.2.2.2 ?_;intro Wa Xr hba;have hS:=au.trans (hba.mono au.size);have Xs:=au.size;clear au;refine hK.out _ _ hS (λau=>?_);clear hK K9;refine Mk.pt ?_;refine Mk.oD (rs:=[4,6]) (bZ rfl (λK9 hK=>?_) (bZ rfl (λK9 hK=>?_) cK))
   ·refine bO rfl (.tmp 23) (.tmp 23) 24 rfl 3 underlying24 Vf.ck rfl bd .i64 .i64 _ _ p.code.length rfl rfl rfl rfl jN.o.2.1 jN.o.2.2.2 ?_;intro Wb oE qK;have hS:=au.trans (qK.mono au.size);have MY:=au.size;clear au;refine hK.out _ _ hS (λau=>?_);clear hK K9;refine Mk.pt ?_;refine Mk.oD (rs:=[6]) (bZ rfl (λK9 hK=>?_) cK);refine bO rfl (.tmp 25) (.tmp 25) 22 rfl 4 underlying22 nE rfl bd .i64 .i64 _ _ p.code.length rfl rfl rfl rfl jN.o.2.2.1 jN.o.2.2.2 ?_;intro Wc Kb uF;have hS:=au.trans (uF.mono au.size);have Q5:=au.size;clear au;refine hK.out _ _ hS (λau=>?_);clear hK K9;refine Mk.pt ?_;refine Mk.fC 7 ?_;refine Mk.oD (rs:=[8]) (bZ rfl (λK9 hK=>?_) cK);refine fH ?_;go_simp;refine hK.out _ _ (au.alloc au.size _) (λau=>?_);clear hK K9;refine Mk.pt ?_;refine Mk.fC 9 ?_;refine fx bh ⟨rfl,rfl,_,_,_,_,_,FL.of _ rfl,rfl,rfl,rfl,rfl,Z au,Z ⟨?_,((((Xr.aG (aA.af (S:=[]) qK) ay).aG (aA.af (S:=[]) uF) ay).alloc _)).congr (λo _=>MQ o),(((oE.aG (aA.af (S:=[]) uF) ay).alloc _)).congr (λo _=>by rw[Nat.mod_one];rfl),((Kb.alloc _)).congr (λo _=>by rw[Nat.mod_one];rfl)⟩,Z ⟨Xs,MY,Q5⟩⟩ _;exact Bu
   ·refine bO rfl (.tmp 25) (.tmp 25) 22 rfl 4 underlying22 nE rfl bd .i64 .i64 _ _ p.code.length rfl rfl rfl rfl jN.o.2.2.1 jN.o.2.2.2 ?_;intro Wb oE qK;have hS:=au.trans (qK.mono au.size);have MY:=au.size;clear au;refine hK.out _ _ hS (λau=>?_);clear hK K9;refine Mk.pt ?_;refine Mk.oD (rs:=[4]) (bZ rfl (λK9 hK=>?_) cK);refine bO rfl (.tmp 23) (.tmp 23) 24 rfl 3 underlying24 Vf.ck rfl bd .i64 .i64 _ _ p.code.length rfl rfl rfl rfl jN.o.2.1 jN.o.2.2.2 ?_;intro Wc Kb uF;have hS:=au.trans (uF.mono au.size);have Q5:=au.size;clear au;refine hK.out _ _ hS (λau=>?_);clear hK K9;refine Mk.pt ?_;refine Mk.fC 7 ?_;refine Mk.oD (rs:=[8]) (bZ rfl (λK9 hK=>?_) cK);refine fH ?_;go_simp;refine hK.out _ _ (au.alloc au.size _) (λau=>?_);clear hK K9;refine Mk.pt ?_;refine Mk.fC 9 ?_;refine fx bh ⟨rfl,rfl,_,_,_,_,_,FL.of _ rfl,rfl,rfl,rfl,rfl,Z au,Z ⟨?_,((((Xr.aG (aA.af (S:=[]) qK) ay).aG (aA.af (S:=[]) uF) ay).alloc _)).congr (λo _=>MQ o),((Kb.alloc _)).congr (λo _=>by rw[Nat.mod_one];rfl),(((oE.aG (aA.af (S:=[]) uF) ay).alloc _)).congr (λo _=>by rw[Nat.mod_one];rfl)⟩,Z ⟨Xs,Q5,MY⟩⟩ _;exact Bu
  ·refine bO rfl (.tmp 23) (.tmp 23) 24 rfl 3 underlying24 Vf.ck rfl bd .i64 .i64 _ _ p.code.length rfl rfl rfl rfl jN.o.2.1 jN.o.2.2.2 ?_;intro Wa Xr hba;have hS:=au.trans (hba.mono au.size);have Xs:=au.size;clear au;refine hK.out _ _ hS (λau=>?_);clear hK K9;refine Mk.pt ?_;refine Mk.oD (rs:=[2,6]) (bZ rfl (λK9 hK=>?_) (bZ rfl (λK9 hK=>?_) cK))
   ·refine bO rfl (.tmp 21) (.tmp 21) 258 rfl 262 underlying258 q_ rfl bd .i64 .i64 _ _ p.code.length rfl rfl rfl rfl jN.o.1 jN.o.2.2.2 ?_;intro Wb oE qK;have hS:=au.trans (qK.mono au.size);have MY:=au.size;clear au;refine hK.out _ _ hS (λau=>?_);clear hK K9;refine Mk.pt ?_;refine Mk.oD (rs:=[6]) (bZ rfl (λK9 hK=>?_) cK);refine bO rfl (.tmp 25) (.tmp 25) 22 rfl 4 underlying22 nE rfl bd .i64 .i64 _ _ p.code.length rfl rfl rfl rfl jN.o.2.2.1 jN.o.2.2.2 ?_;intro Wc Kb uF;have hS:=au.trans (uF.mono au.size);have Q5:=au.size;clear au;refine hK.out _ _ hS (λau=>?_);clear hK K9;refine Mk.pt ?_;refine Mk.fC 7 ?_;refine Mk.oD (rs:=[8]) (bZ rfl (λK9 hK=>?_) cK);refine fH ?_;go_simp;refine hK.out _ _ (au.alloc au.size _) (λau=>?_);clear hK K9;refine Mk.pt ?_;refine Mk.fC 9 ?_;refine fx bh ⟨rfl,rfl,_,_,_,_,_,FL.of _ rfl,rfl,rfl,rfl,rfl,Z au,Z ⟨?_,(((oE.aG (aA.af (S:=[]) uF) ay).alloc _)).congr (λo _=>MQ o),((((Xr.aG (aA.af (S:=[]) qK) ay).aG (aA.af (S:=[]) uF) ay).alloc _)).congr (λo _=>by rw[Nat.mod_one];rfl),((Kb.alloc _)).congr (λo _=>by rw[Nat.mod_one];rfl)⟩,Z ⟨MY,Xs,Q5⟩⟩ _;exact Bu
   ·refine bO rfl (.tmp 25) (.tmp 25) 22 rfl 4 underlying22 nE rfl bd .i64 .i64 _ _ p.code.length rfl rfl rfl rfl jN.o.2.2.1 jN.o.2.2.2 ?_;intro Wb oE qK;have hS:=au.trans (qK.mono au.size);have MY:=au.size;clear au;refine hK.out _ _ hS (λau=>?_);clear hK K9;refine Mk.pt ?_;refine Mk.oD (rs:=[2]) (bZ rfl (λK9 hK=>?_) cK);refine bO rfl (.tmp 21) (.tmp 21) 258 rfl 262 underlying258 q_ rfl bd .i64 .i64 _ _ p.code.length rfl rfl rfl rfl jN.o.1 jN.o.2.2.2 ?_;intro Wc Kb uF;have hS:=au.trans (uF.mono au.size);have Q5:=au.size;clear au;refine hK.out _ _ hS (λau=>?_);clear hK K9;refine Mk.pt ?_;refine Mk.fC 7 ?_;refine Mk.oD (rs:=[8]) (bZ rfl (λK9 hK=>?_) cK);refine fH ?_;go_simp;refine hK.out _ _ (au.alloc au.size _) (λau=>?_);clear hK K9;refine Mk.pt ?_;refine Mk.fC 9 ?_;refine fx bh ⟨rfl,rfl,_,_,_,_,_,FL.of _ rfl,rfl,rfl,rfl,rfl,Z au,Z ⟨?_,((Kb.alloc _)).congr (λo _=>MQ o),((((Xr.aG (aA.af (S:=[]) qK) ay).aG (aA.af (S:=[]) uF) ay).alloc _)).congr (λo _=>by rw[Nat.mod_one];rfl),(((oE.aG (aA.af (S:=[]) uF) ay).alloc _)).congr (λo _=>by rw[Nat.mod_one];rfl)⟩,Z ⟨Q5,Xs,MY⟩⟩ _;exact Bu
  ·refine bO rfl (.tmp 25) (.tmp 25) 22 rfl 4 underlying22 nE rfl bd .i64 .i64 _ _ p.code.length rfl rfl rfl rfl jN.o.2.2.1 jN.o.2.2.2 ?_;intro Wa Xr hba;have hS:=au.trans (hba.mono au.size);have Xs:=au.size;clear au;refine hK.out _ _ hS (λau=>?_);clear hK K9;refine Mk.pt ?_;refine Mk.oD (rs:=[2,4]) (bZ rfl (λK9 hK=>?_) (bZ rfl (λK9 hK=>?_) cK))
   ·refine bO rfl (.tmp 21) (.tmp 21) 258 rfl 262 underlying258 q_ rfl bd .i64 .i64 _ _ p.code.length rfl rfl rfl rfl jN.o.1 jN.o.2.2.2 ?_;intro Wb oE qK;have hS:=au.trans (qK.mono au.size);have MY:=au.size;clear au;refine hK.out _ _ hS (λau=>?_);clear hK K9;refine Mk.pt ?_;refine Mk.oD (rs:=[4]) (bZ rfl (λK9 hK=>?_) cK);refine bO rfl (.tmp 23) (.tmp 23) 24 rfl 3 underlying24 Vf.ck rfl bd .i64 .i64 _ _ p.code.length rfl rfl rfl rfl jN.o.2.1 jN.o.2.2.2 ?_;intro Wc Kb uF;have hS:=au.trans (uF.mono au.size);have Q5:=au.size;clear au;refine hK.out _ _ hS (λau=>?_);clear hK K9;refine Mk.pt ?_;refine Mk.fC 7 ?_;refine Mk.oD (rs:=[8]) (bZ rfl (λK9 hK=>?_) cK);refine fH ?_;go_simp;refine hK.out _ _ (au.alloc au.size _) (λau=>?_);clear hK K9;refine Mk.pt ?_;refine Mk.fC 9 ?_;refine fx bh ⟨rfl,rfl,_,_,_,_,_,FL.of _ rfl,rfl,rfl,rfl,rfl,Z au,Z ⟨?_,(((oE.aG (aA.af (S:=[]) uF) ay).alloc _)).congr (λo _=>MQ o),((Kb.alloc _)).congr (λo _=>by rw[Nat.mod_one];rfl),((((Xr.aG (aA.af (S:=[]) qK) ay).aG (aA.af (S:=[]) uF) ay).alloc _)).congr (λo _=>by rw[Nat.mod_one];rfl)⟩,Z ⟨MY,Q5,Xs⟩⟩ _;exact Bu
   ·refine bO rfl (.tmp 23) (.tmp 23) 24 rfl 3 underlying24 Vf.ck rfl bd .i64 .i64 _ _ p.code.length rfl rfl rfl rfl jN.o.2.1 jN.o.2.2.2 ?_;intro Wb oE qK;have hS:=au.trans (qK.mono au.size);have MY:=au.size;clear au;refine hK.out _ _ hS (λau=>?_);clear hK K9;refine Mk.pt ?_;refine Mk.oD (rs:=[2]) (bZ rfl (λK9 hK=>?_) cK);refine bO rfl (.tmp 21) (.tmp 21) 258 rfl 262 underlying258 q_ rfl bd .i64 .i64 _ _ p.code.length rfl rfl rfl rfl jN.o.1 jN.o.2.2.2 ?_;intro Wc Kb uF;have hS:=au.trans (uF.mono au.size);have Q5:=au.size;clear au;refine hK.out _ _ hS (λau=>?_);clear hK K9;refine Mk.pt ?_;refine Mk.fC 7 ?_;refine Mk.oD (rs:=[8]) (bZ rfl (λK9 hK=>?_) cK);refine fH ?_;go_simp;refine hK.out _ _ (au.alloc au.size _) (λau=>?_);clear hK K9;refine Mk.pt ?_;refine Mk.fC 9 ?_;refine fx bh ⟨rfl,rfl,_,_,_,_,_,FL.of _ rfl,rfl,rfl,rfl,rfl,Z au,Z ⟨?_,((Kb.alloc _)).congr (λo _=>MQ o),(((oE.aG (aA.af (S:=[]) uF) ay).alloc _)).congr (λo _=>by rw[Nat.mod_one];rfl),((((Xr.aG (aA.af (S:=[]) qK) ay).aG (aA.af (S:=[]) uF) ay).alloc _)).congr (λo _=>by rw[Nat.mod_one];rfl)⟩,Z ⟨Q5,MY,Xs⟩⟩ _;exact Bu
 rintro e a W4 ⟨rfl,J,lb,A,U,S,rfl,j1,j3,j5,j6,jK,HLB,BL⟩;clear p0 p1 p2 p3 p4 p5 lp jN;unfold FL;rw[j1,j3,j5,j6];clear j1 j3 j5 j6;have UO:=Z (cR.o.trans (jK.o.mono cR.o.size));have KF4:=Z (KF.o.of (jK.o.block _ KF.o.lt));have KP4:=Z (KP.o.of (jK.o.block _ KP.o.lt));have Vc:=Z (show w.heap.size<=A/\w.heap.size<=U/\w.heap.size<=S by have:=tu.o;have:=BL.o;omega);have ep:vz (p.on++[p.aT]) 0=(λ_=>s0)/\vA (p.on++[p.aT]) 0=(λ_=>false):=⟨by funext n;simp[vz],by funext n;simp[vA]⟩;have eV:=Z ep;clear ep;go_wp2_with fail;refine lo1 (W4:=W4) (A:=A) (U:=U) (S:=S) (Z (a0g.o.aG (aA.af (by exact UO.o)))) KP4 (Z (by have:=tu.o;have:=BL.o;omega)) (Z (λhon b off c e=>by
  obtain⟨b',Zp,oh,e',-,-,hl,-⟩:=a0g.o.o.some hon G;rw[e]at e';simp only[cz,im,Addr.mk.injEq]at e';have:=Vc.o;omega)) TB.o (λJ3 W5 j1 j3 j5 j6 RQ hl5=>?_) ⟨_,0,FL.of _ rfl,rfl,rfl,rfl,rfl,rfl,cM _,G,Z (aA.refl _ _),Z (by rw[eV.o.1,eV.o.2];exact HLB.o)⟩
 have Og:=Z RQ;have FQ:=Z hl5.done;have nU:=Z (UO.o.trans (RQ.below UO.o.size (by have:=Vc.o;simp;omega)));have ZG:=Z (KF4.o.aG RQ (by have:=tu.o;have:=BL.o;simp;omega));unfold FL;rw[j1,j3,j5,j6];clear j1 j3 j5 j6 RQ hl5;go_wp2_with fail;refine pg (W5:=W5) (A:=A) (U:=U) (S:=S) (lb:=lb) (Z (λV hf=>a0g.o.aG (aA.af (by exact nU.o.trans (hf.below nU.o.size (by have:=Vc.o;simp;omega)))))) ZG (Z (by have:=tu.o;have:=BL.o;omega)) hlen HCD (λB W6 i e h2 h3 hf6 bm Np=>?_) (λJ6 W6 L j3 j6 hf6 Np=>?_) ⟨_,0,gO p,FL.of _ rfl,rfl,rfl,rfl,rfl,cM _,G,Z (aA.refl _ _),FQ,Z (λh=>adX h),Z (by rw[Nat.sub_zero])⟩
 ·try simp only[Exit.inBlock,Exit.then]
  have HV:=Z (show jt p=(e,(i:Int))by rw[uj.o,Np]);have hk:=ZG.o.aG hf6 (by have:=tu.o;have:=BL.o;simp;omega);have AK:=nU.o.trans (hf6.below nU.o.size (by have:=Vc.o;simp;omega))
  first
   |refine vB (fb:=w.heap.size+1) h2 h3 ((hk.set 0 (.int .i64 e)).set 1 (.int .i64 i)) ?_
   |(rw[jO];refine vB (fb:=w.heap.size+1) h2 h3 ((hk.set 0 (.int .i64 e)).set 1 (.int .i64 i)) ?_)
  exact⟨_,by rw[HV.o],by exact(AK.setCell (p:=(I (w.heap.size+1) 0)) ay _).setCell (p:=(I (w.heap.size+1) 1)) ay _⟩
 ·have HV:=Z (show jt p=(0,0)by rw[uj.o,Np]);have Ng:=Z (ZG.o.aG hf6 (by have:=tu.o;have:=BL.o;simp;omega));have wk:=Z (nU.o.trans (hf6.below nU.o.size (by have:=Vc.o;simp;omega)));unfold FL;rw[j3,j6];clear j3 j6 hf6 Np;obtain⟨f0,f1⟩:=Ng.o.c2;have hff:=Ng.o.frozen;have lf:=Ng.o.lt;go_wp2_with fail
  first
   |refine vB (fb:=w.heap.size+1) rfl rfl ((Ng.o.set 0 (.int .i64 0)).set 1 (.int .i64 0)) ?_
   |(rw[jO];refine vB (fb:=w.heap.size+1) rfl rfl ((Ng.o.set 0 (.int .i64 0)).set 1 (.int .i64 0)) ?_)
  exact⟨_,by rw[HV.o],by exact(wk.o.setCell (p:=(I (w.heap.size+1) 0)) ay _).setCell (p:=(I (w.heap.size+1) 1)) ay _⟩
end Go.Rv
section
namespace aj.Vm
def uv{a b:Nat}(ha:a<=MS)(X:b<=MS):bG a b=min (a+b) MS:=by unfold bG;split<;>omega
def aaC{a b:Nat}(ha:a<=MS)(X:b<=MS):bG 1 (bG a b)=bG (bG 1 a) b:=by
 have h1:1<=MS:=by decide
 rw[uv ha X,uv h1 G,uv h1 ha,uv G X];omega
end aj.Vm
namespace Go.Rv
open Go.RowKit aj.Vm
open aj hiding aR an ak
open Ma (dP ci aX vb aI aV)
open Vf (Kp fW pV rT bN aZ gC ck)
def FH(J:Nat->to):Act:={tmps:=#[J 0,J 1,J 2,J 3,J 4,J 5,J 6,J 7,J 8,J 9,J 10,J 11,J 12,J 13,J 14,J 15,J 16,J 17,J 18,J 19,J 20,J 21,J 22,J 23,J 24,J 25,J 26,J 27,J 28,J 29,J 30,J 31,J 32,J 33,J 34,J 35,J 36,J 37,J 38,J 39,J 40,J 41,J 42,J 43,J 44,J 45,J 46,J 47,J 48,J 49,J 50,J 51,J 52,J 53,J 54,J 55,J 56,J 57,J 58,J 59,J 60,J 61,J 62,J 63,J 64,J 65,J 66,J 67,J 68,J 69,J 70,J 71,J 72,J 73,J 74,J 75,J 76,J 77,J 78,J 79,J 80,J 81,J 82,J 83,J 84],defers:=[]}
def FH.of(A:Array to)(h:A=(FH λk=>A.getD k undef).tmps):({tmps:=A,defers:=[]}:Act)=FH λk=>A.getD k undef:=by rw[h];rfl
def FuR(w:ek)(p:aQ)(cv:to)(fb:Nat)(fc:Nat)(μ:Nat)(a:Act)(W:ek):Prop:=
 ∃(J:Nat->to) (m:Nat),a=FH J/\J 0=cv/\J 3=H (O (I fb 0)) p.code.length fc/\J 4=Y ((m:Int) - 1)/\m<=p.code.length/\μ=m+1/\Hid (w.heap.size<=fb/\Below w.heap.size w W/\Row W 3 1 (H (O (I fb 0)) p.code.length fc) p.code.length (gC (dQ p (p.code.length-m))))
section
variable {w:ek}{K:Kp}{p:aQ}
def Vh{p:Prop}(h:p:=by
 go_wp2_with fail;refine(Fi.o _).mono ?_;exact ka):p:=h
def ka{p:Prop}(h:p:=by
 rintro e W1 ⟨rfl,rfl⟩;go_wp2;exact⟨_,j,FH.of _ rfl,rfl,(by rw[HN.o];rfl),rfl,(by rw[HN.o];omega),(by have:=ZI.o;omega),Z (by rw[HN.o];exact Kg.o _ _ 0 _ qg.o.symm)⟩):p:=h
def IB(h:fW w K p)(hlen:p.code.length<=262144)(fD:CY p):
 Calls prog 145 #[K.c] w (Vf.ui w p):=by
 obtain⟨ca,cc,kc,WK,Fb⟩:=aZ.val h.cd;rw[kc];have a0g:=Z h;have B0:=Z kc;have me:=Z fD;have jN:Hid (8*p.code.length<=281474976710656/\p.code.length<=maxLen):=Z ⟨G,by unfold maxLen;omega⟩;have IC:Hid (∀V (b:Nat),b<=MS->Calls prog 233 #[Y 1,Y b] V λe w'=>e=Vl (Y (bG 1 b))/\w'=V):=Z λV b X=>JH V 1 b bd X;have HPM:=Z (λV (a b:Nat) ha X=>JH V a b ha X);have HTM:=Z (λV (a b:Nat) ha X=>adb V a b ha X);clear h kc fD;generalize hn:p.code.length=n at*;have HN:=Z hn;clear hn;have w3:IntKind.i64.wrap ((n:Int) - 1)=(n:Int) - 1:=bJ _ lI;go_enter func145,ntmps145;go_wp2_with (refine jr rfl (.tmp 8) (.tmp 8) 24 rfl 3 underlying24 ck rfl .i64 .i64 _ _ n rfl rfl rfl rfl jN.o.1 jN.o.2 ?_;intro W0 ZA ep);have vJ:=Z ZA;have eV:=Z ep;clear ZA ep;go_wp2_with fail;obtain⟨fb,WL⟩:∃fb,fb=w.heap.size:=⟨_,rfl⟩;refine Mk.aN (FuR w p (H ca n cc) fb n) (n+1) ⟨_,n,FH.of _ rfl,rfl,by rw[HN.o,WL];rfl,rfl,by rw[HN.o];exact aL _,rfl,Z ⟨by rw[WL];exact aL _,eV.o,by rw[HN.o,WL,Nat.sub_self];exact vJ.o⟩⟩ (λa W hh=>by obtain⟨J,m,-,-,-,-,-,h2,-⟩:=hh;omega) ?_;clear vJ eV WL;rintro μ a W ⟨J,m,rfl,j0,j3,j4,hm,aaB,HF⟩;rw[HN.o]at j3 hm HF;unfold FH;rw[j0,j3,j4];clear j0 j3 j4;by_cases hm0:m=0
 ·subst hm0;have HE:=Z (show Vf.ui w p (Vl (H (O (I fb 0)) n n)) W from⟨fb,n,by rw[HN.o],HF.o.1,HF.o.2.1,by rw[HN.o];have h:=HF.o.2.2;rw[Nat.sub_zero]at h;unfold lB;rw[HN.o];exact h⟩);go_wp2_with fail;refine Vf.ZW rfl ?_;exact HE.o
 obtain⟨j,rfl⟩:∃j,m=j+1:=⟨m-1,G⟩;have w1:(((j+1:Nat):Int) - 1)=(j:Int):=G;have w2:IntKind.i64.wrap ((j:Int) - 1)=(j:Int) - 1:=bJ _ lI;rw[w1];clear w1 hm0;have hj:j<n:=G;obtain⟨b,off,cap,e,-,-,c0,c1,c2,c3,c4⟩:=(a0g.o.aG (aA.af HF.o.2.1)).ins (i:=j) (by rw[HN.o];exact hj);rw[B0.o,HN.o]at e;simp only[cz]at e;obtain⟨rfl,-,rfl⟩:=e;have lN:=Z (zo (p:=p) (j:=j) (by rw[HN.o];exact hj));rw[HN.o]at lN;have ZI:=Z aaB;have HX:=Z (λcs T=>(show Row (W.alloc (CA cs T)) 3 1 (H (O (I fb 0)) n n) n (gC (dQ p (n - (j+1))))from HF.o.2.2.alloc _));have gU:∀i,i<n->Vo W (I fb i)=O (Y (dQ p (n - (j+1)) i:Nat)):=λi hi=>HF.o.2.2.cell (o:=i) G;have PU:∀i,dQ p (n - (j+1)) i<=MS:=uh p _;have WL:fb<W.heap.size:=(HF.o.2.2.slice).2.2.2;have vT:∀o,W.frozen? (I fb o)=false:=λo=>HF.o.2.2.frozen o;have lb:=aH c0;have Kg:=Z (λ(cs:Array to) (T:TypeId) (k v:Nat) (hv:v=lP p (dQ p (n - (j+1))) j)=>show w.heap.size<=fb/\Below w.heap.size w (((W.setCell (I fb j) (Y v)).alloc (CA cs T)).drewN k)/\Row (((W.setCell (I fb j) (Y v)).alloc (CA cs T)).drewN k) 3 1 (H (O (I fb 0)) n n) n (gC (dQ p (n-j)))from by
  have h1:Below w.heap.size w (W.setCell (I fb j) (Y v)):=HF.o.2.1.setCell HF.o.1 _;have h2:=h1.alloc h1.size (CA cs T);refine⟨HF.o.1,h2.trans ((az _ _ k).mono h2.size),?_⟩;rw[lN.o];refine Row.drewN (Row.alloc ?_ _) k;refine(HF.o.2.2.set (o:=j) G (Y v)).congr λo ho=>?_;unfold gC;rw[dq];by_cases e:o=j
  ·subst e;rw[aB rfl,aB rfl,hv]
  ·rw[aw e,aw e])
 have Ex:=Z (λ(V:ek) (X:Below W.heap.size W V) (v:Nat) (hv:v=lP p (dQ p (n - (j+1))) j)=>show w.heap.size<=fb/\Below w.heap.size w (V.setCell (I fb j) (Y v))/\Row (V.setCell (I fb j) (Y v)) 3 1 (H (O (I fb 0)) n n) n (gC (dQ p (n-j)))from by
  refine⟨HF.o.1,(HF.o.2.1.trans (X.mono HF.o.2.1.size)).setCell HF.o.1 _,?_⟩;rw[lN.o];have hr:=(HF.o.2.2.aG (aA.af (S:=[]) X) ay).set (o:=j) G (Y v);refine hr.congr λo ho=>?_;unfold gC;rw[dq];by_cases e:o=j
  ·subst e;rw[aB rfl,aB rfl,hv]
  ·rw[aw e,aw e])
 have pY:=Z (λ(V:ek) (X:Below W.heap.size W V)=>HF.o.2.2.aG (aA.af (S:=[]) X) ay);have cR:=Z (λcs T=>(aY W.heap.size W).alloc (aL _) (CA cs T));have cj:=gU j hj;have hx:=me.o j (by rw[HN.o];exact hj);rw[HN.o]at hx;have Rw:lP p (dQ p (n - (j+1))) j=if(al p j).op=0\/(al p j).op=27 then 1 else if(al p j).op=22 then bG 1 (dQ p (n - (j+1)) (al p j).a.toNat)else if(al p j).op=23 then bG 1 (max (dQ p (n - (j+1)) (j+1)) (dQ p (n - (j+1)) (al p j).a.toNat))else if(al p j).op=24 then bG (bG 1 (eM (al p j).a.toNat (bG 1 (dQ p (n - (j+1)) (j+2))))) (bG 1 (dQ p (n - (j+1)) (al p (j+1)).a.toNat))else bG 1 (dQ p (n - (j+1)) (j+1)):=rfl;have qg:=Z Rw;clear Rw;have Nj:=Z HF.o.2.1;generalize dQ p (n - (j+1))=g at*;have HG:=Z PU;have yM:=Z gU;clear PU gU;obtain⟨RN,Kh,uU,GO⟩:=hx;obtain⟨op,dW⟩:∃z,(al p j).op=z:=⟨_,rfl⟩;obtain⟨xa,zJ⟩:∃z,(al p j).a=z:=⟨_,rfl⟩;obtain⟨xb,kW⟩:∃z,(al p j).b=z:=⟨_,rfl⟩;obtain⟨xc,hxc⟩:∃z,(al p j).c=z:=⟨_,rfl⟩;obtain⟨xd,Vv⟩:∃z,(al p j).d=z:=⟨_,rfl⟩;rw[dW]at c0 RN Kh uU GO qg;rw[zJ]at c1 Kh uU qg;rw[kW]at c2;rw[hxc]at c3;rw[Vv]at c4;clear dW zJ kW hxc Vv;by_cases o1:op=0\/op=27
 ·rw[aB o1]at qg;have Fi:=Z (λV=>IC.o V 0 bd);rw[show bG 1 0=1 by decide]at Fi;rcases o1 with rfl|rfl
  all_goals
   exact Vh
 rw[aw o1]at qg;have o0:(op==0)=false:=by simp;exact λh=>o1 (.inl h)
 have Zv:(op==27)=false:=by simp;exact λh=>o1 (.inr h)
 by_cases o2:op=22
 ·subst o2;rw[aB rfl]at qg;obtain⟨a1,a2⟩:=Kh (.inl rfl);obtain⟨xm,rfl⟩:=eJ a1;have Zw:xm<n:=G;have ca9:=yM.o xm Zw;have Fi:=Z (λV=>IC.o V (g xm) (HG.o _));rw[Int.toNat_natCast]at qg;generalize g xm=gx at*;exact Vh
 rw[aw o2]at qg;have o22:(op==22)=false:=by simpa using o2
 have hj1:j+1<n:=GO (λh=>o1 (.inl h)) (λh=>o1 (.inr h)) o2;have w4:IntKind.i64.wrap ((j:Int)+1)=((j+1:Nat):Int):=by rw[bJ _ lI];omega
 have cj1:=yM.o (j+1) hj1;by_cases o3:op=23
 ·subst o3;rw[aB rfl]at qg;obtain⟨a1,a2⟩:=Kh (.inr rfl);obtain⟨xm,rfl⟩:=eJ a1;have Zw:xm<n:=G;have ca9:=yM.o xm Zw;rw[Int.toNat_natCast]at qg;have Fi:=Z (λV=>IC.o V (g (j+1)) (HG.o _));have Nb:=Z (λV=>IC.o V (g xm) (HG.o _));have HMX:=Z (λh:g (j+1)<g xm=>show max (g (j+1)) (g xm)=g xm by omega);have HMY:=Z (λh:¬g (j+1)<g xm=>show max (g (j+1)) (g xm)=g (j+1)by omega);generalize max (g (j+1)) (g xm)=mx at*;generalize g (j+1)=gx at*;generalize g xm=gy at*;by_cases hc:gx<gy
  ·rw[HMX.o hc]at qg;clear HMX HMY;go_wp2_with fail;refine(Nb.o _).mono ?_;exact ka
  ·rw[HMY.o hc]at qg;clear HMX HMY;exact Vh
 rw[aw o3]at qg;have o23:(op==23)=false:=by simpa using o3
 by_cases o4:op=24
 ·subst o4;rw[aB rfl]at qg;obtain⟨a1,a2,hj2,t1,t2⟩:=uU rfl;obtain⟨xm,rfl⟩:=eJ a1;have xle:xm<=4194304:=G;have Zy:=yM.o (j+2) hj2;obtain⟨b2,Ip,CH,e2,-,-,-,e1,-⟩:=(a0g.o.aG (aA.af Nj.o)).ins (i:=j+1) (by rw[HN.o];exact hj1);rw[B0.o,HN.o]at e2;simp only[cz,im,Addr.mk.injEq]at e2;obtain⟨⟨rfl,rfl,-⟩,-,-⟩:=e2;obtain⟨tm,htm⟩:=eJ t1;have tlt:tm<n:=G;rw[htm]at e1 qg;have Zz:=yM.o tm tlt;rw[Int.toNat_natCast,Int.toNat_natCast]at qg;rw[<-aaC (ug _ _) (iG (HG.o _))]at qg;have Fi:=Z (λV=>IC.o V (g (j+2)) (HG.o _));have Nb:=Z (λV=>HTM.o V xm (bG 1 (g (j+2))) (by unfold MS;omega) (iG (HG.o _)));have HP4:=Z (λV=>IC.o V (g tm) (HG.o _));have Wk:=Z (λV=>HPM.o V (eM xm (bG 1 (g (j+2)))) (bG 1 (g tm)) (ug _ _) (iG (HG.o _)));have HP6:=Z (λV=>IC.o V (bG (eM xm (bG 1 (g (j+2)))) (bG 1 (g tm))) (iG (iG (HG.o _))));clear htm t1 t2 a1 a2 RN Kh uU GO cj1;generalize bG (eM xm (bG 1 (g (j+2)))) (bG 1 (g tm))=r5 at*;generalize eM xm (bG 1 (g (j+2)))=r2 at*;generalize bG 1 (g (j+2))=r1 at*;generalize bG 1 (g tm)=r4 at*;generalize g (j+2)=gx at*;generalize g tm=gy at*;have JG:0<=(j:Int)+1:=G;have Bj:(j:Int)+1<(n:Int):=G;have Dq:((j:Int)+1).toNat=j+1:=G;have xZ:0<=(j:Int)+2:=G;have hs5:(j:Int)+2<(n:Int):=G;have hs6:((j:Int)+2).toNat=j+2:=G;have w6:IntKind.i64.wrap ((j:Int)+2)=(j:Int)+2:=bJ _ lI;clear w4;have w4:IntKind.i64.wrap ((j:Int)+1)=(j:Int)+1:=bJ _ lI;have fI:=cR.o #[Y 24,Y xm,Y xb,Y xc,Y xd] 40;have kx:aF (W.alloc (CA #[Y 24,Y xm,Y xb,Y xc,Y xd] 40)) W.heap.size 40 #[Y 24,Y xm,Y xb,Y xc,Y xd]:=aF.new _ _ _;go_wp2_with fail;obtain⟨W1,CW⟩:∃W1,W1=W.alloc (CA #[Y 24,Y xm,Y xb,Y xc,Y xd] 40):=⟨_,rfl⟩;rw[<-CW]at fI kx ⊢;have d1:Vo W1 (I W.heap.size 1)=O (Y xm):=kx.cell 1;have key:∀b o v,Vo W (I b o)=O v->Vo W1 (I b o)=O v:=λb o v h=>(bk (fI.block _ (aH h))).trans h;replace cj:=key _ _ _ cj;replace Zy:=key _ _ _ Zy;replace Zz:=key _ _ _ Zz;replace e1:=key _ _ _ e1;have kE:=Z fI;clear CW kx fI key c0 c1 c2 c3 c4 vT;generalize gu:W.heap.size=bx at*;clear gu;refine wp_region_still_tail 20 bh bh ?_;simp only[List.take_succ_cons,List.take_zero,List.drop_succ_cons,List.drop_zero]
  iterate 7 still_step
  still_call (Fi.o _)
  still_call (Nb.o _)
  iterate 9 still_step
  still_call (HP4.o _)
  still_call (Wk.o _)
  refine wpStill_nil ?_;change wpList _ _ _ _ _ (W1.drewN 1);have dC:=kE.o.trans (az _ W1 1);have cj9:(W1.drewN 1).cell? (I fb j)=O (Y (g j:Nat)):=cj;have vT:∀o,(W1.drewN 1).frozen? (I fb o)=false:=λo=>(pY.o _ dC).frozen o;have eF:=Z dC;clear dC cj Zy Zz e1 JG Bj Dq xZ hs5 hs6 d1;generalize W1.drewN 1=V0 at*;go_wp2_with fail;refine(HP6.o _).mono ?_;rintro e W1 ⟨rfl,rfl⟩;go_wp2;exact⟨_,j,FH.of _ rfl,rfl,(by rw[HN.o];rfl),rfl,(by rw[HN.o];omega),(by have:=ZI.o;omega),Z (by rw[HN.o];exact Ex.o _ eF.o _ qg.o.symm)⟩
 rw[aw o4]at qg;have WM:(op==24)=false:=by simpa using o4
 have Fi:=Z (λV=>IC.o V (g (j+1)) (HG.o _));generalize g (j+1)=gx at*;clear o1 o2 o3 o4 RN Kh uU GO;exact Vh
end
end Go.Rv
end
namespace Go.Rv
open Go.RowKit aj.Vm
open aj hiding aR an ak
open Ma (dP ci aX vb aI aV)
open Vf (Kp fW pV rT bN aZ iw gZ Ac xh nY gC ck)
def FM(J:Nat->to):Act:={tmps:=#[J 0,J 1,J 2,J 3,J 4,J 5,J 6,J 7,J 8,J 9,J 10,J 11,J 12,J 13,J 14,J 15,J 16,J 17,J 18,J 19,J 20,J 21,J 22,J 23,J 24,J 25,J 26,J 27,J 28,J 29,J 30,J 31,J 32,J 33,J 34,J 35,J 36,J 37,J 38,J 39,J 40,J 41,J 42,J 43,J 44,J 45,J 46,J 47,J 48,J 49,J 50,J 51,J 52,J 53,J 54,J 55,J 56,J 57,J 58,J 59,J 60,J 61,J 62,J 63,J 64,J 65,J 66,J 67,J 68],defers:=[]}
def FM.of(A:Array to)(h:A=(FM λk=>A.getD k undef).tmps):({tmps:=A,defers:=[]}:Act)=FM λk=>A.getD k undef:=by rw[h];rfl
noncomputable def ruL(k:Nat):Code:=Mk.iS Proofs.Tryz.f70.body k
section
variable {w W7:ek}{K:Kp}{p:aQ}{pb gb:Nat}{Q:Exit->Act->ek->Prop}
def RR1(W7:ek)(K:Kp)(p:aQ)(pb gb:Nat)(fv:to)(m:Nat)(a:Act)(W:ek):Prop:=
 ∃(J:Nat->to) (i n:Nat) (lv:to) (ms:Int),a=FM J/\J 1=V5 pb/\J 2=V5 (pb+1)/\J 3=V5 (pb+1+1)/\J 6=fv/\J 7=V5 gb/\J 8=Y i/\
  i<=p.on.length+1/\m+i=p.on.length+2/\(i<=p.on.length->n=i)/\(i=p.on.length+1->n=p.on.length/\ms=(bU p p.aT:Nat))/\Hid (Below W7.heap.size W7 W)/\Hid (Row W 3 1 lv n (Ac p (p.on++[p.aT])))/\Hid (∀b,lv.ownBlock=O b->W7.heap.size<=b)/\Hid (aF W gb 97 #[lv,Y ms])/\Hid (bt p (p.on++[p.aT])=bt p ((p.on++[p.aT]).drop i))
def ly{p:Prop}(h:p:=by
 obtain⟨a9,m9,c9,hv9⟩:∃a m c,v'=H a m c:=by rcases f2.val with⟨h,-⟩|⟨_,_,h,-⟩<;>exact⟨_,_,_,h⟩
 subst hv9;have F1:=Z f1;have F2:=Z f2;have F3:=Z f3;have F4:=Z f4;clear bo hf hv f1 f2 f3 f4 g0 g1 hfg ID;go_wp2;refine⟨_,n+1,n+1,_,ms,FM.of _ rfl,rfl,rfl,rfl,rfl,rfl,rfl,by have:=dE.o;omega,G,(λ_=>rfl),(λh=>by omega),F1,F2,F3,F4,pX⟩):p:=h
def Zc{p:Prop}(h:p:=by
 have pX:=Z (show bt p (p.on++[p.aT])=O (n9:Int)by rw[HE.o,Fk.o,aB z_]);have IE:1152921504606846976<fu:=z_;have kc:=B0.o.of (HB.o.block _ B0.o.lt);have kf:=SP.o.of (HB.o.block _ SP.o.lt);obtain⟨z0,z1⟩:=kc.c2;obtain⟨z2,z3⟩:=kf.c2;have z4:=kc.frozen;have z5:=kf.frozen;have z6:=kf.lt;have z7:=kc.lt;clear kc kf z_ ID Fk;go_wp2;exact iU _ _ _ rfl rfl HB.o pX.o):p:=h
def rr1{fb fc:Nat}(a0g:Hid (fW W7 K p))(HP:Hid (aF W7 pb 27 (iw K p)))(HGB:Hid (W7.heap.size<=gb))(HFV:Hid (Row W7 3 1 (H (O (I fb 0)) p.code.length fc) p.code.length (gC (lB p))))(tb:tM p)
 (B0:Hid (aF W7 (pb+1) 97 #[Vn,Y 0])) (SP:Hid (aF W7 (pb+1+1) 99 #[Y 0,Y 0]))
 (iU:∀(B:Array to) W (n:Int),B.getD 2 undef=V5 (pb+1)->B.getD 3 undef=V5 (pb+1+1)->Below W7.heap.size W7 W->bt p (p.on++[p.aT])=O n->Q .ret {tmps:=B,defers:=[]} ((((W.setCell (I (pb+1) 0) Vn).setCell (I (pb+1) 1) (Y 0)).setCell (I (pb+1+1) 0) (Y 97)).setCell (I (pb+1+1) 1) (Y n)))
 (d_:∀(J:Nat->to) W lv,J 2=V5 (pb+1)->J 3=V5 (pb+1+1)->J 7=V5 gb->Below W7.heap.size W7 W->Row W 3 1 lv p.on.length (Ac p (p.on++[p.aT]))->(∀b,lv.ownBlock=O b->W7.heap.size<=b)->aF W gb 97 #[lv,Y (bU p p.aT:Nat)]->bt p (p.on++[p.aT])=MT->Q (.exit 0) (FM J) W)
 {a:Act} {W:ek} (h:RR1 W7 K p pb gb (H (O (I fb 0)) p.code.length fc) (p.on.length+2) a W):(Code.loop (ruL 0)).wp prog Q a W:=by
 refine Mk.aN (λm a W=>RR1 W7 K p pb gb (H (O (I fb 0)) p.code.length fc) m a W) (p.on.length+2) h ?_ ?_
 ·rintro a W ⟨J,i,n,lv,ms,-,-,-,-,-,-,-,h1,h2,-⟩;omega
 rintro m a0 W ⟨J,i,n,lv,ms,rfl,j1,j2,j3,j6,j7,j8,hi,hm,xy,Cv,HB,HR,HO,HG,HE⟩;unfold FM
 conv=>arg 2;whnf
 have afz:p.on.length<=16:=by have:=tb.on;have:=tb.g;omega
 have w2:=mO i G;rw[j1,j2,j3,j6,j7,j8];clear j1 j2 j3 j6 j7 j8;obtain⟨oa,oc,ko,-,-⟩:=aZ.val a0g.o.o;have hp:=HP.o.of (HB.o.block _ HP.o.lt);obtain⟨-,-,-,p3,p4⟩:=hp.c5;have lp:=hp.lt;rw[ko]at p3;obtain⟨g0,g1⟩:=HG.o.c2;have lg:=HG.o.lt;have hfg:=HG.o.frozen;have HMS:=Z Cv;have JL:=Z xy;clear Cv xy hp;by_cases be:i<p.on.length+1
 ·have hbi:∃z,(p.on++[p.aT]).getD i 0=z/\(-1<=z/\z<p.code.length):=by exact qX4
  obtain⟨z,hz,nQ,qm⟩:=hbi;have dE:=Z be;have HZ:=Z hz;have Fk:=Z (nY p (p.on++[p.aT]) (i:=i) jz);rw[hz]at Fk;have bm:=Z (λ(V:ek) (v:to) (n:Nat) (hr:Row V 3 1 v n (Ac p (p.on++[p.aT]))) (hk:∃x y,aF V gb 97 #[x,y])=>show v.ownBlock≠O gb from by obtain⟨x,y,hk⟩:=hk;exact hr.eZ hk bd);by_cases hio:i<p.on.length
  ·obtain⟨b,off,cap,eo,q1,q2,lo,c⟩:=a0g.o.o.some G G;rw[ko]at eo;simp only[cz]at eo;obtain⟨rfl,-,rfl⟩:=eo;have c0:Vo W (I b (off+i))=O (Y z):=by refine(bk (HB.o.block _ lo)).trans ((c i G).trans ?_);rw[<-hz,dN,pP hio,<-dN];rfl
   have jN:Hid (i+1<=maxLen/\(i+1)*8<=140737488355328):=Z ⟨by unfold maxLen;omega,G⟩;have hn:n=i:=JL.o G;subst hn;have iE:∃la ln lc,lv=H la ln lc:=by rcases HR.o.val with⟨h,-⟩|⟨_,_,h,-⟩<;>exact⟨_,_,_,h⟩
   have ID:=Z (λ(k:Int) (V:ek) (v':to) (w1:ek) (hv:Below W.heap.size W V) (hn:k=(bU p z:Nat)) (hr:Row w1 3 1 v' (n+1) (fY n (Ac p (p.on++[p.aT])) λ_=> Y k)) (hf:aA lv.ownBlock.toList V w1) (ho:v'.ownBlock=lv.ownBlock\/v'.ownBlock=O V.heap.size)=>
    show Below W7.heap.size W7 (w1.setCell (I gb 0) v')/\Row (w1.setCell (I gb 0) v') 3 1 v' (n+1) (Ac p (p.on++[p.aT]))/\(∀b,v'.ownBlock=O b->W7.heap.size<=b)/\aF (w1.setCell (I gb 0) v') gb 97 #[v',Y ms]/\Vo w1 (I gb 0)=O lv/\(∀o,w1.frozen? (I gb o)=false)/\gb<w1.heap.size from by
    have h1:Below W7.heap.size W7 V:=HB.o.trans (hv.mono HB.o.size);have h2:=h1.trans (hf.below h1.size (λb X=>HO.o b (by simpa using X)));have gm:aF w1 gb 97 #[lv,Y ms]:=(HG.o.of (hv.block _ HG.o.lt)).aG hf (λX=>bm.o _ _ _ HR.o ⟨_,_,HG.o⟩ (by simpa using X));have VG:=xh p (p.on++[p.aT]) (by rw[HZ.o];exact hn) hr;refine⟨h2.setCell (p:=(I gb 0)) HGB.o _,VG.other (bm.o _ _ _ VG ⟨_,_,gm⟩) _ _,λb X=>?_,gm.set 0 v',gm.cell 0,gm.frozen,gm.lt⟩;rcases ho with h|h
    ·exact HO.o b (by rw[<-h];exact X)
    ·rw[h]at X;have:=fF X;have:=h1.size;omega)
   clear c hz lo q2;by_cases jn:z<0
   ·have JN:=Z (show(0:Int)=(bU p z:Nat)by unfold bU;rw[aB jn];rfl);have pX:=Z (show bt p (p.on++[p.aT])=bt p ((p.on++[p.aT]).drop (n+1))by rw[HE.o,Fk.o,aw (by have:=JN.o;unfold MF;omega)]);have hd:decide (0<=z)=false:=by simp;omega
    clear jn;go_wp2_with (at_builtin;refine bX rfl _ _ 24 rfl 3 underlying24 ck rfl bd lv n (Ac p (p.on++[p.aT])) rfl (HR.o.alloc _) (I W.heap.size 0) 1 1 (λ_=> Y 0) rfl (λj hj=>(by obtain rfl:j=0:=G;exact(aF.new W 3 #[Y 0]).cell 0)) (λ_ _=>rfl) jN.o.1 jN.o.2 ?_);intro v' w1 bo hf hv;obtain⟨f1,f2,f3,f4,f5,f6,f7⟩:=ID.o 0 _ v' w1 ((aY _ _).alloc (aL _) _) JN.o bo hf (by simpa using hv);exact ly
   ·obtain⟨n9,rfl⟩:=eJ (by omega:0<=z);have hn9:n9<p.code.length:=G;have hfc:Vo W (I fb n9)=O (Y (lB p n9:Nat)):=(HFV.o.aG (aA.af (S:=[]) HB.o) ay).cell (o:=n9) G;have sO:bU p (n9:Int)=lB p n9:=by unfold bU;rw[aw G];rfl
    rw[sO]at Fk ID;have lfb:=aH hfc;clear jn;generalize lB p n9=fu at*;clear sO;by_cases z_:MF<fu
    ·exact Zc
    ·have pX:=Z (show bt p (p.on++[p.aT])=bt p ((p.on++[p.aT]).drop (n+1))by rw[HE.o,Fk.o,aw z_]);have IE:¬1152921504606846976<fu:=z_;have ic:fu<=1152921504606846976:=G;clear z_ IE Fk;go_wp2_with (at_builtin;refine bX rfl _ _ 24 rfl 3 underlying24 ck rfl bd lv n (Ac p (p.on++[p.aT])) rfl (HR.o.alloc _) (I W.heap.size 0) 1 1 (λ_=> Y (fu:Nat)) rfl (λj hj=>(by obtain rfl:j=0:=G;exact(aF.new W 3 #[Y (fu:Nat)]).cell 0)) (λ_ _=>rfl) jN.o.1 jN.o.2 ?_);intro v' w1 bo hf hv;obtain⟨f1,f2,f3,f4,f5,f6,f7⟩:=ID.o (fu:Nat) _ v' w1 ((aY _ _).alloc (aL _) _) rfl bo hf (by simpa using hv);exact ly
  ·have QS:=Z (show i=p.on.length by omega);have c0:p.aT=z:=by rw[<-hz,dN,pO G,show i-p.on.length=0 by have:=QS.o;omega];simp
   rw[c0]at p4;have HMZ:=Z c0;have hn:=Z (show n=p.on.length by have:=JL.o G;omega);have ID:=Z (λ(k:Int) (hk:k=(bU p z:Nat))=>show Below W7.heap.size W7 (W.setCell (I gb 1) (Y k))/\Row (W.setCell (I gb 1) (Y k)) 3 1 lv n (Ac p (p.on++[p.aT]))/\aF (W.setCell (I gb 1) (Y k)) gb 97 #[lv,Y k]/\k=(bU p p.aT:Nat)from
    ⟨HB.o.setCell (p:=(I gb 1)) HGB.o _,HR.o.other (bm.o _ _ _ HR.o ⟨_,_,HG.o⟩) _ _,HG.o.set 1 _,by rw[HMZ.o];exact hk⟩)
   clear c0 hz;by_cases jn:z<0
   ·have JN:=Z (show(0:Int)=(bU p z:Nat)by unfold bU;rw[aB jn];rfl);have pX:=Z (show bt p (p.on++[p.aT])=bt p ((p.on++[p.aT]).drop (i+1))by rw[HE.o,Fk.o,aw (by have:=JN.o;unfold MF;omega)]);have hd:decide (0<=z)=false:=by simp;omega
    clear jn;have F:=ID.o 0 JN.o;have F1:=Z F.1;have F2:=Z F.2.1;have F3:=Z F.2.2.1;have F4:=Z F.2.2.2;clear F ID;go_wp2;refine⟨_,i+1,n,lv,0,FM.of _ rfl,rfl,rfl,rfl,rfl,rfl,rfl,by have:=dE.o;omega,G,(λh=>by have:=QS.o;omega),(λ_=>⟨hn.o,F4.o⟩),F1,F2,HO,F3,pX⟩
   ·obtain⟨n9,rfl⟩:=eJ (by omega:0<=z);have hn9:n9<p.code.length:=G;have hfc:Vo W (I fb n9)=O (Y (lB p n9:Nat)):=(HFV.o.aG (aA.af (S:=[]) HB.o) ay).cell (o:=n9) G;have sO:bU p (n9:Int)=lB p n9:=by unfold bU;rw[aw G];rfl
    rw[sO]at Fk ID;have lfb:=aH hfc;clear jn;generalize lB p n9=fu at*;clear sO;by_cases z_:MF<fu
    ·exact Zc
    ·have pX:=Z (show bt p (p.on++[p.aT])=bt p ((p.on++[p.aT]).drop (i+1))by rw[HE.o,Fk.o,aw z_]);have IE:¬1152921504606846976<fu:=z_;have ic:fu<=1152921504606846976:=G;clear z_ IE Fk;have F:=ID.o (fu:Nat) rfl;have F1:=Z F.1;have F2:=Z F.2.1;have F3:=Z F.2.2.1;have F4:=Z F.2.2.2;clear F ID;go_wp2;refine⟨_,i+1,n,lv,(fu:Nat),FM.of _ rfl,rfl,rfl,rfl,rfl,rfl,rfl,by have:=dE.o;omega,G,(λh=>by have:=QS.o;omega),(λ_=>⟨hn.o,F4.o⟩),F1,F2,HO,F3,pX⟩
 ·obtain rfl:i=p.on.length+1:=G;obtain⟨e1,e2⟩:=HMS.o rfl;have Yv:=Z (show Row W 3 1 lv p.on.length (Ac p (p.on++[p.aT]))by rw[<-e1];exact HR.o);have HG9:=Z (show aF W gb 97 #[lv,Y (bU p p.aT:Nat)]by rw[<-e2];exact HG.o);have HE9:=Z (show bt p (p.on++[p.aT])=MT by rw[HE.o,show p.on.length+1=(p.on++[p.aT]).length by simp,List.drop_length];rfl);clear be e1 e2 g1 hfg;go_wp2;exact Eq.mpr (bu (λa=>Q (.exit 0) a W) (FM.of _ rfl)) (d_ _ _ _ rfl rfl rfl HB.o Yv.o HO.o HG9.o HE9.o)
def Q6(w:ek)(p:aQ)(e:Ending)(w':ek):Prop:=∃w_ ms,e=Vl (.tuple #[.agg #[w_,Y ms],.agg #[Y (aW p).1,Y (aW p).2]])/\Below w.heap.size w w'/\(∀b,w_.ownBlock=O b->w.heap.size<=b)/\
 ((aW p).1=0->ms=(bU p p.aT:Nat)/\aZ w' 1 w_ p.on.length (λi=> Y (bU p (p.on.getD i 0):Nat)))/\((aW p).1≠0->w_=Vn/\ms=0)
def aaA{p:aQ}:∀{k pc:Nat} {T:Map} {e1:Int} {a:Nat},looks p k pc T= .inl (e1,a)->e1≠0:=by
 intro k
 induction k with
 |zero=>intro pc T e1 a h;unfold looks at h;simp at h
 |succ k ih=>
  intro pc T e1 a h;unfold looks at h;split at h
  ·exact ih h
  ·next bm=>simp at h;rw[<-h.1];exact bm
def wu{p:aQ}:(jt p).1=0↔bq p=0/\∃T,looks p p.code.length 0 (dA p)= .inr T:=by
 unfold jt;by_cases h:bq p=0
 ·rw[aw (by simp[h])];obtain⟨tb,qT⟩:=cE h;obtain⟨h1,h2⟩:=sH qT p.code.length 0 _ _ (pG tb) G;cases hl:looks p p.code.length 0 (dA p)with
  |inl e=>
   have hx:e.1≠0:=by have:=vW p;obtain⟨e1,e2⟩:=e;exact λh0=>aaA hl h0
   rw[h1 e hl];exact⟨λh0=>absurd h0 hx,λ⟨_,T,hT⟩=>by cases hT⟩
  |inr T=>obtain⟨L',e⟩:=h2 T hl;rw[e];exact⟨λ_=>⟨h,T,rfl⟩,λ_=>rfl⟩
 ·rw[aB h];exact⟨λe=>absurd e h,λe=>absurd e.1 h⟩
def adQ{p:aQ}:((jt p).1≠0->aW p=jt p)/\((jt p).1=0->aW p=match bt p (p.on++[p.aT])with|some n=>(97,n)|none=>(0,0)):=by
 have hz:= @wu p;rw[<-vW];unfold yU;unfold jt at hz ⊢;by_cases h:bq p=0
 ·rw[aw (by simp[h])]at hz ⊢;rw[aw (by simp[h])];cases hl:fB p p.code.length 0 (gO p)with
  |inl e=>rw[hl]at hz;exact⟨λ_=>rfl,λh0=>by obtain⟨_,T,hT⟩:=hz.1 h0;obtain⟨tb,qT⟩:=cE h;obtain⟨L',e9⟩:=(sH qT p.code.length 0 _ _ (pG tb) G).2 T hT;rw[hl]at e9;cases e9⟩
  |inr L=>exact⟨λh0=>absurd rfl h0,λ_=>rfl⟩
 ·rw[aB h]at hz ⊢;rw[aB h];exact⟨λ_=>rfl,λh0=>absurd h0 h⟩
def vC{R:Ending->ek->Prop}{A:Array to}{W:ek}{cb fb:Nat}{x y u v:to}(h2:A.getD 2 undef=V5 cb)(h3:A.getD 3 undef=V5 fb)(kc:aF W cb 97 #[x,y])(kf:aF W fb 99 #[u,v])
 (hR:R (Vl (.tuple #[.agg #[x,y],.agg #[u,v]])) W):bodyPost prog Proofs.Tryz.f70 R .ret {tmps:=A,defers:=[]} W:=by
 obtain⟨c0,c1⟩:=kc.c2;obtain⟨f0,f1⟩:=kf.c2;rw[yZ]at h2 h3;refine bK (v:= .tuple #[.agg #[x,y],.agg #[u,v]]) ?_ rfl hR;simp[results,results70,go_sem,h2,h3,c0,c1,f0,f1]
def st4(W:ek)(c f:Nat)(x y u v:to):ek:=(((W.setCell (I c 0) x).setCell (I c 1) y).setCell (I f 0) u).setCell (I f 1) v
def Dg{W:ek}{c f:Nat}{x y u v x0 y0 u0 v0:to}(hn:c≠f)(kc:aF W c 97 #[x0,y0])(kf:aF W f 99 #[u0,v0]):aF (st4 W c f x y u v) c 97 #[x,y]/\aF (st4 W c f x y u v) f 99 #[u,v]/\aA [c,f] W (st4 W c f x y u v):=
 ⟨((((kc.set 0 x).set 1 y).other hn 0 u).other hn 1 v),((((kf.other hn.symm 0 x).other hn.symm 1 y).set 0 u).set 1 v),
   ((((aA.refl [c,f] W).setCell (p:=(I c 0)) ay x).setCell (p:=(I c 1)) ay y).setCell (p:=(I f 0)) ay u).setCell (p:=(I f 1)) ay v⟩
def aaz{w:ek}{K:Kp}{p:aQ}(h:fW w K p):Calls prog 70 #[pV K p] w (Q6 w p):=by
 obtain⟨⟨ga,gc,g1,g2,g3⟩,⟨va,vc,v1,v2,v3⟩,⟨ta,tc,t1,t2,t3⟩,⟨oa,oc,o1,o2,o3⟩,⟨ca,cc,c1,c2,c3⟩⟩:=h.sl;have uj:=Z (λV (X:Below w.heap.size w V)=>Iy (w:=V) (h.aG (aA.af X)));have Nj:=Z (λV (X:Below w.heap.size w V) hl hi=>IB (w:=V) (h.aG (aA.af X)) hl hi);have a0g:=Z h;obtain⟨W0,kX⟩:∃W0,W0=((w.alloc (CA #[H ga p.ax.length gc,H va p.vars.length vc,H ta p.aS.length tc,H oa p.on.length oc,Y p.aT,H ca p.code.length cc] 27)).alloc (CA #[Vn,Y 0] 97)).alloc (CA #[Y 0,Y 0] 99):=⟨_,rfl⟩;have kp:aF W0 w.heap.size 27 (iw K p):=by rw[kX];unfold iw;rw[g1,v1,t1,o1,c1];exact((aF.new _ _ _).alloc _).alloc _
 have kc:aF W0 (w.heap.size+1) 97 #[Vn,Y 0]:=by rw[kX];exact(aF.bR ay).alloc _
 have kf:aF W0 (w.heap.size+1+1) 99 #[Y 0,Y 0]:=by rw[kX];exact aF.bR ay
 have ep:Below w.heap.size w W0:=by rw[kX];exact(((aY _ _).alloc (aL _) _).alloc ay _).alloc jz _
 have ru:W0.heap.size=w.heap.size+1+1+1:=by rw[kX];simp
 have HK:=Z (And.intro g1 (And.intro v1 (And.intro t1 (And.intro o1 c1))));unfold pV at uj ⊢;rw[g1,v1,t1,o1,c1]at uj ⊢;rw[c1]at Nj;clear h g1 v1 t1 o1 c1 g2 g3 v2 v3 t2 t3 o2 o3 c2 c3;go_enter func70,ntmps70;go_wp2_with fail;rw[<-kX];refine(uj.o _ ep).mono ?_;rintro e W1 ⟨pv,rfl,X⟩;have KP:=Z (kp.of (X.block _ kp.lt));have KC:=Z (kc.of (X.block _ kc.lt));have KF:=Z (kf.of (X.block _ kf.lt));have cR:=Z (ep.trans (X.mono ep.size));have tu:Hid (w.heap.size+1+1<W1.heap.size):=Z (by have:=X.size;omega);have HZ:=Z (@wu p);have HVL:=Z (@adQ p);clear kp kc kf X ep ru kX uj;generalize jt p=lk at*;obtain⟨le,la⟩:=lk;dsimp only at HZ HVL;have HN:Hid (w.heap.size+1≠w.heap.size+1+1):=Z G;have KG:=Z (aF.new W1 99 #[Y le,Y la]);by_cases hle:le=0
 case neg=>
  have bm:(le !=0)=true:=by simpa using hle
  have HV:=Z (show aW p=(le,la)from HVL.o.1 hle);have BL:=Z hle;clear hle;go_wp2_with fail;have dC:Below W1.heap.size W1 (W1.alloc (CA #[Y le,Y la] 99)):=(aY _ _).alloc (aL _) _;have eF:=Z (cR.o.trans (dC.mono cR.o.size));have KC2:=Z (KC.o.of (dC.block _ KC.o.lt));have KF2:=Z (KF.o.of (dC.block _ KF.o.lt));have HG:=Z (show W1.heap.size∉[w.heap.size+1,w.heap.size+1+1]by have:=tu.o;simp;omega);clear dC;generalize vK:W1.heap.size=gb at*;generalize W1.alloc (CA #[Y le,Y la] 99)=W2 at*;obtain⟨n0,n1⟩:=KG.o.c2;refine Mk.bH (S:=λwx=>aA [w.heap.size+1,w.heap.size+1+1] W2 wx) bh (aA.af (az _ W2 1)) (λau=>?_);have DC:=Z (KC2.o.drewN 1);have Bk:=Z (KF2.o.drewN 1);change Hid (aF W2.drew _ _ _)at DC;change Hid (aF W2.drew _ _ _)at Bk;have HD:=Z (az W2.heap.size W2 1);change Hid (Below W2.heap.size W2 W2.drew)at HD;generalize World.drew _=V0 at*;have z0:=DC.o.cell 0;have z1:=DC.o.cell 1;have z2:=Bk.o.cell 0;have z3:=Bk.o.cell 1;have z4:=DC.o.frozen;have z5:=Bk.o.frozen;have z6:=Bk.o.lt;have z7:=DC.o.lt;simp only[List.getElem?_toArray,List.getElem?_cons_zero,List.getElem?_cons_succ]at z0 z1 z2 z3;refine Mk.fC 0 ?_;refine Mk.tk 1 (v:=?_) rfl (λwz fj=>?_) au ?_;rotate_left
  ·have key:∀b i v,b∉[w.heap.size+1,w.heap.size+1+1]->Vo W2 (I b i)=O v->Vo wz (I b i)=O v:=λb i v hn hc=>(bk (fj.block _ (aH hc) hn)).trans hc;have y0:=key _ _ _ HG.o n0;have y1:=key _ _ _ HG.o n1;exact qj
  refine Mk.pt ?_;refine Mk.oD (rs:=[2]) (bZ rfl (λK9 hK=>?_) cK);refine fH ?_;go_simp;refine hK.out _ _ ((au.setCell (p:=(I (w.heap.size+1) 0)) ay Vn).setCell (p:=(I (w.heap.size+1) 1)) ay (Y 0)) (λau=>?_);clear hK K9;refine Mk.pt ?_;refine Mk.oD (rs:=[3]) (bZ rfl (λK9 hK=>?_) cK);refine fH ?_;go_simp;refine hK.out _ _ ((au.setCell (p:=(I (w.heap.size+1+1) 0)) ay (Y le)).setCell (p:=(I (w.heap.size+1+1) 1)) ay (Y la)) (λau=>?_);clear hK K9;refine Mk.pt ?_;refine fx bh ⟨rfl,?_⟩ _;have hs:=Dg (x:=Vn) (y:=Y 0) (u:=Y le) (v:=Y la) HN.o DC.o Bk.o;clear au;go_wp2
  first|refine vC (cb:=w.heap.size+1) (fb:=w.heap.size+1+1) rfl rfl hs.1 hs.2.1 ?_|(rw[jO];refine vC (cb:=w.heap.size+1) (fb:=w.heap.size+1+1) rfl rfl hs.1 hs.2.1 ?_)
  refine⟨_,_,by rw[HV.o],(eF.o.trans (HD.o.mono eF.o.size)).trans (hs.2.2.below (eF.o.trans (HD.o.mono eF.o.size)).size jz),(λb X=>by cases X),(λh=>by rw[HV.o]at h;exact absurd h BL.o),λ_=>⟨rfl,rfl⟩⟩
 subst hle;obtain⟨sr,T,hT⟩:=HZ.o.1 rfl;obtain⟨tb,-⟩:=cE sr;have TB:=Z tb;have HFI:=Z (Bi sr hT);have HV:=Z (HVL.o.2 rfl);have hlen:=tb.code;clear sr hT tb;have p5:(W1.alloc (CA #[Y 0,Y la] 99)).cell? (I w.heap.size 5)=O (H ca p.code.length cc):=by rw[<-HK.o.2.2.2.2];exact(KP.o.alloc _).cell 5
 have lp:=(KP.o.alloc (CA #[Y 0,Y la] 99)).lt;go_wp2_with fail;refine(Nj.o _ (cR.o.alloc cR.o.size _) hlen HFI.o).mono ?_;rintro e W3 ⟨fb9,fc9,rfl,P5,pz,Tt⟩;have wM:Below W1.heap.size W1 W3:=((aY _ _).alloc (aL _) _).trans (pz.mono ay);have iy:=Z (cR.o.trans (wM.mono cR.o.size));have KP3:=Z (KP.o.of (wM.block _ KP.o.lt));have KC3:=Z (KC.o.of (wM.block _ KC.o.lt));have KF3:=Z (KF.o.of (wM.block _ KF.o.lt));have RF:=Z (show w.heap.size+1+1<W3.heap.size by have:=tu.o;have:=wM.size;omega);have HR3:=Z Tt;clear pz wM Tt P5 p5 lp Nj HZ HVL KG;go_wp2_with fail;refine rr1 (W7:=W3) (gb:=W3.heap.size) (Z (a0g.o.aG (aA.af iy.o))) KP3 (Z (aL _)) HR3 TB.o KC3 KF3 (λB W n h2 h3 X he=>?_) (λJ W lv j2 j3 j7 X hr ho hg he=>?_) ⟨_,0,0,Vn,0,FM.of _ rfl,rfl,rfl,rfl,rfl,rfl,rfl,cM _,G,(λ_=>rfl),(λh=>by omega),Z ((aY _ _).alloc (aL _) _),Z (Row.nil _ _ _ _),Z (λb X=>by cases X),Z (aF.new _ _ _),Z (by rw[List.drop_zero])⟩
 ·try simp only[Exit.inBlock,Exit.then]
  have FY:=Z (show aW p=(97,n)by rw[HV.o,he]);have hs:=Dg (x:=Vn) (y:=Y 0) (u:=Y 97) (v:=Y n) HN.o (KC3.o.of (X.block _ KC3.o.lt)) (KF3.o.of (X.block _ KF3.o.lt));have CQ:=iy.o.trans (X.mono iy.o.size)
  first|refine vC (cb:=w.heap.size+1) (fb:=w.heap.size+1+1) h2 h3 hs.1 hs.2.1 ?_|(rw[jO];refine vC (cb:=w.heap.size+1) (fb:=w.heap.size+1+1) h2 h3 hs.1 hs.2.1 ?_)
  refine⟨_,_,by rw[FY.o],CQ.trans (hs.2.2.below CQ.size jz),(λb X=>by cases X),(λh=>by rw[FY.o]at h;cases h),λ_=>⟨rfl,rfl⟩⟩
 ·have FY:=Z (show aW p=(0,0)by rw[HV.o,he]);have hs:=Dg (x:=lv) (y:=Y (bU p p.aT:Nat)) (u:=Y 0) (v:=Y 0) HN.o (KC3.o.of (X.block _ KC3.o.lt)) (KF3.o.of (X.block _ KF3.o.lt));have CQ:=iy.o.trans (X.mono iy.o.size);have HT:=Z (show Q6 w p (Vl (.tuple #[.agg #[lv,Y (bU p p.aT:Nat)],.agg #[Y 0,Y 0]])) (st4 W (w.heap.size+1) (w.heap.size+1+1) lv (Y (bU p p.aT:Nat)) (Y 0) (Y 0))from by
   refine⟨lv,(bU p p.aT:Nat),by rw[FY.o],CQ.trans (hs.2.2.below CQ.size jz),(λb wZ=>by have:=ho b wZ;have:=RF.o;omega),λ_=>⟨rfl,?_⟩,λh=>absurd (by rw[FY.o]) h⟩;have h1:=hr.aG hs.2.2 (λb wZ=>by have:=ho b wZ;have:=RF.o;simp;omega);refine Vf.aZ.congr (aZ.vd h1) (λo ho=>?_);unfold Ac;rw[dN,pP ho,<-dN])
  have Gn:=Z (And.intro hs.1 hs.2.1);obtain⟨a9,m9,c9,hv9⟩:∃a m c,lv=H a m c:=by rcases hr.val with⟨h,-⟩|⟨_,_,h,-⟩<;>exact⟨_,_,_,h⟩
  subst hv9;obtain⟨g0,g1⟩:=hg.c2;have lg:=hg.lt;have kc:=KC3.o.of (X.block _ KC3.o.lt);have kf:=KF3.o.of (X.block _ KF3.o.lt);obtain⟨z0,z1⟩:=kc.c2;obtain⟨z2,z3⟩:=kf.c2;have z4:=kc.frozen;have z5:=kf.frozen;have z6:=kf.lt;have z7:=kc.lt;unfold FM;rw[j2,j3,j7];clear kc kf hs CQ X hr ho hg he j2 j3 j7;generalize bU p p.aT=em at*;go_wp2
  first|refine vC (cb:=w.heap.size+1) (fb:=w.heap.size+1+1) rfl rfl Gn.o.1 Gn.o.2 ?_|(rw[jO];refine vC (cb:=w.heap.size+1) (fb:=w.heap.size+1+1) rfl rfl Gn.o.1 Gn.o.2 ?_)
  exact HT.o
def Q8(w:ek)(p:aQ)(e:Ending)(w':ek):Prop:=∃w_ ms,e=Vl (.agg #[w_,Y ms])/\Below w.heap.size w w'/\
 ((aW p).1=0->ms=(bU p p.aT:Nat)/\aZ w' 1 w_ p.on.length (λi=> Y (bU p (p.on.getD i 0):Nat)))/\((aW p).1≠0->w_=Vn/\ms=0)
def aay{w:ek}{K:Kp}{p:aQ}(h:fW w K p):Calls prog 52 #[pV K p] w (Q8 w p):=by
 obtain⟨⟨ga,gc,g1,g2,g3⟩,⟨va,vc,v1,v2,v3⟩,⟨ta,tc,t1,t2,t3⟩,⟨oa,oc,o1,o2,o3⟩,⟨ca,cc,c1,c2,c3⟩⟩:=h.sl;have LW:=Z (λV (X:Below w.heap.size w V)=>aaz (w:=V) (h.aG (aA.af X)));obtain⟨W0,kX⟩:∃W0,W0=(w.alloc (CA #[H ga p.ax.length gc,H va p.vars.length vc,H ta p.aS.length tc,H oa p.on.length oc,Y p.aT,H ca p.code.length cc] 27)).alloc (CA #[Vn,Y 0] 97):=⟨_,rfl⟩;have kc:aF W0 (w.heap.size+1) 97 #[Vn,Y 0]:=by rw[kX];exact aF.bR ay
 have ep:Below w.heap.size w W0:=by rw[kX];exact((aY _ _).alloc (aL _) _).alloc ay _
 have ru:W0.heap.size=w.heap.size+1+1:=by rw[kX];simp
 unfold pV at LW ⊢;rw[g1,v1,t1,o1,c1]at LW ⊢;clear h g1 v1 t1 o1 c1 g2 g3 v2 v3 t2 t3 o2 o3 c2 c3;go_enter func52,ntmps52;go_wp2_with fail;rw[<-kX];refine(LW.o _ ep).mono ?_;rintro e W1 ⟨w_,ms,rfl,X,jo,h1,h2⟩;have rF:∃a m c,w_=H a m c:=by
  by_cases hv:(aW p).1=0
  ·obtain⟨a,c,e,-,-⟩:=aZ.val (h1 hv).2;exact⟨_,_,_,e⟩
  ·exact⟨_,_,_,(h2 hv).1⟩
 obtain⟨a9,m9,c9,rfl⟩:=rF;have cR:=Z (ep.trans (X.mono ep.size));have KC:=Z (kc.of (X.block _ kc.lt));have tu:=Z (show w.heap.size+1<W1.heap.size by have:=X.size;omega);have yo:=Z (λb (h:(Value.slice a9 m9 c9).ownBlock=O b)=>show b∉[w.heap.size+1]by have:=jo b h;simp;omega);have H1:=Z h1;have H2:=Z h2;obtain⟨ve,ZR⟩:∃v,aW p=v:=⟨_,rfl⟩;rw[ZR]at H1 H2 ⊢;have Ua:=Z ZR;obtain⟨v1,v2⟩:=ve;clear X ep kc ru kX h1 h2 LW ZR jo;obtain⟨W2,hW2⟩:∃W2,W2=(W1.alloc (CA #[H a9 m9 c9,Y ms] 97)).alloc (CA #[Y v1,Y v2] 99):=⟨_,rfl⟩;have dC:Below W1.heap.size W1 W2:=by rw[hW2];exact((aY _ _).alloc (aL _) _).alloc ay _
 have Fb:=KC.o.of (dC.block _ KC.o.lt);obtain⟨z0,z1⟩:=Fb.c2;have z4:=Fb.frozen;have z5:=Fb.lt;have Vg:=Z ((Fb.set 0 (H a9 m9 c9)).set 1 (Y ms));have HF:=Z (show aA [w.heap.size+1] W2 ((W2.setCell (I (w.heap.size+1) 0) (H a9 m9 c9)).setCell (I (w.heap.size+1) 1) (Y ms))from((aA.refl _ _).setCell (p:=(I (w.heap.size+1) 0)) ay _).setCell (p:=(I (w.heap.size+1) 1)) ay _);have eF:=Z (cR.o.trans (dC.mono cR.o.size));have sg:=Z (aA.af (S:=[]) dC);clear dC Fb;subst hW2;go_wp2_with fail;have HT:=Z (show Q8 w p (Vl (.agg #[H a9 m9 c9,Y ms])) _ from⟨_,_,rfl,eF.o.trans (HF.o.below eF.o.size ay),λh=>⟨(H1.o (by rw[<-h,Ua.o])).1,Vf.rz ((H1.o (by rw[<-h,Ua.o])).2.aG sg.o) HF.o yo.o⟩,λh=>H2.o (λe=>h (by rw[Ua.o];exact e))⟩);have xH:=Vg.o.cell 0;have pR:=Vg.o.cell 1;simp only[List.getElem?_toArray,List.getElem?_cons_zero,List.getElem?_cons_succ,List.setIfInBounds_toArray,List.set_cons_zero,List.set_cons_succ]at xH pR;refine bK (v:= .agg #[H a9 m9 c9,Y ms]) ?_ rfl HT.o;simp[results,results52,go_sem,xH,pR]
end
end Go.Rv
section
def TF{p:Prop}(h:p:=by
 have sr:bq p=0:=by
  by_cases h0:bq p=0
  ·exact h0
  ·unfold aW at hv;rw[aB h0]at hv;exact absurd hv h0
 exact(cE sr).1):p:=h
namespace Go.Rv
open Go.RowKit aj.Vm
open aj hiding aR an ak
open Ma (dP ci aX vb aI aV)
open Vf (Kp fW pV rT bN aZ iw cV)
def Vk(J:Nat->to):Act:={tmps:=#[J 0,J 1,J 2,J 3,J 4,J 5,J 6,J 7,J 8,J 9,J 10,J 11,J 12,J 13,J 14,J 15,J 16,J 17,J 18,J 19,J 20,J 21,J 22,J 23,J 24,J 25,J 26,J 27,J 28,J 29,J 30,J 31,J 32,J 33,J 34,J 35,J 36,J 37,J 38,J 39,J 40,J 41,J 42,J 43,J 44,J 45,J 46,J 47,J 48,J 49,J 50,J 51,J 52,J 53,J 54,J 55,J 56,J 57,J 58,J 59],defers:=[]}
def Vk.of(A:Array to)(h:A=(Vk λk=>A.getD k undef).tmps):({tmps:=A,defers:=[]}:Act)=Vk λk=>A.getD k undef:=by rw[h];rfl
noncomputable def snL(k:Nat):Code:=Mk.iS Proofs.Tryz.f14.body k
def Af(l:List Int):Option Bool:=(l.find? λq=>decide (5000<q)).map λq=>decide (1048576<q)
def rW(p:aQ)(c:Cp):Bool:=match Af c.aK with
 |some b=>b
 |none=>if(aW p).1=0 then decide (bU p p.aT<=jC)&&p.on.all (λn=>decide (bU p n<=jC))else true
def oO{l:List Int}(h:∀j,j<l.length->l.getD j 0<=5000):Af l=MT:=by unfold Af;rw[Option.map_eq_none_iff,List.find?_eq_none];intro q hq;obtain⟨j,hj,rfl⟩:=qU hq;have:=h j hj;rw[dN,fq hj]at this;simp at this ⊢;omega
def rn{l:List Int}:∀{i:Nat},i<l.length->(∀j,j<i->l.getD j 0<=5000)->5000<l.getD i 0->Af l=O (decide (1048576<l.getD i 0)):=by
 induction l with
 |nil=>intro i h;simp at h
 |cons q l ih=>
  intro i hi h1 h2;cases i with
  |zero=>simp only[List.getD_cons_zero]at h2 ⊢;unfold Af;rw[List.find?_cons_of_pos (by simpa using h2)];rfl
  |succ i=>have h0:=h1 0 G;simp only[List.getD_cons_zero]at h0;rw[List.getD_cons_succ]at h2 ⊢;have:=ih (i:=i) (by simpa using hi) (λj hj=>by have:=h1 (j+1) G;rwa[List.getD_cons_succ]at this) h2;unfold Af at this ⊢;rw[List.find?_cons_of_neg jz];exact this
def adP{p:aQ}{c:Cp}(h:rW p c=true)(hv:(aW p).1=0)(hq:∀j,j<c.aK.length->c.aK.getD j 0<=1048576):nw p:=by
 unfold rW at h;cases X:Af c.aK with
 |some b=>exfalso;rw[X]at h;dsimp only at h;subst h;unfold Af at X;rw[Option.map_eq_some_iff]at X;obtain⟨q,h1,h2⟩:=X;have hm:=List.mem_of_find?_eq_some h1;obtain⟨j,hj,rfl⟩:=qU hm;have:=hq j hj;rw[dN,fq hj]at this;simp at this h2;omega
 |none=>
  rw[X]at h;dsimp only at h;rw[aB hv]at h;simp only[fp,ft,qM]at h;intro n hn;rcases List.mem_append.1 hn with hn|hn
  ·exact h.2 n hn
  ·simp at hn;subst hn;exact h.1
section
variable {w W0:ek}{K:Kp}{p:aQ}{c:Cp}{qa:Option Addr}{qc pb cb gb:Nat}{Q:Exit->Act->ek->Prop}
def SN1(W0:ek)(c:Cp)(pb cb:Nat)(m:Nat)(a:Act)(W:ek):Prop:=∃(J:Nat->to) (i:Nat) (x:Int),a=Vk J/\J 2=V5 pb/\J 3=V5 cb/\J 5=Y x/\J 6=Y i/\i<=c.aK.length/\m+i=c.aK.length+1/\W=W0/\Hid (∀j,j<i->c.aK.getD j 0<=5000)
def sn1(HQ:Hid (aZ W0 1 (H qa c.aK.length qc) c.aK.length (aX c.aK)))(HC:Hid (aF W0 cb 29 #[Y c.size,H qa c.aK.length qc]))
 (iU:∀(A:Array to) b,A.getD 4 undef= .bool b->Af c.aK=O b->Q .ret {tmps:=A,defers:=[]} W0)
 (d_:∀(J:Nat->to),J 2=V5 pb->Af c.aK=MT->Q (.exit 0) (Vk J) W0)
 {a:Act} (h:SN1 W0 c pb cb (c.aK.length+1) a W0):(Code.loop (snL 0)).wp prog Q a W0:=by
 refine Mk.aN (λm a W=>SN1 W0 c pb cb m a W) (c.aK.length+1) h ?_ ?_
 ·rintro a W ⟨J,i,x,-,-,-,-,-,h1,h2,-⟩;omega
 rintro m a0 W ⟨J,i,x,rfl,j2,j3,j5,j6,hi,hm,rfl,HA⟩;unfold Vk
 conv=>arg 2;whnf
 have hle:=HQ.o.len;rw[j2,j3,j5,j6];clear j2 j3 j5 j6;obtain⟨k0,k1⟩:=HC.o.c2;have lc:=HC.o.lt;by_cases be:i<c.aK.length
 ·obtain⟨b,off,cap,e,q1,q2,lb,hc⟩:=HQ.o.some G G;have w2:IntKind.i64.wrap ((i:Int)+1)=((i+1:Nat):Int):=by unfold maxLen at hle;rw[bJ _ lI];omega
  clear hle;simp only[cz]at e;obtain⟨rfl,-,rfl⟩:=e;have c0:Vo W (I b (off+i))=O (Y (c.aK.getD i 0)):=hc i G;have dE:=Z be;have Z8:=Z (λh=>rn (l:=c.aK) be HA.o h);obtain⟨z,hz⟩:∃z,c.aK.getD i 0=z:=⟨_,rfl⟩;rw[hz]at c0 Z8;have HZ:=Z hz;clear hz hc q2;by_cases h1:5000<z
  ·have HG:=Z (Z8.o h1);clear Z8;go_wp2;exact iU _ _ rfl HG.o
  ·have HG:=Z h1;clear Z8;go_wp2;refine⟨_,i+1,_,Vk.of _ rfl,rfl,rfl,rfl,rfl,dE.o,G,rfl,Z λj hj=>?_⟩;by_cases e:j=i
   ·subst e;rw[HZ.o];have:=HG.o;omega
   ·exact HA.o j G
 ·obtain rfl:i=c.aK.length:=G;clear be;have HG:=Z (oO HA.o);go_wp2;exact Eq.mpr (bu (λa=>Q (.exit 0) a W) (Vk.of _ rfl)) (d_ _ rfl HG.o)
def SN2(W0:ek)(n:Nat)(g:Nat->Int)(ms:Int)(gb:Nat)(m:Nat)(a:Act)(W:ek):Prop:=∃(J:Nat->to) (i:Nat) (ok:Bool),a=Vk J/\J 7=V5 gb/\J 8= .bool ok/\J 9=Y i/\i<=n/\m+i=n+1/\W=W0/\Hid (ok=true↔ms<=20000/\∀j,j<i->g j<=20000)
def sn2{n:Nat}{g:Nat->Int}{ms:Int}(HQ:Hid (aZ W0 1 (H qa n qc) n (λi=> Y (g i))))(hn:n<=16)(HC:Hid (aF W0 gb 97 #[H qa n qc,Y ms]))
 (d_:∀(J:Nat->to) ok,J 8= .bool ok->(ok=true↔ms<=20000/\∀j,j<n->g j<=20000)->Q (.exit 2) (Vk J) W0)
 {a:Act} (h:SN2 W0 n g ms gb (n+1) a W0):(Code.loop (snL 1)).wp prog Q a W0:=by
 refine Mk.aN (λm a W=>SN2 W0 n g ms gb m a W) (n+1) h ?_ ?_
 ·rintro a W ⟨J,i,ok,-,-,-,-,h1,h2,-⟩;omega
 rintro m a0 W ⟨J,i,ok,rfl,j7,j8,j9,hi,hm,rfl,HA⟩;unfold Vk
 conv=>arg 2;whnf
 have w2:=mO i G;rw[j7,j8,j9];clear j7 j8 j9;obtain⟨k0,k1⟩:=HC.o.c2;have lc:=HC.o.lt;by_cases be:i<n
 ·obtain⟨b,off,cap,e,q1,q2,lb,hc⟩:=HQ.o.some G G;simp only[cz]at e;obtain⟨rfl,-,rfl⟩:=e;have c0:Vo W (I b (off+i))=O (Y (g i)):=hc i G;have dE:=Z be;have HS:Hid (∀z,g i=z->∀ok',(ok'=true↔ok=true/\z<=20000)->(ok'=true↔ms<=20000/\∀j,j<i+1->g j<=20000)):=Z λz hz ok' h=>by
   rw[h,HA.o];constructor
   ·rintro⟨⟨h1,h2⟩,h3⟩;refine⟨h1,λj hj=>?_⟩;by_cases e:j=i
    ·subst e;omega
    ·exact h2 j G
   ·rintro⟨h1,h2⟩;exact⟨⟨h1,λj hj=>h2 j G⟩,by rw[<-hz];exact h2 i G⟩
  obtain⟨z,hz⟩:∃z,g i=z:=⟨_,rfl⟩;rw[hz]at c0;have wL:=Z (HS.o z hz);clear hz hc q2 HS;cases ok with
  |false=>have HG:=Z (wL.o false ay);clear wL;go_wp2;exact⟨_,i+1,_,Vk.of _ rfl,rfl,rfl,rfl,dE.o,G,rfl,HG⟩
  |true=>have HG:=Z (wL.o (decide (z<=20000)) ay);clear wL;go_wp2;exact⟨_,i+1,_,Vk.of _ rfl,rfl,rfl,rfl,dE.o,G,rfl,HG⟩
 ·obtain rfl:i=n:=G;clear be;go_wp2;exact Eq.mpr (bu (λa=>Q (.exit 2) a W) (Vk.of _ rfl)) (d_ _ _ rfl HA.o)
def aat{qv:to}(h:fW w K p)(hq:aZ w 1 qv c.aK.length (aX c.aK)):Calls prog 14 #[pV K p,cV c qv] w (λe w'=>e=Vl (.bool (rW p c))/\Below w.heap.size w w'):=by
 obtain⟨⟨ga,gc,g1,g2,g3⟩,⟨va,vc,v1,v2,v3⟩,⟨ta,tc,t1,t2,t3⟩,⟨oa,oc,o1,o2,o3⟩,⟨ca,cc,c1,c2,c3⟩⟩:=h.sl;obtain⟨qa,qc,rfl,-,-⟩:=hq.val;have TL:=Z (λV (X:Below w.heap.size w V)=>aay (w:=V) (h.aG (aA.af X)));have HQ:=Z hq;obtain⟨W0,kX⟩:∃W0,W0=(w.alloc (CA #[H ga p.ax.length gc,H va p.vars.length vc,H ta p.aS.length tc,H oa p.on.length oc,Y p.aT,H ca p.code.length cc] 27)).alloc (CA #[Y c.size,H qa c.aK.length qc] 29):=⟨_,rfl⟩;have kp:aF W0 w.heap.size 27 #[H ga p.ax.length gc,H va p.vars.length vc,H ta p.aS.length tc,H oa p.on.length oc,Y p.aT,H ca p.code.length cc]:=by rw[kX];exact(aF.new _ _ _).alloc _
 have kc:aF W0 (w.heap.size+1) 29 #[Y c.size,H qa c.aK.length qc]:=by rw[kX];exact aF.bR ay
 have ep:Below w.heap.size w W0:=by rw[kX];exact((aY _ _).alloc (aL _) _).alloc ay _
 have k0:=kc.c1;unfold pV cV at*;rw[g1,v1,t1,o1,c1]at TL ⊢;clear h hq g1 v1 t1 o1 c1 g2 g3 v2 v3 t2 t3 o2 o3 c2 c3;go_enter func14,ntmps14;have eV:=Z ep;have KP:=Z kp;have KC:=Z kc;clear ep kp kc;subst kX;go_wp2_with fail;obtain⟨W0,kX⟩:∃W0,W0=(w.alloc (CA #[H ga p.ax.length gc,H va p.vars.length vc,H ta p.aS.length tc,H oa p.on.length oc,Y p.aT,H ca p.code.length cc] 27)).alloc (CA #[Y c.size,H qa c.aK.length qc] 29):=⟨_,rfl⟩;rw[<-kX]at eV KP KC ⊢;clear kX k0;refine sn1 (W0:=W0) (pb:=w.heap.size) (cb:=w.heap.size+1) (Z (HQ.o.aG (aA.af eV.o))) KC (λB b h4 X=>?_) (λJ j2 X=>?_) ⟨_,0,c.size,Vk.of _ rfl,rfl,rfl,rfl,rfl,cM _,G,rfl,Z (λj hj=>absurd hj G)⟩
 ·try simp only[Exit.inBlock,Exit.then]
  have HV:=Z (show rW p c=b by unfold rW;rw[X])
  first|refine Vf.fy (P:=prog) (fn:=Proofs.Tryz.f14) rfl ?_|(rw[jO];refine Vf.fy (P:=prog) (fn:=Proofs.Tryz.f14) rfl ?_)
  exact⟨by rw[h4,HV.o],eV.o⟩
 have HV:=Z (show rW p c=(if(aW p).1=0 then decide (bU p p.aT<=jC)&&p.on.all (λn=>decide (bU p n<=jC))else true)by unfold rW;rw[X]);unfold Vk;rw[j2];clear j2 X;obtain⟨p0,p1,p2,p3,p4,p5⟩:=KP.o.c6;go_wp2_with fail;refine(TL.o _ eV.o).mono ?_;rintro e W1 ⟨w_,ms,rfl,X,h1,h2⟩;have HT:Hid (∃(n:Nat) (g:Nat->Int),n<=16/\aZ W1 1 w_ n (λi=> Y (g i))/\(∀ok:Bool,(ok=true↔ms<=20000/\∀j,j<n->g j<=20000)->rW p c=ok)):=by
  refine Z ?_;by_cases hv:(aW p).1=0
  ·obtain⟨e1,hr⟩:=h1 hv;have tb:tM p:=by exact TF
   refine⟨p.on.length,λi=>(bU p (p.on.getD i 0):Nat),by have:=tb.on;have:=tb.g;omega,hr,λok ni=>?_⟩;rw[HV.o,aB hv];have:(decide (bU p p.aT<=jC)&&p.on.all (λn=>decide (bU p n<=jC)))=true↔ok=true:=by
    rw[ni,fp,ft,zD (0:Int),e1];simp only[ft];unfold jC;constructor
    ·rintro⟨a,b⟩;exact⟨G,λj hj=>by have:=b j hj;omega⟩
    ·rintro⟨a,b⟩;exact⟨G,λj hj=>by have:=b j hj;omega⟩
   exact Bool.eq_iff_iff.2 this
  ·obtain⟨e1,e2⟩:=h2 hv;refine⟨0,λ_=>0,G,.inl ⟨e1,rfl⟩,λok ni=>?_⟩;rw[HV.o,aw hv];exact(ni.2 ⟨by rw[e2];decide,λj hj=>absurd hj G⟩).symm
 obtain⟨n,g,hn,hr,ni⟩:=HT.o;have Ad:=Z ni;have HR:=Z hr;have cR:=Z (eV.o.trans (X.mono eV.o.size));obtain⟨a9,c9,rfl,-,-⟩:=hr.val;clear p0 p1 p2 p3 p4 p5 h1 h2 HT X hr ni TL HV;go_wp2_with fail;refine sn2 (W0:=W1.alloc (CA #[H a9 n c9,Y ms] 97)) (gb:=W1.heap.size) (Z (HR.o.aG ((aA.refl [] _).alloc _))) hn (Z (aF.new _ _ _)) (λJ ok j8 ni=>?_) ⟨_,0,decide (ms<=20000),Vk.of _ rfl,rfl,rfl,rfl,cM _,G,rfl,Z ay⟩;have HG:=Z (Ad.o ok ni);unfold Vk;rw[j8];clear j8 ni;go_wp2
 first|refine Vf.fy (P:=prog) (fn:=Proofs.Tryz.f14) rfl ?_|(rw[jO];refine Vf.fy (P:=prog) (fn:=Proofs.Tryz.f14) rfl ?_)
 exact⟨by rw[HG.o];rfl,cR.o.alloc cR.o.size _⟩
end
end Go.Rv
end
namespace Go.Ma
open Go.RowKit aj.Vm
open aj hiding aR an ak
open Vf (aZ Kp fW pV zp IF)
def FO(J:Nat->to):Act:={tmps:=#[J 0,J 1,J 2,J 3,J 4,J 5,J 6,J 7,J 8,J 9,J 10,J 11,J 12,J 13,J 14,J 15,J 16,J 17,J 18,J 19,J 20,J 21,J 22,J 23,J 24,J 25,J 26,J 27,J 28,J 29,J 30,J 31,J 32,J 33,J 34],defers:=[]}
def FO.of(A:Array to)(h:A=(FO λk=>A.getD k undef).tmps):({tmps:=A,defers:=[]}:Act)=FO λk=>A.getD k undef:=by rw[h];rfl
def SO1(W0:ek)(n gb:Nat)(m:Nat)(a:Act)(W:ek):Prop:=∃(J:Nat->to) (i:Nat) (ok:Bool),a=FO J/\J 3=V5 gb/\J 5= .bool ok/\J 6=Y i/\i<=n/\m+i=n+1/\W=W0
section
variable {w:ek}{K:Kp}{p:aQ}
def KH(hv:(aW p).1=0):tM p:=by exact TF
def aax(h:fW w K p):Calls prog 13 #[pV K p] w (λe w'=>(∃b,e=Vl (.bool b))/\Below w.heap.size w w'):=by
 have HR:=Z (λV (X:Below w.heap.size w V)=>IF (w:=V) (h.aG (aA.af X)));obtain⟨⟨ga,gc,g1,g2,g3⟩,⟨va,vc,v1,v2,v3⟩,⟨ta,tc,t1,t2,t3⟩,⟨oa,oc,o1,o2,o3⟩,⟨ca,cc,c1,c2,c3⟩⟩:=h.sl;unfold pV at HR ⊢;rw[g1,v1,t1,o1,c1]at HR ⊢;have eV:=Z (show Below w.heap.size w (w.alloc (CA #[H ga p.ax.length gc,H va p.vars.length vc,H ta p.aS.length tc,H oa p.on.length oc,Y p.aT,H ca p.code.length cc] 27))from(aY _ _).alloc (aL _) _);clear h g1 v1 t1 o1 c1 g2 g3 v2 v3 t2 t3 o2 o3 c2 c3;go_enter func13,ntmps13;go_wp2_with fail;refine(HR.o _ eV.o).mono ?_;rintro e W1 ⟨w_,ms,rfl,⟨xa,xn,xc,rfl⟩,X,h1⟩;have cR:=Z (eV.o.trans (X.mono eV.o.size));have H1:=Z h1;clear X h1 HR eV;have hB:Below W1.heap.size W1 ((W1.alloc (CA #[H xa xn xc,Y ms] 97)).alloc (CA #[Y (aW p).1,Y (aW p).2] 99)):=((aY _ _).alloc (aL _) _).alloc ay _;have kc:aF ((W1.alloc (CA #[H xa xn xc,Y ms] 97)).alloc (CA #[Y (aW p).1,Y (aW p).2] 99)) W1.heap.size 97 #[H xa xn xc,Y ms]:=(aF.new _ _ _).alloc _;have LR:=Z hB;have KC:=Z kc;clear hB kc;by_cases hv:(aW p).1=0
 ·obtain⟨-,hr⟩:=H1.o hv;have hn:p.on.length<=16:=by have:=(KH hv).on;have:=(KH hv).g;omega
  have hrx:=hr;obtain⟨za,zc,ez,-,-⟩:=hrx.val;simp only[cz]at ez;obtain⟨rfl,rfl,rfl⟩:=ez;have HR:=Z (hr.aG (aA.af (S:=[]) LR.o));have d:((aW p).1 !=0)=false:=by simp[hv]
  clear hr hrx H1;generalize(aW p).1=x1 at*;generalize(aW p).2=x2 at*;generalize hL:p.on.length=n at*;clear hL hv;go_wp2_with fail;have iy:=Z (cR.o.trans (LR.o.mono cR.o.size));clear LR cR;generalize(W1.alloc (CA #[H xa n xc,Y ms] 97)).alloc (CA #[Y x1,Y x2] 99)=W0 at*;generalize W1.heap.size=gb at*;refine Mk.aN (SO1 W0 n gb) (n+1) ⟨_,0,_,FO.of _ rfl,rfl,rfl,rfl,cM _,G,rfl⟩ (λa W hh=>by obtain⟨J,i,ok,-,-,-,-,h1,h2,-⟩:=hh;omega) ?_;rintro m a W ⟨J,i,ok,rfl,j3,j5,j6,hi,hm,rfl⟩;unfold FO;rw[j3,j5,j6];clear j3 j5 j6;have w2:=mO i G;have k0:=KC.o.c1;have lc:=KC.o.lt;by_cases be:i<n
  ·obtain⟨b,off,cap,e,q1,q2,lb,hc⟩:=HR.o.some G G;simp only[cz]at e;obtain⟨rfl,-,rfl⟩:=e;obtain⟨z,c0⟩:∃z,Vo W (I b (off+i))=O (Y z):=⟨_,hc i G⟩;have dE:=Z be;clear hc q2;cases ok with
   |false=>go_wp2_with fail;exact⟨_,i+1,_,FO.of _ rfl,rfl,rfl,rfl,dE.o,G,rfl⟩
   |true=>go_wp2_with fail;exact⟨_,i+1,_,FO.of _ rfl,rfl,rfl,rfl,dE.o,G,rfl⟩
  ·obtain rfl:i=n:=G;clear be;go_wp2
   first|refine Vf.fy (P:=prog) (fn:=Proofs.Tryz.f13) rfl ?_|(rw[jO];refine Vf.fy (P:=prog) (fn:=Proofs.Tryz.f13) rfl ?_)
   exact⟨⟨_,rfl⟩,iy.o⟩
 ·have d:((aW p).1 !=0)=true:=by simpa using hv
  clear H1;generalize(aW p).1=x1 at*;generalize(aW p).2=x2 at*;clear hv;go_wp2
  first|refine Vf.fy (P:=prog) (fn:=Proofs.Tryz.f13) rfl ?_|(rw[jO];refine Vf.fy (P:=prog) (fn:=Proofs.Tryz.f13) rfl ?_)
  exact⟨⟨_,rfl⟩,cR.o.trans (LR.o.mono cR.o.size)⟩
end
end Go.Ma
namespace Go.Ma
open Go.RowKit aj.Vm
open aj hiding aR an ak
open Vf (Kp fW pV aZ cV)
section
variable {w:ek}{K:Kp}{p:aQ}{c:Cp}{qv:to}{sa:Option Addr}{sn sc:Nat}
def aaw(h:Rv.rW p c=true)(hv:(aW p).1=0)(ni:mi p c=true):nw p:=by obtain⟨T,E⟩:=Qy hv ni;exact Rv.adP h hv λj hj=>(E.gM.q1 j (by rw[<-E.gM.len];exact hj)).2
def xq{α:Type}{f g:Nat->α}(h0:f 0=g 0)(h1:f 1=g 1)(h2:f 2=g 2)(h3:f 3=g 3):∀j,j<4->f j=g j
 |0,_=>h0
 |1,_=>h1
 |2,_=>h2
 |3,_=>h3
 |n+4,h=>G
variable {a2 a3 a4:Option Addr}{n2 n3 n4 c2 c3 c4:Nat}
def a0h(h:fW w K p)(hq:aZ w 1 qv c.aK.length (aX c.aK))(Bj:um w a2 n2)(Dq:um w a3 n3)(xZ:um w a4 n4):Calls prog 9 #[pV K p,cV c qv,H a2 n2 c2,H a3 n3 c3,H a4 n4 c4] w (λe w'=>e=Vl (.bool true)/\Below w.heap.size w w'):=by
 obtain⟨⟨ga,gc,g1,g2,g3⟩,⟨va,vc,v1,v2,v3⟩,⟨ta,tc,t1,t2,t3⟩,⟨oa,oc,o1,o2,o3⟩,⟨ca,cc,c1,c2',c3'⟩⟩:=h.sl;obtain⟨qa,qc,rfl,-,-⟩:=hq.val;obtain⟨k2,x2,s2⟩:=Bj.fn;obtain⟨k3,x3,s3⟩:=Dq.fn;obtain⟨k4,x4,s4⟩:=xZ.fn;have HFW:=Z (λV (X:Below w.heap.size w V)=>Vf.adL V (h.aG (aA.af X)));have HSP:=Z (λV (X:Below w.heap.size w V)=>aax (w:=V) (h.aG (aA.af X)));have HSO:=Z (λV (X:Below w.heap.size w V)=>Rv.aat (w:=V) (h.aG (aA.af X)) (hq.aG (aA.af X)));have HNW:=Z (λV (X:Below w.heap.size w V) (hS:(aW p).1=0->mi p c=true->nw p)=>IM (w:=V) (h.aG (aA.af X)) (hq.aG (aA.af X)) hS);have wL:=Z s2;have RF:=Z s3;have HS4:=Z s4;have IX:=Z (show Arg w K.g (H qa c.aK.length qc) p c from⟨h.g,hq⟩);obtain⟨W0,kX⟩:∃W0,W0=(w.alloc (CA #[H ga p.ax.length gc,H va p.vars.length vc,H ta p.aS.length tc,H oa p.on.length oc,Y p.aT,H ca p.code.length cc] 27)).alloc (CA #[Y c.size,H qa c.aK.length qc] 29):=⟨_,rfl⟩;have kp:aF W0 w.heap.size 27 #[H ga p.ax.length gc,H va p.vars.length vc,H ta p.aS.length tc,H oa p.on.length oc,Y p.aT,H ca p.code.length cc]:=by rw[kX];exact(aF.new _ _ _).alloc _
 have kc:aF W0 (w.heap.size+1) 29 #[Y c.size,H qa c.aK.length qc]:=by rw[kX];exact aF.bR ay
 have ep:Below w.heap.size w W0:=by rw[kX];exact((aY _ _).alloc (aL _) _).alloc ay _
 have HKN:=Z (abo W0);unfold pV cV at*;rw[g1]at IX;rw[g1,v1,t1,o1,c1]at HFW HSP HSO HNW ⊢;clear h hq Bj Dq xZ s2 s3 s4 g1 v1 t1 o1 c1 g2 g3 v2 v3 t2 t3 o2 o3 c2' c3';have eV:=Z ep;have KP:=Z kp;have KC:=Z kc;clear ep kp kc;go_enter func9,ntmps9;go_wp2_with fail;rw[<-kX];clear kX;refine HKN.o.mono ?_;rintro e W1 ⟨rfl,fI⟩;have cR:=Z (eV.o.trans (fI.mono eV.o.size));have xI:=Z fI;clear fI;have p0:Vo W1 (I w.heap.size 0)=O (H ga p.ax.length gc):=(KP.o.aG (aA.af (S:=[]) xI.o) ay).cell 0;have p1:Vo W1 (I w.heap.size 1)=O (H va p.vars.length vc):=(KP.o.aG (aA.af (S:=[]) xI.o) ay).cell 1;have p2:Vo W1 (I w.heap.size 2)=O (H ta p.aS.length tc):=(KP.o.aG (aA.af (S:=[]) xI.o) ay).cell 2;have p3:Vo W1 (I w.heap.size 3)=O (H oa p.on.length oc):=(KP.o.aG (aA.af (S:=[]) xI.o) ay).cell 3;have p4:Vo W1 (I w.heap.size 4)=O (Y p.aT):=(KP.o.aG (aA.af (S:=[]) xI.o) ay).cell 4;have p5:Vo W1 (I w.heap.size 5)=O (H ca p.code.length cc):=(KP.o.aG (aA.af (S:=[]) xI.o) ay).cell 5;have q0:Vo W1 (I (w.heap.size+1) 0)=O (Y c.size):=(KC.o.aG (aA.af (S:=[]) xI.o) ay).cell 0;have q1:Vo W1 (I (w.heap.size+1) 1)=O (H qa c.aK.length qc):=(KC.o.aG (aA.af (S:=[]) xI.o) ay).cell 1;go_wp2_with fail;refine(HFW.o _ cR.o).mono ?_;rintro e W2 ⟨rfl,dC⟩;have lF:=Z (xI.o.trans (dC.mono xI.o.size));have eF:=Z (cR.o.trans (dC.mono cR.o.size));clear p0 p1 p2 p3 p4 p5 q0 q1 dC;have p0:Vo W2 (I w.heap.size 0)=O (H ga p.ax.length gc):=(KP.o.aG (aA.af (S:=[]) lF.o) ay).cell 0;have p1:Vo W2 (I w.heap.size 1)=O (H va p.vars.length vc):=(KP.o.aG (aA.af (S:=[]) lF.o) ay).cell 1;have p2:Vo W2 (I w.heap.size 2)=O (H ta p.aS.length tc):=(KP.o.aG (aA.af (S:=[]) lF.o) ay).cell 2;have p3:Vo W2 (I w.heap.size 3)=O (H oa p.on.length oc):=(KP.o.aG (aA.af (S:=[]) lF.o) ay).cell 3;have p4:Vo W2 (I w.heap.size 4)=O (Y p.aT):=(KP.o.aG (aA.af (S:=[]) lF.o) ay).cell 4;have p5:Vo W2 (I w.heap.size 5)=O (H ca p.code.length cc):=(KP.o.aG (aA.af (S:=[]) lF.o) ay).cell 5;have q0:Vo W2 (I (w.heap.size+1) 0)=O (Y c.size):=(KC.o.aG (aA.af (S:=[]) lF.o) ay).cell 0;have q1:Vo W2 (I (w.heap.size+1) 1)=O (H qa c.aK.length qc):=(KC.o.aG (aA.af (S:=[]) lF.o) ay).cell 1;by_cases hf:p.code.length<=3000;rotate_left
 ·have d:decide (p.code.length<=3000)=false:=decide_eq_false hf;rw[d];clear d hf;go_wp2
  first|refine Vf.fy (P:=prog) (fn:=Proofs.Tryz.f9) rfl ?_|(rw[jO];refine Vf.fy (P:=prog) (fn:=Proofs.Tryz.f9) rfl ?_)
  exact⟨rfl,eF.o⟩
 have d:decide (p.code.length<=3000)=true:=yR hf;rw[d];clear d hf;go_wp2_with fail;refine(HSP.o _ eF.o).mono ?_;rintro e W3 ⟨⟨b3,rfl⟩,pz⟩;have GI:=Z (lF.o.trans (pz.mono lF.o.size));have iy:=Z (eF.o.trans (pz.mono eF.o.size));clear p0 p1 p2 p3 p4 p5 q0 q1 pz;cases b3 with
 |false=>
  go_wp2
  first|refine Vf.fy (P:=prog) (fn:=Proofs.Tryz.f9) rfl ?_|(rw[jO];refine Vf.fy (P:=prog) (fn:=Proofs.Tryz.f9) rfl ?_)
  exact⟨rfl,iy.o⟩
 |true=>
  have p0:Vo W3 (I w.heap.size 0)=O (H ga p.ax.length gc):=(KP.o.aG (aA.af (S:=[]) GI.o) ay).cell 0;have p1:Vo W3 (I w.heap.size 1)=O (H va p.vars.length vc):=(KP.o.aG (aA.af (S:=[]) GI.o) ay).cell 1;have p2:Vo W3 (I w.heap.size 2)=O (H ta p.aS.length tc):=(KP.o.aG (aA.af (S:=[]) GI.o) ay).cell 2;have p3:Vo W3 (I w.heap.size 3)=O (H oa p.on.length oc):=(KP.o.aG (aA.af (S:=[]) GI.o) ay).cell 3;have p4:Vo W3 (I w.heap.size 4)=O (Y p.aT):=(KP.o.aG (aA.af (S:=[]) GI.o) ay).cell 4;have p5:Vo W3 (I w.heap.size 5)=O (H ca p.code.length cc):=(KP.o.aG (aA.af (S:=[]) GI.o) ay).cell 5;have q0:Vo W3 (I (w.heap.size+1) 0)=O (Y c.size):=(KC.o.aG (aA.af (S:=[]) GI.o) ay).cell 0;have q1:Vo W3 (I (w.heap.size+1) 1)=O (H qa c.aK.length qc):=(KC.o.aG (aA.af (S:=[]) GI.o) ay).cell 1;go_wp2_with fail;refine(HSO.o _ iy.o).mono ?_;rintro e Vb ⟨rfl,wM⟩;have Q9:=Z (GI.o.trans (wM.mono GI.o.size));have jK:=Z (iy.o.trans (wM.mono iy.o.size));clear p0 p1 p2 p3 p4 p5 q0 q1 wM;cases pk:Rv.rW p c with
  |false=>
   clear pk;go_wp2
   first|refine Vf.fy (P:=prog) (fn:=Proofs.Tryz.f9) rfl ?_|(rw[jO];refine Vf.fy (P:=prog) (fn:=Proofs.Tryz.f9) rfl ?_)
   exact⟨rfl,jK.o⟩
  |true=>
  have HSN:=Z (aaw (p:=p) (c:=c) pk);clear pk;have p0:Vo Vb (I w.heap.size 0)=O (H ga p.ax.length gc):=(KP.o.aG (aA.af (S:=[]) Q9.o) ay).cell 0;have p1:Vo Vb (I w.heap.size 1)=O (H va p.vars.length vc):=(KP.o.aG (aA.af (S:=[]) Q9.o) ay).cell 1;have p2:Vo Vb (I w.heap.size 2)=O (H ta p.aS.length tc):=(KP.o.aG (aA.af (S:=[]) Q9.o) ay).cell 2;have p3:Vo Vb (I w.heap.size 3)=O (H oa p.on.length oc):=(KP.o.aG (aA.af (S:=[]) Q9.o) ay).cell 3;have p4:Vo Vb (I w.heap.size 4)=O (Y p.aT):=(KP.o.aG (aA.af (S:=[]) Q9.o) ay).cell 4;have p5:Vo Vb (I w.heap.size 5)=O (H ca p.code.length cc):=(KP.o.aG (aA.af (S:=[]) Q9.o) ay).cell 5;have q0:Vo Vb (I (w.heap.size+1) 0)=O (Y c.size):=(KC.o.aG (aA.af (S:=[]) Q9.o) ay).cell 0;have q1:Vo Vb (I (w.heap.size+1) 1)=O (H qa c.aK.length qc):=(KC.o.aG (aA.af (S:=[]) Q9.o) ay).cell 1;go_wp2_with fail;refine(HNW.o _ jK.o HSN.o).mono ?_;rintro e W5 ⟨uM,⟨-,er,XD,rfl⟩|⟨hv,ni,a0i,rfl,hvm⟩⟩
  ·have nU:=Z (jK.o.trans (uM.mono jK.o.size));have he0:(er==0)=false:=by simpa using XD
   have he1:(er !=0)=true:=by simpa using XD
   clear p0 p1 p2 p3 p4 p5 q0 q1 uM;go_wp2
   first|refine Vf.fy (P:=prog) (fn:=Proofs.Tryz.f9) rfl ?_|(rw[jO];refine Vf.fy (P:=prog) (fn:=Proofs.Tryz.f9) rfl ?_)
   exact⟨rfl,nU.o⟩
  have FQ:=Z uM;have zH:=Z jK.o.size;have HT5:=Z (TG.one hvm uM.size);have Dy:=Z (show aF Vb w.heap.size 27 #[H ga p.ax.length gc,H va p.vars.length vc,H ta p.aS.length tc,H oa p.on.length oc,Y p.aT,H ca p.code.length cc]/\aF Vb (w.heap.size+1) 29 #[Y c.size,H qa c.aK.length qc]from⟨KP.o.aG (aA.af (S:=[]) Q9.o) ay,KC.o.aG (aA.af (S:=[]) Q9.o) ay⟩);have HA:=Z (IX.o.later jK.o);have HG2:=Z (wL.o.later jK.o);have HG3:=Z (RF.o.later jK.o);have HG4:=Z (HS4.o.later jK.o);clear p0 p1 p2 p3 p4 p5 q0 q1 uM hvm hv ni;clear HFW HSP HSO HNW HSN HKN wL RF HS4 eV cR eF iy xI lF GI Q9 KP KC IX;generalize hpb:w.heap.size=pb at*;generalize a0i.mb=mb at*;generalize hzz:((zs p,(⟨0,0,0,0⟩:dZ),(0:Int)):St×dZ×Int)=z0 at*;clear hzz;go_wp2_with fail;refine abh (Vb:=Vb) (mb:=mb) (p:=p) (c:=c) (sn:=n2) (sc:=c2) (sa:=a2) (X3:=H a3 n3 c3) (X4:=H a4 n4 c4) (U5:=(V5 pb)) (U6:=(V5 (pb+1))) (U14:=undef) (U15:=undef) (U16:=undef) (N:=1) (y:=0) (M:=λ_=>mb) (Zi:=λi _=>iC p c k2 x2 i z0) HG2 (Z ⟨bd,rfl⟩) (Z λW i g=>g.IT λj hj=>⟨rfl,by (have e:j=0:=by omega);subst e;rfl⟩) (λJ W j2 j3 j4 j5 j6 oG lY qp vw X tg=>?_) ⟨_,0,wO.of _ rfl,rfl,rfl,rfl,rfl,rfl,rfl,rfl,rfl,rfl,rfl,cM _,G,Z ⟨FQ.o,HT5.o⟩⟩;have HB:=Z X;have HT0:=Z (show TG W Vb.heap.size p c 1 (λ_=>mb) (λ_=>iC p c k2 x2 (min n2 100) z0)from tg);clear X tg HT5 HG2 FQ;generalize iC p c k2 x2 (min n2 100) z0=z at*;unfold wO
  conv=>arg 2;whnf
  rw[j2,j3,j4,j5,j6,oG,lY,qp,vw];clear j2 j3 j4 j5 j6 oG lY qp vw;have HC:=Z (show Calls prog 35 #[V5 mb] W (λe w'=>∃m,e=Vl (V5 m)/\Below W.heap.size W w'/\TG w' Vb.heap.size p c 2 (wo (λ_=>mb) 1 m) (wo (λ_=>z) 1 z))from TG.sI (i:=0) HT0.o bd);go_wp2_with fail;refine HC.o.mono ?_;rintro e V1 ⟨m1,rfl,b1,t1⟩;have cR:=Z (HB.o.trans (b1.mono HB.o.size));have Xi:=Z (show Calls prog 35 #[V5 mb] V1 (λe w'=>∃m,e=Vl (V5 m)/\Below V1.heap.size V1 w'/\TG w' Vb.heap.size p c 3 (wo (wo (λ_=>mb) 1 m1) 2 m) (wo (wo (λ_=>z) 1 z) 2 z))from TG.sI (i:=0) t1 bd);clear HC HT0 HB b1 t1;go_wp2_with fail;refine Xi.o.mono ?_;rintro e V2 ⟨m2,rfl,b2,t2⟩;have eF:=Z (cR.o.trans (b2.mono cR.o.size));have HC2:=Z (show Calls prog 35 #[V5 mb] V2 (λe w'=>∃m,e=Vl (V5 m)/\Below V2.heap.size V2 w'/\TG w' Vb.heap.size p c 4 (wo (wo (wo (λ_=>mb) 1 m1) 2 m2) 3 m) (wo (wo (wo (λ_=>z) 1 z) 2 z) 3 z))from TG.sI (i:=0) t2 bd);clear Xi cR b2 t2;go_wp2_with fail;refine HC2.o.mono ?_;rintro e V3 ⟨m3,rfl,b3,t3⟩;have iy:=Z (eF.o.trans (b3.mono eF.o.size));have HT3:=Z (show TG V3 Vb.heap.size p c 4 (qd mb m1 m2 m3) (qd z (iC p c k3 x3 0 z) (iC p c k4 x4 0 z) z)from t3.IT λj hj=>⟨xq (by rfl) (by rfl) (by rfl) (by rfl) j hj,xq (by rfl) (by rfl) (by rfl) (by rfl) j hj⟩);clear HC2 eF b3 t3;go_wp2_with fail;refine abe (Vb:=Vb) (m1:=m1) (m2:=m2) (p:=p) (c:=c) (sa:=a3) (sn:=n3) (sc:=c3) (sd:=a4) (sm:=n4) (se:=c4) (X2:=H a2 n2 c2) (U5:=(V5 pb)) (U6:=(V5 (pb+1))) (U11:=(V5 mb)) (U16:=(V5 m3)) (M:=qd mb m1 m2 m3) (z:=z) HG3 HG4 (Z ⟨rfl,rfl⟩) (λJ W j2 j3 j4 j5 j6 oG lY qp vw X tg=>?_) ⟨_,0,wO.of _ rfl,rfl,rfl,rfl,rfl,rfl,rfl,rfl,rfl,rfl,rfl,cM _,G,Z ⟨iy.o,HT3.o⟩⟩;have wk:=Z X;obtain⟨zA,hzA⟩:∃A,iC p c k3 x3 100 z=A:=⟨_,rfl⟩;obtain⟨zB,hzB⟩:∃B,iC p c k4 x4 100 z=B:=⟨_,rfl⟩;rw[hzA,hzB]at tg;have HZA:=Z hzA;have HZB:=Z hzB;clear hzA hzB;have HT6:=Z tg;clear X tg HT3 iy;unfold wO
  conv=>arg 2;whnf
  rw[j2,j3,j4,j5,j6,oG,lY,qp,vw];clear j2 j3 j4 j5 j6 oG lY qp vw;go_wp2_with fail;have HT:=Z (show TG W.drew Vb.heap.size p c 4 (qd mb m1 m2 m3) (qd z zA zB z)from HT6.o.later (az _ W 1));have eV:=Z (show Below Vb.heap.size Vb W.drew from wk.o.trans (az _ W 1));have p0:Vo W.drew (I pb 0)=O (H ga p.ax.length gc):=(Dy.o.1.aG (aA.af (S:=[]) eV.o) ay).cell 0;have q0:Vo W.drew (I (pb+1) 0)=O (Y c.size):=(Dy.o.2.aG (aA.af (S:=[]) eV.o) ay).cell 0;have q1:Vo W.drew (I (pb+1) 1)=O (H qa c.aK.length qc):=(Dy.o.2.aG (aA.af (S:=[]) eV.o) ay).cell 1;clear HT6 wk;refine Mk.bH (S:=λwx=>Vo wx (I pb 0)=O (H ga p.ax.length gc)/\Vo wx (I (pb+1) 0)=O (Y c.size)/\Vo wx (I (pb+1) 1)=O (H qa c.aK.length qc)) bh ⟨p0,q0,q1⟩ (λau=>?_);generalize W.drew=V0 at*;have uj:=Z (show Calls prog 24 #[V5 mb,V5 m3] V0 (λe w'=>e=Vl (.bool true)/\Below V0.heap.size V0 w')from by have q:=TG.zx (i:=0) (j:=3) HT.o bd bd (by rfl);exact q);obtain⟨C1,cm1,v1⟩:=TG.vm HT.o (show 1<4 by decide);have HV1:=Z (show C1.mb=m1/\iI V0 C1 Vb.heap.size p c zA.1 zA.2.1 zA.2.2 from⟨cm1,v1⟩);clear cm1 v1;obtain⟨C2,cm2,v2⟩:=TG.vm HT.o (show 2<4 by decide);have FY:=Z (show C2.mb=m2/\iI V0 C2 Vb.heap.size p c zB.1 zB.2.1 zB.2.2 from⟨cm2,v2⟩);clear cm2 v2;refine Mk.fC 0 ?_;refine Mk.fC 1 ?_;refine Mk.oD (rs:=[2]) (bZ rfl (λK9 hK=>?_) cK);refine fH ?_;go_simp;refine(uj.o).mono ?_;rintro e V1 ⟨rfl,X⟩;have cR:=Z X;clear X;clear au;refine hK.out _ _ ⟨(bk (cR.o.block _ (aH p0))).trans p0,(bk (cR.o.block _ (aH q0))).trans q0,(bk (cR.o.block _ (aH q1))).trans q1⟩ (λau=>?_);clear hK K9;refine Mk.pt ?_;refine Mk.fC 3 ?_;refine Mk.fC 4 ?_;refine Mk.fC 5 ?_;refine Mk.fC 7 ?_;refine Mk.fC 9 ?_;refine Mk.fC 10 ?_;refine Mk.fC 11 ?_;have TE:=Z (show Calls prog 19 #[V5 m1] V1 (ul V1 p zA.1 (dw (aC p c)))from by rw[<-HV1.o.1];exact IK (HV1.o.2.later cR.o));have Xt:=Z (λW9 (X:Below V0.heap.size V0 W9)=>show Calls prog 20 #[V5 m1] W9 (ph W9 (nA p zA.1))from by rw[<-HV1.o.1];exact Kw (HV1.o.2.later X));refine Mk.oD (rs:=[6]) (bZ rfl (λK9 hK=>?_) cK);refine fH ?_;go_simp;refine(TE.o).mono ?_;rintro e V2 ⟨L1,la1,lb1,lc1,ld1,h1,h2,lw1,Gs,rfl,X,hl⟩;have eF:=Z (cR.o.trans (X.mono cR.o.size));have nI:=Z (And.intro Gs hl);clear X Gs hl;clear au;refine hK.out _ _ ⟨(bk (eF.o.block _ (aH p0))).trans p0,(bk (eF.o.block _ (aH q0))).trans q0,(bk (eF.o.block _ (aH q1))).trans q1⟩ (λau=>?_);clear hK K9;refine Mk.pt ?_;refine Mk.oD (rs:=[8]) (bZ rfl (λK9 hK=>?_) cK);refine fH ?_;go_simp;refine(Xt.o _ eF.o).mono ?_;rintro e V3 ⟨qv1,uv1,lx1,tx1,rfl,X,hs⟩;have iy:=Z (eF.o.trans (X.mono eF.o.size));have Nr:=Z (nI.o.2.off (aA.af (S:=[]) X) (oF.nil _ _ _ _));have HZ3:=Z X.size;have RF:=Z hs;clear X hs;clear au;refine hK.out _ _ ⟨(bk (iy.o.block _ (aH p0))).trans p0,(bk (iy.o.block _ (aH q0))).trans q0,(bk (iy.o.block _ (aH q1))).trans q1⟩ (λau=>?_);clear hK K9;refine Mk.pt ?_;refine Mk.oD (rs:=[12]) (bZ rfl (λK9 hK=>?_) cK);refine fH ?_;go_simp;refine(QO (HA.o.later (eV.o.trans (iy.o.mono eV.o.size))) (HV1.o.2.later iy.o) nI.o.1 Nr.o RF.o HZ3.o (aL _)).mono ?_;rintro e V4 ⟨rfl,X⟩;have jK:=Z (iy.o.trans (X.mono iy.o.size));clear X;clear au;refine hK.out _ _ ⟨(bk (jK.o.block _ (aH p0))).trans p0,(bk (jK.o.block _ (aH q0))).trans q0,(bk (jK.o.block _ (aH q1))).trans q1⟩ (λau=>?_);clear hK K9;refine Mk.pt ?_;refine Mk.fC 13 ?_;refine Mk.fC 14 ?_;refine Mk.fC 15 ?_;refine Mk.fC 16 ?_;refine Mk.fC 18 ?_;refine Mk.fC 20 ?_;refine Mk.fC 21 ?_;refine Mk.fC 22 ?_;have Y9:=Z (show Calls prog 19 #[V5 m2] V4 (ul V4 p zB.1 (dw (aC p c)))from by rw[<-FY.o.1];exact IK (FY.o.2.later jK.o));have Xu:=Z (λW9 (X:Below V0.heap.size V0 W9)=>show Calls prog 20 #[V5 m2] W9 (ph W9 (nA p zB.1))from by rw[<-FY.o.1];exact Kw (FY.o.2.later X));refine Mk.oD (rs:=[17]) (bZ rfl (λK9 hK=>?_) cK);refine fH ?_;go_simp;refine(Y9.o).mono ?_;rintro e a1s ⟨L2,la2,lb2,oy,ld2,h1,h2,lw2,Gs,rfl,X,hl⟩;have nU:=Z (jK.o.trans (X.mono jK.o.size));have Hb:=Z (And.intro Gs hl);clear X Gs hl;clear au;refine hK.out _ _ ⟨(bk (nU.o.block _ (aH p0))).trans p0,(bk (nU.o.block _ (aH q0))).trans q0,(bk (nU.o.block _ (aH q1))).trans q1⟩ (λau=>?_);clear hK K9;refine Mk.pt ?_;refine Mk.oD (rs:=[19]) (bZ rfl (λK9 hK=>?_) cK);refine fH ?_;go_simp;refine(Xu.o _ nU.o).mono ?_;rintro e V6 ⟨qv2,uv2,lx2,tx2,rfl,X,hs⟩;have wk:=Z (nU.o.trans (X.mono nU.o.size));have HL6:=Z (Hb.o.2.off (aA.af (S:=[]) X) (oF.nil _ _ _ _));have HZ6:=Z X.size;have No:=Z hs;clear X hs;clear au;refine hK.out _ _ ⟨(bk (wk.o.block _ (aH p0))).trans p0,(bk (wk.o.block _ (aH q0))).trans q0,(bk (wk.o.block _ (aH q1))).trans q1⟩ (λau=>?_);clear hK K9;refine Mk.pt ?_;refine Mk.oD (rs:=[23]) (bZ rfl (λK9 hK=>?_) cK);refine fH ?_;go_simp;refine(QO (HA.o.later (eV.o.trans (wk.o.mono eV.o.size))) (FY.o.2.later wk.o) Hb.o.1 HL6.o No.o HZ6.o (aL _)).mono ?_;rintro e V7 ⟨rfl,X⟩;have EJ:=Z (wk.o.trans (X.mono wk.o.size));clear X;clear au;refine hK.out _ _ ⟨(bk (EJ.o.block _ (aH p0))).trans p0,(bk (EJ.o.block _ (aH q0))).trans q0,(bk (EJ.o.block _ (aH q1))).trans q1⟩ (λau=>?_);clear hK K9;refine Mk.pt ?_;refine Mk.fC 24 ?_;refine Mk.fC 25 ?_;refine fx bh ⟨rfl,?_⟩ _;have P0:=Z (eV.o.trans (EJ.o.mono eV.o.size));have HT8:=Z (HT.o.later EJ.o);clear au p0 q0 q1 eV cR eF iy jK nU wk EJ HT uj TE Y9 Xt Xu HV1 FY nI Hb Nr HL6 HZ3 HZ6 RF No;go_wp2_with fail;refine abg (Vb:=Vb) (mb:=mb) (p:=p) (c:=c) (sn:=n3) (sc:=c3) (sa:=a3) (X2:=H a2 n2 c2) (X4:=H a4 n4 c4) (U5:=(V5 pb)) (U6:=(V5 (pb+1))) (U14:=(V5 m1)) (U15:=(V5 m2)) (U16:=(V5 m3)) (N:=4) (y:=0) (M:=qd mb m1 m2 m3) (Zi:=λi=>qd (iC p c k3 x3 i z) zA zB z) HG3 (Z ⟨bd,rfl⟩) (Z λW i g=>g.IT λj hj=>⟨rfl,xq (by rfl) (by rfl) (by rfl) (by rfl) j hj⟩) (λJ W j2 j3 j4 j5 j6 oG lY qp vw X tg=>?_) ⟨_,0,wO.of _ rfl,rfl,rfl,rfl,rfl,rfl,rfl,rfl,rfl,rfl,rfl,cM _,G,Z ⟨P0.o,HT8.o⟩⟩;have IA:=Z X;have HT9:=Z (show TG W Vb.heap.size p c 4 (qd mb m1 m2 m3) (qd zA zA zB z)from by
   have tg1:TG W Vb.heap.size p c 4 (qd mb m1 m2 m3) (qd (iC p c k3 x3 (min n3 100) z) zA zB z):=tg;rwa[uo (i:=min n3 100) HG3.o.2.1 G,HZA.o]at tg1)
  clear X tg HT8 P0 HG3;unfold wO
  conv=>arg 2;whnf
  rw[j2,j3,j4,j5,j6,oG,lY,qp,vw];clear j2 j3 j4 j5 j6 oG lY qp vw;go_wp2_with fail;refine abf (Vb:=Vb) (mb:=m3) (p:=p) (c:=c) (sn:=n4) (sc:=c4) (sa:=a4) (X2:=H a2 n2 c2) (X3:=H a3 n3 c3) (U5:=(V5 pb)) (U6:=(V5 (pb+1))) (U11:=(V5 mb)) (U14:=(V5 m1)) (U15:=(V5 m2)) (N:=4) (y:=3) (M:=qd mb m1 m2 m3) (Zi:=λi=>qd zA zA zB (iC p c k4 x4 i z)) HG4 (Z ⟨bd,rfl⟩) (Z λW i g=>g.IT λj hj=>⟨rfl,xq (by rfl) (by rfl) (by rfl) (by rfl) j hj⟩) (λJ W j2 j3 j4 j5 j6 oG lY qp vw X tg=>?_) ⟨_,0,wO.of _ rfl,rfl,rfl,rfl,rfl,rfl,rfl,rfl,rfl,rfl,rfl,cM _,G,Z ⟨IA.o,HT9.o⟩⟩;have Fh:=Z X;have UN:=Z (show TG W Vb.heap.size p c 4 (qd mb m1 m2 m3) (qd zA zA zB zB)from by
   have tg1:TG W Vb.heap.size p c 4 (qd mb m1 m2 m3) (qd zA zA zB (iC p c k4 x4 (min n4 100) z)):=tg;rwa[uo (i:=min n4 100) HG4.o.2.1 G,HZB.o]at tg1)
  clear X tg HT9 IA HG4;unfold wO
  conv=>arg 2;whnf
  rw[j2,j3,j4,j5,j6,oG,lY,qp,vw];clear j2 j3 j4 j5 j6 oG lY qp vw;have HC:=Z (show Calls prog 24 #[(V5 mb),(V5 m1)] W (λe w'=>e=Vl (.bool true)/\Below W.heap.size W w')from by have q:=TG.zx (i:=0) (j:=1) UN.o bd bd (by rfl);exact q);go_wp2_with fail;refine HC.o.mono ?_;rintro e V1 ⟨rfl,b1⟩;have CJ:=Z (Fh.o.trans (b1.mono Fh.o.size));have Xi:=Z (show Calls prog 24 #[(V5 m3),(V5 m2)] V1 (λe w'=>e=Vl (.bool true)/\Below V1.heap.size V1 w')from by have q:=TG.zx (i:=3) (j:=2) (UN.o.later b1) bd bd (by rfl);exact q);clear HC UN b1;go_wp2_with fail;refine Xi.o.mono ?_;rintro e V2 ⟨rfl,b2⟩;have aeP:=Z (CJ.o.trans (b2.mono CJ.o.size));clear Xi b2;go_wp2
  first|refine Vf.fy (P:=prog) (fn:=Proofs.Tryz.f9) rfl ?_|(rw[jO];refine Vf.fy (P:=prog) (fn:=Proofs.Tryz.f9) rfl ?_)
  exact⟨rfl,by rw[hpb];exact jK.o.trans (aeP.o.mono zH.o)⟩
end
end Go.Ma
