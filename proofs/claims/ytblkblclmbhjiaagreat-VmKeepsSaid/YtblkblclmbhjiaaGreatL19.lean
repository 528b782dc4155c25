/- Of the proof that VmKeeps holds: a key keeps its node, what traps leaves no trace. No condition. -/
import Derived.Test.YtblkblclmbhjiaaGreatL18
set_option linter.unusedVariables false
set_option linter.unusedSimpArgs false
set_option maxHeartbeats 40000000
set_option maxRecDepth 100000
namespace Go.Proofs.YtblkblclmbhjiaaGreat.Vf
open Go.RowKit ak.Vm
open ak hiding aL an aj
open Ma (dx bQ aU vb aA aQ)
section
variable {w:World} {K:Kp} {p:aO}
theorem ab9 {p:Prop} (h:p:=by
 intro wz bR;have y0:=(World.cell?_of_block (bR.block _ lp N8.o)).trans q3;exact gee):p:=h
theorem acF {p:Prop} (h:p:=by
 have h2:=(World.ownsRow.lt Jt b hb).2;rcases Rx with h|h
 ·exact ⟨My b (by rw [<-h];exact hb),h2⟩
 ·rw [h] at hb;have h3:=Option.some.inj hb;have h4:=al.size;exact ⟨by omega,h2⟩):p:=h
theorem YH (h:fP w K p):Calls Tryz.prog 91 #[pV K p] w (GG w p):=by
 obtain ⟨⟨ga,gc,g1,g2,g3⟩,⟨va,vc,v1,v2,v3⟩,⟨ta,tc,t1,t2,t3⟩,⟨oa,oc,o1,o2,o3⟩,⟨ca,cc,c1,c2,c3⟩⟩:=h.sl;have JI:=ae (fun V (hb:Below w.heap.size w V)=>zY (w:=V) (h.aB (ax.ah hb)));have H:=ae h;have HK:=ae (And.intro g1 (And.intro v1 (And.intro t1 (And.intro o1 c1))));unfold pV at JI ⊢;rw [g1,v1,t1,o1,c1] at JI ⊢;have hB:∀cs T mV T2 YI T3,Below w.heap.size w (((w.alloc (.cells cs T)).alloc (.cells mV T2)).alloc (.cells YI T3)):=fun cs T mV T2 YI T3=>(((Below.refl _ _).alloc (Nat.le_refl _) _).alloc (by simp) _).alloc (by simp;omega) _;have HB:=ae hB;clear h hB g1 v1 t1 o1 c1 g2 g3 v2 v3 t2 t3 o2 o3 c2 c3;go_enter Tryz.func91,Tryz.ntmps91;have kp:ay (((w.alloc (.cells #[.slice ga p.ap.length gc,.slice va p.vars.length vc,.slice ta p.aW.length tc,.slice oa p.on.length oc,ι p.aJ,.slice ca p.code.length cc] 27)).alloc (.cells #[ν,ι 0] 97)).alloc (.cells #[ι 0,ι 0] 99)) w.heap.size 27 #[.slice ga p.ap.length gc,.slice va p.vars.length vc,.slice ta p.aW.length tc,.slice oa p.on.length oc,ι p.aJ,.slice ca p.code.length cc]:=((ay.new w _ _).alloc _).alloc _;have kc:ay (((w.alloc (.cells #[.slice ga p.ap.length gc,.slice va p.vars.length vc,.slice ta p.aW.length tc,.slice oa p.on.length oc,ι p.aJ,.slice ca p.code.length cc] 27)).alloc (.cells #[ν,ι 0] 97)).alloc (.cells #[ι 0,ι 0] 99)) (w.heap.size+1) 97 #[ν,ι 0]:=(ay.a_ (by simp)).alloc _;have kf:ay (((w.alloc (.cells #[.slice ga p.ap.length gc,.slice va p.vars.length vc,.slice ta p.aW.length tc,.slice oa p.on.length oc,ι p.aJ,.slice ca p.code.length cc] 27)).alloc (.cells #[ν,ι 0] 97)).alloc (.cells #[ι 0,ι 0] 99)) (w.heap.size+1+1) 99 #[ι 0,ι 0]:=ay.a_ (by simp);have sS:(((w.alloc (.cells #[.slice ga p.ap.length gc,.slice va p.vars.length vc,.slice ta p.aW.length tc,.slice oa p.on.length oc,ι p.aJ,.slice ca p.code.length cc] 27)).alloc (.cells #[ν,ι 0] 97)).alloc (.cells #[ι 0,ι 0] 99)).heap.size=w.heap.size+1+1+1:=by simp
 have dQ:=HB.o #[.slice ga p.ap.length gc,.slice va p.vars.length vc,.slice ta p.aW.length tc,.slice oa p.on.length oc,ι p.aJ,.slice ca p.code.length cc] 27 #[ν,ι 0] 97 #[ι 0,ι 0] 99;go_wp2_with fail;go_step3;go_wp2_with fail;generalize (((w.alloc (.cells #[.slice ga p.ap.length gc,.slice va p.vars.length vc,.slice ta p.aW.length tc,.slice oa p.on.length oc,ι p.aJ,.slice ca p.code.length cc] 27)).alloc (.cells #[ν,ι 0] 97)).alloc (.cells #[ι 0,ι 0] 99))=W0 at*
 with_reducible refine (JI.o _ dQ).mono ?_
 rintro e W1 ⟨rfl,hb⟩;have kp1:=kp.of (hb.block _ kp.lt);have RQ:=kc.of (hb.block _ kc.lt);have T5:=kf.of (hb.block _ kf.lt);have dC:=ae (dQ.trans (hb.mono dQ.size));have tC:Hid (w.heap.size+1+1+1<=W1.heap.size):=ae (by have:=hb.size;omega);clear kp kc kf hb dQ sS HB;generalize hpb:w.heap.size=pb at*;have PX:=ae hpb;clear hpb;by_cases qJ:bo p=0
 case neg=>
  have hv:aZ p=(bo p,0):=by unfold aZ;rw [if_pos qJ]
  have HV:=ae hv;have bz:(bo p !=0)=true:=by simpa using qJ
  have hz:bo p≠0:=qJ;have HZ:=ae hz;generalize bo p=ce at*;clear hv hz qJ;obtain ⟨c0,c1⟩:=RQ.c2;obtain ⟨f0,f1⟩:=T5.c2;have z1:=RQ.frozen;have z2:=T5.frozen;have l2:=T5.lt;have KC:=ae RQ;have KF:=ae T5;clear RQ T5 kp1;go_wp2_with fail;exact An PX.o rfl rfl rfl KC.o KF.o dC.o HV.o HZ.o
 rw [qJ];obtain ⟨tb,mM⟩:=cK qJ;have PT:=ae tb;have iM:=ae mM;have hlen:p.code.length<=262144:=tb.code;have hon:p.on.length<=16:=by rw [tb.on];exact tb.g
 have PZ:=ae qJ;have KP:=ae kp1;have KC:=ae RQ;have KF:=ae T5;obtain ⟨p0,p1,p2,p3,p4,p5⟩:=kp1.c6;have iW:Hid (128*p.code.length<=281474976710656/\p.code.length<=maxLen):=ae ⟨by omega,by unfold maxLen;omega⟩;clear kp1 RQ T5 tb mM qJ JI;go_wp2_with fail;have lp:=KP.o.lt;refine Mk.bF (S:=fun wx=>Below W1.heap.size W1 wx) (by kernel_rfl) (au _ W1 1) (fun al=>?_);refine wpAnyH_take (i:=0) (v:=?_) rfl (by kernel_rfl) (by kernel_rfl) (by kernel_rfl) (fun _ _ _ h=>Mk.aN h) (Or.inl ⟨by rfl,?_⟩) (by assumption) ?_;rotate_left
 ·intro wz bR;have key:∀b i v,b < W1.heap.size->W1.cell? (π b i)=some v->wz.cell? (π b i)=some v:=fun b i v hb hc=>(World.cell?_of_block (bR.block _ hb)).trans hc;have y0:=key _ _ _ lp p0;have y1:=key _ _ _ lp p1;have y2:=key _ _ _ lp p2;have y3:=key _ _ _ lp p3;have y4:=key _ _ _ lp p4;have y5:=key _ _ _ lp p5;exact gee
 refine Mk.pt ?_;refine Mk.bL 1 ?_;refine wpAnyH_take (i:=2) (v:=?_) rfl (by kernel_rfl) (by kernel_rfl) (by kernel_rfl) (fun _ _ _ h=>Mk.aN h) (Or.inl ⟨by rfl,?_⟩) (by assumption) ?_;rotate_left
 ·intro wz bR;have key:∀b i v,b < W1.heap.size->W1.cell? (π b i)=some v->wz.cell? (π b i)=some v:=fun b i v hb hc=>(World.cell?_of_block (bR.block _ hb)).trans hc;have y0:=key _ _ _ lp p5;exact gee
 refine Mk.pt ?_;refine Mk.bL 3 ?_;refine wpAnyH_ready (rs:=[4]) (by kernel_rfl) (by simp) ?_;refine AllReadyH.cons rfl (fun K hK=>?_) AllReadyH.nil;refine bJ rfl (.tmp 26) (.tmp 26) 228 rfl 233 Tryz.underlying228 IW rfl (by decide) .i64 .i64 _ _ p.code.length rfl rfl rfl rfl iW.o.1 iW.o.2 ?_;intro W3 V3 wN;have Gl:=al.trans (wN.mono al.size);clear al;refine hK.out _ _ Gl (fun al=>?_);clear hK K;refine Mk.pt ?_;refine Mk.bL 5 ?_;refine wpAnyH_ready (rs:=[6]) (by kernel_rfl) (by simp) ?_;refine AllReadyH.cons rfl (fun K hK=>?_) AllReadyH.nil;refine QX ?_;go_simp;refine hK.out _ _ (al.alloc al.size _) (fun al=>?_);clear hK K;refine Mk.pt ?_;refine Mk.bL 7 ?_;refine wpAnyH_done (by kernel_rfl) ⟨rfl,?_⟩ _;clear al;have hAW:W1.drew.heap.size=W1.heap.size:=rfl;have T7:Below W1.heap.size W1 W3:=Gl;have fj:ii W3 (.slice (some (π W1.heap.size 0)) p.code.length p.code.length) p.code.length (fun _=>none) (fun _=> ν):=⟨V3.congr fun o ho=>rfl,fun i hi=> .inl ⟨rfl,rfl⟩,fun i hi b hb=>by cases hb⟩;have YJ:W3.heap.size < (W3.alloc (.cells #[.slice ga p.ap.length gc,.slice va p.vars.length vc,.slice ta p.aW.length tc,.slice oa p.on.length oc,ι p.aJ,.slice ca p.code.length cc,.slice (some (π W1.heap.size 0)) p.code.length p.code.length] 230)).heap.size:=by simp
 have kv:ay (W3.alloc (.cells #[.slice ga p.ap.length gc,.slice va p.vars.length vc,.slice ta p.aW.length tc,.slice oa p.on.length oc,ι p.aJ,.slice ca p.code.length cc,.slice (some (π W1.heap.size 0)) p.code.length p.code.length] 230)) W3.heap.size 230 #[.slice ga p.ap.length gc,.slice va p.vars.length vc,.slice ta p.aW.length tc,.slice oa p.on.length oc,ι p.aJ,.slice ca p.code.length cc,.slice (some (π W1.heap.size 0)) p.code.length p.code.length]:=ay.new _ _ _;have Li:=fj.aB ((ax.refl [] W3).alloc (.cells #[.slice ga p.ap.length gc,.slice va p.vars.length vc,.slice ta p.aW.length tc,.slice oa p.on.length oc,ι p.aJ,.slice ca p.code.length cc,.slice (some (π W1.heap.size 0)) p.code.length p.code.length] 230));have wQ:Below W1.heap.size W1 (W3.alloc (.cells #[.slice ga p.ap.length gc,.slice va p.vars.length vc,.slice ta p.aW.length tc,.slice oa p.on.length oc,ι p.aJ,.slice ca p.code.length cc,.slice (some (π W1.heap.size 0)) p.code.length p.code.length] 230)):=T7.alloc T7.size _;have xq:W1.heap.size < W3.heap.size:=(V3.slice).2.2.2;clear V3 wN Gl T7 fj hAW;generalize hW4:W3.alloc (.cells #[.slice ga p.ap.length gc,.slice va p.vars.length vc,.slice ta p.aW.length tc,.slice oa p.on.length oc,ι p.aJ,.slice ca p.code.length cc,.slice (some (π W1.heap.size 0)) p.code.length p.code.length] 230)=W4 at*;clear hW4;replace KP:=ae (KP.o.of (wQ.block _ KP.o.lt));replace KC:=ae (KC.o.of (wQ.block _ KC.o.lt));replace KF:=ae (KF.o.of (wQ.block _ KF.o.lt));replace dC:=ae (dC.o.trans (wQ.mono (by have:=tC.o;omega)));have HA:Hid (pb+1+1+1<=W1.heap.size):=tC;have hvA:W1.heap.size≠W3.heap.size:=by omega
 generalize W1.heap.size=A at*;generalize W3.heap.size=T8 at*;have KV:Hid (ay W4 T8 230 (qR K p (.slice (some (π A 0)) p.code.length p.code.length))):=ae (by
  obtain ⟨e1,e2,e3,e4,e5⟩:=HK.o;unfold qR;rw [e1,e2,e3,e4,e5];exact kv)
 have kV:=ae Li;have Lj:=ae YJ;have HNV:=ae hvA;have zy:=ae xq;clear kv Li YJ hvA wQ xq p0 p1 p2 p3 p4 p5 lp;obtain ⟨-,-,-,q3,q4⟩:=KP.o.c5;have lp:=KP.o.lt;have ug:=ae (fun V (hb:Below w.heap.size w V)=>pN (w:=V) (v:= .slice oa p.on.length oc) (n:=p.on.length) (g:=aU p.on) (by have h1:=H.o.o;rw [HK.o.2.2.2.1] at h1;exact h1.aB (ax.ah hb)) (by omega) (fun _ _=>rfl));rw [PX.o] at ug;go_wp2_with fail;refine wp_mono (Q:=fun e a W=>e=Exit.normal/\RB pb T8 (p.on++[p.aJ]) W4 a W) ?_ ?_
 ·have YK:Hid (pb<=W4.heap.size):=ae (by have:=HA.o;have:=zy.o;have:=Lj.o;omega);refine Mk.bF (S:=fun wx=>Below W4.heap.size W4 wx) (by kernel_rfl) (au _ W4 1) (fun al=>?_);generalize World.drew _=V0 at*;refine Mk.bL 0 ?_;refine wpAnyH_take (i:=1) (v:=?_) rfl (by kernel_rfl) (by kernel_rfl) (by kernel_rfl) (fun _ _ _ h=>Mk.aN h) (Or.inl ⟨by rfl,?_⟩) (by assumption) ?_;rotate_left
  ·intro wz bR;have key:∀b i v,b < W4.heap.size->W4.cell? (π b i)=some v->wz.cell? (π b i)=some v:=fun b i v hb hc=>(World.cell?_of_block (bR.block _ hb)).trans hc;have y0:=key _ _ _ lp q3;exact gee
  refine Mk.pt ?_;refine Mk.bL 3 ?_;refine wpAnyH_take (i:=4) (v:=?_) rfl (by kernel_rfl) (by kernel_rfl) (by kernel_rfl) (fun _ _ _ h=>Mk.aN h) (Or.inl ⟨by rfl,?_⟩) (by assumption) ?_;rotate_left
  ·intro wz bR;have key:∀b i v,b < W4.heap.size->W4.cell? (π b i)=some v->wz.cell? (π b i)=some v:=fun b i v hb hc=>(World.cell?_of_block (bR.block _ hb)).trans hc;have y0:=key _ _ _ lp q4;exact gee
  refine Mk.pt ?_;refine wpAnyH_ready (rs:=[2,5]) (by kernel_rfl) (by simp) ?_;refine AllReadyH.cons rfl (fun K hK=>?_) (AllReadyH.cons rfl (fun K hK=>?_) AllReadyH.nil);refine QX ?_;go_simp;go_at_call 55;refine (ug.o _ (dC.o.trans (al.mono YK.o))).mono ?_;rintro e wc ⟨xv,rfl,hxr,jK,hxi⟩;have hSc:=al.trans (jK.mono al.size);have My:∀b,xv.ownBlock=some b->W4.heap.size<=b:=fun b hb=>Nat.le_trans al.size (hxi b hb).1;clear al;refine hK.out _ _ hSc (fun al=>?_);clear hK K;refine Mk.pt ?_;refine wpAnyH_ready (rs:=[5]) (by kernel_rfl) (by simp) ?_;refine AllReadyH.cons rfl (fun K hK=>?_) AllReadyH.nil;refine QX ?_;go_simp;have nb:ay (wc.alloc (.cells #[ι p.aJ] 3)) wc.heap.size 3 #[ι p.aJ]:=ay.new _ _ _;refine hK.out _ _ (al.alloc al.size _) (fun al=>?_);clear hK K;refine Mk.pt ?_;refine wpAnyH_ready (rs:=[6]) (by kernel_rfl) (by simp) ?_;refine AllReadyH.cons rfl (fun K hK=>?_) AllReadyH.nil;refine dq rfl (.tmp 32) (.tmp 35) 24 rfl 3 Tryz.underlying24 b_ rfl (by decide) xv p.on.length (aU p.on) rfl (hxr.alloc _) (π wc.heap.size 0) 1 1 (fun _=> ι p.aJ) rfl (fun j hj=>by obtain rfl:j=0:=(by omega);exact nb.cell 0) (fun _ _=>rfl) (by unfold maxLen;omega) (by omega) ?_;intro bv W5 Jt Oh Rx;have BG:Below W4.heap.size W4 W5:=al.trans (Oh.below (B:=W4.heap.size) al.size (fun b hb=>by
   have h1:xv.ownBlock=some b:=by simpa using hb
   exact My b h1))
  have T9:mN W4.heap.size W5.heap.size bv:=fun b hb=>by exact acF
  have hr6:=Cs p.on p.aJ Jt;clear al Jt Oh Rx;refine hK.out _ _ BG (fun al=>?_);clear hK K;refine Mk.pt ?_;refine Mk.bL 7 ?_;refine wpAnyH_done (by kernel_rfl) ⟨rfl,?_⟩ _;clear al;exact ⟨rfl,_,bv,FR.of _ rfl,rfl,rfl,rfl,rfl,rfl,ae hr6,ae T9,ae BG⟩;rotate_left;refine QX ?_;go_simp;have nb:ay (V0.alloc (.cells #[ι p.aJ] 3)) V0.heap.size 3 #[ι p.aJ]:=ay.new _ _ _;refine hK.out _ _ (al.alloc al.size _) (fun al=>?_);clear hK K;refine Mk.pt ?_;refine wpAnyH_ready (rs:=[2]) (by kernel_rfl) (by simp) ?_;refine AllReadyH.cons rfl (fun K hK=>?_) AllReadyH.nil;refine QX ?_;go_simp;go_at_call 55;refine (ug.o _ (dC.o.trans (al.mono YK.o))).mono ?_;rintro e wc ⟨xv,rfl,hxr,jK,hxi⟩;have hSc:=al.trans (jK.mono al.size);have My:∀b,xv.ownBlock=some b->W4.heap.size<=b:=fun b hb=>Nat.le_trans al.size (hxi b hb).1;clear al;refine hK.out _ _ hSc (fun al=>?_);clear hK K;refine Mk.pt ?_;refine wpAnyH_ready (rs:=[6]) (by kernel_rfl) (by simp) ?_;refine AllReadyH.cons rfl (fun K hK=>?_) AllReadyH.nil;refine dq rfl (.tmp 32) (.tmp 35) 24 rfl 3 Tryz.underlying24 b_ rfl (by decide) xv p.on.length (aU p.on) rfl hxr (π V0.heap.size 0) 1 1 (fun _=> ι p.aJ) rfl (fun j hj=>by obtain rfl:j=0:=(by omega);exact (nb.of (jK.block _ nb.lt)).cell 0) (fun _ _=>rfl) (by unfold maxLen;omega) (by omega) ?_;intro bv W5 Jt Oh Rx;have BG:Below W4.heap.size W4 W5:=al.trans (Oh.below (B:=W4.heap.size) al.size (fun b hb=>by
   have h1:xv.ownBlock=some b:=by simpa using hb
   exact My b h1))
  have T9:mN W4.heap.size W5.heap.size bv:=fun b hb=>by exact acF
  have hr6:=Cs p.on p.aJ Jt;clear al Jt Oh Rx;refine hK.out _ _ BG (fun al=>?_);clear hK K;refine Mk.pt ?_;refine Mk.bL 7 ?_;refine wpAnyH_done (by kernel_rfl) ⟨rfl,?_⟩ _;clear al;exact ⟨rfl,_,bv,FR.of _ rfl,rfl,rfl,rfl,rfl,rfl,ae hr6,ae T9,ae BG⟩
 rintro e a5 W5 ⟨rfl,J,bv,rfl,j1,j3,j4,j6,j7,Og,HIB,nA⟩;unfold FR;rw [j1,j3,j4,j6,j7];clear j1 j3 j4 j6 j7 q3 q4 lp;have YL:Hid ((p.on++[p.aJ]).length=p.on.length+1):=ae (by simp);have RV:(p.on++[p.aJ]).length<=17:=by have:=YL.o;omega
 have YM:Hid (∀i,i < (p.on++[p.aJ]).length->-1<=(p.on++[p.aJ]).getD i 0/\(p.on++[p.aJ]).getD i 0 < p.code.length):=ae fun i hi=>by
  have hm:(p.on++[p.aJ]).getD i 0∈p.on++[p.aJ]:=by rw [List.getD_eq_getElem?_getD,List.getElem?_eq_getElem hi];exact List.getElem_mem hi
  rcases List.mem_append.1 hm with h|h
  ·have:=PT.o.Xb _ h;omega
  ·rw [List.mem_singleton.1 h];have:=PT.o.aJ;omega
 have KC5:=ae (KC.o.of (nA.o.block _ KC.o.lt));have T_:=ae (KF.o.of (nA.o.block _ KF.o.lt));have V4:=ae (KP.o.of (nA.o.block _ KP.o.lt));have KV5:=ae (KV.o.of (nA.o.block _ KV.o.lt));have aaI:=ae (kV.o.aB (ax.ah nA.o));have HBA:Hid (∀b,bv.ownBlock=some b->b≠A):=ae fun b hb e=>by have:=(HIB.o b hb).1;have:=Lj.o;have:=zy.o;omega
 have Yy:Hid (T8≠A):=ae fun e=>HNV.o e.symm;have P0:Hid (pb+1+1 < A):=ae (by have:=HA.o;omega);have Mz:Hid (Below w.heap.size w W5):=ae (by have h1:=nA.o.size;rw [PX.o];exact dC.o.trans (nA.o.mono (by have:=HA.o;have:=zy.o;have:=Lj.o;omega)));have RH:Hid (w.heap.size<=A):=ae (by rw [PX.o];have:=HA.o;omega);have D_:∃x y z,bv= .slice x y z:=by rcases Og.o.val with ⟨h,-⟩|⟨_,_,h,-⟩<;>exact ⟨_,_,_,h⟩
 have aaJ:∃la lc,bv= .slice la (p.on++[p.aJ]).length lc:=by
  rcases Og.o.val with ⟨h,h0⟩|⟨_,_,h,-⟩
  ·have:=YL.o;omega
  ·exact ⟨_,_,h⟩
 obtain ⟨la,lc,rfl⟩:=aaJ;clear D_;generalize sr:p.on++[p.aJ]=bl at*;have MA:=ae sr;clear sr;go_wp2_with fail;refine rn1 (bl:=bl) (vb:=T8) (pb:=pb) (A:=A) (W4:=W5) KV5 Yy Og HBA RV YM hlen (fun J6 W6 j1 j3 j4 j6 j7 hF hS=>?_) ⟨_,0,FR.of _ rfl,rfl,rfl,rfl,rfl,rfl,rfl,rfl,rfl,Nat.zero_le _,rfl,ae (ax.refl _ _),ae (aaI.o)⟩;have Jn:=ae hF;have V8:=ae hS;have k5:=V4.o.aB Jn.o (by have:=P0.o;simp;omega);have q5:W6.cell? (π pb 5)=some (.slice ca p.code.length cc):=k5.cell 5;have lp:=k5.lt;unfold FR;rw [j1,j3,j4,j6,j7];clear j1 j3 j4 j6 j7 hF hS k5;have HT0:Hid (VM p (db p)):=ae (Ah PT.o);have HSB:Hid (ii W6 (.slice (some (π A 0)) p.code.length p.code.length) p.code.length (db p) (fun _=> ν)):=ae (by
  have h1:=V8.o;rw [show xu bl bl.length=db p from by funext pc;unfold xu db;rw [List.take_length,MA.o]] at h1;exact h1)
 go_wp2_with fail;refine rn2 (vb:=T8) (pb:=pb) (A:=A) (W5:=W5) (bv:= .slice la bl.length lc) H RH Mz KV5 Yy iM hlen (fun A9 W7 i e h2 h3 h4 hF bz JJ=>?_) KC5 T_ P0 (fun J7 W7 T j1 j3 j4 j6 j7 hF JJ=>?_) ⟨_,0,FR.of _ rfl,rfl,rfl,rfl,rfl,rfl,rfl,rfl,Nat.zero_le _,rfl,Jn,_,_,HSB,HT0,ae (by rw [Nat.sub_zero])⟩
 ·have hv:aZ p=(e,(i:Int)):=by unfold aZ;rw [if_neg (by rw [PZ.o];simp),JJ]
  refine An PX.o h2 h3 h4 (KC5.o.aB hF (by have:=P0.o;simp;omega)) (T_.o.aB hF (by have:=P0.o;simp;omega)) ?_ hv bz;rw [<-PX.o];exact Mz.o.trans (hF.below Mz.o.size (by have:=RH.o;simpa using this))
 have NM:=ae hF;have tR:=ae JJ;have NZ:=ae (Mz.o.trans (NM.o.below Mz.o.size (by have:=RH.o;simpa using this)));have KP7:=ae (V4.o.aB NM.o (by have:=P0.o;simp;omega));have KC7:=ae (KC5.o.aB NM.o (by have:=P0.o;simp;omega));have KF7:=ae (T_.o.aB NM.o (by have:=P0.o;simp;omega));have KV7:=ae (KV5.o.aB NM.o (by have:=Yy.o;simpa using this));have aaK:=ae (Og.o.aB NM.o (fun b hb=>by have:=HBA.o b hb;simpa using this));have HFI:Hid (Am p):=ae (yC PZ.o tR.o);have HFL:=ae (EW (H.o.aB (ax.ah NZ.o)) KV7.o hlen HFI.o);unfold FR;rw [j1,j3,j4,j6,j7];clear j1 j3 j4 j6 j7 hF JJ q5 lp;go_wp2_with fail
 with_reducible refine HFL.o.mono ?_
 rintro e W8 ⟨fb,fc,rfl,RR,qM,bq⟩;have HFB:=ae bq;have RW:=ae qM;have KP8:=ae (KP7.o.of (RW.o.block _ KP7.o.lt));have YN:=ae (KC7.o.of (RW.o.block _ KC7.o.lt));have YO:=ae (KF7.o.of (RW.o.block _ KF7.o.lt));have aaL:=ae (aaK.o.aB (ax.ah (S:=[]) RW.o) (by simp));have MB:=ae (NZ.o.trans (RW.o.mono NZ.o.size));clear bq RR qM HFL;go_wp2_with fail;go_step3;go_wp2_with fail;refine rn3 (bl:=bl) (vb:=T8) (pb:=pb) (W7:=W8) aaL HFB RV YM hlen YN YO (fun A9 W9 n h2 h3 h4 hb sT=>?_) (fun J9 W9 lv j1 j3 j4 j6 Dr hb AG iF sT=>?_) ⟨_,0,ν,FR.of _ rfl,rfl,rfl,rfl,rfl,rfl,rfl,rfl,rfl,rfl,Nat.zero_le _,rfl,ae (Below.refl _ _),ae (Row.nil _ _ _ _),ae (fun b hb=>by cases hb),ae (by rw [List.drop_zero])⟩
 ·have hv:aZ p=(97,n):=by unfold aZ;rw [if_neg (by rw [PZ.o];simp),tR.o,MA.o,sT]
  refine An PX.o h2 h3 h4 (YN.o.of (hb.block _ YN.o.lt)) (YO.o.of (hb.block _ YO.o.lt)) ?_ hv (by decide);rw [<-PX.o];exact MB.o.trans (hb.mono MB.o.size)
 have aaM:=ae (fun b hb=>Nat.le_trans MB.o.size (iF b hb));clear iF;obtain ⟨lb,TW,rfl,l1,l2,l3⟩:=AG.some (by have:=YL.o;omega);have HV:=ae (show aZ p=(0,0) from by unfold aZ;rw [if_neg (by rw [PZ.o];simp),tR.o,MA.o,sT]);have HRL:=ae AG;have YP:=ae (MB.o.trans (hb.mono MB.o.size));have kp9:=KP8.o.of (hb.block _ KP8.o.lt);have KC9:=ae (YN.o.of (hb.block _ YN.o.lt));have KF9:=ae (YO.o.of (hb.block _ YO.o.lt));have q3:W9.cell? (π pb 3)=some (.slice oa p.on.length oc):=kp9.cell 3;have lp:=kp9.lt;have Ig:bl.length=p.on.length+1:=YL.o;have lc9:W9.cell? (π lb p.on.length)=some (ι (bN p (bl.getD p.on.length 0):Nat)):=AG.cell (o:=p.on.length) (by omega);have hms:bl.getD p.on.length 0=p.aJ:=by rw [<-MA.o,List.getD_eq_getElem?_getD,List.getElem?_append_right (Nat.le_refl _)];simp
 rw [hms] at lc9;rw [Ig] at l1 Dr;unfold FR;rw [j1,j3,j4,j6,Dr];clear j1 j3 j4 j6 Dr hb AG sT kp9 Ig hms;obtain ⟨em,oN⟩:∃z,bN p p.aJ=z:=⟨_,rfl⟩;rw [oN] at lc9;have RF:=ae oN;clear oN;go_wp2_with fail;have abj:p.on.length<=TW:=by omega
 have hx9:(p.on.length:Int) < (p.on.length:Int)+1:=by omega
 have N8:Hid (pb∉[pb+1,pb+1+1]):=ae (by simp;omega);have Jy:Hid (lb∉[pb+1,pb+1+1]):=ae (by
  have h1:=HRL.o.eF KC9.o (by decide);have h2:=HRL.o.eF KF9.o (by decide);simp only [List.mem_cons,List.not_mem_nil,or_false,not_or];exact ⟨fun e=>h1 (by rw [e];rfl),fun e=>h2 (by rw [e];rfl)⟩)
 have p_:=ae (fun (V:World) (hf:ax [pb+1,pb+1+1] W9 V)=>show aV V 1 (.slice (some (π lb 0)) p.on.length p.on.length) p.on.length (fun i=> ι (bN p (p.on.getD i 0):Nat)) from by
  have h1:=(HRL.o.aB hf (fun b hb=>by have:lb=b:=Option.some.inj hb;rw [<-this];exact Jy.o));refine .inr ⟨(π lb 0),p.on.length,rfl,Nat.le_refl _,by unfold maxLen;omega,fun o ho=>⟨rfl,?_⟩⟩;have h2:=h1.cell (o:=o) (by have:=YL.o;omega);rw [Nat.zero_add,h2];unfold xw;rw [<-MA.o,List.getD_eq_getElem?_getD,List.getElem?_append_left (by omega),<-List.getD_eq_getElem?_getD])
 refine Mk.bF (S:=fun wx=>ax [pb+1,pb+1+1] W9 wx) (by kernel_rfl) (ax.ah (au _ W9 1)) (fun al=>?_);have AL:=ae (KC9.o.drewN 1);have yD:=ae (KF9.o.drewN 1);change Hid (ay W9.drew _ _ _) at AL;change Hid (ay W9.drew _ _ _) at yD;generalize World.drew _=V0 at*;refine Mk.bL 0 ?_;refine Mk.bL 1 ?_;refine Mk.bL 2 ?_;refine wpAnyH_take (i:=3) (v:=?_) rfl (by kernel_rfl) (by kernel_rfl) (by kernel_rfl) (fun _ _ _ h=>Mk.aN h) (Or.inl ⟨by rfl,?_⟩) (by assumption) ?_;rotate_left
 ·exact ab9
 refine Mk.pt ?_;refine Mk.bL 4 ?_;refine Mk.bL 5 ?_;refine wpAnyH_take (i:=6) (v:=?_) rfl (by kernel_rfl) (by kernel_rfl) (by kernel_rfl) (fun _ _ _ h=>Mk.aN h) (Or.inl ⟨by rfl,?_⟩) (by assumption) ?_;rotate_left
 ·exact ab9
 refine Mk.pt ?_;refine Mk.bL 7 ?_;refine Mk.bL 8 ?_;refine Mk.bL 9 ?_;refine Mk.bL 10 ?_;refine wpAnyH_take (i:=11) (v:=?_) rfl (by kernel_rfl) (by kernel_rfl) (by kernel_rfl) (fun _ _ _ h=>Mk.aN h) (Or.inl ⟨by rfl,?_⟩) (by assumption) ?_;rotate_left
 ·exact ab9
 refine Mk.pt ?_;refine Mk.bL 12 ?_;refine Mk.bL 13 ?_;refine wpAnyH_take (i:=14) (v:=?_) rfl (by kernel_rfl) (by kernel_rfl) (by kernel_rfl) (fun _ _ _ h=>Mk.aN h) (Or.inl ⟨by rfl,?_⟩) (by assumption) ?_;rotate_left
 ·intro wz bR;have y0:=(World.cell?_of_block (bR.block _ (aS lc9) Jy.o)).trans lc9;exact gee
 refine Mk.pt ?_;refine Mk.bL 15 ?_;refine Mk.bL 16 ?_;refine Mk.bL 17 ?_;have NN:Hid (pb+1≠pb+1+1):=ae (by omega);have z0:=AL.o.cell 0;have z1:=AL.o.cell 1;have z2:=yD.o.cell 0;have z3:=yD.o.cell 1;have z4:=AL.o.frozen;have z5:=yD.o.frozen;have z6:=yD.o.lt;simp only [List.getElem?_toArray,List.getElem?_cons_zero,List.getElem?_cons_succ] at z0 z1 z2 z3;refine wpAnyH_ready (rs:=[18]) (by kernel_rfl) (by simp) ?_;refine AllReadyH.cons rfl (fun K hK=>?_) AllReadyH.nil;refine QX ?_;go_simp;refine hK.out _ _ ((al.setCell (p:=(π (pb+1) 0)) (by simp) (.slice (some (π lb 0)) p.on.length p.on.length)).setCell (p:=(π (pb+1) 1)) (by simp) (ι (em:Nat))) (fun al=>?_);clear hK K;refine Mk.pt ?_;refine wpAnyH_ready (rs:=[19]) (by kernel_rfl) (by simp) ?_;refine AllReadyH.cons rfl (fun K hK=>?_) AllReadyH.nil;refine QX ?_;go_simp;refine hK.out _ _ ((al.setCell (p:=(π (pb+1+1) 0)) (by simp) (ι 0)).setCell (p:=(π (pb+1+1) 1)) (by simp) (ι 0)) (fun al=>?_);clear hK K;refine Mk.pt ?_;refine wpAnyH_done (by kernel_rfl) ⟨rfl,?_⟩ _;have r8:=al;clear al;go_wp2_with fail;refine GH (cb:=pb+1) (fb:=pb+1+1) rfl rfl rfl ((((AL.o.set 0 (.slice (some (π lb 0)) p.on.length p.on.length)).set 1 (ι (em:Nat))).other NN.o 0 (ι 0)).other NN.o 1 (ι 0)) ((((yD.o.other NN.o.symm 0 (.slice (some (π lb 0)) p.on.length p.on.length)).other NN.o.symm 1 (ι (em:Nat))).set 0 (ι 0)).set 1 (ι 0)) ?_;refine ⟨ρ T8,.slice (some (π lb 0)) p.on.length p.on.length,(em:Nat),by rw [HV.o];rfl,⟨_,_,_,rfl⟩,YP.o.trans (r8.below YP.o.size (by rw [PX.o];simp;omega)),(fun b hb=>aaM.o b hb),fun _=>⟨by rw [RF.o],?_⟩⟩;exact p_.o _ r8
def Cv (w:World) (p:aO) (e:Ending) (w':World):Prop:=∃wB ms,e= .returned (.tuple #[.agg #[wB,ι ms],.agg #[ι (aZ p).1,ι (aZ p).2]])/\(∃x y z,wB= .slice x y z)/\Below w.heap.size w w'/\
 ((aZ p).1=0->ms=(bN p p.aJ:Nat)/\aV w' 1 wB p.on.length (fun i=> ι (bN p (p.on.getD i 0):Nat)))
theorem Ua (h:fP w K p):Calls Tryz.prog 44 #[pV K p] w (Cv w p):=by
 have HR:=ae (fun V (hb:Below w.heap.size w V)=>YH (w:=V) (h.aB (ax.ah hb)));obtain ⟨⟨ga,gc,g1,g2,g3⟩,⟨va,vc,v1,v2,v3⟩,⟨ta,tc,t1,t2,t3⟩,⟨oa,oc,o1,o2,o3⟩,⟨ca,cc,c1,c2,c3⟩⟩:=h.sl;unfold pV at HR ⊢;rw [g1,v1,t1,o1,c1] at HR ⊢;have hB:∀cs T mV T2 YI T3,Below w.heap.size w (((w.alloc (.cells cs T)).alloc (.cells mV T2)).alloc (.cells YI T3)):=fun cs T mV T2 YI T3=>(((Below.refl _ _).alloc (Nat.le_refl _) _).alloc (by simp) _).alloc (by simp;omega) _;have kc:ay (((w.alloc (.cells #[.slice ga p.ap.length gc,.slice va p.vars.length vc,.slice ta p.aW.length tc,.slice oa p.on.length oc,ι p.aJ,.slice ca p.code.length cc] 27)).alloc (.cells #[ν,ι 0] 97)).alloc (.cells #[ι 0,ι 0] 99)) (w.heap.size+1) 97 #[ν,ι 0]:=(ay.a_ (by simp)).alloc _;have kf:ay (((w.alloc (.cells #[.slice ga p.ap.length gc,.slice va p.vars.length vc,.slice ta p.aW.length tc,.slice oa p.on.length oc,ι p.aJ,.slice ca p.code.length cc] 27)).alloc (.cells #[ν,ι 0] 97)).alloc (.cells #[ι 0,ι 0] 99)) (w.heap.size+1+1) 99 #[ι 0,ι 0]:=ay.a_ (by simp);have sS:(((w.alloc (.cells #[.slice ga p.ap.length gc,.slice va p.vars.length vc,.slice ta p.aW.length tc,.slice oa p.on.length oc,ι p.aJ,.slice ca p.code.length cc] 27)).alloc (.cells #[ν,ι 0] 97)).alloc (.cells #[ι 0,ι 0] 99)).heap.size=w.heap.size+1+1+1:=by simp
 have dQ:=hB #[.slice ga p.ap.length gc,.slice va p.vars.length vc,.slice ta p.aW.length tc,.slice oa p.on.length oc,ι p.aJ,.slice ca p.code.length cc] 27 #[ν,ι 0] 97 #[ι 0,ι 0] 99;clear h hB g1 v1 t1 o1 c1 g2 g3 v2 v3 t2 t3 o2 o3 c2 c3;go_enter Tryz.func44,Tryz.ntmps44;go_wp2_with fail;generalize (((w.alloc (.cells #[.slice ga p.ap.length gc,.slice va p.vars.length vc,.slice ta p.aW.length tc,.slice oa p.on.length oc,ι p.aJ,.slice ca p.code.length cc] 27)).alloc (.cells #[ν,ι 0] 97)).alloc (.cells #[ι 0,ι 0] 99))=W0 at*
 with_reducible refine (HR.o _ dQ).mono ?_
 rintro e W1 ⟨vv,wB,ms,rfl,⟨x9,y9,z9,rfl⟩,hb,Fv,hco⟩;have NO:Hid (∀b,(Value.slice x9 y9 z9).ownBlock=some b->w.heap.size+1+1+1<=b):=ae fun b h=>by have:=Fv b h;omega
 clear Fv;have PJ:=ae hco;have dC:=ae (dQ.trans (hb.mono dQ.size));have KC:=ae (kc.of (hb.block _ kc.lt));have KF:=ae (kf.of (hb.block _ kf.lt));have El:w.heap.size+1+1+1<=W1.heap.size:=by have:=hb.size;omega
 clear hco hb kc kf sS dQ HR;obtain ⟨e1,he1⟩:∃z,(aZ p).1=z:=⟨_,rfl⟩;obtain ⟨e2,Jw⟩:∃z,(aZ p).2=z:=⟨_,rfl⟩;rw [he1] at PJ;rw [he1,Jw];have HE:=ae (And.intro he1 Jw);clear he1 Jw;go_wp2_with fail;have k2:ay ((W1.alloc (.cells #[.slice x9 y9 z9,ι ms] 97)).alloc (.cells #[ι e1,ι e2] 99)) W1.heap.size 97 #[.slice x9 y9 z9,ι ms]:=(ay.new _ _ _).alloc _;have k3:ay ((W1.alloc (.cells #[.slice x9 y9 z9,ι ms] 97)).alloc (.cells #[ι e1,ι e2] 99)) (W1.heap.size+1) 99 #[ι e1,ι e2]:=ay.a_ (by simp);have dn:Below W1.heap.size W1 ((W1.alloc (.cells #[.slice x9 y9 z9,ι ms] 97)).alloc (.cells #[ι e1,ι e2] 99)):=((Below.refl _ _).alloc (Nat.le_refl _) _).alloc (by simp) _;generalize (W1.alloc (.cells #[.slice x9 y9 z9,ι ms] 97)).alloc (.cells #[ι e1,ι e2] 99)=W2 at*;obtain ⟨n0,n1⟩:=k2.c2;obtain ⟨n2,n3⟩:=k3.c2;have V_:=ae (KC.o.of (dn.block _ KC.o.lt));have KF2:=ae (KF.o.of (dn.block _ KF.o.lt));have fg:=ae (dC.o.trans (dn.mono dC.o.size));have ze:Hid (w.heap.size+1+1+1<=W1.heap.size):=ae El;have ls2:=k3.lt;have nU:Hid (ax [] W1 W2):=ae (ax.ah dn);clear k2 k3 dn;generalize fN:W1.heap.size=s1 at*;clear fN;refine Mk.bF (S:=fun wx=>ax [w.heap.size+1,w.heap.size+1+1] W2 wx) (by kernel_rfl) (ax.ah (au _ W2 1)) (fun al=>?_);have AL:=ae (V_.o.drewN 1);have yD:=ae (KF2.o.drewN 1);change Hid (ay W2.drew _ _ _) at AL;change Hid (ay W2.drew _ _ _) at yD;generalize World.drew _=V0 at*;refine wpAnyH_take (i:=0) (v:=?_) rfl (by kernel_rfl) (by kernel_rfl) (by kernel_rfl) (fun _ _ _ h=>Mk.aN h) (Or.inl ⟨by rfl,?_⟩) (by assumption) ?_;rotate_left
 ·intro wz bR;have y0:=(World.cell?_of_block (bR.block _ (aS n0) (by have:=ze.o;simp only [List.mem_cons,List.not_mem_nil,or_false,not_or];omega))).trans n0;have y1:=(World.cell?_of_block (bR.block _ (aS n1) (by have:=ze.o;simp only [List.mem_cons,List.not_mem_nil,or_false,not_or];omega))).trans n1;exact gee
 refine Mk.pt ?_;refine wpAnyH_take (i:=1) (v:=?_) rfl (by kernel_rfl) (by kernel_rfl) (by kernel_rfl) (fun _ _ _ h=>Mk.aN h) (Or.inl ⟨by rfl,?_⟩) (by assumption) ?_;rotate_left
 ·intro wz bR;have y0:=(World.cell?_of_block (bR.block _ (aS n2) (by have:=ze.o;simp only [List.mem_cons,List.not_mem_nil,or_false,not_or];omega))).trans n2;have y1:=(World.cell?_of_block (bR.block _ (aS n3) (by have:=ze.o;simp only [List.mem_cons,List.not_mem_nil,or_false,not_or];omega))).trans n3;exact gee
 refine Mk.pt ?_;have NN:Hid (w.heap.size+1≠w.heap.size+1+1):=ae (by omega);have z0:=AL.o.cell 0;have z1:=AL.o.cell 1;have z2:=yD.o.cell 0;have z3:=yD.o.cell 1;have z4:=AL.o.frozen;have z5:=yD.o.frozen;have z6:=yD.o.lt;simp only [List.getElem?_toArray,List.getElem?_cons_zero,List.getElem?_cons_succ] at z0 z1 z2 z3;refine wpAnyH_ready (rs:=[2]) (by kernel_rfl) (by simp) ?_;refine AllReadyH.cons rfl (fun K hK=>?_) AllReadyH.nil;refine QX ?_;go_simp;refine hK.out _ _ ((al.setCell (p:=(π (w.heap.size+1) 0)) (by simp) (.slice x9 y9 z9)).setCell (p:=(π (w.heap.size+1) 1)) (by simp) (ι ms)) (fun al=>?_);clear hK K;refine Mk.pt ?_;refine wpAnyH_ready (rs:=[3]) (by kernel_rfl) (by simp) ?_;refine AllReadyH.cons rfl (fun K hK=>?_) AllReadyH.nil;refine QX ?_;go_simp;refine hK.out _ _ ((al.setCell (p:=(π (w.heap.size+1+1) 0)) (by simp) (ι e1)).setCell (p:=(π (w.heap.size+1+1) 1)) (by simp) (ι e2)) (fun al=>?_);clear hK K;refine Mk.pt ?_;refine wpAnyH_done (by kernel_rfl) ⟨rfl,?_⟩ _;have MC:=al;clear al;go_wp2_with fail;have kc9:=((((AL.o.set 0 (.slice x9 y9 z9)).set 1 (ι ms)).other NN.o 0 (ι e1)).other NN.o 1 (ι e2));have kf9:=((((yD.o.other NN.o.symm 0 (.slice x9 y9 z9)).other NN.o.symm 1 (ι ms)).set 0 (ι e1)).set 1 (ι e2));generalize ((((V0.setCell (π (w.heap.size+1) 0) (.slice x9 y9 z9)).setCell (π (w.heap.size+1) 1) (ι ms)).setCell (π (w.heap.size+1+1) 0) (ι e1)).setCell (π (w.heap.size+1+1) 1) (ι e2))=W9 at*;obtain ⟨c0,c1⟩:=kc9.c2;obtain ⟨f0,f1⟩:=kf9.c2;refine bodyPost_ret (v:= .tuple #[.agg #[.slice x9 y9 z9,ι ms],.agg #[ι e1,ι e2]]) ?_ rfl ⟨.slice x9 y9 z9,ms,by rw [HE.o.1,HE.o.2],⟨_,_,_,rfl⟩,fg.o.trans (MC.below fg.o.size (by simp;omega)),fun h=>?_⟩
 ·simp [results,Tryz.results44,go_sem,c0,c1,f0,f1]
 ·obtain ⟨h1,h2⟩:=PJ.o (by rw [<-h];exact HE.o.1.symm);refine ⟨h1,pP (aV.aB h2 nU.o) MC (fun b hb=>?_)⟩;have h3:=NO.o b hb;simp only [List.mem_cons,List.not_mem_nil,or_false,not_or];omega
end
end Go.Proofs.YtblkblclmbhjiaaGreat.Vf
namespace Go.Proofs.YtblkblclmbhjiaaGreat.Vf
open Go.RowKit ak.Vm
open ak hiding aL an aj
def pj (n:Int):Bool:=decide (n < 1)||decide (1048576 < n)
theorem acS {p:Prop} (h:p:=by
 rw [hf];clear hf;go_enter Tryz.func97,Tryz.ntmps97;go_wp2_with fail;go_ret;exact ⟨rfl,rfl⟩):p:=h
theorem sU (w:World) (n:Int):Calls Tryz.prog 97 #[ι n] w (fun e w'=>e= .returned (.bool (pj n))/\w'=w):=by
 by_cases h1:n < 1
 ·have hf:pj n=true:=by simp [pj,h1]
  exact acS
 ·by_cases h2:1048576 < n
  ·have hf:pj n=true:=by simp [pj,h2]
   exact acS
  ·have hf:pj n=false:=by simp [pj,h1,h2]
   exact acS
theorem Α (w:World) {K:Kp} {p:aO} (h:fP w K p):Calls Tryz.prog 12 #[pV K p] w (fun e w'=>e= .returned (.bool (decide (p.code.length<=3000)))/\Below w.heap.size w w'):=by obtain ⟨⟨ga,gc,g1,g2,g3⟩,⟨va,vc,v1,v2,v3⟩,⟨ta,tc,t1,t2,t3⟩,⟨oa,oc,o1,o2,o3⟩,⟨ca,cc,c1,c2,c3⟩⟩:=h.sl;unfold pV;rw [g1,v1,t1,o1,c1];have hB:∀cs T,Below w.heap.size w (w.alloc (.cells cs T)):=fun cs T=>(Below.refl _ _).alloc (Nat.le_refl _) _;clear g1 g2 g3 v1 v2 v3 t1 t2 t3 o1 o2 o3 c1 c2 c3 h;go_enter Tryz.func12,Tryz.ntmps12;go_wp2_with fail;go_ret;refine ⟨?_,hB _ _⟩;show Ending.returned (.bool (decide ((p.code.length:Int)<=3000)))=_;congr 2;rw [decide_eq_decide];omega
end Go.Proofs.YtblkblclmbhjiaaGreat.Vf
namespace Go.Proofs.YtblkblclmbhjiaaGreat.Vf
open Go.RowKit ak.Vm
open ak hiding aL an aj
open Ma (dx bQ aU vb)
def my (p:aO) (c:Cp) (q:Nat):Bool:= !pj (c.aI.getD q 0)&&(p.ap.getD q false||decide (c.aI.getD q 0<=c.size))
def gF (p:aO) (c:Cp):Bool:= !pj c.size&&decide (c.aI.length=p.ap.length)&&decide (∀q,q < p.ap.length->my p c q=true)
theorem yE {p:aO} {c:Cp} (h:gF p c=true):sC p c:=by
 unfold gF at h;simp only [Bool.and_eq_true,decide_eq_true_eq] at h;obtain ⟨⟨h1,h2⟩,h3⟩:=h;have out:∀n,pj n=false->1<=n/\n<=1048576:=fun n h=>by unfold pj at h;simp at h;omega
 have hs:=out c.size (by simpa using h1);refine ⟨hs.1,hs.2,h2,fun q hq=>?_⟩;have:=h3 q hq;unfold my at this;simp only [Bool.and_eq_true] at this;exact out _ (by simpa using this.1)
def cV (c:Cp) (qv:Value):Value:= .agg #[ι c.size,qv]
def wC (p:aO) (c:Cp) (k:Nat):Nat:=cF k fun q=>if p.ap.getD q false then 0 else (c.aI.getD q 0).toNat
def Cw (p:aO) (c:Cp) (k:Nat):Nat:=cF k fun q=>if p.ap.getD q false then (c.aI.getD q 0).toNat else 0
theorem MD (p:aO) (c:Cp):bH (aw p c)=min (wC p c p.ap.length) c.size.toNat+Cw p c p.ap.length:=rfl
def FrF (pb cb:Nat) (r g:Nat) (qv:Value) (n i:Nat) (a:Act):Prop:=∃J:Nat->Value,a={tmps:=#[J 0,J 1,ρ pb,ρ cb,J 4,J 5,.func (.func 97) #[] #[],ι r,ι g,J 9,J 10,J 11,J 12,J 13,J 14,J 15,J 16,J 17,J 18,J 19,J 20,J 21,J 22,J 23,J 24,J 25,qv,ι n,ι i,J 29,J 30,J 31,J 32,J 33,J 34,J 35,J 36,J 37,J 38,J 39,J 40,J 41,J 42,J 43,J 44,J 45,J 46,J 47,J 48,J 49,J 50,J 51,J 52,J 53,J 54,J 55,J 56,J 57,J 58,J 59,J 60,J 61,J 62,J 63,J 64,J 65,J 66,J 67,J 68,J 69,J 70,J 71,J 72],defers:=[]}
def wD (p:aO) (c:Cp):Value:= .tuple #[ι (if gF p c=true then (bH (aw p c):Nat) else 0),.bool (gF p c&&decide (bH (aw p c)<=4194304))]
theorem rU {p:aO} {c:Cp} (h:gF p c=false):wD p c= .tuple #[ι 0,.bool false]:=by unfold wD;rw [h];rfl
def YQ (w:World) (p:aO) (c:Cp) (qv:Value) (gv:Value) (P:World->Prop) (m:Nat) (a:Act) (W:World):Prop:=
 ∃i,i<=p.ap.length/\m+i=p.ap.length+1/\FrF w.heap.size (w.heap.size+1) (wC p c i) (Cw p c i) qv p.ap.length i a/\Hid (Below w.heap.size w W)/\Hid (P W)/\Hid (∀j,j < i->my p c j=true)/\wC p c i<=i*1048576/\Cw p c i<=i*1048576
theorem adS {p:Prop} (h:p:=by
 go_enter Tryz.func53,Tryz.ntmps53;go_wp2_with fail;refine (B7.o _).mono ?_;rintro e w' ⟨rfl,rfl⟩;go_wp2_with fail;go_ret2;exact ⟨rfl,hB _ _ _ _⟩):p:=h
theorem E0 (w:World) {K:Kp} {p:aO} {c:Cp} {qv:Value} (h:fP w K p) (hq:aV w 1 qv c.aI.length (aU c.aI)) (hg:p.ap.length<=16):
 Calls Tryz.prog 53 #[pV K p,cV c qv] w (fun e w'=>e= .returned (wD p c)/\Below w.heap.size w w'):=by
 obtain ⟨⟨ga,gc,g1,g2,g3⟩,⟨va,vc,v1,v2,v3⟩,⟨ta,tc,t1,t2,t3⟩,⟨oa,oc,o1,o2,o3⟩,⟨ca,cc,c1,c2,c3⟩⟩:=h.sl;obtain ⟨qa,qc,rfl,q2,q3⟩:=hq.val;have H:=ae h;have HQ:=ae hq;obtain ⟨kg,kv,kt,ko,kc⟩:=K;dsimp only at g1 v1 t1 o1 c1;subst g1 v1 t1 o1 c1;have hB:∀cs T mV T2,Below w.heap.size w ((w.alloc (.cells cs T)).alloc (.cells mV T2)):=fun cs T mV T2=>((Below.refl _ _).alloc (Nat.le_refl _) _).alloc (by simp) _;have HO:=ae (fun V n=>sU V n);unfold pV cV;dsimp only;clear h hq g2 g3 v2 v3 t2 t3 o2 o3 c2 c3;by_cases s1:pj c.size=true
 ·have HF:=ae (rU (show gF p c=false by unfold gF;rw [s1];rfl));rw [HF.o];have B7:=ae (fun V=>s1▸sU V c.size);clear HO s1;exact adS
 have wE:pj c.size=false:=by simpa using s1
 have B7:=ae (fun V=>wE▸sU V c.size);have HS:=ae wE;have kN:1<=c.size/\c.size<=1048576:=by unfold pj at wE;simp at wE;omega
 clear s1 wE;by_cases l1:c.aI.length=p.ap.length
 case neg=>have HF:=ae (rU (show gF p c=false by unfold gF;simp [l1]));rw [HF.o];clear HO;exact adS
 case pos=>
  rw [l1] at q2 HQ ⊢;have HL:=ae l1;clear l1;go_enter Tryz.func53,Tryz.ntmps53;go_wp2_with fail;refine (B7.o _).mono ?_;rintro e w' ⟨rfl,rfl⟩;go_wp2_with fail;have kW:=ae (And.intro (((ay.new w 27 #[.slice ga p.ap.length gc,.slice va p.vars.length vc,.slice ta p.aW.length tc,.slice oa p.on.length oc,ι p.aJ,.slice ca p.code.length cc]).alloc (.cells #[ι c.size,.slice qa p.ap.length qc] 29))) (ay.a_ (w:=w.alloc (.cells #[.slice ga p.ap.length gc,.slice va p.vars.length vc,.slice ta p.aW.length tc,.slice oa p.on.length oc,ι p.aJ,.slice ca p.code.length cc] 27)) (b:=w.heap.size+1) (T:=29) (cs:=#[ι c.size,.slice qa p.ap.length qc]) (by simp)));refine Mk.aP (YQ w p c (.slice qa p.ap.length qc) (.slice ga p.ap.length gc) (fun W=>ay W w.heap.size 27 #[.slice ga p.ap.length gc,.slice va p.vars.length vc,.slice ta p.aW.length tc,.slice oa p.on.length oc,ι p.aJ,.slice ca p.code.length cc]/\ay W (w.heap.size+1) 29 #[ι c.size,.slice qa p.ap.length qc])) (p.ap.length+1) ?start ?zero ?round
  case start=>exact ⟨0,Nat.zero_le _,by omega,pC rfl,ae (hB _ _ _ _),kW,ae (fun j hj=>absurd hj (by omega)),Nat.le_refl _,Nat.le_refl _⟩
  case zero=>exact fun a W hh=>by obtain ⟨q,h1,h2,_⟩:=hh;omega
  clear kW B7
  case round=>
   rintro m a0 W ⟨i,hi,hm,⟨J,rfl⟩,HB,HP,HA,hr,Pa⟩;obtain ⟨k1,k2⟩:=HP.o;have e0:=k1.c1;have e1:=k2.c1;have l1:=k1.lt;have l2:=k2.lt;clear k1 k2;have hmul:(i+1)*1048576=i*1048576+1048576:=Nat.succ_mul _ _;have ME:=ae hmul;clear hmul;have EC:wC p c (i+1)=wC p c i+(if p.ap.getD i false then 0 else (c.aI.getD i 0).toNat):=rfl;have uP:Cw p c (i+1)=Cw p c i+(if p.ap.getD i false then (c.aI.getD i 0).toNat else 0):=rfl;by_cases a8:i < p.ap.length
   ·obtain ⟨b,off,cap,hv,-,-,hb,hc⟩:=(HQ.o.aB (ax.ah HB.o)).some (by omega) (by omega);simp only [Value.slice.injEq] at hv;obtain ⟨rfl,-,rfl⟩:=hv;have c0:W.cell? (π b (off+i))=some (ι (c.aI.getD i 0)):=hc i (by omega);obtain ⟨gb,abk,kw,hv,-,-,d0⟩:=(H.o.aB (ax.ah HB.o)).gh a8;simp only [Value.slice.injEq] at hv;obtain ⟨rfl,-,rfl⟩:=hv;clear hc hb;have RX:my p c i=(!pj (c.aI.getD i 0)&&(p.ap.getD i false||decide (c.aI.getD i 0<=c.size))):=rfl;have bad:my p c i=false->gF p c=false:=fun e=>by
     unfold gF;have:decide (∀q,q < p.ap.length->my p c q=true)=false:=by rw [decide_eq_false_iff_not];intro h;rw [h i a8] at e;cases e
     rw [this,Bool.and_false]
    generalize hn:c.aI.getD i 0=n at*;generalize C7:p.ap.getD i false=gi at*;have ux:=ae (HO.o W n);cases ho:pj n with
    |true=>have HF:=ae (rU (bad (by rw [RX,ho];rfl)));rw [ho] at ux;clear bad RX EC uP ho hn C7;go_wp2_with fail;refine ux.o.mono ?_;rintro e w' ⟨rfl,rfl⟩;go_wp2_with fail;go_ret2;exact ⟨by rw [HF.o];rfl,HB.o⟩
    |false=>
     have hni:1<=n/\n<=1048576:=by unfold pj at ho;simp at ho;omega
     rw [ho] at ux;obtain ⟨nn,rfl⟩:=Int.eq_ofNat_of_zero_le (show 0<=n by omega);have VG:nn<=1048576:=by omega
     have rM:=ae VG;clear VG;cases gi with
     |true=>
      simp at EC uP;have YR:=ae EC;have IX:=ae uP;have HQK:=ae (show my p c i=true by rw [RX,ho];rfl);clear bad RX EC uP ho hn C7;go_wp2_with fail;refine ux.o.mono ?_;rintro e w' ⟨rfl,rfl⟩;go_wp2_with fail;refine ⟨i+1,by omega,by omega,?_,HB,HP,ae fun j hj=>?_,?_,?_⟩
      ·rw [YR.o,IX.o];exact pC rfl
      ·by_cases e:j=i
       ·subst e;exact HQK.o
       ·exact HA.o j (by omega)
      ·rw [YR.o,ME.o];exact Nat.le_trans hr (Nat.le_add_right _ _)
      ·rw [IX.o,ME.o];exact Nat.add_le_add Pa rM.o
     |false=>
      simp at EC uP;have YR:=ae EC;have IX:=ae uP;by_cases hs:(nn:Int)<=c.size
      ·have HQK:=ae (show my p c i=true by rw [RX,ho];simp [hs]);clear bad RX EC uP ho hn C7;go_wp2_with fail;refine ux.o.mono ?_;rintro e w' ⟨rfl,rfl⟩;go_wp2_with fail;refine ⟨i+1,by omega,by omega,?_,HB,HP,ae fun j hj=>?_,?_,?_⟩
       ·rw [YR.o,IX.o];exact pC rfl
       ·by_cases e:j=i
        ·subst e;exact HQK.o
        ·exact HA.o j (by omega)
       ·rw [YR.o,ME.o];exact Nat.add_le_add hr rM.o
       ·rw [IX.o,ME.o];exact Nat.le_trans Pa (Nat.le_add_right _ _)
      ·have HF:=ae (rU (bad (by rw [RX,ho];simp [hs])));clear bad RX EC uP ho hn C7;go_wp2_with fail;refine ux.o.mono ?_;rintro e w' ⟨rfl,rfl⟩;go_wp2_with fail;refine PG rfl ?_;exact ⟨by rw [HF.o];rfl,HB.o⟩
   ·obtain rfl:i=p.ap.length:=by omega
    have lO:gF p c=true:=by unfold gF;rw [HS.o,HL.o];simp;exact HA.o
    have HF:=ae (show wD p c= .tuple #[ι ((min (wC p c p.ap.length) c.size.toNat+Cw p c p.ap.length:Nat):Int),.bool (decide (min (wC p c p.ap.length) c.size.toNat+Cw p c p.ap.length<=4194304))] by
     unfold wD;rw [lO,MD];rfl)
    clear EC uP lO;have GY:min ((wC p c p.ap.length:Nat):Int) c.size=((min (wC p c p.ap.length) c.size.toNat:Nat):Int):=by omega
    have Fo:min (wC p c p.ap.length) c.size.toNat<=1048576:=by omega
    generalize hr9:wC p c p.ap.length=r9 at*;generalize hg9:Cw p c p.ap.length=g9 at*;go_wp2_with fail;refine PG rfl ?_;have e:decide (((min r9 c.size.toNat:Nat):Int)+(g9:Int)<=4194304)=decide (min r9 c.size.toNat+g9<=4194304):=by rw [decide_eq_decide];omega
    exact ⟨by rw [HF.o,<-e];rfl,HB.o⟩
end Go.Proofs.YtblkblclmbhjiaaGreat.Vf
namespace Go.Proofs.YtblkblclmbhjiaaGreat.Gd
open Go.RowKit ak ak.Vm
section
variable {P:Program} {ops:Array Oper} {Q:Exit->Act->World->Prop} {md:Region.Mode} {D:List Nat} {S0 S1:World->Prop}
def Not (D:List Nat) (l:Array Bool):Prop:=∀d,d∈D->l.getD d true=false
def Oi (D:List Nat) (S0 S1:World->Prop) (l:Array Bool) (w:World):Prop:=S0 w/\(Not D l->S1 w)
def lQ (P:Program) (md:Region.Mode) (ops:Array Oper) (Q:Exit->Act->World->Prop) (D:List Nat) (S0 S1:World->Prop):Nat->Array Bool->Act->World->Prop
 |0,l,a,w=>Region.ready md ops l=[]/\Q .normal a w
 |f+1,l,a,w=>(Region.ready md ops l=[]->Q .normal a w)/\∀i,i∈Region.ready md ops l->wpOp P ops Q i (fun a' w'=>Oi D S0 S1 (l.setIfInBounds i true) w'/\lQ P md ops Q D S0 S1 f (l.setIfInBounds i true) a' w') a w
theorem lQ.any:∀(f:Nat) (l:Array Bool) (a:Act) (w:World),lQ P md ops Q D S0 S1 f l a w->wpAny P md ops Q f l a w
 |0,_,_,_,h=>h
 |f+1,l,a,w,h=>⟨h.1,fun i hi=>wpOp_mono (fun a' w' k=>lQ.any f _ a' w' k.2) (h.2 i hi)⟩
def mA (md:Region.Mode) (ops:Array Oper) (i:Nat):List Nat:=((List.range ops.size).foldl (fun N k=>match ops[k]? with|some o=>if o.after.any (fun e=>Region.binds md e&&N.contains e.on) then k::N else N|none=>N) [i])
def RY (md:Region.Mode) (ops:Array Oper) (N:List Nat) (i:Nat):Prop:=∀n,n∈N->n=i\/∃o,ops[n]? =some o/\∃e,e∈o.after/\Region.binds md e=true/\e.on∈N
def Ap (md:Region.Mode) (ops:Array Oper) (N:List Nat) (i:Nat):Bool:=N.contains i&&N.all fun n=>n==i||(match ops[n]? with|some o=>o.after.any (fun e=>Region.binds md e&&N.contains e.on)|none=>false)
theorem MG {N:List Nat} {i:Nat} (h:Ap md ops N i=true):i∈N/\RY md ops N i:=by
 unfold Ap at h;rw [Bool.and_eq_true] at h;refine ⟨by simpa using h.1,fun n hn=>?_⟩;have:=List.all_eq_true.1 h.2 n hn;rw [Bool.or_eq_true] at this;rcases this with this|h2
 ·exact .inl (by simpa using this)
 right;cases ho:ops[n]? with
 |none=>rw [ho] at h2;simp at h2
 |some o=>rw [ho] at h2;dsimp only at h2;obtain ⟨e,he,hb⟩:=Array.any_eq_true'.1 h2;rw [Bool.and_eq_true] at hb;exact ⟨o,rfl,e,he,hb.1,by simpa using hb.2⟩
theorem GI {l:Array Bool} {j:Nat} (h:Not D l) (hj:j∉D):Not D (l.setIfInBounds j true):=fun d hd=>by rw [getD_set_ne true (fun e=>hj (by rw [e];exact hd))];exact h d hd
theorem IY {l:Array Bool} {j:Nat} (h:Not D (l.setIfInBounds j true)):Not D l:=fun d hd=>by
 have h1:=h d hd;by_cases e:j=d
 ·subst e;by_cases hj:j < l.size
  ·simp [Array.getD,hj] at h1
  ·simp [Array.getD,hj] at h1
 ·rw [getD_set_ne true e] at h1;exact h1
theorem Oi.RZ {l:Array Bool} {j:Nat} {w:World} (h:Oi D S0 S1 l w):Oi D S0 S1 (l.setIfInBounds j true) w:=⟨h.1,fun hn=>h.2 (IY hn)⟩
theorem Oi.set {l:Array Bool} {j:Nat} {w:World} (h:Oi D S0 S1 (l.setIfInBounds j true) w) (hj:j∉D):Oi D S0 S1 l w:=⟨h.1,fun hn=>h.2 (GI hn hj)⟩
theorem first {i:Nat} {oi:Oper} {v:Value} {S:World->Prop} {N:List Nat} (hi:ops[i]? =some oi) (YS:∀(j:Nat) (o:Oper) cs b,ops[j]? =some o->o.op≠.select cs b)
 (hQ:∀c a w,Q (.panic c) (a.put oi.dst v) w->Q (.panic c) a w) (hW:RY md ops N i) (hiD:i∉D) (hC:∀l w,Not N l->Oi D S0 S1 l w->S w):
 ∀(f:Nat) (l:Array Bool) (a:Act) (w:World),
  (∀j oj,ops[j]? =some oj->j≠i->l.getD j true=false->(∀e∈oj.after,Region.binds md e=true->e.on≠i)->oi.apart ops oj=true)->
  i∈Region.ready md ops l->YieldsIf P ops S oi v a->Oi D S0 S1 l w->Not N l->
  lQ P md ops Q D S0 S1 f (l.setIfInBounds i true) (a.put oi.dst v) w->lQ P md ops Q D S0 S1 (f+1) l a w:=by
 intro f
 induction f with
 |zero=>
  intro l a w _ hr hy hS hN H;refine ⟨fun h=>(by rw [h] at hr;cases hr),fun j hj=>?_⟩;by_cases Oj:j=i
  ·subst Oj;exact hy.wpOp hi (hC l w hN hS) ⟨hS.RZ,H⟩
  ·have:=ready_mono hj Oj;rw [H.1] at this;cases this
 |succ f ih=>
  intro l a w R0 hr hy hS hN H;refine ⟨fun h=>(by rw [h] at hr;cases hr),fun j hj=>?_⟩;by_cases Oj:j=i
  ·subst Oj;exact hy.wpOp hi (hC l w hN hS) ⟨hS.RZ,H⟩
  ·have h1:=H.2 j (ready_mono hj Oj);obtain ⟨YT,oj,hoj,fF⟩:=mem_ready.1 hj;have YU:∀e∈oj.after,Region.binds md e=true->e.on∉N:=fun e he hb hm=>by
    have a1:=fF e he hb;have a0:=hN _ hm;rcases Nat.lt_or_ge e.on l.size with h'|h'
    ·simp [h'] at a0 a1;rw [a0] at a1;cases a1
    ·simp [Array.getElem?_eq_none h'] at a1
   have aaN:∀e∈oj.after,Region.binds md e=true->e.on≠i:=fun e he hb uF=>by
    have a1:=fF e he hb;have a0:=(mem_ready.1 hr).1;rw [uF] at a1;rcases Nat.lt_or_ge i l.size with h'|h'
    ·simp [h'] at a0 a1;rw [a0] at a1;cases a1
    ·simp [Array.getElem?_eq_none h'] at a1
   have hjN:j∉N:=fun hm=>by
    rcases hW j hm with e|⟨o,ho,e,he,hb,uF⟩
    ·exact Oj e
    ·rw [hoj] at ho;cases ho;exact YU e he hb uF
   have h2:=wpOp_putIf hoj (R0 j oj hoj Oj YT aaN) (fun cs b=>YS i oi cs b hi) (fun cs b=>YS j oj cs b hoj) hQ hy h1;refine wpOp_mono (fun a' w' h3=>?_) h2;obtain ⟨y3,c3,H3⟩:=h3;rw [Array.setIfInBounds_comm _ _ (Ne.symm Oj)] at c3;have c4:=c3.set hiD;refine ⟨c4,ih (l.setIfInBounds j true) a' w' (fun k ok hk hki hun P4=>R0 k ok hk hki ?_ P4) (ready_mono hr (Ne.symm Oj)) y3 c4 (GI hN hjN) ?_⟩
   ·by_cases hjk:j=k
    ·subst hjk;exact YT
    ·rw [getD_set_ne true hjk] at hun;exact hun
   ·rw [Array.setIfInBounds_comm _ _ Oj];exact H3
theorem MH {N:List Nat} {l:Array Bool} (h:(N.all fun d=> !(l.getD d true))=true):Not N l:=fun d hd=>by simpa using List.all_eq_true.1 h d hd
theorem take {i:Nat} {oi:Oper} {v:Value} {f:Nat} {l:Array Bool} {a:Act} {w:World} (hi:ops[i]? =some oi) (hs:Region.noSelect ops=true) (hf:Region.free md ops l i=true) (hr:(Region.ready md ops l).contains i=true)
 (hW:(Ap md ops (mA md ops i) i&&D.all (fun d=>d !=i&&(mA md ops i).contains d))=true) (hN:((mA md ops i).all fun d=> !(l.getD d true))=true) (hQ:∀c a w,Q (.panic c) (a.put oi.dst v) w->Q (.panic c) a w) (hy:YieldsIf P ops (fun w=>S0 w/\S1 w) oi v a) (hS:S0 w/\S1 w)
 (h:lQ P md ops Q D S0 S1 f (l.setIfInBounds i true) (a.put oi.dst v) w):lQ P md ops Q D S0 S1 (f+1) l a w:=by
 rw [Bool.and_eq_true] at hW;obtain ⟨-,hw⟩:=MG hW.1;have hD:∀d,d∈D->d≠i/\d∈mA md ops i:=fun d hd=>by have:=List.all_eq_true.1 hW.2 d hd;rw [Bool.and_eq_true] at this;exact ⟨by simpa using this.1,by simpa using this.2⟩
 exact first (N:=mA md ops i) hi (Region.noSelect_spec hs) hQ hw (fun hm=>(hD i hm).1 rfl) (fun l w hn hc=>⟨hc.1,hc.2 fun d hd=>hn d (hD d hd).2⟩) f l a w (Region.free_spec hi hf) (by simpa using hr) hy ⟨hS.1,fun _=>hS.2⟩ (MH hN) h
theorem MI {i:Nat} {oi:Oper} {v:Value} {f:Nat} {l:Array Bool} {a:Act} {w:World} (hi:ops[i]? =some oi) (hs:Region.noSelect ops=true) (hf:Region.free md ops l i=true) (hr:(Region.ready md ops l).contains i=true)
 (hW:(D.all fun d=>d !=i)=true) (hN:([i].all fun d=> !(l.getD d true))=true) (hQ:∀c a w,Q (.panic c) (a.put oi.dst v) w->Q (.panic c) a w) (hy:YieldsIf P ops S0 oi v a) (hS:S0 w/\S1 w)
 (h:lQ P md ops Q D S0 S1 f (l.setIfInBounds i true) (a.put oi.dst v) w):lQ P md ops Q D S0 S1 (f+1) l a w:=
 first (N:=[i]) hi (Region.noSelect_spec hs) hQ (fun n hn=> .inl (by simpa using hn)) (fun hm=>by have:=List.all_eq_true.1 hW i hm;simp at this) (fun l w _ hc=>hc.1) f l a w (Region.free_spec hi hf) (by simpa using hr) hy ⟨hS.1,fun _=>hS.2⟩ (MH hN) h
def cU (P:Program) (md:Region.Mode) (ops:Array Oper) (Q:Exit->Act->World->Prop) (D:List Nat) (S0 S1:World->Prop) (f:Nat) (l:Array Bool) (a:Act) (w:World) (rs:List Nat):Prop:=
 ∀i,i∈rs->wpOp P ops Q i (fun a' w'=>Oi D S0 S1 (l.setIfInBounds i true) w'/\lQ P md ops Q D S0 S1 f (l.setIfInBounds i true) a' w') a w
theorem cU.nil {f:Nat} {l:Array Bool} {a:Act} {w:World}:cU P md ops Q D S0 S1 f l a w []:=fun _ h=>by cases h
theorem step {i:Nat} {o:Oper} {K:Act->World->Prop} {a:Act} {w:World} (ho:ops[i]? =some o) (h:if Region.wanted o (yielded ops a.tmps)=true then Oper.wp P o a w K Q else K (a.put o.dst undef) w):wpOp P ops Q i K a w:=by
 unfold wpOp;rw [ho];dsimp only;split
 ·next hw=>rw [if_pos hw] at h;exact .inl h
 ·next hw=>rw [if_neg hw] at h;exact h
theorem cU.cons {f:Nat} {l:Array Bool} {a:Act} {w:World} {i:Nat} {o:Oper} {rs:List Nat} (ho:ops[i]? =some o)
 (h:∀K:Act->World->Prop,Shut (∀a w,S0 w/\S1 w->(S0 w/\S1 w->lQ P md ops Q D S0 S1 f (l.setIfInBounds i true) a w)->K a w)->if Region.wanted o (yielded ops a.tmps)=true then Oper.wp P o a w K Q else K (a.put o.dst undef) w)
 (hs:cU P md ops Q D S0 S1 f l a w rs):cU P md ops Q D S0 S1 f l a w (i::rs):=fun j hj=>by
 rcases List.mem_cons.1 hj with rfl|hj
 ·exact step ho (h _ (fun a w hS hW=>⟨⟨hS.1,fun _=>hS.2⟩,hW hS⟩))
 ·exact hs j hj
theorem cU.last {f:Nat} {l:Array Bool} {a:Act} {w:World} {i:Nat} {o:Oper} {rs:List Nat} (ho:ops[i]? =some o) (hD:(D.any fun d=>(l.setIfInBounds i true).getD d true)=true)
 (h:∀K:Act->World->Prop,Shut (∀a w,S0 w->lQ P md ops Q D S0 S1 f (l.setIfInBounds i true) a w->K a w)->if Region.wanted o (yielded ops a.tmps)=true then Oper.wp P o a w K Q else K (a.put o.dst undef) w)
 (hs:cU P md ops Q D S0 S1 f l a w rs):cU P md ops Q D S0 S1 f l a w (i::rs):=fun j hj=>by
 rcases List.mem_cons.1 hj with rfl|hj
 ·refine step ho (h _ (fun a w hS hW=>⟨⟨hS,fun hN=>?_⟩,hW⟩));obtain ⟨d,hd,hb⟩:=List.any_eq_true.1 hD;rw [hN d hd] at hb;cases hb
 ·exact hs j hj
theorem ready {rs:List Nat} {f:Nat} {l:Array Bool} {a:Act} {w:World} (hr:Region.ready md ops l=rs) (bz:rs≠[]) (h:cU P md ops Q D S0 S1 f l a w rs):lQ P md ops Q D S0 S1 (f+1) l a w:=
 ⟨fun h0=>absurd (hr▸h0) bz,hr▸h⟩
theorem done {l:Array Bool} {a:Act} {w:World} (hr:Region.ready md ops l=[]) (h:Q .normal a w):∀f,lQ P md ops Q D S0 S1 f l a w
 |0=>⟨hr,h⟩
 |_+1=>⟨fun _=>h,by rw [hr];simp⟩
end
section
variable {P:Program} {id:Nat} {ops:Array Oper} {Q:Exit->Act->World->Prop} {a:Act} {w:World} {l n:Nat} {D:List Nat} {S0 S1:World->Prop}
theorem region (D:List Nat) (S0 S1:World->Prop) (hm:P.follows .mixedOrders=true) (hS:S0 w.drew/\S1 w.drew) (h:S0 w.drew/\S1 w.drew->lQ P .any ops (Mk.iw Q) D S0 S1 ops.size (Array.replicate ops.size false) a w.drew):(Code.region id ops true).wp P Q a w:=
 Code.wp_mono (fun e a w hq=>by obtain ⟨rfl,hq⟩:=hq;exact hq) (wp_region_any hm (lQ.any _ _ _ _ (h hS)))
theorem rr (D:List Nat) (S0 S1:World->Prop) (hm:P.follows .mixedOrders=true) (hd:Mk.rp ops=true) (hS:S0 w.drew/\S1 w.drew) (h:S0 w.drew/\S1 w.drew->lQ P .any ops (Mk.iw Q) D S0 S1 ops.size (Array.replicate ops.size false) a w.drew):(Code.region id ops true).wpIn (Fence.wide.inRound l) n P Q a w:=by refine wpIn_mono (Q:=Mk.iw Q) ?_ (fun e a w hq=>by obtain ⟨rfl,hq⟩:=hq;exact hq);exact wpIn_region_any hm (Mk.m_ hd (fun a w hq=>by cases hq.1) _ _ _ _ (lQ.any _ _ _ _ (h hS)))
end
end Go.Proofs.YtblkblclmbhjiaaGreat.Gd
