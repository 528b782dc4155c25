import Derived.Test.YtblkblclmbhjiaaGreatM14
import Derived.Laws.CopyRow
set_option linter.unusedVariables false
set_option linter.unusedSimpArgs false
set_option maxHeartbeats 40000000
set_option maxRecDepth 100000
open Go.Proofs.Tryz
theorem qX8 {p:Prop} (h:p:=by
 have y0:=key _ _ _ lp p0;have y1:=key _ _ _ lp p1;have y2:=key _ _ _ lp p2;have y3:=key _ _ _ lp p3;have y4:=key _ _ _ lp p4;have y5:=key _ _ _ lp p5;exact qU):p:=h
theorem agF {p:Prop} (h:p:=by
 have key:∀b i v,b < W1.heap.size->W1.cell? (π b i)=some v->wz.cell? (π b i)=some v:=fun b i v hb hc=>(afG (bR.block _ hb)).trans hc;exact qX8):p:=h
theorem agT {p:Prop} (h:p:=by
 rintro a W ⟨J,i,-,-,-,-,-,-,h1,h2,-⟩;omega):p:=h
namespace Go.Proofs.YtblkblclmbhjiaaGreat.Vf
open Go.RowKit ak.Vm
open ak hiding aL an aj
open Ma (dx bQ aU vb aA aQ)
section
variable {w:World} {K:Kp} {p:aO}
theorem agD {p:Prop} (h:p:=by
 intro wz bR;have y0:=(afG (bR.block _ lp N8.o)).trans q3;exact qU):p:=h
theorem ab9 {p:Prop} (h:p:=by
 have h2:=(af3 Jt b hb).2;rcases Rx with h|h
 ·exact ⟨My b (by rw [<-h];exact hb),h2⟩
 ·rw [h] at hb;have h3:=af0 hb;have h4:=al.size;exact ⟨omm,h2⟩):p:=h
theorem acF {p:Prop} (h:p:=by
 intro wz bR;exact qU):p:=h
theorem YH (h:fP w K p):Calls prog 91 #[pV K p] w (GG w p):=by
 obtain ⟨⟨ga,gc,g1,g2,g3⟩,⟨va,vc,v1,v2,v3⟩,⟨ta,tc,t1,t2,t3⟩,⟨oa,oc,o1,o2,o3⟩,⟨ca,cc,c1,c2,c3⟩⟩:=h.sl;have JI:=ae (fun V (hb:Below w.heap.size w V)=>zY (w:=V) (h.aB (da.ah hb)));have H:=ae h;have HK:=ae (And.intro g1 (And.intro v1 (And.intro t1 (And.intro o1 c1))));unfold pV at JI ⊢;rw [g1,v1,t1,o1,c1] at JI ⊢;have hB:∀cs T mV T2 YI T3,Below w.heap.size w (((w.alloc (.cells cs T)).alloc (.cells mV T2)).alloc (.cells YI T3)):=fun cs T mV T2 YI T3=>(((afL _ _).alloc (afF _) _).alloc smm _).alloc sso _;have HB:=ae hB;clear h hB g1 v1 t1 o1 c1 g2 g3 v2 v3 t2 t3 o2 o3 c2 c3;go_enter func91,ntmps91;have kp:ay (((w.alloc (.cells #[.slice ga p.ap.length gc,.slice va p.vars.length vc,.slice ta p.aW.length tc,.slice oa p.on.length oc,ι p.aJ,.slice ca p.code.length cc] 27)).alloc (.cells #[ν,ι 0] 97)).alloc (.cells #[ι 0,ι 0] 99)) w.heap.size 27 #[.slice ga p.ap.length gc,.slice va p.vars.length vc,.slice ta p.aW.length tc,.slice oa p.on.length oc,ι p.aJ,.slice ca p.code.length cc]:=((ay.new w _ _).alloc _).alloc _;have kc:ay (((w.alloc (.cells #[.slice ga p.ap.length gc,.slice va p.vars.length vc,.slice ta p.aW.length tc,.slice oa p.on.length oc,ι p.aJ,.slice ca p.code.length cc] 27)).alloc (.cells #[ν,ι 0] 97)).alloc (.cells #[ι 0,ι 0] 99)) (w.heap.size+1) 97 #[ν,ι 0]:=(ay.a_ smm).alloc _;have kf:ay (((w.alloc (.cells #[.slice ga p.ap.length gc,.slice va p.vars.length vc,.slice ta p.aW.length tc,.slice oa p.on.length oc,ι p.aJ,.slice ca p.code.length cc] 27)).alloc (.cells #[ν,ι 0] 97)).alloc (.cells #[ι 0,ι 0] 99)) (w.heap.size+1+1) 99 #[ι 0,ι 0]:=ay.a_ smm;have sS:(((w.alloc (.cells #[.slice ga p.ap.length gc,.slice va p.vars.length vc,.slice ta p.aW.length tc,.slice oa p.on.length oc,ι p.aJ,.slice ca p.code.length cc] 27)).alloc (.cells #[ν,ι 0] 97)).alloc (.cells #[ι 0,ι 0] 99)).heap.size=w.heap.size+1+1+1:=by simp
 have dQ:=HB.o #[.slice ga p.ap.length gc,.slice va p.vars.length vc,.slice ta p.aW.length tc,.slice oa p.on.length oc,ι p.aJ,.slice ca p.code.length cc] 27 #[ν,ι 0] 97 #[ι 0,ι 0] 99;go_wp2_with fail;go_step3;go_wp2_with fail;generalize (((w.alloc (.cells #[.slice ga p.ap.length gc,.slice va p.vars.length vc,.slice ta p.aW.length tc,.slice oa p.on.length oc,ι p.aJ,.slice ca p.code.length cc] 27)).alloc (.cells #[ν,ι 0] 97)).alloc (.cells #[ι 0,ι 0] 99))=W0 at*
 with_reducible refine (JI.o _ dQ).mono ?_
 rintro e W1 ⟨rfl,hb⟩;have kp1:=kp.of (hb.block _ kp.lt);have RQ:=kc.of (hb.block _ kc.lt);have T5:=kf.of (hb.block _ kf.lt);have dC:=ae (dQ.trans (hb.mono dQ.size));have tC:Hid (w.heap.size+1+1+1<=W1.heap.size):=ae (by have:=hb.size;omega);clear kp kc kf hb dQ sS HB;generalize hpb:w.heap.size=pb at*;have PX:=ae hpb;clear hpb;by_cases qJ:bo p=0
 case neg=>
  have hv:aZ p=(bo p,0):=by unfold aZ;rw [afE qJ]
  have HV:=ae hv;have bz:(bo p !=0)=true:=by simpa using qJ
  have hz:bo p≠0:=qJ;have HZ:=ae hz;generalize bo p=ce at*;clear hv hz qJ;obtain ⟨c0,c1⟩:=RQ.c2;obtain ⟨f0,f1⟩:=T5.c2;have z1:=RQ.frozen;have z2:=T5.frozen;have l2:=T5.lt;have KC:=ae RQ;have KF:=ae T5;clear RQ T5 kp1;go_wp2_with fail;exact An PX.o rfl rfl rfl KC.o KF.o dC.o HV.o HZ.o
 rw [qJ];obtain ⟨tb,mM⟩:=cK qJ;have PT:=ae tb;have iM:=ae mM;have hlen:p.code.length<=262144:=tb.code;have hon:p.on.length<=16:=by rw [tb.on];exact tb.g
 have PZ:=ae qJ;have KP:=ae kp1;have KC:=ae RQ;have KF:=ae T5;obtain ⟨p0,p1,p2,p3,p4,p5⟩:=kp1.c6;have iW:Hid (128*p.code.length<=281474976710656/\p.code.length<=maxLen):=ae ⟨omm,by unfold maxLen;omega⟩;clear kp1 RQ T5 tb mM qJ JI;go_wp2_with fail;have lp:=KP.o.lt;refine Mk.bF (S:=fun wx=>Below W1.heap.size W1 wx) krr (au _ W1 1) (fun al=>?_);refine Mk.tk 0 (v:=?_) rfl ?_ aas ?_;rotate_left
 ·intro wz bR;exact agF
 refine Mk.pt ?_;refine Mk.tk 1 (v:=?_) rfl ?_ aas ?_;rotate_left
 ·exact acF
 refine Mk.pt ?_;refine Mk.tk 2 (v:=?_) rfl ?_ aas ?_;rotate_left
 ·intro wz bR;have key:∀b i v,b < W1.heap.size->W1.cell? (π b i)=some v->wz.cell? (π b i)=some v:=fun b i v hb hc=>(afG (bR.block _ hb)).trans hc;have y0:=key _ _ _ lp p5;exact qU
 refine Mk.pt ?_;refine Mk.tk 3 (v:=?_) rfl ?_ aas ?_;rotate_left
 ·exact acF
 refine Mk.pt ?_;refine afR (rs:=[4]) krr smm ?_;refine afJ rfl (fun K hK=>?_) af1;refine bJ rfl (.tmp 26) (.tmp 26) 228 rfl 233 underlying228 IW rfl dee .i64 .i64 _ _ p.code.length rfl rfl rfl rfl iW.o.1 iW.o.2 ?_;intro W3 V3 wN;have Gl:=al.trans (wN.mono al.size);clear al;refine hK.out _ _ Gl (fun al=>?_);clear hK K;refine Mk.pt ?_;refine Mk.tk 5 (v:=?_) rfl ?_ aas ?_;rotate_left
 ·exact acF
 refine Mk.pt ?_;refine afR (rs:=[6]) krr smm ?_;refine afJ rfl (fun K hK=>?_) af1;refine QX ?_;go_simp;refine hK.out _ _ (al.alloc al.size _) (fun al=>?_);clear hK K;refine Mk.pt ?_;refine Mk.tk 7 (v:=?_) rfl ?_ aas ?_;rotate_left
 ·exact acF
 refine Mk.pt ?_;refine afZ krr ⟨rfl,?_⟩ _;clear al;have hAW:W1.drew.heap.size=W1.heap.size:=rfl;have T7:Below W1.heap.size W1 W3:=Gl;have fj:ii W3 (.slice (some (π W1.heap.size 0)) p.code.length p.code.length) p.code.length (fun _=>none) (fun _=> ν):=⟨V3.congr fun o ho=>rfl,fun i hi=> .inl ⟨rfl,rfl⟩,fun i hi b hb=>by cases hb⟩;have YJ:W3.heap.size < (W3.alloc (.cells #[.slice ga p.ap.length gc,.slice va p.vars.length vc,.slice ta p.aW.length tc,.slice oa p.on.length oc,ι p.aJ,.slice ca p.code.length cc,.slice (some (π W1.heap.size 0)) p.code.length p.code.length] 230)).heap.size:=by simp
 have kv:ay (W3.alloc (.cells #[.slice ga p.ap.length gc,.slice va p.vars.length vc,.slice ta p.aW.length tc,.slice oa p.on.length oc,ι p.aJ,.slice ca p.code.length cc,.slice (some (π W1.heap.size 0)) p.code.length p.code.length] 230)) W3.heap.size 230 #[.slice ga p.ap.length gc,.slice va p.vars.length vc,.slice ta p.aW.length tc,.slice oa p.on.length oc,ι p.aJ,.slice ca p.code.length cc,.slice (some (π W1.heap.size 0)) p.code.length p.code.length]:=ay.new _ _ _;have Li:=fj.aB ((da.refl [] W3).alloc (.cells #[.slice ga p.ap.length gc,.slice va p.vars.length vc,.slice ta p.aW.length tc,.slice oa p.on.length oc,ι p.aJ,.slice ca p.code.length cc,.slice (some (π W1.heap.size 0)) p.code.length p.code.length] 230));have wQ:Below W1.heap.size W1 (W3.alloc (.cells #[.slice ga p.ap.length gc,.slice va p.vars.length vc,.slice ta p.aW.length tc,.slice oa p.on.length oc,ι p.aJ,.slice ca p.code.length cc,.slice (some (π W1.heap.size 0)) p.code.length p.code.length] 230)):=T7.alloc T7.size _;have UD:W1.heap.size < W3.heap.size:=(V3.slice).2.2.2;clear V3 wN Gl T7 fj hAW;generalize hW4:W3.alloc (.cells #[.slice ga p.ap.length gc,.slice va p.vars.length vc,.slice ta p.aW.length tc,.slice oa p.on.length oc,ι p.aJ,.slice ca p.code.length cc,.slice (some (π W1.heap.size 0)) p.code.length p.code.length] 230)=W4 at*;clear hW4;replace KP:=ae (KP.o.of (wQ.block _ KP.o.lt));replace KC:=ae (KC.o.of (wQ.block _ KC.o.lt));replace KF:=ae (KF.o.of (wQ.block _ KF.o.lt));replace dC:=ae (dC.o.trans (wQ.mono (by have:=tC.o;omega)));have HA:Hid (pb+1+1+1<=W1.heap.size):=tC;have hvA:W1.heap.size≠W3.heap.size:=omm;generalize W1.heap.size=A at*;generalize W3.heap.size=T8 at*;have KV:Hid (ay W4 T8 230 (qR K p (.slice (some (π A 0)) p.code.length p.code.length))):=ae (by
  obtain ⟨e1,e2,e3,e4,e5⟩:=HK.o;unfold qR;rw [e1,e2,e3,e4,e5];exact kv)
 have kV:=ae Li;have Lj:=ae YJ;have HNV:=ae hvA;have zy:=ae UD;clear kv Li YJ hvA wQ UD p0 p1 p2 p3 p4 p5 lp;obtain ⟨-,-,-,q3,q4⟩:=KP.o.c5;have lp:=KP.o.lt;have ug:=ae (fun V (hb:Below w.heap.size w V)=>pN (w:=V) (v:= .slice oa p.on.length oc) (n:=p.on.length) (g:=aU p.on) (by have h1:=H.o.o;rw [HK.o.2.2.2.1] at h1;exact h1.aB (da.ah hb)) omm (fun _ _=>rfl));rw [PX.o] at ug;go_wp2_with fail;refine wp_mono (Q:=fun e a W=>e=Exit.normal/\RB pb T8 (p.on++[p.aJ]) W4 a W) ?_ ?_
 ·have YK:Hid (pb<=W4.heap.size):=ae (by have:=HA.o;have:=zy.o;have:=Lj.o;omega);refine Mk.bF (S:=fun wx=>Below W4.heap.size W4 wx) krr (au _ W4 1) (fun al=>?_);generalize World.drew _=V0 at*;refine Mk.tk 0 (v:=?_) rfl ?_ aas ?_;rotate_left
  ·exact acF
  refine Mk.pt ?_;refine Mk.tk 1 (v:=?_) rfl ?_ aas ?_;rotate_left
  ·intro wz bR;have key:∀b i v,b < W4.heap.size->W4.cell? (π b i)=some v->wz.cell? (π b i)=some v:=fun b i v hb hc=>(afG (bR.block _ hb)).trans hc;have y0:=key _ _ _ lp q3;exact qU
  refine Mk.pt ?_;refine Mk.tk 3 (v:=?_) rfl ?_ aas ?_;rotate_left
  ·exact acF
  refine Mk.pt ?_;refine Mk.tk 4 (v:=?_) rfl ?_ aas ?_;rotate_left
  ·intro wz bR;have key:∀b i v,b < W4.heap.size->W4.cell? (π b i)=some v->wz.cell? (π b i)=some v:=fun b i v hb hc=>(afG (bR.block _ hb)).trans hc;have y0:=key _ _ _ lp q4;exact qU
  refine Mk.pt ?_;refine afR (rs:=[2,5]) krr smm ?_;refine afJ rfl (fun K hK=>?_) (afJ rfl (fun K hK=>?_) af1);refine QX ?_;go_simp;go_at_call 55;refine (ug.o _ (dC.o.trans (al.mono YK.o))).mono ?_;rintro e wc ⟨xv,rfl,hxr,jK,hxi⟩;have hSc:=al.trans (jK.mono al.size);have My:∀b,xv.ownBlock=some b->W4.heap.size<=b:=fun b hb=>afM al.size (hxi b hb).1;clear al;refine hK.out _ _ hSc (fun al=>?_);clear hK K;refine Mk.pt ?_;refine afR (rs:=[5]) krr smm ?_;refine afJ rfl (fun K hK=>?_) af1;refine QX ?_;go_simp;have nb:ay (wc.alloc (.cells #[ι p.aJ] 3)) wc.heap.size 3 #[ι p.aJ]:=ay.new _ _ _;refine hK.out _ _ (al.alloc al.size _) (fun al=>?_);clear hK K;refine Mk.pt ?_;refine afR (rs:=[6]) krr smm ?_;refine afJ rfl (fun K hK=>?_) af1;refine dq rfl (.tmp 32) (.tmp 35) 24 rfl 3 underlying24 b_ rfl dee xv p.on.length (aU p.on) rfl (hxr.alloc _) (π wc.heap.size 0) 1 1 (fun _=> ι p.aJ) rfl (fun j hj=>by obtain rfl:j=0:=omm;exact nb.cell 0) (fun _ _=>rfl) (by unfold maxLen;omega) omm ?_;intro bv W5 Jt Oh Rx;have BG:Below W4.heap.size W4 W5:=al.trans (Oh.below (B:=W4.heap.size) al.size (fun b hb=>by
   have h1:xv.ownBlock=some b:=by simpa using hb
   exact My b h1))
  have T9:mN W4.heap.size W5.heap.size bv:=fun b hb=>by exact ab9
  have hr6:=Cs p.on p.aJ Jt;clear al Jt Oh Rx;refine hK.out _ _ BG (fun al=>?_);clear hK K;refine Mk.pt ?_;refine Mk.tk 7 (v:=?_) rfl ?_ aas ?_;rotate_left
  ·exact acF
  refine Mk.pt ?_;refine afZ krr ⟨rfl,?_⟩ _;clear al;exact ⟨rfl,_,bv,FR.of _ rfl,rfl,rfl,rfl,rfl,rfl,ae hr6,ae T9,ae BG⟩;rotate_left;refine QX ?_;go_simp;have nb:ay (V0.alloc (.cells #[ι p.aJ] 3)) V0.heap.size 3 #[ι p.aJ]:=ay.new _ _ _;refine hK.out _ _ (al.alloc al.size _) (fun al=>?_);clear hK K;refine Mk.pt ?_;refine afR (rs:=[2]) krr smm ?_;refine afJ rfl (fun K hK=>?_) af1;refine QX ?_;go_simp;go_at_call 55;refine (ug.o _ (dC.o.trans (al.mono YK.o))).mono ?_;rintro e wc ⟨xv,rfl,hxr,jK,hxi⟩;have hSc:=al.trans (jK.mono al.size);have My:∀b,xv.ownBlock=some b->W4.heap.size<=b:=fun b hb=>afM al.size (hxi b hb).1;clear al;refine hK.out _ _ hSc (fun al=>?_);clear hK K;refine Mk.pt ?_;refine afR (rs:=[6]) krr smm ?_;refine afJ rfl (fun K hK=>?_) af1;refine dq rfl (.tmp 32) (.tmp 35) 24 rfl 3 underlying24 b_ rfl dee xv p.on.length (aU p.on) rfl hxr (π V0.heap.size 0) 1 1 (fun _=> ι p.aJ) rfl (fun j hj=>by obtain rfl:j=0:=omm;exact (nb.of (jK.block _ nb.lt)).cell 0) (fun _ _=>rfl) (by unfold maxLen;omega) omm ?_;intro bv W5 Jt Oh Rx;have BG:Below W4.heap.size W4 W5:=al.trans (Oh.below (B:=W4.heap.size) al.size (fun b hb=>by
   have h1:xv.ownBlock=some b:=by simpa using hb
   exact My b h1))
  have T9:mN W4.heap.size W5.heap.size bv:=fun b hb=>by exact ab9
  have hr6:=Cs p.on p.aJ Jt;clear al Jt Oh Rx;refine hK.out _ _ BG (fun al=>?_);clear hK K;refine Mk.pt ?_;refine Mk.tk 7 (v:=?_) rfl ?_ aas ?_;rotate_left
  ·exact acF
  refine Mk.pt ?_;refine afZ krr ⟨rfl,?_⟩ _;clear al;exact ⟨rfl,_,bv,FR.of _ rfl,rfl,rfl,rfl,rfl,rfl,ae hr6,ae T9,ae BG⟩
 rintro e a5 W5 ⟨rfl,J,bv,rfl,j1,j3,j4,j6,j7,Og,HIB,nA⟩;unfold FR;rw [j1,j3,j4,j6,j7];clear j1 j3 j4 j6 j7 q3 q4 lp;have YL:Hid ((p.on++[p.aJ]).length=p.on.length+1):=ae smm;have RV:(p.on++[p.aJ]).length<=17:=by have:=YL.o;omega
 have YM:Hid (∀i,i < (p.on++[p.aJ]).length->-1<=(p.on++[p.aJ]).getD i 0/\(p.on++[p.aJ]).getD i 0 < p.code.length):=ae fun i hi=>by
  have hm:(p.on++[p.aJ]).getD i 0∈p.on++[p.aJ]:=by rw [afS,afP hi];exact af6 hi
  rcases List.mem_append.1 hm with h|h
  ·have:=PT.o.Xb _ h;omega
  ·rw [List.mem_singleton.1 h];have:=PT.o.aJ;omega
 have KC5:=ae (KC.o.of (nA.o.block _ KC.o.lt));have T_:=ae (KF.o.of (nA.o.block _ KF.o.lt));have V4:=ae (KP.o.of (nA.o.block _ KP.o.lt));have KV5:=ae (KV.o.of (nA.o.block _ KV.o.lt));have aaI:=ae (kV.o.aB (da.ah nA.o));have HBA:Hid (∀b,bv.ownBlock=some b->b≠A):=ae fun b hb e=>by have:=(HIB.o b hb).1;have:=Lj.o;have:=zy.o;omega
 have Yy:Hid (T8≠A):=ae fun e=>HNV.o e.symm;have P0:Hid (pb+1+1 < A):=ae (by have:=HA.o;omega);have Mz:Hid (Below w.heap.size w W5):=ae (by have h1:=nA.o.size;rw [PX.o];exact dC.o.trans (nA.o.mono (by have:=HA.o;have:=zy.o;have:=Lj.o;omega)));have RH:Hid (w.heap.size<=A):=ae (by rw [PX.o];have:=HA.o;omega);have D_:∃x y z,bv= .slice x y z:=by rcases Og.o.val with ⟨h,-⟩|⟨_,_,h,-⟩<;>exact ⟨_,_,_,h⟩
 have aaJ:∃la lc,bv= .slice la (p.on++[p.aJ]).length lc:=by
  rcases Og.o.val with ⟨h,h0⟩|⟨_,_,h,-⟩
  ·have:=YL.o;omega
  ·exact ⟨_,_,h⟩
 obtain ⟨la,lc,rfl⟩:=aaJ;clear D_;generalize sr:p.on++[p.aJ]=bl at*;have MA:=ae sr;clear sr;go_wp2_with fail;refine rn1 (bl:=bl) (vb:=T8) (pb:=pb) (A:=A) (W4:=W5) KV5 Yy Og HBA RV YM hlen (fun J6 W6 j1 j3 j4 j6 j7 hF hS=>?_) ⟨_,0,FR.of _ rfl,rfl,rfl,rfl,rfl,rfl,rfl,rfl,rfl,afO _,rfl,ae (da.refl _ _),ae (aaI.o)⟩;have Jn:=ae hF;have V8:=ae hS;have k5:=V4.o.aB Jn.o (by have:=P0.o;simp;omega);have q5:W6.cell? (π pb 5)=some (.slice ca p.code.length cc):=k5.cell 5;have lp:=k5.lt;unfold FR;rw [j1,j3,j4,j6,j7];clear j1 j3 j4 j6 j7 hF hS k5;have HT0:Hid (VM p (db p)):=ae (Ah PT.o);have HSB:Hid (ii W6 (.slice (some (π A 0)) p.code.length p.code.length) p.code.length (db p) (fun _=> ν)):=ae (by
  have h1:=V8.o;rw [show xu bl bl.length=db p from by funext pc;unfold xu db;rw [List.take_length,MA.o]] at h1;exact h1)
 go_wp2_with fail;refine rn2 (vb:=T8) (pb:=pb) (A:=A) (W5:=W5) (bv:= .slice la bl.length lc) H RH Mz KV5 Yy iM hlen (fun A9 W7 i e h2 h3 h4 hF bz JJ=>?_) KC5 T_ P0 (fun J7 W7 T j1 j3 j4 j6 j7 hF JJ=>?_) ⟨_,0,FR.of _ rfl,rfl,rfl,rfl,rfl,rfl,rfl,rfl,afO _,rfl,Jn,_,_,HSB,HT0,ae (by rw [Nat.sub_zero])⟩
 ·have hv:aZ p=(e,(i:Int)):=by unfold aZ;rw [abH (by rw [PZ.o];simp),JJ]
  refine An PX.o h2 h3 h4 (KC5.o.aB hF (by have:=P0.o;simp;omega)) (T_.o.aB hF (by have:=P0.o;simp;omega)) ?_ hv bz;rw [<-PX.o];exact Mz.o.trans (hF.below Mz.o.size (by have:=RH.o;simpa using this))
 have NM:=ae hF;have tR:=ae JJ;have NZ:=ae (Mz.o.trans (NM.o.below Mz.o.size (by have:=RH.o;simpa using this)));have KP7:=ae (V4.o.aB NM.o (by have:=P0.o;simp;omega));have KC7:=ae (KC5.o.aB NM.o (by have:=P0.o;simp;omega));have KF7:=ae (T_.o.aB NM.o (by have:=P0.o;simp;omega));have KV7:=ae (KV5.o.aB NM.o (by have:=Yy.o;simpa using this));have aaK:=ae (Og.o.aB NM.o (fun b hb=>by have:=HBA.o b hb;simpa using this));have HFI:Hid (Am p):=ae (yC PZ.o tR.o);have HFL:=ae (EW (H.o.aB (da.ah NZ.o)) KV7.o hlen HFI.o);unfold FR;rw [j1,j3,j4,j6,j7];clear j1 j3 j4 j6 j7 hF JJ q5 lp;go_wp2_with fail
 with_reducible refine HFL.o.mono ?_
 rintro e W8 ⟨fb,fc,rfl,RR,qM,bq⟩;have HFB:=ae bq;have RW:=ae qM;have KP8:=ae (KP7.o.of (RW.o.block _ KP7.o.lt));have YN:=ae (KC7.o.of (RW.o.block _ KC7.o.lt));have YO:=ae (KF7.o.of (RW.o.block _ KF7.o.lt));have aaL:=ae (aaK.o.aB (da.ah (S:=[]) RW.o) smm);have MB:=ae (NZ.o.trans (RW.o.mono NZ.o.size));clear bq RR qM HFL;go_wp2_with fail;go_step3;go_wp2_with fail;refine rn3 (bl:=bl) (vb:=T8) (pb:=pb) (W7:=W8) aaL HFB RV YM hlen YN YO (fun A9 W9 n h2 h3 h4 hb sT=>?_) (fun J9 W9 lv j1 j3 j4 j6 Dr hb AG iF sT=>?_) ⟨_,0,ν,FR.of _ rfl,rfl,rfl,rfl,rfl,rfl,rfl,rfl,rfl,rfl,afO _,rfl,ae (afL _ _),ae (Row.nil _ _ _ _),ae (fun b hb=>by cases hb),ae (by rw [List.drop_zero])⟩
 ·have hv:aZ p=(97,n):=by unfold aZ;rw [abH (by rw [PZ.o];simp),tR.o,MA.o,sT]
  refine An PX.o h2 h3 h4 (YN.o.of (hb.block _ YN.o.lt)) (YO.o.of (hb.block _ YO.o.lt)) ?_ hv dee;rw [<-PX.o];exact MB.o.trans (hb.mono MB.o.size)
 have aaM:=ae (fun b hb=>afM MB.o.size (iF b hb));clear iF;obtain ⟨lb,TW,rfl,l1,l2,l3⟩:=AG.some (by have:=YL.o;omega);have HV:=ae (show aZ p=(0,0) from by unfold aZ;rw [abH (by rw [PZ.o];simp),tR.o,MA.o,sT]);have HRL:=ae AG;have YP:=ae (MB.o.trans (hb.mono MB.o.size));have kp9:=KP8.o.of (hb.block _ KP8.o.lt);have KC9:=ae (YN.o.of (hb.block _ YN.o.lt));have KF9:=ae (YO.o.of (hb.block _ YO.o.lt));have q3:W9.cell? (π pb 3)=some (.slice oa p.on.length oc):=kp9.cell 3;have lp:=kp9.lt;have Ig:bl.length=p.on.length+1:=YL.o;have lc9:W9.cell? (π lb p.on.length)=some (ι (bN p (bl.getD p.on.length 0):Nat)):=AG.cell (o:=p.on.length) omm;have hms:bl.getD p.on.length 0=p.aJ:=by rw [<-MA.o,afS,agf (afF _)];simp
 rw [hms] at lc9;rw [Ig] at l1 Dr;unfold FR;rw [j1,j3,j4,j6,Dr];clear j1 j3 j4 j6 Dr hb AG sT kp9 Ig hms;obtain ⟨em,oN⟩:∃z,bN p p.aJ=z:=⟨_,rfl⟩;rw [oN] at lc9;have RF:=ae oN;clear oN;go_wp2_with fail;have abj:p.on.length<=TW:=omm;have hx9:(p.on.length:Int) < (p.on.length:Int)+1:=omm;have N8:Hid (pb∉[pb+1,pb+1+1]):=ae sso;have Jy:Hid (lb∉[pb+1,pb+1+1]):=ae (by
  have h1:=HRL.o.eF KC9.o dee;have h2:=HRL.o.eF KF9.o dee;simp only [afV,List.not_mem_nil,or_false,not_or];exact ⟨fun e=>h1 (by rw [e];rfl),fun e=>h2 (by rw [e];rfl)⟩)
 have p_:=ae (fun (V:World) (hf:da [pb+1,pb+1+1] W9 V)=>show aV V 1 (.slice (some (π lb 0)) p.on.length p.on.length) p.on.length (fun i=> ι (bN p (p.on.getD i 0):Nat)) from by
  have h1:=(HRL.o.aB hf (fun b hb=>by have:lb=b:=af0 hb;rw [<-this];exact Jy.o));refine .inr ⟨(π lb 0),p.on.length,rfl,afF _,by unfold maxLen;omega,fun o ho=>⟨rfl,?_⟩⟩;have h2:=h1.cell (o:=o) (by have:=YL.o;omega);rw [Nat.zero_add,h2];unfold xw;rw [<-MA.o,afS,agh omm,<-afS])
 refine Mk.bF (S:=fun wx=>da [pb+1,pb+1+1] W9 wx) krr (da.ah (au _ W9 1)) (fun al=>?_);have AL:=ae (KC9.o.drewN 1);have yD:=ae (KF9.o.drewN 1);change Hid (ay W9.drew _ _ _) at AL;change Hid (ay W9.drew _ _ _) at yD;generalize World.drew _=V0 at*;refine Mk.tk 0 (v:=?_) rfl ?_ aas ?_;rotate_left
 ·exact acF
 refine Mk.pt ?_;refine Mk.tk 1 (v:=?_) rfl ?_ aas ?_;rotate_left
 ·exact acF
 refine Mk.pt ?_;refine Mk.tk 2 (v:=?_) rfl ?_ aas ?_;rotate_left
 ·exact acF
 refine Mk.pt ?_;refine Mk.tk 3 (v:=?_) rfl ?_ aas ?_;rotate_left
 ·exact agD
 refine Mk.pt ?_;refine Mk.tk 4 (v:=?_) rfl ?_ aas ?_;rotate_left
 ·exact acF
 refine Mk.pt ?_;refine Mk.tk 5 (v:=?_) rfl ?_ aas ?_;rotate_left
 ·exact acF
 refine Mk.pt ?_;refine Mk.tk 6 (v:=?_) rfl ?_ aas ?_;rotate_left
 ·exact agD
 refine Mk.pt ?_;refine Mk.tk 7 (v:=?_) rfl ?_ aas ?_;rotate_left
 ·exact acF
 refine Mk.pt ?_;refine Mk.tk 8 (v:=?_) rfl ?_ aas ?_;rotate_left
 ·exact acF
 refine Mk.pt ?_;refine Mk.tk 9 (v:=?_) rfl ?_ aas ?_;rotate_left
 ·exact acF
 refine Mk.pt ?_;refine Mk.tk 10 (v:=?_) rfl ?_ aas ?_;rotate_left
 ·exact acF
 refine Mk.pt ?_;refine Mk.tk 11 (v:=?_) rfl ?_ aas ?_;rotate_left
 ·exact agD
 refine Mk.pt ?_;refine Mk.tk 12 (v:=?_) rfl ?_ aas ?_;rotate_left
 ·exact acF
 refine Mk.pt ?_;refine Mk.tk 13 (v:=?_) rfl ?_ aas ?_;rotate_left
 ·exact acF
 refine Mk.pt ?_;refine Mk.tk 14 (v:=?_) rfl ?_ aas ?_;rotate_left
 ·intro wz bR;have y0:=(afG (bR.block _ (aS lc9) Jy.o)).trans lc9;exact qU
 refine Mk.pt ?_;refine Mk.tk 15 (v:=?_) rfl ?_ aas ?_;rotate_left
 ·exact acF
 refine Mk.pt ?_;refine Mk.tk 16 (v:=?_) rfl ?_ aas ?_;rotate_left
 ·exact acF
 refine Mk.pt ?_;refine Mk.tk 17 (v:=?_) rfl ?_ aas ?_;rotate_left
 ·exact acF
 refine Mk.pt ?_;have NN:Hid (pb+1≠pb+1+1):=ae omm;have z0:=AL.o.cell 0;have z1:=AL.o.cell 1;have z2:=yD.o.cell 0;have z3:=yD.o.cell 1;have z4:=AL.o.frozen;have z5:=yD.o.frozen;have z6:=yD.o.lt;simp only [List.getElem?_toArray,List.getElem?_cons_zero,List.getElem?_cons_succ] at z0 z1 z2 z3;refine afR (rs:=[18]) krr smm ?_;refine afJ rfl (fun K hK=>?_) af1;refine QX ?_;go_simp;refine hK.out _ _ ((al.setCell (p:=(π (pb+1) 0)) smm (.slice (some (π lb 0)) p.on.length p.on.length)).setCell (p:=(π (pb+1) 1)) smm (ι (em:Nat))) (fun al=>?_);clear hK K;refine Mk.pt ?_;refine afR (rs:=[19]) krr smm ?_;refine afJ rfl (fun K hK=>?_) af1;refine QX ?_;go_simp;refine hK.out _ _ ((al.setCell (p:=(π (pb+1+1) 0)) smm (ι 0)).setCell (p:=(π (pb+1+1) 1)) smm (ι 0)) (fun al=>?_);clear hK K;refine Mk.pt ?_;refine afZ krr ⟨rfl,?_⟩ _;have r8:=al;clear al;go_wp2_with fail;refine GH (cb:=pb+1) (fb:=pb+1+1) rfl rfl rfl ((((AL.o.set 0 (.slice (some (π lb 0)) p.on.length p.on.length)).set 1 (ι (em:Nat))).other NN.o 0 (ι 0)).other NN.o 1 (ι 0)) ((((yD.o.other NN.o.symm 0 (.slice (some (π lb 0)) p.on.length p.on.length)).other NN.o.symm 1 (ι (em:Nat))).set 0 (ι 0)).set 1 (ι 0)) ?_;refine ⟨ρ T8,.slice (some (π lb 0)) p.on.length p.on.length,(em:Nat),by rw [HV.o];rfl,⟨_,_,_,rfl⟩,YP.o.trans (r8.below YP.o.size (by rw [PX.o];simp;omega)),(fun b hb=>aaM.o b hb),fun _=>⟨by rw [RF.o],?_⟩⟩;exact p_.o _ r8
def Cv (w:World) (p:aO) (e:Ending) (w':World):Prop:=∃wB ms,e= .returned (.tuple #[.agg #[wB,ι ms],.agg #[ι (aZ p).1,ι (aZ p).2]])/\(∃x y z,wB= .slice x y z)/\Below w.heap.size w w'/\
 ((aZ p).1=0->ms=(bN p p.aJ:Nat)/\aV w' 1 wB p.on.length (fun i=> ι (bN p (p.on.getD i 0):Nat)))
theorem Ua (h:fP w K p):Calls prog 44 #[pV K p] w (Cv w p):=by
 have HR:=ae (fun V (hb:Below w.heap.size w V)=>YH (w:=V) (h.aB (da.ah hb)));obtain ⟨⟨ga,gc,g1,g2,g3⟩,⟨va,vc,v1,v2,v3⟩,⟨ta,tc,t1,t2,t3⟩,⟨oa,oc,o1,o2,o3⟩,⟨ca,cc,c1,c2,c3⟩⟩:=h.sl;unfold pV at HR ⊢;rw [g1,v1,t1,o1,c1] at HR ⊢;have hB:∀cs T mV T2 YI T3,Below w.heap.size w (((w.alloc (.cells cs T)).alloc (.cells mV T2)).alloc (.cells YI T3)):=fun cs T mV T2 YI T3=>(((afL _ _).alloc (afF _) _).alloc smm _).alloc sso _;have kc:ay (((w.alloc (.cells #[.slice ga p.ap.length gc,.slice va p.vars.length vc,.slice ta p.aW.length tc,.slice oa p.on.length oc,ι p.aJ,.slice ca p.code.length cc] 27)).alloc (.cells #[ν,ι 0] 97)).alloc (.cells #[ι 0,ι 0] 99)) (w.heap.size+1) 97 #[ν,ι 0]:=(ay.a_ smm).alloc _;have kf:ay (((w.alloc (.cells #[.slice ga p.ap.length gc,.slice va p.vars.length vc,.slice ta p.aW.length tc,.slice oa p.on.length oc,ι p.aJ,.slice ca p.code.length cc] 27)).alloc (.cells #[ν,ι 0] 97)).alloc (.cells #[ι 0,ι 0] 99)) (w.heap.size+1+1) 99 #[ι 0,ι 0]:=ay.a_ smm;have sS:(((w.alloc (.cells #[.slice ga p.ap.length gc,.slice va p.vars.length vc,.slice ta p.aW.length tc,.slice oa p.on.length oc,ι p.aJ,.slice ca p.code.length cc] 27)).alloc (.cells #[ν,ι 0] 97)).alloc (.cells #[ι 0,ι 0] 99)).heap.size=w.heap.size+1+1+1:=by simp
 have dQ:=hB #[.slice ga p.ap.length gc,.slice va p.vars.length vc,.slice ta p.aW.length tc,.slice oa p.on.length oc,ι p.aJ,.slice ca p.code.length cc] 27 #[ν,ι 0] 97 #[ι 0,ι 0] 99;clear h hB g1 v1 t1 o1 c1 g2 g3 v2 v3 t2 t3 o2 o3 c2 c3;go_enter func44,ntmps44;go_wp2_with fail;generalize (((w.alloc (.cells #[.slice ga p.ap.length gc,.slice va p.vars.length vc,.slice ta p.aW.length tc,.slice oa p.on.length oc,ι p.aJ,.slice ca p.code.length cc] 27)).alloc (.cells #[ν,ι 0] 97)).alloc (.cells #[ι 0,ι 0] 99))=W0 at*
 with_reducible refine (HR.o _ dQ).mono ?_
 rintro e W1 ⟨vv,wB,ms,rfl,⟨x9,y9,z9,rfl⟩,hb,Fv,hco⟩;have NO:Hid (∀b,(Value.slice x9 y9 z9).ownBlock=some b->w.heap.size+1+1+1<=b):=ae fun b h=>by have:=Fv b h;omega
 clear Fv;have PJ:=ae hco;have dC:=ae (dQ.trans (hb.mono dQ.size));have KC:=ae (kc.of (hb.block _ kc.lt));have KF:=ae (kf.of (hb.block _ kf.lt));have El:w.heap.size+1+1+1<=W1.heap.size:=by have:=hb.size;omega
 clear hco hb kc kf sS dQ HR;obtain ⟨e1,he1⟩:∃z,(aZ p).1=z:=⟨_,rfl⟩;obtain ⟨e2,Jw⟩:∃z,(aZ p).2=z:=⟨_,rfl⟩;rw [he1] at PJ;rw [he1,Jw];have HE:=ae (And.intro he1 Jw);clear he1 Jw;go_wp2_with fail;have k2:ay ((W1.alloc (.cells #[.slice x9 y9 z9,ι ms] 97)).alloc (.cells #[ι e1,ι e2] 99)) W1.heap.size 97 #[.slice x9 y9 z9,ι ms]:=(ay.new _ _ _).alloc _;have k3:ay ((W1.alloc (.cells #[.slice x9 y9 z9,ι ms] 97)).alloc (.cells #[ι e1,ι e2] 99)) (W1.heap.size+1) 99 #[ι e1,ι e2]:=ay.a_ smm;have dn:Below W1.heap.size W1 ((W1.alloc (.cells #[.slice x9 y9 z9,ι ms] 97)).alloc (.cells #[ι e1,ι e2] 99)):=((afL _ _).alloc (afF _) _).alloc smm _;generalize (W1.alloc (.cells #[.slice x9 y9 z9,ι ms] 97)).alloc (.cells #[ι e1,ι e2] 99)=W2 at*;obtain ⟨n0,n1⟩:=k2.c2;obtain ⟨n2,n3⟩:=k3.c2;have V_:=ae (KC.o.of (dn.block _ KC.o.lt));have KF2:=ae (KF.o.of (dn.block _ KF.o.lt));have fg:=ae (dC.o.trans (dn.mono dC.o.size));have ze:Hid (w.heap.size+1+1+1<=W1.heap.size):=ae El;have ls2:=k3.lt;have nU:Hid (da [] W1 W2):=ae (da.ah dn);clear k2 k3 dn;generalize fN:W1.heap.size=s1 at*;clear fN;refine Mk.bF (S:=fun wx=>da [w.heap.size+1,w.heap.size+1+1] W2 wx) krr (da.ah (au _ W2 1)) (fun al=>?_);have AL:=ae (V_.o.drewN 1);have yD:=ae (KF2.o.drewN 1);change Hid (ay W2.drew _ _ _) at AL;change Hid (ay W2.drew _ _ _) at yD;generalize World.drew _=V0 at*;refine Mk.tk 0 (v:=?_) rfl ?_ aas ?_;rotate_left
 ·intro wz bR;have y0:=(afG (bR.block _ (aS n0) (by have:=ze.o;simp only [afV,List.not_mem_nil,or_false,not_or];omega))).trans n0;have y1:=(afG (bR.block _ (aS n1) (by have:=ze.o;simp only [afV,List.not_mem_nil,or_false,not_or];omega))).trans n1;exact qU
 refine Mk.pt ?_;refine Mk.tk 1 (v:=?_) rfl ?_ aas ?_;rotate_left
 ·intro wz bR;have y0:=(afG (bR.block _ (aS n2) (by have:=ze.o;simp only [afV,List.not_mem_nil,or_false,not_or];omega))).trans n2;have y1:=(afG (bR.block _ (aS n3) (by have:=ze.o;simp only [afV,List.not_mem_nil,or_false,not_or];omega))).trans n3;exact qU
 refine Mk.pt ?_;have NN:Hid (w.heap.size+1≠w.heap.size+1+1):=ae omm;have z0:=AL.o.cell 0;have z1:=AL.o.cell 1;have z2:=yD.o.cell 0;have z3:=yD.o.cell 1;have z4:=AL.o.frozen;have z5:=yD.o.frozen;have z6:=yD.o.lt;simp only [List.getElem?_toArray,List.getElem?_cons_zero,List.getElem?_cons_succ] at z0 z1 z2 z3;refine afR (rs:=[2]) krr smm ?_;refine afJ rfl (fun K hK=>?_) af1;refine QX ?_;go_simp;refine hK.out _ _ ((al.setCell (p:=(π (w.heap.size+1) 0)) smm (.slice x9 y9 z9)).setCell (p:=(π (w.heap.size+1) 1)) smm (ι ms)) (fun al=>?_);clear hK K;refine Mk.pt ?_;refine afR (rs:=[3]) krr smm ?_;refine afJ rfl (fun K hK=>?_) af1;refine QX ?_;go_simp;refine hK.out _ _ ((al.setCell (p:=(π (w.heap.size+1+1) 0)) smm (ι e1)).setCell (p:=(π (w.heap.size+1+1) 1)) smm (ι e2)) (fun al=>?_);clear hK K;refine Mk.pt ?_;refine afZ krr ⟨rfl,?_⟩ _;have MC:=al;clear al;go_wp2_with fail;have kc9:=((((AL.o.set 0 (.slice x9 y9 z9)).set 1 (ι ms)).other NN.o 0 (ι e1)).other NN.o 1 (ι e2));have kf9:=((((yD.o.other NN.o.symm 0 (.slice x9 y9 z9)).other NN.o.symm 1 (ι ms)).set 0 (ι e1)).set 1 (ι e2));generalize ((((V0.setCell (π (w.heap.size+1) 0) (.slice x9 y9 z9)).setCell (π (w.heap.size+1) 1) (ι ms)).setCell (π (w.heap.size+1+1) 0) (ι e1)).setCell (π (w.heap.size+1+1) 1) (ι e2))=W9 at*;obtain ⟨c0,c1⟩:=kc9.c2;obtain ⟨f0,f1⟩:=kf9.c2;refine afI (v:= .tuple #[.agg #[.slice x9 y9 z9,ι ms],.agg #[ι e1,ι e2]]) ?_ rfl ⟨.slice x9 y9 z9,ms,by rw [HE.o.1,HE.o.2],⟨_,_,_,rfl⟩,fg.o.trans (MC.below fg.o.size sso),fun h=>?_⟩
 ·simp [results,results44,go_sem,c0,c1,f0,f1]
 ·obtain ⟨h1,h2⟩:=PJ.o (by rw [<-h];exact HE.o.1.symm);refine ⟨h1,pP (aV.aB h2 nU.o) MC (fun b hb=>?_)⟩;have h3:=NO.o b hb;simp only [afV,List.not_mem_nil,or_false,not_or];omega
end
end Go.Proofs.YtblkblclmbhjiaaGreat.Vf
namespace Go.Proofs.YtblkblclmbhjiaaGreat.Vf
open Go.RowKit ak.Vm
open ak hiding aL an aj
def pj (n:Int):Bool:=decide (n < 1)||decide (1048576 < n)
theorem acS {p:Prop} (h:p:=by
 rw [hf];clear hf;go_enter func97,ntmps97;go_wp2_with fail;go_ret;exact ⟨rfl,rfl⟩):p:=h
theorem sU (w:World) (n:Int):Calls prog 97 #[ι n] w (fun e w'=>e= .returned (.bool (pj n))/\w'=w):=by
 by_cases h1:n < 1
 ·have hf:pj n=true:=by simp [pj,h1]
  exact acS
 ·by_cases h2:1048576 < n
  ·have hf:pj n=true:=by simp [pj,h2]
   exact acS
  ·have hf:pj n=false:=by simp [pj,h1,h2]
   exact acS
theorem Α (w:World) {K:Kp} {p:aO} (h:fP w K p):Calls prog 12 #[pV K p] w (fun e w'=>e= .returned (.bool (decide (p.code.length<=3000)))/\Below w.heap.size w w'):=by obtain ⟨⟨ga,gc,g1,g2,g3⟩,⟨va,vc,v1,v2,v3⟩,⟨ta,tc,t1,t2,t3⟩,⟨oa,oc,o1,o2,o3⟩,⟨ca,cc,c1,c2,c3⟩⟩:=h.sl;unfold pV;rw [g1,v1,t1,o1,c1];have hB:=ag6 w;clear g1 g2 g3 v1 v2 v3 t1 t2 t3 o1 o2 o3 c1 c2 c3 h;go_enter func12,ntmps12;go_wp2_with fail;go_ret;refine ⟨?_,hB _ _⟩;show Ending.returned (.bool (decide ((p.code.length:Int)<=3000)))=_;congr 2;rw [decide_eq_decide];omega
end Go.Proofs.YtblkblclmbhjiaaGreat.Vf
namespace Go.Proofs.YtblkblclmbhjiaaGreat.Vf
open Go.RowKit ak.Vm
open ak hiding aL an aj
open Ma (dx bQ aU vb)
def my (p:aO) (c:Cp) (q:Nat):Bool:= !pj (c.aI.getD q 0)&&(p.ap.getD q false||decide (c.aI.getD q 0<=c.size))
def gF (p:aO) (c:Cp):Bool:= !pj c.size&&decide (c.aI.length=p.ap.length)&&decide (∀q,q < p.ap.length->my p c q=true)
theorem yE {p:aO} {c:Cp} (h:gF p c=true):sC p c:=by
 unfold gF at h;simp only [afW,afX] at h;obtain ⟨⟨h1,h2⟩,h3⟩:=h;have out:∀n,pj n=false->1<=n/\n<=1048576:=fun n h=>by unfold pj at h;simp at h;omega
 have hs:=out c.size (by simpa using h1);refine ⟨hs.1,hs.2,h2,fun q hq=>?_⟩;have:=h3 q hq;unfold my at this;simp only [afW] at this;exact out _ (by simpa using this.1)
def cV (c:Cp) (qv:Value):Value:= .agg #[ι c.size,qv]
def wC (p:aO) (c:Cp) (k:Nat):Nat:=cF k fun q=>if p.ap.getD q false then 0 else (c.aI.getD q 0).toNat
def Cw (p:aO) (c:Cp) (k:Nat):Nat:=cF k fun q=>if p.ap.getD q false then (c.aI.getD q 0).toNat else 0
theorem MD (p:aO) (c:Cp):bH (aw p c)=min (wC p c p.ap.length) c.size.toNat+Cw p c p.ap.length:=rfl
def FrF (pb cb:Nat) (r g:Nat) (qv:Value) (n i:Nat) (a:Act):Prop:=∃J:Nat->Value,a={tmps:=#[J 0,J 1,ρ pb,ρ cb,J 4,J 5,.func (.func 97) #[] #[],ι r,ι g,J 9,J 10,J 11,J 12,J 13,J 14,J 15,J 16,J 17,J 18,J 19,J 20,J 21,J 22,J 23,J 24,J 25,qv,ι n,ι i,J 29,J 30,J 31,J 32,J 33,J 34,J 35,J 36,J 37,J 38,J 39,J 40,J 41,J 42,J 43,J 44,J 45,J 46,J 47,J 48,J 49,J 50,J 51,J 52,J 53,J 54,J 55,J 56,J 57,J 58,J 59,J 60,J 61,J 62,J 63,J 64,J 65,J 66,J 67,J 68,J 69,J 70,J 71,J 72],defers:=[]}
def wD (p:aO) (c:Cp):Value:= .tuple #[ι (if gF p c=true then (bH (aw p c):Nat) else 0),.bool (gF p c&&decide (bH (aw p c)<=4194304))]
theorem rU {p:aO} {c:Cp} (h:gF p c=false):wD p c= .tuple #[ι 0,.bool false]:=by unfold wD;rw [h];rfl
def YQ (w:World) (p:aO) (c:Cp) (qv:Value) (gv:Value) (P:World->Prop) (m:Nat) (a:Act) (W:World):Prop:=
 ∃i,i<=p.ap.length/\m+i=p.ap.length+1/\FrF w.heap.size (w.heap.size+1) (wC p c i) (Cw p c i) qv p.ap.length i a/\Hid (Below w.heap.size w W)/\Hid (P W)/\Hid (∀j,j < i->my p c j=true)/\wC p c i<=i*1048576/\Cw p c i<=i*1048576
theorem adS {p:Prop} (h:p:=by
 go_enter func53,ntmps53;go_wp2_with fail;refine (B7.o _).mono ?_;rintro e w' ⟨rfl,rfl⟩;go_wp2_with fail;go_ret2;exact ⟨rfl,hB _ _ _ _⟩):p:=h
theorem E0 (w:World) {K:Kp} {p:aO} {c:Cp} {qv:Value} (h:fP w K p) (hq:aV w 1 qv c.aI.length (aU c.aI)) (hg:p.ap.length<=16):
 Calls prog 53 #[pV K p,cV c qv] w (fun e w'=>e= .returned (wD p c)/\Below w.heap.size w w'):=by
 obtain ⟨⟨ga,gc,g1,g2,g3⟩,⟨va,vc,v1,v2,v3⟩,⟨ta,tc,t1,t2,t3⟩,⟨oa,oc,o1,o2,o3⟩,⟨ca,cc,c1,c2,c3⟩⟩:=h.sl;obtain ⟨qa,qc,rfl,q2,q3⟩:=hq.val;have H:=ae h;have HQ:=ae hq;obtain ⟨kg,kv,kt,ko,kc⟩:=K;dsimp only at g1 v1 t1 o1 c1;subst g1 v1 t1 o1 c1;have hB:=ag7 w;have HO:=ae (fun V n=>sU V n);unfold pV cV;dsimp only;clear h hq g2 g3 v2 v3 t2 t3 o2 o3 c2 c3;by_cases s1:pj c.size=true
 ·have HF:=ae (rU (show gF p c=false by unfold gF;rw [s1];rfl));rw [HF.o];have B7:=ae (fun V=>s1▸sU V c.size);clear HO s1;exact adS
 have wE:pj c.size=false:=by simpa using s1
 have B7:=ae (fun V=>wE▸sU V c.size);have HS:=ae wE;have kN:1<=c.size/\c.size<=1048576:=by unfold pj at wE;simp at wE;omega
 clear s1 wE;by_cases l1:c.aI.length=p.ap.length
 case neg=>have HF:=ae (rU (show gF p c=false by unfold gF;simp [l1]));rw [HF.o];clear HO;exact adS
 case pos=>
  rw [l1] at q2 HQ ⊢;have HL:=ae l1;clear l1;go_enter func53,ntmps53;go_wp2_with fail;refine (B7.o _).mono ?_;rintro e w' ⟨rfl,rfl⟩;go_wp2_with fail;have kW:=ae (And.intro (((ay.new w 27 #[.slice ga p.ap.length gc,.slice va p.vars.length vc,.slice ta p.aW.length tc,.slice oa p.on.length oc,ι p.aJ,.slice ca p.code.length cc]).alloc (.cells #[ι c.size,.slice qa p.ap.length qc] 29))) (ay.a_ (w:=w.alloc (.cells #[.slice ga p.ap.length gc,.slice va p.vars.length vc,.slice ta p.aW.length tc,.slice oa p.on.length oc,ι p.aJ,.slice ca p.code.length cc] 27)) (b:=w.heap.size+1) (T:=29) (cs:=#[ι c.size,.slice qa p.ap.length qc]) smm));refine Mk.aP (YQ w p c (.slice qa p.ap.length qc) (.slice ga p.ap.length gc) (fun W=>ay W w.heap.size 27 #[.slice ga p.ap.length gc,.slice va p.vars.length vc,.slice ta p.aW.length tc,.slice oa p.on.length oc,ι p.aJ,.slice ca p.code.length cc]/\ay W (w.heap.size+1) 29 #[ι c.size,.slice qa p.ap.length qc])) (p.ap.length+1) ?start ?zero ?round
  case start=>exact ⟨0,afO _,omm,pC rfl,ae (hB _ _ _ _),kW,ae (fun j hj=>absurd hj omm),afF _,afF _⟩
  case zero=>exact fun a W hh=>by obtain ⟨q,h1,h2,_⟩:=hh;omega
  clear kW B7
  case round=>
   rintro m a0 W ⟨i,hi,hm,⟨J,rfl⟩,HB,HP,HA,hr,Pa⟩;obtain ⟨k1,k2⟩:=HP.o;have e0:=k1.c1;have e1:=k2.c1;have l1:=k1.lt;have l2:=k2.lt;clear k1 k2;have hmul:(i+1)*1048576=i*1048576+1048576:=Nat.succ_mul _ _;have ME:=ae hmul;clear hmul;have EC:wC p c (i+1)=wC p c i+(if p.ap.getD i false then 0 else (c.aI.getD i 0).toNat):=rfl;have uP:Cw p c (i+1)=Cw p c i+(if p.ap.getD i false then (c.aI.getD i 0).toNat else 0):=rfl;by_cases a8:i < p.ap.length
   ·obtain ⟨b,off,cap,hv,-,-,hb,hc⟩:=(HQ.o.aB (da.ah HB.o)).some omm omm;simp only [afH] at hv;obtain ⟨rfl,-,rfl⟩:=hv;have c0:W.cell? (π b (off+i))=some (ι (c.aI.getD i 0)):=hc i omm;obtain ⟨gb,abk,kw,hv,-,-,d0⟩:=(H.o.aB (da.ah HB.o)).gh a8;simp only [afH] at hv;obtain ⟨rfl,-,rfl⟩:=hv;clear hc hb;have RX:my p c i=(!pj (c.aI.getD i 0)&&(p.ap.getD i false||decide (c.aI.getD i 0<=c.size))):=rfl;have bad:my p c i=false->gF p c=false:=fun e=>by
     unfold gF;have:decide (∀q,q < p.ap.length->my p c q=true)=false:=by rw [agc];intro h;rw [h i a8] at e;cases e
     rw [this,Bool.and_false]
    generalize hn:c.aI.getD i 0=n at*;generalize C7:p.ap.getD i false=gi at*;have ux:=ae (HO.o W n);cases ho:pj n with
    |true=>have HF:=ae (rU (bad (by rw [RX,ho];rfl)));rw [ho] at ux;clear bad RX EC uP ho hn C7;go_wp2_with fail;refine ux.o.mono ?_;rintro e w' ⟨rfl,rfl⟩;go_wp2_with fail;go_ret2;exact ⟨by rw [HF.o];rfl,HB.o⟩
    |false=>
     have hni:1<=n/\n<=1048576:=by unfold pj at ho;simp at ho;omega
     rw [ho] at ux;obtain ⟨nn,rfl⟩:=afN (show 0<=n by omega);have VG:nn<=1048576:=omm;have rM:=ae VG;clear VG;cases gi with
     |true=>
      simp at EC uP;have YR:=ae EC;have IX:=ae uP;have HQK:=ae (show my p c i=true by rw [RX,ho];rfl);clear bad RX EC uP ho hn C7;go_wp2_with fail;refine ux.o.mono ?_;rintro e w' ⟨rfl,rfl⟩;go_wp2_with fail;refine ⟨i+1,omm,omm,?_,HB,HP,ae fun j hj=>?_,?_,?_⟩
      ·rw [YR.o,IX.o];exact pC rfl
      ·by_cases e:j=i
       ·subst e;exact HQK.o
       ·exact HA.o j omm
      ·rw [YR.o,ME.o];exact afM hr (afY _ _)
      ·rw [IX.o,ME.o];exact Nat.add_le_add Pa rM.o
     |false=>
      simp at EC uP;have YR:=ae EC;have IX:=ae uP;by_cases hs:(nn:Int)<=c.size
      ·have HQK:=ae (show my p c i=true by rw [RX,ho];simp [hs]);clear bad RX EC uP ho hn C7;go_wp2_with fail;refine ux.o.mono ?_;rintro e w' ⟨rfl,rfl⟩;go_wp2_with fail;refine ⟨i+1,omm,omm,?_,HB,HP,ae fun j hj=>?_,?_,?_⟩
       ·rw [YR.o,IX.o];exact pC rfl
       ·by_cases e:j=i
        ·subst e;exact HQK.o
        ·exact HA.o j omm
       ·rw [YR.o,ME.o];exact Nat.add_le_add hr rM.o
       ·rw [IX.o,ME.o];exact afM Pa (afY _ _)
      ·have HF:=ae (rU (bad (by rw [RX,ho];simp [hs])));clear bad RX EC uP ho hn C7;go_wp2_with fail;refine ux.o.mono ?_;rintro e w' ⟨rfl,rfl⟩;go_wp2_with fail;refine PG rfl ?_;exact ⟨by rw [HF.o];rfl,HB.o⟩
   ·obtain rfl:i=p.ap.length:=omm;have lO:gF p c=true:=by unfold gF;rw [HS.o,HL.o];simp;exact HA.o
    have HF:=ae (show wD p c= .tuple #[ι ((min (wC p c p.ap.length) c.size.toNat+Cw p c p.ap.length:Nat):Int),.bool (decide (min (wC p c p.ap.length) c.size.toNat+Cw p c p.ap.length<=4194304))] by
     unfold wD;rw [lO,MD];rfl)
    clear EC uP lO;have GY:min ((wC p c p.ap.length:Nat):Int) c.size=((min (wC p c p.ap.length) c.size.toNat:Nat):Int):=omm;have Fo:min (wC p c p.ap.length) c.size.toNat<=1048576:=omm;generalize hr9:wC p c p.ap.length=r9 at*;generalize hg9:Cw p c p.ap.length=g9 at*;go_wp2_with fail;refine PG rfl ?_;have e:decide (((min r9 c.size.toNat:Nat):Int)+(g9:Int)<=4194304)=decide (min r9 c.size.toNat+g9<=4194304):=by rw [decide_eq_decide];omega
    exact ⟨by rw [HF.o,<-e];rfl,HB.o⟩
end Go.Proofs.YtblkblclmbhjiaaGreat.Vf
section
namespace ak.Vm
open Go Go.RowKit ak
theorem G0 {P:Program} {ops:Array Oper} {rest:List Oper} {op:Oper} {a:Act} {w:World} {Q:Exit->Act->World->Prop} (Ie:op.guard=none) (ty:TypeId) (x y:Operand) (ho:op.op= .store ty x y)
 (b o:Nat) {T:TypeId} {zU:Array Value} (cells:Array Value) (hx:a.eval x= .pointer (some (π b o))) (hy:a.eval y= .agg cells) (hb:ay w b T zU) (kN:o+cells.size<=zU.size) (hi:(P.info? ty).map (·.size)=some cells.size) (h1:∀v∈cells.toList,v.oneCell'=true)
 (h:∀w',ay w' b T (zU.toList.take o++cells.toList++zU.toList.drop (o+cells.size)).toArray->da [b] w w'->wpList P ops Q rest (a.put op.dst undef) w'):wpList P ops Q (op::rest) a w:=
 wpList_plain Ie fun K hK=>by
  have hr:=run_storeCells_at P b o T cells.toList 0 zU w hb (by simpa using kN) h1;have uh:(storeVar ty (π b o) (.agg cells)).run P w= .ok () (w.setRow b (zU.toList.take o++cells.toList++zU.toList.drop (o+cells.size)).toArray):=by
   cases hq:P.info? ty with
   |none=>simp [hq] at hi
   |some i=>
    have hs:cells.size=i.size:=by simp [hq] at hi;omega
    simp only [Nat.add_zero,Array.length_toList] at hr;simp [storeVar,Go.sizeOf,typeInfo,hq,Value.cells,hs,hr]
  have:=hK _ _ (h _ (setRow_heap w b zU _ T (0,0) hb) ⟨rfl,rfl,rfl,smm,fun k _ hk=>setRow_other w b k _ (by simpa using hk)⟩);unfold Oper.wp execOp;simp only [ho,hx,hy,Instr.storeAt,Instr.sureAddr,Sem.run_bind,Sem.run_pure,Result.andThen_ok,uh];exact this
end ak.Vm
namespace Go.Proofs.YtblkblclmbhjiaaGreat.Ma
open Go.RowKit ak.Vm
open ak hiding aL an aj
def bd (mb n:Nat):Value:= .func (.func (Cb n)) #[ρ mb] #[]
def ML (mb:Nat):Array Value:=#[bd mb 0,bd mb 1,bd mb 2,bd mb 3,bd mb 4,bd mb 5,bd mb 6,bd mb 7,bd mb 8,bd mb 9,bd mb 10,bd mb 11,bd mb 12,bd mb 13,bd mb 14,bd mb 15,bd mb 16,bd mb 17,bd mb 18,bd mb 19,bd mb 20,bd mb 21,bd mb 22,bd mb 23,bd mb 24,bd mb 25,bd mb 26,bd mb 27,bd mb 28,bd mb 29,bd mb 30,bd mb 31,bd mb 32,bd mb 33,bd mb 34,bd mb 35,bd mb 36,bd mb 37,bd mb 38,bd mb 39,bd mb 40,bd mb 41]
theorem I0 (mb:Nat):∀v∈(ML mb).toList,v.oneCell'=true:=by simp [ML,bd,Value.oneCell']
theorem E1:(prog.info? 110).map (·.size)=some 42:=by kernel_rfl
theorem Aq {w:World} {mb:Nat} {v:Nat->Value} (hb:ay w mb 113 #[v 0,v 1,v 2,v 3,v 4,v 5,v 6,v 7,v 8,v 9,v 10,v 11,v 12,v 13,v 14,v 15,v 16,v 17,v 18,v 19,v 20,v 21,v 22,v 23,v 24,v 25,v 26,v 27,v 28,v 29,v 30,v 31,v 32,v 33,v 34,v 35,v 36,v 37,v 38,v 39,v 40,v 41,v 42,v 43,v 44,v 45,v 46,v 47,v 48,v 49,v 50,v 51,v 52,v 53,v 54,v 55,v 56,v 57,v 58,v 59,v 60]):
 Calls prog 58 #[ρ mb] w (fun e w'=>e= .returned (.tuple #[])/\da [mb] w w'/\ay w' mb 113 #[v 0,v 1,v 2,v 3,v 4,v 5,v 6,v 7,v 8,v 9,v 10,v 11,v 12,v 13,v 14,v 15,v 16,v 17,bd mb 0,bd mb 1,bd mb 2,bd mb 3,bd mb 4,bd mb 5,bd mb 6,bd mb 7,bd mb 8,bd mb 9,bd mb 10,bd mb 11,bd mb 12,bd mb 13,bd mb 14,bd mb 15,bd mb 16,bd mb 17,bd mb 18,bd mb 19,bd mb 20,bd mb 21,bd mb 22,bd mb 23,bd mb 24,bd mb 25,bd mb 26,bd mb 27,bd mb 28,bd mb 29,bd mb 30,bd mb 31,bd mb 32,bd mb 33,bd mb 34,bd mb 35,bd mb 36,bd mb 37,bd mb 38,bd mb 39,bd mb 40,bd mb 41,v 60]):=by
 have HB:=ae hb;have qd:∀(fn:Fn) (first cap:Array Value) (w:World),(Instr.makeFunc fn first cap).run prog w= .ok (.func fn first cap) w:=fun _ _ _ _=>rfl;clear hb;go_enter func58,ntmps58;go_wp2_with (refine G0 rfl 110 (.tmp 89) (.tmp 87) rfl mb 18 (ML mb) ?a1 ?a2 HB.o ?a3 E1 (I0 mb) ?a4)
 case a2=>rfl
 case a3=>show 18+42<=61;omega
 intro w1 fq Jk;have HK:=ae fq;have HF:=ae Jk;clear fq Jk;go_wp2_with fail;refine bodyPost_end (afT rfl _ _ _) rfl ⟨rfl,HF.o,?_⟩;exact HK.o
end Go.Proofs.YtblkblclmbhjiaaGreat.Ma
end
namespace Go.Proofs.YtblkblclmbhjiaaGreat.Ma
open Go.RowKit ak.Vm
open ak hiding aL an aj
open Vf (Kp fP pV aV cV gF wD Cx sQ Cv gN)
def FN (J:Nat->Value):Act:={tmps:=#[J 0,J 1,J 2,J 3,J 4,J 5,J 6,J 7,J 8,J 9,J 10,J 11,J 12,J 13,J 14,J 15,J 16,J 17,J 18,J 19,J 20,J 21,J 22,J 23,J 24,J 25,J 26,J 27,J 28,J 29,J 30,J 31,J 32,J 33,J 34,J 35,J 36,J 37,J 38,J 39,J 40,J 41,J 42,J 43,J 44,J 45,J 46,J 47,J 48,J 49,J 50,J 51,J 52,J 53,J 54,J 55,J 56,J 57,J 58,J 59,J 60,J 61,J 62,J 63,J 64,J 65,J 66,J 67,J 68,J 69,J 70,J 71,J 72,J 73,J 74,J 75,J 76,J 77,J 78,J 79,J 80,J 81,J 82],defers:=[]}
theorem FN.of (A:Array Value) (h:A=(FN fun k=>A.getD k undef).tmps):({tmps:=A,defers:=[]}:Act)=FN fun k=>A.getD k undef:=by rw [h];rfl
noncomputable def nwL (k:Nat):Code:=Mk.mK Tryz.f16.body k
def mC (v:Nat->Value):Array Value:=#[v 0,v 1,v 2,v 3,v 4,v 5,v 6,v 7,v 8,v 9,v 10,v 11,v 12,v 13,v 14,v 15,v 16,v 17,v 18,v 19,v 20,v 21,v 22,v 23,v 24,v 25,v 26,v 27,v 28,v 29,v 30,v 31,v 32,v 33,v 34,v 35,v 36,v 37,v 38,v 39,v 40,v 41,v 42,v 43,v 44,v 45,v 46,v 47,v 48,v 49,v 50,v 51,v 52,v 53,v 54,v 55,v 56,v 57,v 58,v 59,v 60]
def kH (p:aO) (c:Cp):Bool:=gF p c&&decide (bH (aw p c)<=4194304)
def P7 (w:World) (p:aO) (c:Cp) (e:Ending) (w':World):Prop:=Below w.heap.size w w'/\
 (((aZ p).1≠0/\e= .returned (.tuple #[.pointer none,ι (aZ p).1]))\/((aZ p).1=0/\kH p c=false/\e= .returned (.tuple #[.pointer none,ι 45]))\/
  ((aZ p).1=0/\kH p c=true/\∃(C:Co) (RO:List Nat) (K:Kc),e= .returned (.tuple #[ρ C.mb,ι 0])/\Mx w' C RO K p c (xx p) ⟨0,0,0,0⟩ 0 (.pointer none)/\N6 K C.mb p c/\(∀b,b∈C.l++RO->w.heap.size<=b)))
theorem R3 {w:World} {e:TypeId} {size n:Nat} {v:Value} {g:Nat->Value} (h:Row w e size v n g):∃a m c,v= .slice a m c:=by rcases h.val with ⟨e,-⟩|⟨_,_,e,-⟩<;>exact ⟨_,_,_,e⟩
theorem MO {P:Program} {fn:Func} {R:Ending->World->Prop} {A:Array Value} {w:World} {t u:Tmp} (h:fn.results=#[.tmp t,.tmp u]) (hR:R (.returned (.tuple #[A.getD t undef,A.getD u undef])) w):Exit.noGoto (bodyPost P fn R) .ret {tmps:=A,defers:=[]} w:=by rw [af8];exact Vf.PG h hR
def Dk (v:Nat->Value) (o:Nat) (x:Value):Nat->Value:=fun i=>if i=o then x else v i
theorem YX (v:Nat->Value) (a b:Value):(mC (Dk v 11 a)).setIfInBounds 11 b=mC (Dk v 11 b):=rfl
def Wg (p:aO) (j:Nat):Value:=ι (p.vars.getD j ⟨0,0,0⟩).init
def NL (V7:World) (p:aO) (va:Value) (mb:Nat) (v:Nat->Value) (m:Nat) (a:Act) (W:World):Prop:=∃(J:Nat->Value) (i:Nat) (vs:Value),a=FN J/\J 10=ρ mb/\J 62=va/\J 63=ι p.vars.length/\J 64=ι i/\i<=p.vars.length/\m+i=p.vars.length+1/\
 Hid (da [mb] V7 W)/\Hid (Row W 3 1 vs i (Wg p))/\Hid (∀b,vs.ownBlock=some b->V7.heap.size<=b)/\Hid (ay W mb 113 (mC (Dk v 11 vs)))
theorem abP {p:Prop} (h:p:=by
 obtain ⟨-,y0,y1⟩:=bR;exact qU):p:=h
theorem nw1 {V7:World} {p:aO} {va:Option Addr} {vc mb:Nat} {v:Nat->Value} {Q:Exit->Act->World->Prop} (HV:Hid (aV V7 3 (.slice va p.vars.length vc) p.vars.length (dx p))) (HM:Hid (∃cs,ay V7 mb 113 cs)) (hl:p.vars.length<=16)
 (eZ:∀(J:Nat->Value) W vs,J 10=ρ mb->da [mb] V7 W->Row W 3 1 vs p.vars.length (Wg p)->(∀b,vs.ownBlock=some b->V7.heap.size<=b)->ay W mb 113 (mC (Dk v 11 vs))->Q (.exit 0) (FN J) W)
 (HVM:Hid (∀b off c,0 < p.vars.length->Value.slice va p.vars.length vc= .slice (some (π b off)) p.vars.length c->b≠mb))
 {a:Act} {W:World} (h:NL V7 p (.slice va p.vars.length vc) mb v (p.vars.length+1) a W):(Code.loop (nwL 0)).wp prog Q a W:=by
 refine Mk.aP (fun m a W=>NL V7 p (.slice va p.vars.length vc) mb v m a W) (p.vars.length+1) h ?_ ?_
 ·rintro a W ⟨J,i,vs,-,-,-,-,-,h1,h2,-⟩;omega
 rintro m a0 W ⟨J,i,vs,rfl,xy,j62,j63,j64,hi,hm,HF,HR,HO,HB⟩;unfold FN
 conv=>arg 2;whnf
 have w2:=ag5 i omm;rw [xy,j62,j63,j64];clear xy j62 j63 j64;by_cases a8:i < p.vars.length
 ·obtain ⟨b,off,cap,e,q1,q2,lb,hc⟩:=HV.o.some omm omm;have hbm:=HVM.o b off cap omm e;simp only [afH] at e;obtain ⟨rfl,-,rfl⟩:=e;have h_:∀k,k < 3->W.cell? (π b (off+i*3+k))=some (dx p (i*3+k)):=fun k hk=>by have h9:=hc (i*3+k) omm;rw [<-Nat.add_assoc] at h9;exact (afG (HF.o.block _ lb (by simpa using hbm))).trans h9
  have c0:=h_ 0 omm;have c1:=h_ 1 omm;have c2:=h_ 2 omm;obtain ⟨x,hx⟩:∃x,p.vars.getD i ⟨0,0,0⟩=x:=⟨_,rfl⟩;have Ld:dx p (i*3+0)=ι x.init/\dx p (i*3+1)=ι x.lo/\dx p (i*3+2)=ι x.hi:=by unfold dx;rw [show (i*3+0) / 3=i by omega,show (i*3+1) / 3=i by omega,show (i*3+2) / 3=i by omega,show (i*3+0) % 3=0 by omega,show (i*3+1) % 3=1 by omega,show (i*3+2) % 3=2 by omega,hx];exact ⟨rfl,rfl,rfl⟩
  rw [Ld.1,Nat.add_zero] at c0;rw [Ld.2.1] at c1;rw [Ld.2.2] at c2;have HX:=ae hx;have dh:=ae a8;clear hx Ld h_ hc q2;obtain ⟨sa,sn,sc,rfl⟩:=R3 HR.o;have lb2:=aS c0;obtain ⟨W1,Ak⟩:∃W1,W1=W.alloc (.cells #[ι x.init,ι x.lo,ι x.hi] 122):=⟨_,rfl⟩;have k1:ay W1 W.heap.size 122 #[ι x.init,ι x.lo,ι x.hi]:=by rw [Ak];exact ay.new _ _ _
  have eN:Below W.heap.size W W1:=by rw [Ak];exact (afL _ _).alloc (afF _) _
  have FJ:=HB.o.of (eN.block _ HB.o.lt);have Gk:=HR.o.aB (da.ah (S:=[]) eN) smm;have Ob:W1.cell? (π mb 11)=some (.slice sa sn sc):=FJ.cell 11;have z0:=k1.c1;have YY:mb∉(Value.slice sa sn sc).ownBlock.toList:=fun hh=>HR.o.eF HB.o dee (by simpa using hh);have Md:W.heap.size∉(Value.slice sa sn sc).ownBlock.toList:=fun hh=>by have:=(af3 HR.o W.heap.size (by simpa using hh)).2;omega
  have HN:=ae (And.intro YY Md);have Db:=ae FJ;have xR:=ae Gk;have YZ:=ae ((da.ah (S:=[mb]) eN));have ze:=ae eN.size;have lm:=FJ.lt;have lk:=k1.lt;have iW:Hid (i+1<=maxLen/\(i+1)*8<=140737488355328):=ae ⟨by unfold maxLen;omega,omm⟩;clear k1 eN FJ Gk YY Md;go_wp2_with fail;rw [<-Ak];clear Ak c0 c1 c2 lb2 lb;generalize D_:W.heap.size=vb at*;have HVB:=ae D_;clear D_;refine Gd.region [11] (fun _=>True) (fun wx=>wx.cell? (π mb 11)=some (.slice sa sn sc)/\wx.cell? (π vb 0)=some (ι x.init)) krr ⟨trivial,Ob,z0⟩ (fun al=>?_);have HD:=ae (au W1.heap.size W1 1);change Hid (Below W1.heap.size W1 W1.drew) at HD;generalize W1.drew=V0 at*;refine Mk.P6 0 (v:=?_) rfl (fun wz bR=>?_) al ?_;rotate_left
  ·exact abP
  refine Mk.pt ?_;refine Mk.P6 1 (v:=?_) rfl (fun wz bR=>?_) al ?_;rotate_left
  ·exact abP
  refine Mk.pt ?_;refine Mk.P6 2 (v:=?_) rfl (fun wz bR=>?_) al ?_;rotate_left
  ·exact abP
  refine Mk.pt ?_;refine Mk.P6 3 (v:=?_) rfl (fun wz bR=>?_) al ?_;rotate_left
  ·exact abP
  refine Mk.pt ?_;refine Mk.P6 4 (v:=?_) rfl (fun wz bR=>?_) al ?_;rotate_left
  ·exact abP
  refine Mk.pt ?_;refine Mk.P6 5 (v:=?_) rfl (fun wz bR=>?_) al ?_;rotate_left
  ·exact abP
  refine Mk.pt ?_;refine Mk.P6 6 (v:=?_) rfl (fun wz bR=>?_) al ?_;rotate_left
  ·exact abP
  refine Mk.pt ?_;refine Mk.Ud (rs:=[7]) (Gd.cU.cons rfl (fun K hK=>?_) Gd.cU.nil);refine QX ?_;go_simp;have dn:Below W1.heap.size W1 (V0.alloc (.cells #[ι x.init] 3)):=HD.o.alloc HD.o.size _;have Dq:(V0.alloc (.cells #[ι x.init] 3)).cell? (π mb 11)=some (.slice sa sn sc)/\(V0.alloc (.cells #[ι x.init] 3)).cell? (π vb 0)=some (ι x.init):=⟨(afG (dn.block _ lm)).trans Ob,(afG (dn.block _ lk)).trans z0⟩;clear al;refine hK.out _ _ ⟨trivial,Dq⟩ (fun al=>?_);clear hK K;refine Mk.pt ?_;refine Mk.Ud (rs:=[8]) (Gd.cU.cons rfl (fun K hK=>?_) Gd.cU.nil);refine dq rfl (.tmp 72) (.tmp 75) 24 rfl 3 underlying24 Vf.b_ rfl dee (.slice sa sn sc) i (Wg p) (by simp [Act.eval,Act.put]) (xR.o.aB (da.ah (S:=[]) dn) smm) (π V0.heap.size 0) 1 1 (fun _=> ι x.init) (by simp [Act.eval,Act.put]) ?_ (fun j _=>rfl) iW.o.1 iW.o.2 ?_
  ·intro j hj;obtain rfl:j=0:=omm;exact (ay.new V0 3 #[ι x.init]).cell 0
  intro v2 w2 r2 f2 i2;obtain ⟨P8,P_,Qa,rfl⟩:=R3 r2;have BM:w2.cell? (π mb 11)=some (.slice sa sn sc)/\w2.cell? (π vb 0)=some (ι x.init):=⟨(afG (f2.block _ (aS Dq.1) HN.o.1)).trans Dq.1,(afG (f2.block _ (aS Dq.2) HN.o.2)).trans Dq.2⟩;have jd:=(Db.o.of (dn.block _ Db.o.lt)).aB f2 HN.o.1;have kY:=ae jd;have rj:=ae (show Row w2 3 1 (.slice P8 P_ Qa) (i+1) (Wg p) from r2.congr (fun o ho=>by
   unfold gU Wg;by_cases e:o < i*1
   ·rw [afE e]
   ·rw [abH e];obtain rfl:o=i:=omm;rw [HX.o]))
  have tB:=ae (show da [mb] V7 (w2.setCell (π mb 11) (.slice P8 P_ Qa)) from by
   have g1:da [mb] V7 (V0.alloc (.cells #[ι x.init] 3)):=(HF.o.trans YZ.o).trans (da.ah dn);have g2:da [mb] V7 w2:=⟨f2.os.trans g1.os,f2.tape.trans g1.tape,f2.output.trans g1.output,afM g1.size f2.size,fun k hk hn=>(f2.block k (afQ hk g1.size) (fun hm=>by have:=HO.o k (by simpa using hm);omega)).trans (g1.block k hk hn)⟩;exact g2.setCell (p:=(π mb 11)) smm _)
  have ux:=ae (show ∀b,(Value.slice P8 P_ Qa).ownBlock=some b->V7.heap.size<=b from fun b hb=>by
   rcases i2 with h|h
   ·exact HO.o b (by rw [<-h];exact hb)
   ·rw [h] at hb;have h1:=af0 hb;have h2:=dn.size;have h3:=HF.o.size;have h4:=YZ.o.size;simp only [aE] at h1 h2;omega)
  obtain ⟨y0,y1⟩:=BM;have Gl:w2.cell? (π mb 11)=some (.slice sa sn sc)/\w2.cell? (π vb 0)=some (ι x.init):=⟨y0,y1⟩;have fz:=jd.frozen;have Y5:=jd.lt;clear al jd r2 f2 i2 Dq dn;refine hK.out _ _ ⟨trivial,Gl⟩ (fun al=>?_);clear hK K;refine Mk.pt ?_;refine Mk.P6 9 (v:=?_) rfl (fun wz bR=>?_) al ?_;rotate_left
  ·exact abP
  refine Mk.pt ?_;refine Mk.P6 10 (v:=?_) rfl (fun wz bR=>?_) al ?_;rotate_left
  ·exact abP
  refine Mk.pt ?_;refine Mk.Ud (rs:=[11]) (Gd.cU.last rfl krr (fun K hK=>?_) Gd.cU.nil);refine QX ?_;go_simp;refine hK.out _ _ trivial ?_;clear hK K;refine Mk.pt ?_;refine Gd.done krr ⟨rfl,?_⟩ _;have fg:=ae (show ay (w2.setCell (π mb 11) (.slice P8 P_ Qa)) mb 113 (mC (Dk v 11 (.slice P8 P_ Qa))) by rw [<-YX v (.slice sa sn sc)];exact kY.o.set 11 _);have HR3:=ae (rj.o.other (c:=mb) (fun e=>(rj.o.eF kY.o dee) e) 11 (.slice P8 P_ Qa));clear al y0 y1 Gl fz Y5;go_wp2_with fail;exact ⟨_,i+1,_,FN.of _ rfl,rfl,rfl,rfl,rfl,dh.o,omm,tB,HR3,ux,fg⟩
 ·obtain rfl:i=p.vars.length:=omm;clear a8;go_wp2_with fail;exact Eq.mpr (afK (fun a=>Q (.exit 0) a W) (FN.of _ rfl)) (eZ _ _ _ rfl HF.o HR.o HO.o HB.o)
def Ui (K:Kp) (p:aO) (c:Cp) (qs:Value) (nd:Int) (z:Value):Nat->Value:=fun i=>if i < 18 then (#[K.g,K.v,K.t,K.o,ι p.aJ,K.c,ι c.size,qs,ι nd,.pointer none,.pointer none,ν,ι 0,ι 0,ι 0,ι 0,ι 0,ι 0]:Array Value).getD i undef else if i < 60 then z else .pointer none
def RN2 (w W2:World) (p:aO) (c:Cp) (nd:Int) (a:Act) (W:World):Prop:=∃(J:Nat->Value) (K:Kp) (qs z:Value) (mb:Nat),a=FN J/\J 2=ρ w.heap.size/\J 8=ι nd/\J 10=ρ mb/\Hid (Below W2.heap.size W2 W)/\Hid (Vf.MK W2 W K p)/\Hid (Vf.Own W2 W 3 1 c.aI.length qs (aU c.aI))/\Hid (ay W mb 113 (mC (Ui K p c qs nd z)))/\Hid (W2.heap.size<=mb)
theorem MP {w W5 W6 V6 W7 V7 W9:World} {K1:Kp} {p:aO} {c:Cp} {qs vs:Value} {mb:Nat} (qJ:bo p=0) (tb:vj p) (lO:kH p c=true) (iF:∃W2:World,w.heap.size<=W2.heap.size/\Vf.MK W2 W5 K1 p/\Vf.Own W2 W5 3 1 c.aI.length qs (aU c.aI)/\W2.heap.size<=mb) (wP:Below w.heap.size w W5)
 (GJ:∃cs,ay W5 mb 113 cs) (f6:da [] W5 W6) (Y6:dT.bP W6 (W5.heap.size+1) ν (.slice (some (π W5.heap.size 0)) p.ap.length p.ap.length) (bH (aw p c)) p.ap.length dT.zk) (g6:da [mb] W6 V6)
 (f7:da [] V6 W7) (hi7:Ix.cL W7 (V6.heap.size+1) V6.heap.size (bH (aw p c)) 0 (fun _=>none)) (hz7:W7.heap.size=V6.heap.size+2) (g7:da [mb] W7 V7) (hs7:V7.heap.size=W7.heap.size) (g9:da [mb] V7 W9) (YJ:Row W9 3 1 vs p.vars.length (Wg p)) (VA:∀b,vs.ownBlock=some b->V7.heap.size<=b)
 (hmc:ay W9 mb 113 (rD ⟨K1.g,K1.v,K1.t,K1.o,K1.c,qs,bH (aw p c),fun n=>bd mb n⟩ ⟨mb,W5.heap.size+1,V6.heap.size+1,V6.heap.size,ν,.slice (some (π W5.heap.size 0)) p.ap.length p.ap.length,vs⟩ p c 0 ⟨0,0,0,0⟩ 0 (.pointer none))):
 Below w.heap.size w W9/\∃(C:Co) (RO:List Nat) (K:Kc),C.mb=mb/\Mx W9 C RO K p c (xx p) ⟨0,0,0,0⟩ 0 (.pointer none)/\N6 K C.mb p c/\(∀b,b∈C.l++RO->w.heap.size<=b):=by
 obtain ⟨W2,h2,Dt,Y7,kX⟩:=iF;obtain ⟨cs5,GJ⟩:=GJ;have Fo:=GJ.lt;have up:∀{X Y:World},da [] X Y->da [mb] X Y:=fun f=>f.mono smm;have f59:da [mb] W5 W9:=((((up f6).trans g6).trans (up f7)).trans g7).trans g9;have abl:W5.heap.size+1 < W6.heap.size:=by obtain ⟨R,A,hc,-⟩:=Y6;exact hc.head.lt
 have s6:=g6.size;have s9:=g9.size;have I2:∀{E:TypeId} {size n:Nat} {v:Value} {g:Nat->Value},Vf.Own W2 W5 E size n v g->E≠113->Row W9 E size v n g/\(∀b,b∈vb v->W2.heap.size<=b/\b < W5.heap.size/\b≠mb):=fun h hE=>by have bz:∀b,b∈vb _->b≠mb:=fun b hb e=>h.1.eF GJ hE (by rw [<-e];exact aK.1 hb);exact ⟨h.1.aB f59 (fun b hb=>by have:=bz b (aK.2 hb);simpa using this),fun b hb=>⟨(h.2 b (aK.1 hb)).1,(h.2 b (aK.1 hb)).2,bz b hb⟩⟩
 obtain ⟨rg,ig⟩:=I2 Dt.g dee;obtain ⟨rv,iv⟩:=I2 Dt.v dee;obtain ⟨rt,it⟩:=I2 Dt.t dee;obtain ⟨ro,io⟩:=I2 Dt.o dee;obtain ⟨rc,ic⟩:=I2 Dt.c dee;obtain ⟨rq,iq⟩:=I2 Y7 dee;have hRO:∀b,b∈vb K1.g++vb K1.v++vb K1.t++vb K1.o++vb K1.c++vb qs->W2.heap.size<=b/\b < W5.heap.size/\b≠mb:=by
  intro b hb;simp only [af2] at hb;rcases hb with ((((hb|hb)|hb)|hb)|hb)|hb
  ·exact ig b hb
  ·exact iv b hb
  ·exact it b hb
  ·exact io b hb
  ·exact ic b hb
  ·exact iq b hb
 have D_:∀b,b∈vb vs->V7.heap.size<=b/\b < W9.heap.size:=fun b hb=>⟨VA b (aK.1 hb),(af3 YJ b (aK.1 hb)).2⟩;have hvn:(vb vs).Nodup:=by unfold vb;cases vs.ownBlock<;>simp
 have EI:=lO;unfold kH at EI;simp only [afW,afX] at EI;have kN:W5.heap.size<=W9.heap.size:=f59.size;refine ⟨wP.trans (f59.below wP.size sso),⟨mb,W5.heap.size+1,V6.heap.size+1,V6.heap.size,ν,.slice (some (π W5.heap.size 0)) p.ap.length p.ap.length,vs⟩,vb K1.g++vb K1.v++vb K1.t++vb K1.o++vb K1.c++vb qs,⟨K1.g,K1.v,K1.t,K1.o,K1.c,qs,bH (aw p c),fun n=>bd mb n⟩,rfl,⟨⟨hmc,⟨rg,rv,rt,ro,rc,rq,?_⟩,?_,?_,YJ⟩,⟨?_,?_,?_,?_⟩⟩,⟨Vf.yE EI.1,rfl,EI.2,qJ,fun n _=>rfl⟩,?_⟩
 ·intro b hb;simp only [af2];rcases hb with hb|hb|hb|hb|hb|hb<;>simp [hb]
 ·refine Y6.aB (((g6.trans (up f7)).trans g7).trans g9) ?_;intro b hb;simp only [bp,Value.ownBlock,Option.toList,afV,List.nil_append,List.not_mem_nil,or_false] at hb;rcases hb with rfl|rfl<;>simp<;>omega
 ·have h0:eS p (xx p).a=0:=dT.uU _;show Ix.cL W9 (V6.heap.size+1) V6.heap.size (bH (aw p c)) (eS p (xx p).a) (xx p).f;rw [h0];have e1:V6.heap.size+1≠mb:=omm;have e2:V6.heap.size≠mb:=omm;exact hi7.aB (g7.trans g9) ⟨by simpa using e1,by simpa using e2⟩
 ·simp only [Co.l,bp,Value.ownBlock,Option.toList,List.nil_append,List.cons_append];simp only [List.nodup_cons,afV,af2,List.not_mem_nil,or_false,not_or];refine ⟨⟨omm,omm,omm,omm,fun h=>?_⟩,⟨omm,omm,omm,fun h=>?_⟩,⟨omm,omm,fun h=>?_⟩,⟨omm,fun h=>?_⟩,fun h=>?_,hvn⟩
  all_goals (have:=(D_ _ h).1;omega)
 ·intro b hb;simp only [Co.l,bp,Value.ownBlock,Option.toList,List.nil_append,List.cons_append,afV,af2,List.not_mem_nil,or_false] at hb;rcases hb with rfl|rfl|rfl|rfl|rfl|hb
  ·omega
  ·omega
  ·omega
  ·omega
  ·omega
  ·exact (D_ b hb).2
 ·intro b hb hr;have h1:=hRO b hr;simp only [Co.l,bp,Value.ownBlock,Option.toList,List.nil_append,List.cons_append,afV,af2,List.not_mem_nil,or_false] at hb;rcases hb with rfl|rfl|rfl|rfl|rfl|hb
  ·exact h1.2.2 rfl
  ·omega
  ·omega
  ·omega
  ·omega
  ·have:=(D_ b hb).1;omega
 ·intro b hb;have:=hRO b hb;omega
 ·intro b hb;rw [af2] at hb;rcases hb with hb|hb
  ·simp only [Co.l,bp,Value.ownBlock,Option.toList,List.nil_append,List.cons_append,afV,af2,List.not_mem_nil,or_false] at hb;have:=wP.size;rcases hb with rfl|rfl|rfl|rfl|rfl|hb
   ·omega
   ·omega
   ·omega
   ·omega
   ·omega
   ·have:=(D_ b hb).1;omega
  ·have:=(hRO b hb).1;omega
theorem Bs {w:World} {K:Kp} {p:aO} {c:Cp} {qv:Value} (h:fP w K p) (hq:aV w 1 qv c.aI.length (aU c.aI)):Calls prog 16 #[pV K p,cV c qv] w (P7 w p c):=by
 obtain ⟨⟨ga,gc,g1,g2,g3⟩,⟨va,vc,v1,v2,v3⟩,⟨ta,tc,t1,t2,t3⟩,⟨oa,oc,o1,o2,o3⟩,⟨ca,cc,c1,c2,c3⟩⟩:=h.sl;obtain ⟨qa,qc,rfl,-,-⟩:=hq.val;have Dj:=ae (fun V (hb:Below w.heap.size w V)=>Vf.Ua (w:=V) (h.aB (da.ah hb)));have HFT:=ae (fun V (hb:Below w.heap.size w V) hg=>Vf.E0 V (c:=c) (h.aB (da.ah hb)) (hq.aB (da.ah hb)) hg);have HTW:=ae (fun V (hb:Below w.heap.size w V) hm=>Vf.Ub V (h.aB (da.ah hb)) hm);have ug:=ae (fun V (hb:Below w.heap.size w V) hn=>Vf.pN (w:=V) (hq.aB (da.ah hb)) hn (fun _ _=>rfl));have H:=ae h;have HQ:=ae hq;obtain ⟨W0,lL⟩:∃W0,W0=(w.alloc (.cells #[.slice ga p.ap.length gc,.slice va p.vars.length vc,.slice ta p.aW.length tc,.slice oa p.on.length oc,ι p.aJ,.slice ca p.code.length cc] 27)).alloc (.cells #[ι c.size,.slice qa c.aI.length qc] 29):=⟨_,rfl⟩;have kp:ay W0 w.heap.size 27 #[.slice ga p.ap.length gc,.slice va p.vars.length vc,.slice ta p.aW.length tc,.slice oa p.on.length oc,ι p.aJ,.slice ca p.code.length cc]:=by rw [lL];exact (ay.new _ _ _).alloc _
 have kc:ay W0 (w.heap.size+1) 29 #[ι c.size,.slice qa c.aI.length qc]:=by rw [lL];exact ay.a_ smm
 have dQ:Below w.heap.size w W0:=by rw [lL];exact ((afL _ _).alloc (afF _) _).alloc smm _
 have HKV:=ae v1;unfold pV cV at*;rw [g1,v1,t1,o1,c1] at Dj HFT HTW ⊢;clear h hq g1 v1 t1 o1 c1 g2 g3 v2 v3 t2 t3 o2 o3 c2 c3;go_enter func16,ntmps16;go_wp2_with fail;rw [<-lL];refine (Dj.o _ dQ).mono ?_;rintro e W1 ⟨wB,ms,rfl,⟨x9,y9,z9,rfl⟩,hb,h1⟩;have KP:=ae (kp.of (hb.block _ kp.lt));have KC:=ae (kc.of (hb.block _ kc.lt));have dC:=ae (dQ.trans (hb.mono dQ.size));have tC:=ae (show w.heap.size+1 < W1.heap.size by have:=hb.size;have:=kc.lt;omega);have H1:=ae h1;clear kp kc hb dQ lL h1 Dj;obtain ⟨ve,Uj⟩:∃v,aZ p=v:=⟨_,rfl⟩;have Qb:=ae Uj;rw [Uj] at H1 ⊢;obtain ⟨e1,e2⟩:=ve;clear Uj;dsimp only;obtain ⟨p0,p1,p2,p3,p4,p5⟩:=KP.o.c6;obtain ⟨k0,k1⟩:=KC.o.c2;have lp:=KP.o.lt;have lc:=KC.o.lt;have Uk:=ae (fun cs T mV T2=>(dC.o.alloc dC.o.size (.cells cs T)).alloc (by simp;have:=dC.o.size;omega) (.cells mV T2));by_cases he:e1=0
 case neg=>
  have bz:(e1 !=0)=true:=by simpa using he
  have HE:=ae he;clear he;go_wp2_with fail;go_quiet (fail);go_wp2_with fail;refine MO rfl ?_;exact ⟨(Uk.o _ _ _ _).trans (au _ _ _),.inl ⟨by rw [Qb.o];exact HE.o,by rw [Qb.o];rfl⟩⟩
 subst he;have JI:=ae (show bo p=0 by
  by_cases h0:bo p=0
  ·exact h0
  ·have:=Qb.o;unfold aZ at this;rw [afE h0] at this;exact absurd (Prod.mk.inj this).1 h0)
 have TB:=ae (cK JI.o).1;have MQ:=TB.o.g;have Qc:=ae (fun V hb=>HFT.o V hb MQ);unfold wD at Qc;have HNK:=ae (show (gF p c&&decide (bH (aw p c)<=4194304))=kH p c from rfl);rw [HNK.o] at Qc;generalize gm:(if gF p c=true then ((bH (aw p c):Nat):Int) else 0)=nd at*;have WW:=ae gm;clear gm MQ HFT;go_wp2_with fail;refine (Qc.o _ (Uk.o _ _ _ _)).mono ?_;rintro e W2 ⟨rfl,hb⟩;have dn:Below W1.heap.size W1 W2:=(((afL _ _).alloc (afF _) _).alloc smm _).trans (hb.mono sso);have KP2:=ae (KP.o.of (dn.block _ KP.o.lt));have V_:=ae (KC.o.of (dn.block _ KC.o.lt));have fg:=ae (dC.o.trans (dn.mono dC.o.size));have Gu:=ae (show w.heap.size+1 < W2.heap.size by have:=tC.o;have:=dn.size;omega);clear hb dn p0 p1 p2 p3 p4 p5 k0 k1 lp lc Uk Qc;cases lO:kH p c with
 |false=>have xz:=ae lO;clear lO;go_wp2_with fail;refine MO rfl ?_;exact ⟨fg.o,.inr (.inl ⟨by rw [Qb.o],xz.o,rfl⟩)⟩
 |true=>
 have xz:=ae lO;clear lO;obtain ⟨p0,p1,p2,p3,p4,p5⟩:=KP2.o.c6;obtain ⟨k0,k1⟩:=V_.o.c2;have lp:=KP2.o.lt;have lc:=V_.o.lt;have aaO:=ae (show Vf.Mod p from ⟨by have:=TB.o.g;omega,by have:=TB.o.v;omega,by have:=TB.o.t;omega,by have:=TB.o.on;have:=TB.o.g;omega,by have:=TB.o.code;omega⟩);have HQ8:=ae (show c.aI.length*8<=140737488355328 by
  have h:=xz.o;unfold kH gF at h;simp only [afW,afX] at h;have:=h.1.1.2;have:=TB.o.g;omega)
 have Y8:=ae (show nd=((bH (aw p c):Nat):Int)/\bH (aw p c)<=4194304 by
  have h:=xz.o;unfold kH at h;simp only [afW,afX] at h;rw [<-WW.o,afE h.1];exact ⟨rfl,h.2⟩)
 have Y9:=ae (fun V (hb:Below W2.heap.size W2 V)=>HTW.o V (fg.o.trans (hb.mono fg.o.size)) aaO.o);have Y_:=ae (fun V (hb:Below W2.heap.size W2 V)=>ug.o V (fg.o.trans (hb.mono fg.o.size)) HQ8.o);clear HTW ug;go_wp2_with fail;refine wp_mono (Q:=fun e a W=>e=Exit.normal/\RN2 w W2 p c nd a W) ?_ ?_
 ·refine Mk.bF (S:=fun wx=>Below W2.heap.size W2 wx) krr (au _ W2 1) (fun al=>?_);refine Mk.tk 0 (v:=?_) rfl (fun wz bR=>?_) al ?_;rotate_left
  ·have key:∀b i v,b < W2.heap.size->W2.cell? (π b i)=some v->wz.cell? (π b i)=some v:=fun b i v hb hc=>(afG (bR.block _ hb)).trans hc;exact qX8
  refine Mk.pt ?_;refine Mk.bL 2 ?_;refine Mk.tk 3 (v:=?_) rfl (fun wz bR=>?_) al ?_;rotate_left
  ·have key:∀b i v,b < W2.heap.size->W2.cell? (π b i)=some v->wz.cell? (π b i)=some v:=fun b i v hb hc=>(afG (bR.block _ hb)).trans hc;have y0:=key _ _ _ lc k0;exact qU
  refine Mk.pt ?_;refine Mk.bL 4 ?_;refine Mk.tk 5 (v:=?_) rfl (fun wz bR=>?_) al ?_;rotate_left
  ·have key:∀b i v,b < W2.heap.size->W2.cell? (π b i)=some v->wz.cell? (π b i)=some v:=fun b i v hb hc=>(afG (bR.block _ hb)).trans hc;have y0:=key _ _ _ lc k1;exact qU
  refine Mk.pt ?_;refine Mk.bL 8 ?_;refine Mk.nW (rs:=[1]) (afJ rfl (fun K9 hK=>?_) af1);refine QX ?_;go_simp;refine (Y9.o _ al).mono ?_;rintro e Wt ⟨K1,rfl,Dt,hbt⟩;obtain ⟨kg,kv,kt,ko,kc⟩:=K1;obtain ⟨ag,mg,cg,eg⟩:=R3 Dt.g.1;obtain ⟨av,mv,cv,ev⟩:=R3 Dt.v.1;obtain ⟨at_,mt,ct,et⟩:=R3 Dt.t.1;obtain ⟨ao,mo,co,eo⟩:=R3 Dt.o.1;obtain ⟨ac,mc,cc9,ec⟩:=R3 Dt.c.1;dsimp only at eg ev et eo ec;subst eg ev et eo ec;unfold pV;dsimp only;have hS:=al.trans (hbt.mono al.size);have abm:=al.size;clear al;refine hK.out _ _ hS (fun al=>?_);clear hK K9;refine Mk.pt ?_;refine Mk.nW (rs:=[6]) (afJ rfl (fun K9 hK=>?_) af1);refine QX ?_;go_simp;refine (Y_.o _ al).mono ?_;rintro e Wq ⟨qs,rfl,hrq,hbq,hiq⟩;obtain ⟨aq,mq,cq,rfl⟩:=R3 hrq;have hS:=al.trans (hbq.mono al.size);have Za:=al.size;clear al;refine hK.out _ _ hS (fun al=>?_);clear hK K9;refine Mk.pt ?_;refine Mk.bL 7 ?_;refine Mk.bL 9 ?_;refine Mk.nW (rs:=[10]) (afJ rfl (fun K9 hK=>?_) af1);refine QX ?_;go_simp;refine hK.out _ _ (al.alloc al.size _) (fun al=>?_);clear hK K9;refine Mk.pt ?_;refine Mk.bL 11 ?_;refine afZ krr ⟨rfl,rfl,_,⟨.slice ag mg cg,.slice av mv cv,.slice at_ mt ct,.slice ao mo co,.slice ac mc cc9⟩,.slice aq mq cq,.nilFunc,_,FN.of _ rfl,rfl,rfl,rfl,ae al,ae ?_,ae ⟨hrq.alloc _,hiq.mono Za smm⟩,ae ?_,ae (afM Za hbq.size)⟩ _
  ·have h0:Vf.MK W2 Wt ⟨.slice ag mg cg,.slice av mv cv,.slice at_ mt ct,.slice ao mo co,.slice ac mc cc9⟩ p:=⟨Dt.g,Dt.v,Dt.t,Dt.o,Dt.c⟩;have sr:Below Wt.heap.size Wt (Wq.alloc (.cells #[.slice ag mg cg,.slice av mv cv,.slice at_ mt ct,.slice ao mo co,ι p.aJ,.slice ac mc cc9,ι c.size,.slice aq mq cq,ι nd,.pointer none,.pointer none,ν,ι 0,ι 0,ι 0,ι 0,ι 0,ι 0,.nilFunc,.nilFunc,.nilFunc,.nilFunc,.nilFunc,.nilFunc,.nilFunc,.nilFunc,.nilFunc,.nilFunc,.nilFunc,.nilFunc,.nilFunc,.nilFunc,.nilFunc,.nilFunc,.nilFunc,.nilFunc,.nilFunc,.nilFunc,.nilFunc,.nilFunc,.nilFunc,.nilFunc,.nilFunc,.nilFunc,.nilFunc,.nilFunc,.nilFunc,.nilFunc,.nilFunc,.nilFunc,.nilFunc,.nilFunc,.nilFunc,.nilFunc,.nilFunc,.nilFunc,.nilFunc,.nilFunc,.nilFunc,.nilFunc,.pointer none] 113)):=hbq.alloc hbq.size _;exact ⟨h0.g.later sr,h0.v.later sr,h0.t.later sr,h0.o.later sr,h0.c.later sr⟩
  ·exact ay.new _ _ _
 rintro e a W5 ⟨rfl,J,K1,qs,z,mb,rfl,j2,j8,xy,nA,HPO,HQS,qN,iW⟩;clear p0 p1 p2 p3 p4 p5 k0 k1 lp lc Y9 Y_;unfold FN;have hN:=Y8.o.1;rw [j2,j8,xy,hN];have hN4:=Y8.o.2;subst hN;clear j2 j8 xy WW;have Ul:=ae (fg.o.trans (nA.o.mono fg.o.size));have V4:=ae (KP2.o.of (nA.o.block _ KP2.o.lt));have Zb:=ae (show w.heap.size≠mb by have:=Gu.o;have:=iW.o;omega);have p0:=V4.o.c1;have lp:=V4.o.lt;have MQ:=TB.o.g;have HAR:=ae (fun V=>dT.Bs (bH (aw p c)) p.ap.length V hN4 omm);have HIX:=ae (fun V=>Ix.aai (bH (aw p c)) V hN4);generalize hNN:bH (aw p c)=N at*;have rM:=ae hNN;clear hNN;go_wp2_with fail;refine (HAR.o W5).mono ?_;rintro e W6 ⟨rfl,f6,Y6⟩;have Zc:ay W6 mb 113 (mC (Ui K1 p c qs N z)):=qN.o.aB f6 smm;have m9:W6.cell? (π mb 9)=some (.pointer none):=Zc.cell 9;have fz6:=Zc.frozen;have lm6:=Zc.lt;have Zd:=ae (show ay (W6.setCell (π mb 9) (ρ (W5.heap.size+1))) mb 113 (mC (Dk (Ui K1 p c qs N z) 9 (ρ (W5.heap.size+1)))) from Zc.set 9 _);have Rp:=ae (show da [mb] W6 (W6.setCell (π mb 9) (ρ (W5.heap.size+1))) from (da.refl _ _).setCell (p:=(π mb 9)) smm _);have Jn:=ae f6;have HA6:=ae Y6;clear f6 Y6 Zc p0 lp;go_wp2_with fail;obtain ⟨V6,hV6⟩:∃V,V=W6.setCell (π mb 9) (ρ (W5.heap.size+1)):=⟨_,rfl⟩;rw [<-hV6] at Zd Rp ⊢;clear m9 fz6 lm6 hV6;refine (HIX.o V6).mono ?_;rintro r W7 ⟨rfl,f7,hi7,hz7⟩;have Ze:ay W7 mb 113 (mC (Dk (Ui K1 p c qs N z) 9 (ρ (W5.heap.size+1)))):=Zd.o.aB f7 smm;have m10:W7.cell? (π mb 10)=some (.pointer none):=Ze.cell 10;have fz7:=Ze.frozen;have lm7:=Ze.lt;have Um:da [mb] W5 W7:=(((da.mono Jn.o smm).trans Rp.o).trans (da.mono f7 smm));have kp7:=V4.o.aB Um (by have:=Zb.o;simpa using this);have p1:W7.cell? (π w.heap.size 1)=some (.slice va p.vars.length vc):=kp7.cell 1;have lp:=kp7.lt;have JK:=ae (show da [mb] W7 (W7.setCell (π mb 10) (ρ (V6.heap.size+1))) from (da.refl _ _).setCell (p:=(π mb 10)) smm _);have HM7:=ae (show ay (W7.setCell (π mb 10) (ρ (V6.heap.size+1))) mb 113 (mC (Dk (Dk (Ui K1 p c qs N z) 9 (ρ (W5.heap.size+1))) 10 (ρ (V6.heap.size+1)))) from Ze.set 10 _);have NM:=ae f7;have HI7:=ae hi7;have HZ7:=ae hz7;have aaP:=ae Um;have hnw:=Zb.o;clear f7 hi7 hz7 Ze Um kp7;go_wp2_with fail;obtain ⟨V7,hV7⟩:∃V,V=W7.setCell (π mb 10) (ρ (V6.heap.size+1)):=⟨_,rfl⟩;have HS7:=ae (show V7.heap.size=W7.heap.size by rw [hV7];simp);rw [<-hV7] at JK HM7 ⊢;clear m10 fz7 lm7 p1 lp hV7 hnw;have HVR:=ae (show aV V7 3 (.slice va p.vars.length vc) p.vars.length (dx p) by
  have h0:=H.o.v;rw [HKV.o] at h0;exact h0.aB (da.ah (Ul.o.trans ((aaP.o.trans JK.o).below Ul.o.size (by have:=iW.o;have:=fg.o.size;simp;omega)))))
 refine nw1 (V7:=V7) (mb:=mb) (v:=Dk (Dk (Ui K1 p c qs N z) 9 (ρ (W5.heap.size+1))) 10 (ρ (V6.heap.size+1))) HVR (ae ⟨_,HM7.o⟩) TB.o.v (fun J W8 vs xy Un hr8 ho8 qM=>?_) (ae (fun b off cp hn e=>?_)) ⟨_,0,ν,FN.of _ rfl,rfl,rfl,rfl,rfl,afO _,omm,ae (da.refl _ _),ae (Row.nil _ _ _ _),ae (fun b hb=>by cases hb),ae HM7.o⟩;rotate_left
 ·have h0:=H.o.v;rw [HKV.o] at h0;obtain ⟨b',TQ,mI,e',-,-,hl,-⟩:=h0.some hn omm;rw [e] at e';simp only [afH,af5,Addr.mk.injEq] at e';have:=iW.o;have:=fg.o.size;omega
 unfold FN;rw [xy];have ξ:=ae Un;have HR8:=ae hr8;have sh:=ae ho8;have qX:=ae (Aq (v:=Dk (Dk (Dk (Ui K1 p c qs N z) 9 (ρ (W5.heap.size+1))) 10 (ρ (V6.heap.size+1))) 11 vs) qM);have aaQ:=ae (fun e=>hr8.eF qM dee e);clear xy Un hr8 ho8 qM;go_wp2_with fail;refine qX.o.mono ?_;rintro e W9 ⟨rfl,MC,ui⟩;have fJ:=MP (w:=w) (c:=c) JI.o TB.o xz.o ⟨W2,fg.o.size,HPO.o,HQS.o,iW.o⟩ Ul.o ⟨_,qN.o⟩ Jn.o (by rw [rM.o];exact HA6.o) Rp.o NM.o (by rw [rM.o];exact HI7.o) HZ7.o JK.o HS7.o (ξ.o.trans MC) (HR8.o.aB MC (fun b hb hm=>aaQ.o (by simp at hm;rw [<-hm];exact hb))) sh.o (by rw [rM.o];exact ui);have HD:=ae fJ;clear fJ MC ui qX;go_wp2_with fail;refine MO rfl ?_;obtain ⟨h1,C,RO,K9,rfl,h3,h4,h5⟩:=HD.o;exact ⟨h1,.inr (.inr ⟨by rw [Qb.o],xz.o,C,RO,K9,rfl,h3,h4,h5⟩)⟩
end Go.Proofs.YtblkblclmbhjiaaGreat.Ma
namespace Go.Proofs.YtblkblclmbhjiaaGreat.Ma
open Go.RowKit ak.Vm Go.Shelf
open ak hiding aL an aj
theorem Row.qT {w:World} {e:TypeId} {size n:Nat} {v:Value} {g:Nat->Value} (h:Row w e size v n g):∃a m cap,v= .slice a m cap:=by
 rcases h.val with ⟨rfl,-⟩|⟨b,cap,rfl,-⟩
 ·exact ⟨_,_,_,rfl⟩
 ·exact ⟨_,_,_,rfl⟩
theorem yG {T:List Nat} {W W':World} (f:da T W W') (hc:∀b,b∈T->Mk.KL W b) (B:Nat):KeepsFrom B W W':=
 ⟨f.size,fun k o _ hk ho=>(f.block k (Array.getElem?_eq_some_iff.1 hk).1 (fun hb=>by
   obtain ⟨o',h1,h2⟩:=hc k hb;rw [hk] at h1;cases h1;rw [ho] at h2;cases h2)).trans hk⟩
end Go.Proofs.YtblkblclmbhjiaaGreat.Ma
namespace Go.Proofs.YtblkblclmbhjiaaGreat.Ix
open Go.RowKit ak
open S4 (ny vD sK)
open gP (cH zd Bo)
structure mE (f:Nat->Option Nat) (L:List (Nat×Nat)):Prop where
 up:L.Pairwise (fun a b=>a.1 < b.1)
 mem:∀k v,(k,v)∈L↔f k=some v
theorem mE.pS {f:Nat->Option Nat} {L L':List (Nat×Nat)} (h:mE f L) (h':mE f L'):L=L':=by
 have hm:∀x,x∈L↔x∈L':=fun x=>by obtain ⟨k,v⟩:=x;rw [h.mem,h'.mem]
 have a:=h.up;have b:=h'.up;clear h h'
 induction L generalizing L' with
 |nil=>
  cases L' with
  |nil=>rfl
  |cons y t=>exact absurd ((hm y).2 smm) smm
 |cons x t ih=>
  cases L' with
  |nil=>exact absurd ((hm x).1 smm) smm
  |cons y t'=>
   obtain ⟨a1,a2⟩:=List.pairwise_cons.1 a;obtain ⟨b1,b2⟩:=List.pairwise_cons.1 b;have hxy:x=y:=by
    rcases List.mem_cons.1 ((hm x).1 smm) with e|hx
    ·exact e
    rcases List.mem_cons.1 ((hm y).2 smm) with e|hy
    ·exact e.symm
    have:=b1 x hx;have:=a1 y hy;omega
   subst hxy;rw [ih (L':=t') (fun z=>?_) a2 b2];constructor
   ·intro hz;rcases List.mem_cons.1 ((hm z).1 (by simp [hz])) with e|h'
    ·subst e;have:=a1 z hz;omega
    ·exact h'
   ·intro hz;rcases List.mem_cons.1 ((hm z).2 (by simp [hz])) with e|h'
    ·subst e;have:=b1 z hz;omega
    ·exact h'
theorem CJ {S:Tb Value} {n:Nat} {x:Nat×Int} (h:x∈cH S n):∃i k,i < n/\S i=some (x.1,.int k x.2):=by
 induction n with
 |zero=>simp [cH] at h
 |succ n ih=>
  unfold cH at h;rw [List.mem_append] at h;rcases h with h|h
  ·obtain ⟨i,k,hi,hs⟩:=ih h;exact ⟨i,k,omm,hs⟩
  ·split at h
   ·next k kk v hs=>simp at h;subst h;exact ⟨n,kk,omm,hs⟩
   ·simp at h
theorem M5 {S:Tb Value} {n i k:Nat} {kk:IntKind} {v:Int} (hi:i < n) (h:S i=some (k,.int kk v)):(k,v)∈cH S n:=by
 induction n with
 |zero=>omega
 |succ n ih=>
  unfold cH;rw [List.mem_append];by_cases e:i=n
  ·subst e;right;rw [h];simp
  ·left;exact ih omm
theorem E6 {S:Tb Value} {n:Nat} (I:Inv n S):∀m,m<=n->(cH S m).Pairwise (fun a b=>a.1≠b.1):=by
 intro m
 induction m with
 |zero=>intro _;exact .nil
 |succ m ih=>
  intro hm;unfold cH;rw [List.pairwise_append];refine ⟨ih omm,?_,?_⟩
  ·split<;>simp
  ·intro a ha b hb;split at hb
   ·next k kk v hs=>simp at hb;subst hb;obtain ⟨i,k',hi,Bl⟩:=CJ ha;intro e;have:=I.pS i m k _ _ omm omm (by rw [Bl];simp only [] at e;rw [e]) hs;omega
   ·simp at hb
theorem CK {n count az e:Nat} {S:Tb Value} (T:ny n count az e S):∀m,m<=n->(cH S m).length=cR m S:=by
 intro m
 induction m with
 |zero=>intro _;simp [cH,cR]
 |succ m ih=>
  intro hm;unfold cH;rw [age,ih omm];cases hS:S m with
  |none=>simp [cR,hS]
  |some p=>obtain ⟨k,u⟩:=p;obtain ⟨x,rfl⟩:=T.int m k u hS;simp [cR,hS]
def R6 (x:Nat×Nat):Nat×Int:=(x.1,(x.2:Int))
theorem all' {w:World} {b s az count:Nat} {f:Nat->Option Nat} (h:cL w b s az count f):Calls prog 65 #[ρ b] w fun r w'=>
 r= .returned (.func (.func 140) #[] #[ρ w.heap.size])/\∃L:List (Nat×Nat),mE f L/\L.length=count/\Bo w (L.map R6) w':=by
 obtain ⟨n,e,S,hI,T,hf,hn⟩:=h;refine (gP.WM hI T.fit.Sk T.int).mono ?_;rintro r w' ⟨rfl,L0,⟨hp,hs⟩,hA⟩;have hv:∀x,x∈L0->∃v:Nat,x.2=v/\f x.1=some v:=fun x hx=>by obtain ⟨i,kk,hi,hS⟩:=CJ (hp.mem_iff.1 hx);obtain ⟨v,hu⟩:=hn i _ _ hi hS;simp at hu;exact ⟨v,hu.2,(hf _ _).2 ⟨i,hi,by rw [hS,hu.1,hu.2]⟩⟩
 have hl:(L0.map fun x=>(x.1,x.2.toNat)).map R6=L0:=by rw [List.map_map];refine (List.map_congr_left fun x hx=>?_).trans (List.map_id L0);obtain ⟨v,h1,-⟩:=hv x hx;obtain ⟨k,y⟩:=x;simp only at h1;subst h1;simp [R6]
 refine ⟨rfl,L0.map fun x=>(x.1,x.2.toNat),⟨?_,fun k v=>?_⟩,?_,by rw [hl];exact hA⟩
 ·rw [List.pairwise_map];have h1:L0.Pairwise (fun a b=>a.1≠b.1):=(hp.pairwise_iff (fun h=>fun e=>h e.symm)).2 (E6 T.inv n (afF _));exact (h1.and hs).imp fun ⟨a,b⟩=>by simp only;omega
 ·constructor
  ·intro hm;obtain ⟨x,hx,Wi⟩:=List.mem_map.1 hm;obtain ⟨v',h1,h2⟩:=hv x hx;simp at Wi;rw [<-Wi.1,h2,<-Wi.2,h1];simp
  ·intro hm;obtain ⟨i,hi,hS⟩:=(hf k v).1 hm;exact List.mem_map.2 ⟨(k,(v:Int)),hp.mem_iff.2 (M5 hi hS),smm⟩
 ·rw [List.length_map,hp.length_eq,CK T n (afF _),T.cR]
end Go.Proofs.YtblkblclmbhjiaaGreat.Ix
