/- Of the proof that VmKeeps holds: a key keeps its node, what traps leaves no trace. No condition. -/
import Derived.Test.YtblkblclmbhjiaaGreatL11
import Derived.WalkMore
import Derived.ScopeJumps
import Derived.Defers
set_option linter.unusedVariables false
set_option linter.unusedSimpArgs false
set_option maxHeartbeats 40000000
set_option maxRecDepth 100000
namespace Go.Proofs.YtblkblclmbhjiaaGreat.Ma
open Go.RowKit ak.Vm
open ak hiding aL an aj
open dT (bP bG d_)
open Ix (cL)
theorem enters (n:Nat) (hn:n < 42) (args:Array Value) (w:World):(callFunc (Cb n) args).run Tryz.prog w= .ok (.enter (Cb n) args) w:=by
 have hc:n=0\/n=1\/n=2\/n=3\/n=4\/n=5\/n=6\/n=7\/n=8\/n=9\/n=10\/n=11\/n=12\/n=13\/n=14\/n=15\/n=16\/n=17\/n=18\/n=19\/n=20\/n=21\/n=22\/n=23\/n=24\/n=25\/n=26\/n=27\/n=28\/n=29\/n=30\/n=31\/n=32\/n=33\/n=34\/n=35\/n=36\/n=37\/n=38\/n=39\/n=40\/n=41:=by omega
 rcases hc with rfl|rfl|rfl|rfl|rfl|rfl|rfl|rfl|rfl|rfl|rfl|rfl|rfl|rfl|rfl|rfl|rfl|rfl|rfl|rfl|rfl|rfl|rfl|rfl|rfl|rfl|rfl|rfl|rfl|rfl|rfl|rfl|rfl|rfl|rfl|rfl|rfl|rfl|rfl|rfl|rfl|rfl
 all_goals (unfold Cb;go_simp)
theorem Cc (K:Kc) (C:Co) (p:aO) (c:Cp) (total:Int) (t:fI) (used:Int) (rv:Value) (n:Nat) (hn:n < 42):(rD K C p c total t used rv)[18+n]? =some (K.steps n):=by
 have hc:n=0\/n=1\/n=2\/n=3\/n=4\/n=5\/n=6\/n=7\/n=8\/n=9\/n=10\/n=11\/n=12\/n=13\/n=14\/n=15\/n=16\/n=17\/n=18\/n=19\/n=20\/n=21\/n=22\/n=23\/n=24\/n=25\/n=26\/n=27\/n=28\/n=29\/n=30\/n=31\/n=32\/n=33\/n=34\/n=35\/n=36\/n=37\/n=38\/n=39\/n=40\/n=41:=by omega
 rcases hc with rfl|rfl|rfl|rfl|rfl|rfl|rfl|rfl|rfl|rfl|rfl|rfl|rfl|rfl|rfl|rfl|rfl|rfl|rfl|rfl|rfl|rfl|rfl|rfl|rfl|rfl|rfl|rfl|rfl|rfl|rfl|rfl|rfl|rfl|rfl|rfl|rfl|rfl|rfl|rfl|rfl|rfl
 all_goals rfl
section
variable {w w':World} {C C':Co} {U U':Ru} {RO RO':List Nat} {K:Kc} {p:aO} {c:Cp} {t t':fI} {used used':Int} {hv hv':Value} {jv jx:Nat->Value} {s s' s0:St} {r r':Rn} {rv rv':Value} {mb rb:Nat} {T:Map} {st:Std}
theorem Mx.iV (h:Mx w C RO K p c s t used rv) (o:Nat) (v:Value) (hb:(rD K C p c s.total t used rv).setIfInBounds o v=rD K C p c s.total t' used' rv'):bu w (w.setCell (π C.mb o) v) C C/\Mx (w.setCell (π C.mb o) v) C RO K p c s t' used' rv':=by
 have R:=h.rel;have F:ax [C.mb] w (w.setCell (π C.mb o) v):=(ax.refl _ w).setCell (by simp) _;refine ⟨⟨rfl,F.mono (by intro k hk;simp at hk;subst hk;simp [Co.l]),fun _ hb=> .inl hb⟩,⟨⟨?_,?_,?_,?_,?_⟩,h.sep.nd,fun b hb=>Nat.lt_of_lt_of_le (h.sep.lt b hb) F.size,h.sep.ro,fun b hb=>Nat.lt_of_lt_of_le (h.sep.cY b hb) F.size⟩⟩
 ·rw [<-hb];exact h.m.aM.set o v
 ·exact h.m.prog.aB F fun b hb hc=>by simp at hc;subst hc;exact h.cr hb (by simp [Co.l])
 ·exact h.m.ar.aB F fun b hb hc=>by simp at hc;subst hc;exact R.ma hb
 ·exact h.m.ix.aB F ⟨by simp;exact fun e=>R.mx e.symm,by simp;exact fun e=>R.ms e.symm⟩
 ·exact h.m.vs.aB F fun b hb hc=>by simp at hc;subst hc;exact R.mv (aK.2 hb)
theorem cD.iV (h:cD w C U RO K p c t used hv jv s r) (o:Nat) (v:Value) (hb:(rD K C p c s.total t used (ρ U.rb)).setIfInBounds o v=rD K C p c s.total t' used' (ρ U.rb)):cD (w.setCell (π C.mb o) v) C U RO K p c t' used' hv jv s r:=by obtain ⟨k1,k2⟩:=h.mx.iV o v hb;exact h.oh k1 k2
theorem LK {b cap:Nat} (h3:Row w 40 5 (.slice (some (π b 0)) p.code.length cap) p.code.length (bQ p)) {i:Nat} (hi:i < p.code.length):
 w.cell? (π b (i*5))=some (ι (ai p i).op)/\w.cell? (π b (i*5+1))=some (ι (ai p i).a)/\w.cell? (π b (i*5+2))=some (ι (ai p i).b)/\w.cell? (π b (i*5+3))=some (ι (ai p i).c)/\w.cell? (π b (i*5+4))=some (ι (ai p i).d):=by
 have key:∀k,k < 5->w.cell? (π b (i*5+k))=some (bQ p (i*5+k)):=fun k hk=>h3.cell (o:=i*5+k) (by omega);have hd:∀k,k < 5->(i*5+k) / 5=i:=fun k hk=>by omega
 have hm:∀k,k < 5->(i*5+k) % 5=k:=fun k hk=>by omega
 refine ⟨(key 0 (by omega)).trans ?_,(key 1 (by omega)).trans ?_,(key 2 (by omega)).trans ?_,(key 3 (by omega)).trans ?_,(key 4 (by omega)).trans ?_⟩
 ·unfold bQ;rw [hd 0 (by omega),hm 0 (by omega)];rfl
 ·unfold bQ;rw [hd 1 (by omega),hm 1 (by omega)];rfl
 ·unfold bQ;rw [hd 2 (by omega),hm 2 (by omega)];rfl
 ·unfold bQ;rw [hd 3 (by omega),hm 3 (by omega)];rfl
 ·unfold bQ;rw [hd 4 (by omega),hm 4 (by omega)];rfl
theorem cD.XL (h:cD w C U RO K p c t used hv jv s r) (hp:0 < p.code.length):∃b cap,K.c= .slice (some (π b 0)) p.code.length cap/\Row w 40 5 (.slice (some (π b 0)) p.code.length cap) p.code.length (bQ p)/\b∈RO:=by obtain ⟨b,cap,fN,nO,lF,hb⟩:=h.m.prog.cd.some hp;have h3:=h.m.prog.cd;rw [fN] at h3;exact ⟨b,cap,fN,h3,h.m.prog.ro b (.inr (.inr (.inr (.inr (.inl (aK.2 (by rw [fN];rfl)))))))⟩
end
theorem lG {P:Program} {a:Act} {w:World} {Q:Exit->Act->World->Prop} {c rest:Code} (l:Nat) (J:Act->World->Prop) (μ:Act->World->Nat) (hf:findLabel c l=some (Code.seq Code.skip rest))
 (pass:∀a w,J a w->rest.wp P (Exit.jump l (fun a' w'=>J a' w'/\μ a' w' < μ a w) Q) a w) (first:(∀a w,J a w->rest.wp P (Exit.jump l J Q) a w)->c.wp P (Exit.jump l J Q) a w):(Code.scope c).wp P Q a w:=
 wp_scope_jumps l J μ hf (first fun a w h=>Code.wp_mono (fun e a' w' h'=>by
  cases e<;>first|exact h'|exact ⟨h'.1,h'.2.1⟩) (pass a w h)) (fun a w h=>wp_seq (wp_skip (pass a w h)))
section
variable {w w':World} {C C':Co} {U U':Ru} {RO RO':List Nat} {K:Kc} {p:aO} {c:Cp} {t t':fI} {used used':Int} {hv hv':Value} {jv jx:Nat->Value} {s s' s0:St} {r r':Rn} {rv rv':Value} {mb rb:Nat} {T:Map} {st:Std}
structure N6 (K:Kc) (mb:Nat) (p:aO) (c:Cp):Prop where
 gQ:sC p c
 nd:K.nd=bH (aw p c)
 BP:K.nd<=4194304
 check:bo p=0
 steps:∀n,n < 42->K.steps n= .func (.func (Cb n)) #[ρ mb] #[]
theorem N6.ev {K:Kc} {mb:Nat} {p:aO} {c:Cp} {s:St} (h:N6 K mb p c) (hI:Inv (aw p c) s):im K p c s:=
 ⟨hI,h.gQ,h.nd,h.BP,(cK h.check).1.g,(cK h.check).1.t⟩
def rN (w wr:World) (mb rb:Nat) (RO:List Nat) (K:Kc) (p:aO) (c:Cp) (t:fI) (T:Map) (s0:St) (x0:SR) (f:Nat):Prop:=
 ∃(n:Nat) (x:SR) (st:Std) (RO':List Nat),(∀b,b∈RO->b∈RO')/\In wr mb rb RO' K p c t n x/\Kept RO w wr/\ft p T x.2 st/\eY (aw p c) p.vars.length s0 x/\Small n x.2/\left p x.2 st<=f/\
  iU p c gD x0=(n+(iU p c f x).1,(iU p c f x).2)/\n+f<=gD
def Ran (w:World) (mb rb:Nat) (RO:List Nat) (K:Kc) (p:aO) (c:Cp) (t:fI) (z:Nat×SR) (e:Ending) (w':World):Prop:=
 e= .returned (.tuple #[])/\∃RO',(∀b,b∈RO->b∈RO')/\In w' mb rb RO' K p c t z.1 z.2/\Kept RO w w'
theorem rN.left {w wr:World} {x0:SR} {f:Nat} (V:Env p c T) (h:rN w wr mb rb RO K p c t T s0 x0 f):0 < f:=by obtain ⟨n,x,st,RO',-,-,-,C,-,-,hl,-⟩:=h;have:=BA V C;omega
theorem Gp.LM {n:Nat} {r:Rn} (h:Small n r) (hn:n<=gD):Gp r:=by unfold gD at hn;exact ⟨by have:=h.stack;omega,by have:=h.loops;omega,by have:=h.told;omega,by have:=h.bm;omega⟩
def FrS (mb rb:Nat) (a:Act):Prop:=∃J:Nat->Value,a={tmps:=#[ρ mb,J 1,ρ rb,J 3,J 4,J 5,J 6,J 7,J 8,J 9,J 10,J 11,J 12,J 13,J 14,J 15,J 16,J 17,J 18,J 19,J 20,J 21,J 22,J 23,J 24,J 25,J 26,J 27,J 28,J 29,J 30,J 31,J 32,J 33,J 34,J 35,J 36,J 37,J 38,J 39,J 40,J 41,J 42,J 43,J 44,J 45,J 46,J 47,J 48,J 49,J 50,J 51,J 52,J 53],defers:=[]}
def qO (mb:Nat) (w:World):Nat:=match w.cell? ⟨mb,17,none⟩ with|some (.int _ u)=>u.toNat|_=>0
theorem yu {w:World} {n:Nat} {x:SR} (h:In w mb rb RO K p c t (n:Nat) x):qO mb w=n:=by
 obtain ⟨C,U,hv,jv,h1,h2,h3⟩:=h;have h4:w.cell? (π mb 17)=some (ι n):=by rw [<-h1];exact h3.m.aM.cell 17
 unfold qO;rw [h4];rfl
theorem vT (M:N6 K mb p c) (V:Env p c T) {x0:SR} (hg:rN w w mb rb RO K p c t T s0 x0 gD):
 Calls Tryz.prog 62 #[ρ mb] w (Ran w mb rb RO K p c t (iU p c gD x0)):=by
 have h0:=hg;obtain ⟨n,x,st,RO',ho,⟨C0,U0,Ρ,jv0,XM,XN,A0⟩,-⟩:=h0;have oC:w.cell? (π mb 60)=some (ρ rb):=by rw [<-XM,<-XN];exact A0.m.aM.cell 60
 have HG:=ae hg;have HM:=ae M;have HV:=ae V;clear hg ho A0 XM XN M V;go_enter Tryz.func62,Tryz.ntmps62;go_wp2_with fail;refine lG 0 (fun a' wr=>FrS mb rb a'/\∃f,rN w wr mb rb RO K p c t T s0 x0 f) (fun _ wr=>gD - qO mb wr) rfl ?_ ?_
 ·rintro a' wr ⟨⟨J,rfl⟩,f,Bk⟩;have hf0:=Bk.left HV.o;obtain ⟨n,⟨s1,r1⟩,st1,kG,ho,⟨C1,U1,fN,jv1,kX,lE,A1⟩,hk,G1,H1,Q1,hl,uh,NH⟩:=Bk;dsimp only at A1 G1 H1 Q1 hl;obtain ⟨cb,zF,Dd,Rt,NY⟩:=A1.XL (by have:=G1.lt;omega);obtain ⟨k0,k1,k2,k3,k4⟩:=LK Rt G1.lt;have m5:wr.cell? (π mb 5)=some K.c:=by rw [<-kX];exact A1.m.aM.cell 5
  rw [Dd] at m5;have m17:wr.cell? (π mb 17)=some (ι n):=by rw [<-kX];exact A1.m.aM.cell 17
  have c1:wr.cell? (π rb 1)=some (ι r1.at_):=by rw [<-lE];exact A1.r.c_.cell 1
  have a8:=G1.lt;have lm:mb < wr.heap.size:=by rw [<-kX];exact A1.m.aM.lt
  have lr:rb < wr.heap.size:=by rw [<-lE];exact A1.r.c_.lt
  have lc:cb < wr.heap.size:=A1.sep.cY cb NY;have Eo:=ae A1;have N7:=ae G1;have HH1:=ae H1;have SM:=ae Q1;have AK:=ae hl;have XO:=ae uh;have pZ:=ae hk;have B7:=ae ho;have qN:=ae kX;have Df:=ae lE;have XP:p.code.length<=262144:=(cK HM.o.check).1.code;clear A1 G1 H1 Q1 hl uh hk ho kX lE Dd Rt NY oC;generalize hi:ai p r1.at_=i at*;have HI:=ae hi;clear hi;generalize Da:r1.at_=Gq at*;have XQ:=ae Da;clear Da;generalize p.code.length=cl at*;go_wp2_with fail;go_region;have B1:=(Eo.o.box (.cells (aA i) 40)).drewN 1;have N1:ay (wr.alloc (.cells (aA i) 40)).drew wr.heap.size 40 (aA i):=ay.new wr _ _;have B1:cD (wr.alloc (.cells (aA i) 40)).drew C1 U1 (wr.heap.size::kG) K p c t n fN jv1 s1 r1:=B1;have K1:Kept kG wr (wr.alloc (.cells (aA i) 40)).drew:=Kept.ah (((Below.refl _ wr).alloc (Nat.le_refl _) _).trans (au _ _ 1)) Eo.o.sep.cY;have e17:(wr.alloc (.cells (aA i) 40)).drew.cell? (π mb 17)=some (ι n):=by rw [<-qN.o];exact B1.m.aM.cell 17
  have e1:(wr.alloc (.cells (aA i) 40)).drew.cell? (π rb 1)=some (ι Gq):=by rw [<-Df.o,<-XQ.o];exact B1.r.c_.cell 1
  have fm:∀o,(wr.alloc (.cells (aA i) 40)).drew.frozen? (π mb o)=false:=by rw [<-qN.o];exact B1.m.aM.frozen
  have fr:∀o,(wr.alloc (.cells (aA i) 40)).drew.frozen? (π rb o)=false:=by rw [<-Df.o];exact B1.r.c_.frozen
  have nm:mb≠rb:=by rw [<-qN.o,<-Df.o];exact fun e=>B1.sep.cu (b:=C1.mb) (by simp [Co.l]) (by rw [e];simp [Ru.l])
  have dC:=ae B1;have N8:=ae N1;have φ:=ae K1;have jo:IntKind.i64.wrap ((Gq:Int)+1)=Gq+1:=IntWalk.i64_in _ ⟨by omega,by omega⟩;have ot:n<=20000:=by unfold gD at NH;omega
  have qD:IntKind.i64.wrap ((n:Int)+1)=n+1:=IntWalk.i64_in _ ⟨by omega,by omega⟩;clear B1 N1 K1 k0 k1 k2 k3 k4 m5 m17 c1 lm lr lc;unfold aA at dC N8 φ e17 e1 fm fr;generalize (wr.alloc (.cells #[ι i.op,ι i.a,ι i.b,ι i.c,ι i.d] 40)).drew=w1 at*;generalize wr.heap.size=bx at*;go_wp2_with fail;have A2:=dC.o.iu 1 (ι ((Gq:Int)+1)) (r':=bI r1) (by rw [<-XQ.o];rfl) rfl rfl rfl rfl rfl dC.o.r.gm;have A3:=A2.iV 17 (ι ((n:Int)+1)) (used':=(n:Int)+1) rfl;rw [Df.o,qN.o] at A3;have nb1:bx≠rb:=fun e=>dC.o.sep.ur (b:=bx) (by simp) (by rw [e,<-Df.o];simp [Ru.l]);have nb2:bx≠mb:=fun e=>dC.o.sep.cr (b:=bx) (by simp) (by rw [e,<-qN.o];simp [Co.l]);have N3:=ay.other (ay.other N8.o nb1 1 (ι ((Gq:Int)+1))) nb2 17 (ι ((n:Int)+1));have K3:Kept kG w1 ((w1.setCell (π rb 1) (ι ((Gq:Int)+1))).setCell (π mb 17) (ι ((n:Int)+1))):=Kept.cE (S:=C1.l++U1.l) (((ax.refl _ w1).setCell (by rw [<-Df.o];simp [Ru.l]) _).setCell (by rw [<-qN.o];simp [Co.l]) _) (fun b hb hc=>by
   rcases List.mem_append.1 hc with hc|hc
   ·exact dC.o.sep.cr (b:=b) (by simp [hb]) hc
   ·exact dC.o.sep.ur (b:=b) (by simp [hb]) hc) (fun b hb=>dC.o.sep.cY b (by simp [hb]))
  obtain ⟨Tt,Jz⟩:0<=i.op/\i.op<=41:=by have ho:=(np HV.o N7.o).1;rw [XQ.o,HI.o] at ho;unfold iP aF at ho;simpa only [Bool.and_eq_true,decide_eq_true_eq] using ho
  have χ:i.op.toNat < 42:=by omega
  have fj:((w1.setCell (π rb 1) (ι ((Gq:Int)+1))).setCell (π mb 17) (ι ((n:Int)+1))).cell? (π mb (18+i.op.toNat))=some (.func (.func (Cb i.op.toNat)) #[ρ mb] #[]):=by have h1:=A3.m.aM.cell (18+i.op.toNat);rw [qN.o,Cc _ _ _ _ _ _ _ _ _ χ,HM.o.steps _ χ] at h1;exact h1
  have hex:=Ts (A3.drewN 1) (HM.o.ev HH1.o.inv) HV.o N7.o HH1.o (Gp.LM SM.o (by omega));rw [qN.o,Df.o,XQ.o,HI.o] at hex;have aay:=fun (args:Array Value) (wz:World)=>enters i.op.toNat χ args wz;have y0:((w1.setCell (π rb 1) (ι ((Gq:Int)+1))).setCell (π mb 17) (ι ((n:Int)+1))).cell? (π bx 0)=some (ι (i.op.toNat:Nat)):=by rw [Int.toNat_of_nonneg Tt];exact N3.cell 0
  have y0':((w1.setCell (π rb 1) (ι ((Gq:Int)+1))).setCell (π mb 17) (ι ((n:Int)+1))).cell? (π bx 1)=some (ι i.a):=N3.cell 1;have y2:((w1.setCell (π rb 1) (ι ((Gq:Int)+1))).setCell (π mb 17) (ι ((n:Int)+1))).cell? (π bx 2)=some (ι i.b):=N3.cell 2;have y3:((w1.setCell (π rb 1) (ι ((Gq:Int)+1))).setCell (π mb 17) (ι ((n:Int)+1))).cell? (π bx 3)=some (ι i.c):=N3.cell 3;have y4:((w1.setCell (π rb 1) (ι ((Gq:Int)+1))).setCell (π mb 17) (ι ((n:Int)+1))).cell? (π bx 4)=some (ι i.d):=N3.cell 4;unfold aQ aA at hex;rw [show (ι i.op)=ι (i.op.toNat:Nat) by rw [Int.toNat_of_nonneg Tt]] at hex;have XR:=ae (((pZ.o.trans φ.o (fun b hb=>B7.o b hb)).trans K3 (fun b hb=>B7.o b hb)).trans (Kept.ah (RO:=kG) (au _ ((w1.setCell (π rb 1) (ι ((Gq:Int)+1))).setCell (π mb 17) (ι ((n:Int)+1))) 1) (fun b hb=>A3.sep.cY b (by simp [hb]))) (fun b hb=>B7.o b hb));have HEX:=ae hex;have Rw:aC p c i (s1,bI r1)=dY p c (s1,r1):=by unfold dY;rw [XQ.o,HI.o]
  rw [Rw] at HEX;have Gn:=ae (And.intro Tt Jz);clear A2 A3 nb1 nb2 N3 K3 Tt Jz hex Rw e17 e1 fm fr N8 dC;generalize i.op.toNat=on at*;have hoI:(on:Int) < 42:=by omega
  have aaz:(0:Int)<=on:=by omega
  generalize Cb on=F at*;generalize (w1.setCell (π rb 1) (ι ((Gq:Int)+1))).setCell (π mb 17) (ι ((n:Int)+1))=w3 at*
  go_still_tail 8,(by kernel_rfl)
  change wpList _ _ _ _ _ (w3.drewN 1);generalize w3.drewN 1=w4 at*;go_wp2_with fail;have Tu:=zs HV.o N7.o HH1.o;rw [show aC p c (ai p r1.at_) (s1,bI r1)=dY p c (s1,r1) from rfl] at Tu;have hsm:=vy (p:=p) (c:=c) (x:=(s1,r1)) SM.o;have LN:=fun st' C'=>qH (c:=c) (s:=s1) HV.o N7.o (st':=st') C';rw [show aC p c (ai p r1.at_) (s1,bI r1)=dY p c (s1,r1) from rfl] at LN;have hrn:=XO.o;obtain ⟨f',rfl⟩:∃f',f=f'+1:=⟨f - 1,by omega⟩;rw [show iU p c (f'+1) (s1,r1)=if jH (dY p c (s1,r1)) then (1,dY p c (s1,r1)) else ((iU p c f' (dY p c (s1,r1))).1+1,(iU p c f' (dY p c (s1,r1))).2) from rfl] at hrn;have Pz:=ae Tu;have xl:=ae hsm;have LO:=ae LN;have Dj:=ae hrn;clear Tu hsm LN hrn jo qD fj aay y0 y0' y2 y3 y4 hoI aaz χ nm XP a8 XO;generalize dY p c (s1,r1)=y at*;refine HEX.o.mono ?_;rintro e w5 ⟨rfl,ψ,Rx,⟨C5,U5,XS,jv5,XT,PA,A5⟩,VD⟩;have d8:w5.cell? (π rb 8)=some (.bool y.2.done):=by rw [<-PA];exact A5.r.c_.cell 8
  have d6:w5.cell? (π rb 6)=some (ι y.2.br):=by rw [<-PA];exact A5.r.c_.cell 6
  have fF:∀b,b∈RO->b∈ψ:=fun b hb=>Rx b (by simp [B7.o b hb]);have Ry:Kept RO w w5:=XR.o.trans VD (fun b hb=>by simp [B7.o b hb]);have iM:=ae (show In w5 mb rb ψ K p c t ((n+1:Nat):Int) y from ⟨C5,U5,XS,jv5,XT,PA,A5⟩);have xi:=ae fF;have Gr:=ae Ry;clear HEX A5 Rx VD XT PA fF Ry XR φ;by_cases hs:jH y=true
  ·have fy:=ae (show Ran w mb rb RO K p c t (iU p c gD x0) (.returned (.tuple #[])) w5 from by
    have hr:=Dj.o;rw [if_pos hs] at hr;rw [hr];exact ⟨rfl,ψ,xi.o,iM.o,Gr.o⟩)
   have XU:y.2.done=true\/(y.2.done=false/\(y.2.br==0)=false):=by
    unfold jH at hs;cases hd:y.2.done with
    |true=>exact .inl rfl
    |false=>rw [hd] at hs;simp at hs;exact .inr ⟨rfl,by simpa using hs⟩
   clear hs Dj iM Pz xl LO xi Gr;rcases XU with hd|⟨hd,htz⟩
   ·rw [hd] at d8;go_wp2;simp only [Exit.jump];go_end0;exact fy.o
   ·rw [hd] at d8;go_wp2;simp only [Exit.jump];go_end0;exact fy.o
  ·obtain ⟨ht0,ia⟩:=oU hs;rw [ht0] at d6;rw [ia] at d8;obtain ⟨st',C'⟩:=Pz.o.next ht0 ia;have hlf:=LO.o st' C';have JB:=AK.o;have qP:n+1+f'<=gD:=by omega
   have Bk:rN w w5 mb rb RO K p c t T s0 x0 f':=by refine ⟨n+1,y,st',ψ,xi.o,iM.o,Gr.o,C',Pz.o.hold,xl.o,by omega,?_,qP⟩;have hr:=Dj.o;rw [if_neg hs] at hr;rw [hr];congr 1;omega
   have EC:qO mb w5=n+1:=yu iM.o;have uP:qO mb wr=n:=yu (show In wr mb rb kG K p c t n (s1,r1) from ⟨C1,U1,fN,jv1,qN.o,Df.o,Eo.o⟩);have XV:n < gD:=by omega
   have HGO:=ae (show (∃f,rN w w5 mb rb RO K p c t T s0 x0 f)/\gD - qO mb w5 < gD - qO mb wr from ⟨⟨f',Bk⟩,by rw [EC,uP];omega⟩);clear Bk EC uP XV hlf JB C' ht0 ia hs Dj iM Pz xl LO xi Gr;go_wp2;go_step3;exact ⟨rfl,⟨pC rfl,HGO.o.1⟩,HGO.o.2⟩
 ·intro hp;go_wp2;go_step3;simp only [Exit.then]
  apply_assumption
  refine hp _ _ ⟨?_,gD,HG.o⟩;exact pC rfl
end
def zO (w:World) (b:Nat) (x0 x1 x2:Value):World:=((w.setCell (π b 0) x0).setCell (π b 1) x1).setCell (π b 2) x2
theorem eT (w:World) (b:Nat) (x0 x1 x2:Value):ax [b] w (zO w b x0 x1 x2):=(((ax.refl _ w).setCell (by simp) _).setCell (by simp) _).setCell (by simp) _
theorem eU {w:World} {b:Nat} {y0 y1 y2:Value} (h:ay w b 44 #[y0,y1,y2]) (x0 x1 x2:Value):ay (zO w b x0 x1 x2) b 44 #[x0,x1,x2]:=((h.set 0 _).set 1 _).set 2 _
theorem yv {w:World} {b:Nat} {y0 y1 y2:Value} (h:ay w b 44 #[y0,y1,y2]):w.cell? (π b 0)=some y0/\w.cell? (π b 1)=some y1/\w.cell? (π b 2)=some y2/\∀o,w.frozen? (π b o)=false:=⟨h.cell 0,h.cell 1,h.cell 2,h.frozen⟩
section
variable {w w':World} {C C':Co} {U U':Ru} {RO RO':List Nat} {K:Kc} {p:aO} {c:Cp} {t t':fI} {used used':Int} {hv hv':Value} {jv jx:Nat->Value} {s s' s0:St} {r r':Rn} {rv rv':Value} {mb rb:Nat} {T:Map} {st:Std}
def ou (w wr:World) (C:Co) (RO:List Nat) (K:Kc) (p:aO) (c:Cp) (t:fI) (used:Int) (s0:St) (j:List sm) (i:Nat):Prop:=
 ∃C' s',bu w wr C C'/\Mx wr C' RO K p c s' t used (.pointer none)/\Inv (aw p c) s'/\Vm.Good (aw p c) p.vars.length s0 (j.drop (j.length - i)) s'
def vU (w:World) (C:Co) (RO:List Nat) (K:Kc) (p:aO) (c:Cp) (t:fI) (used:Int) (s:St) (b4:Nat) (x0 x1 x2:Value) (e:Ending) (w':World):Prop:=
 e= .returned (.tuple #[])/\∃C' wz,bu w wz C C'/\Mx wz C' RO K p c s t used (.pointer none)/\ax [b4] wz w'/\ay w' b4 44 #[x0,x1,x2]
theorem IC {α:Type} {l:List α} {i:Nat} (h:i < l.length):∃u,l.reverse[i]? =some u/\l.drop (l.length - (i+1))=u::l.drop (l.length - i):=by
 have h1:l.length - (i+1) < l.length:=by omega
 refine ⟨l[l.length - (i+1)],?_,?_⟩
 ·rw [List.getElem?_reverse h,List.getElem?_eq_getElem (by omega)];congr 1;congr 1;omega
 ·rw [List.drop_eq_getElem_cons h1];congr 2;omega
theorem aeu {p:Prop} (h:p:=by
 have rF:=ae gM;clear k1 k2 gM HC;go_wp2_with fail
 go_roundg i'
 case measure=>omega
 case rel=>exact ⟨i',rfl,rfl,by omega,rF⟩):p:=h
theorem acg {p:Prop} (h:p:=by
 go_wp2_with fail;refine HC.o.mono ?_;rintro e w9 ⟨rfl,C9,k1,k2⟩;have gM:ou w w9 C RO K p c t used s0 jl i':=⟨C9,_,pZ.o.trans k1,k2,Ce.o,Cd.o⟩;exact aeu):p:=h
theorem vV (M:N6 K C.mb p c) (h:cD w C U RO K p c t used hv jv s r) (hI:Inv (aw p c) s) (hG:Vm.Good (aw p c) p.vars.length s0 r.bm s) (ht:r.br≠0) (hl:r.bm.length < 1000000) {b2 b5 b4:Nat} {x0 x1 x2:Value} (h2:ay w b2 35 #[ρ C.mb]) (h5:ay w b5 111 #[ρ U.rb]) (h4:ay w b4 44 #[x0,x1,x2]) (r5:b5∈RO) (r4:b4∈RO):
 CallsD Tryz.prog 61 #[ρ b2,ρ b5,ρ b4] .returning w (fun e u' w'=>u'= .returning/\vU w C RO K p c t used s0 b4 (.bool false) ν (ι r.br) e w'):=by
 obtain ⟨k1,k2⟩:=h.mx.iV 60 (.pointer none) (rv':= .pointer none) rfl;have oC:w.cell? (π C.mb 60)=some (ρ U.rb):=h.m.aM.cell 60;have mf:∀o,w.frozen? (π C.mb o)=false:=h.m.aM.frozen;have c2:=h2.c1;have LP:ou w (w.setCell (π C.mb 60) (.pointer none)) C RO K p c t used s0 r.bm r.bm.length:=⟨C,s,k1,k2,hI,by rw [Nat.sub_self];exact hG⟩;have fF:∀wx C',bu w wx C C'->(wx.cell? (π b5 0)=some (ρ U.rb)/\wx.cell? (π U.rb 6)=some (ι r.br)/\wx.cell? (π U.rb 7)=some U.i_)/\Row wx 1 1 U.i_ r.bm.length jv/\(∀i u,r.bm.reverse[i]? =some u->fK wx C.mb RO (jv i) u)/\ay wx b4 44 #[x0,x1,x2]:=by intro wx C' k;have hb:=h.r.c_.aB k.f (h.sep.uc (by simp [Ru.l]));exact ⟨⟨(h5.aB k.f (h.sep.cr r5)).cell 0,hb.cell 6,hb.cell 7⟩,h.r.i_.aB k.f (fun b hb=>h.sep.uc (by simp [Ru.l,aK.2 hb])),fun i u hu=>(h.r.NS i u hu).aB k.f (fun b hb=>h.sep.cr hb),h4.aB k.f (h.sep.cr r4)⟩
 have htz:(r.br==0)=false:=by simpa using ht
 have HM:=ae M;have HS:=ae LP;have xi:=ae fF;have HL:=ae hl;have HR4:=ae (And.intro (h.sep.cr r4) r4);obtain ⟨⟨q5,q6,q7⟩,-⟩:=fF _ _ k1;have Rz:=h.r.i_.val;have Kz:=ae Rz;clear h k1 k2 h2 h5 h4 r5 r4 M hI hG ht LP fF hl Rz;generalize gB:r.br=tr at*;generalize N9:r.bm=jl at*;have aa1:=HL.o;have hjv:U.i_=ν/\jl.length=0\/∃b cap,U.i_= .slice (some (π b 0)) jl.length cap:=by
  rcases Kz.o with h|⟨b,cap,h1,-⟩
  ·exact .inl h
  ·exact .inr ⟨b,cap,h1⟩
 clear Kz gB N9;rcases hjv with ⟨fN,hz⟩|⟨jb,aa7,fN⟩
 ·rw [fN] at q7;have HZ:=ae hz;clear fN hz
  go_enter_d Tryz.func61,Tryz.ntmps61
  go_wp2_with fail
  go_loopg [3] 0 (fun f s3 wr=>wr=w.setCell (π C.mb 60) (.pointer none)/\s3=ι (-1:Int))
  case atStart=>exact ⟨rfl,rfl⟩
  case round=>
   obtain ⟨rfl,rfl⟩:=hrel;obtain ⟨C',s',k1,k2,RA,Tv⟩:=HS.o;obtain ⟨-,-,-,b4x⟩:=xi.o _ _ k1;obtain ⟨z0,z1,z2,zf⟩:=yv b4x;have HE:=ae (show vU w C RO K p c t used s0 b4 (.bool false) ν (ι tr) (.returned (.tuple #[])) (zO (w.setCell (π C.mb 60) (.pointer none)) b4 (.bool false) ν (ι tr)) from by
    have hG2:s'=s0:=by have:=Tv;rw [HZ.o,Nat.sub_zero,List.length_eq_zero_iff.1 HZ.o] at this;exact this
    subst hG2;exact ⟨rfl,C',_,k1,k2,eT _ _ _ _ _,eU b4x _ _ _⟩)
   clear k1 k2 RA Tv b4x;go_wp2;exact bodyPost_ret (results_none rfl _ _ _) rfl HE.o
 ·rw [fN] at q7;have HV:=ae fN;clear fN
  go_enter_d Tryz.func61,Tryz.ntmps61
  go_wp2_with fail
  go_loopg [3] jl.length (fun f s3 wr=>∃i:Nat,s3=ι ((i:Int) - 1)/\i=f/\i<=jl.length/\Hid (ou w wr C RO K p c t used s0 jl i))
  case atStart=>exact ⟨jl.length,rfl,rfl,Nat.le_refl _,HS⟩
  case round=>
   clear HS;obtain ⟨i,rfl,rfl,hi,HU⟩:=hrel;obtain ⟨C',s',k1,k2,RA,Tv⟩:=HU.o;obtain ⟨⟨d5,d6,d7⟩,PB,dat,ω⟩:=xi.o _ _ k1;rw [HV.o] at d7 PB;by_cases N_:i=0
   ·subst N_;obtain ⟨z0,z1,z2,zf⟩:=yv ω;have HE:=ae (show vU w C RO K p c t used s0 b4 (.bool false) ν (ι tr) (.returned (.tuple #[])) (zO wr b4 (.bool false) ν (ι tr)) from by
     have hG2:s'=s0:=by have:=Tv;rw [Nat.sub_zero,List.drop_length] at this;exact this
     subst hG2;exact ⟨rfl,C',_,k1,k2,eT _ _ _ _ _,eU ω _ _ _⟩)
    clear k1 k2 RA Tv ω PB dat HU;go_wp2;exact bodyPost_ret (results_none rfl _ _ _) rfl HE.o
   ·obtain ⟨i',rfl⟩:∃i',i=i'+1:=⟨i - 1,by omega⟩;have hii:i' < jl.length:=by omega
    obtain ⟨u,EC,uP⟩:=IC hii;rw [uP] at Tv;obtain ⟨yw,RC,LQ⟩:=Tv;have XW:=dat i' u EC;have dj:wr.cell? (π jb i')=some (jv i'):=PB.cell (by omega);have kX:=k1.mb;have pZ:=ae k1;have kY:=ae k2;have HII:=ae RA;have Cd:=ae LQ;have Ce:=ae RC;have qN:=ae kX;have EV:=HM.o.ev RA;have Gs:=ae EV;have pa:p.ap.length<=256:=by have:=EV.g16;omega
    have yO:((i'+1:Nat):Int) - 1=i':=by omega
    have hnr:∀b,b∈RO->b∉C'.l:=fun b hb=>k2.cr hb;have HNR:=ae hnr;clear k1 k2 RA dat ω PB HU LQ RC kX EV N_ hnr EC uP;rw [yO];generalize jv i'=fv at*;cases u with
    |var vi oE=>obtain ⟨x1,x2,x3,op,bb,cc,dd,rfl,e1,e2,e3,-⟩:=XW;rw [<-qN.o] at e2;have HC:=ae (Ec kY.o yw e1 e2 e3);clear yw;exact acg
    |mark oE=>obtain ⟨x1,x2,rfl,e1,e2,-⟩:=XW;rw [<-qN.o] at e1;obtain ⟨q,n,hq,hn,hf⟩:=yw;have HC:=ae (BH kY.o hf hq hn e1 e2);have HUE:=ae (show k_ (aw p c) (.mark oE) s'=kD s' n oE by simp only [k_,hf]);clear hf hn;go_wp2_with fail;refine HC.o.mono ?_;rintro e w9 ⟨rfl,C9,k1,k2⟩;have gM:ou w w9 C RO K p c t used s0 jl i':=⟨C9,_,pZ.o.trans k1,k2,by rw [<-HUE.o];exact Ce.o,by rw [<-HUE.o];exact Cd.o⟩;exact aeu
    |cut q d=>obtain ⟨x1,x2,x3,rfl,e1,e2,e3,-⟩:=XW;rw [<-qN.o] at e1;obtain ⟨hq,hd,bz⟩:=yw;have HC:=ae (Ed kY.o HII.o HM.o.BP pa hq hd bz Gs.o.total e1 e2 e3);clear bz;exact acg
    |put q d x=>obtain ⟨x1,x2,x3,x4,rfl,e1,e2,e3,e4,-⟩:=XW;rw [<-qN.o] at e1;obtain ⟨hq,hd,hx,a8,Cf⟩:=yw;have HC:=ae (Ee kY.o HM.o.BP pa hq hd x hx (Gs.o.room hq a8 Cf) Gs.o.total e1 e2 e3 e4);clear hx a8 Cf;exact acg
    |out q x ahead=>
     obtain ⟨x1,x2,x3,x4,av,rfl,e1,e2,e3,e4,e5,y1,y2,y3,y4,y5⟩:=XW;rw [<-qN.o] at e1;obtain ⟨hq,hx,a8,Cf,hah⟩:=yw;have hal:ahead.length<=9223372036854775807:=by
      have h8:=e5.val;rcases h8 with ⟨-,h8⟩|⟨b,cap,-,h8,h9,-⟩
      ·omega
      ·have:maxLen=9223372036854775807:=by rfl
       omega
     have HC:=ae (Eg kY.o HM.o.BP pa hq x hx (Gs.o.room hq a8 Cf) Gs.o.total hah hal e1 e2 e3 e4 e5 y1 y2 y3 y4 y5);clear hx a8 Cf hah hal e5;exact acg
end
section
variable {w w':World} {C C':Co} {U U':Ru} {RO RO' XI:List Nat} {K:Kc} {p:aO} {c:Cp} {t t':fI} {used used':Int} {hv hv':Value} {jv jx:Nat->Value} {s s' s0:St} {r r':Rn} {rv rv':Value} {mb rb:Nat} {T:Map} {st:Std}
def rest (w:World) (C:Co):List Nat:=(List.range w.heap.size).filter (fun b=>decide (b∉C.l))
theorem nE {b:Nat}:b∈rest w C↔b < w.heap.size/\b∉C.l:=by unfold rest;simp
theorem Mx.rest (h:Mx w C RO K p c s t used rv):Mx w C (rest w C) K p c s t used rv:=
 h.less (fun b hb=> .inr (nE.1 hb)) (fun b hb=>nE.2 ⟨h.sep.cY b hb,h.cr hb⟩)
theorem narrow (h:Mx w C RO K p c s t used rv) (ho:∀b,b∈Ma.rest w C->b∈XI) (k:Kept (Ma.rest w C) w w') (hm:C'.mb=C.mb) (m:Mx w' C' XI K p c s' t' used' rv'):bu w w' C C'/\Mx w' C' RO K p c s' t' used' rv':=by
 have hr:∀b,b∈RO->b∈XI:=fun b hb=>ho b (nE.2 ⟨h.sep.cY b hb,h.cr hb⟩);refine ⟨⟨hm,⟨k.os,k.tape,k.output,k.size,fun i hi hs=>k.block i (nE.2 ⟨hi,hs⟩)⟩,fun b hb=>?_⟩,⟨⟨m.m.aM,?_,m.m.ar,m.m.ix,m.m.vs⟩,m.sep.nd,m.sep.lt,fun b hb hc=>m.sep.ro b hb (hr b hc),fun b hb=>Nat.lt_of_lt_of_le (h.sep.cY b hb) k.size⟩⟩
 ·by_cases h1:b∈C.l
  ·exact .inl h1
  ·by_cases h2:b < w.heap.size
   ·exact absurd (ho b (nE.2 ⟨h2,h1⟩)) (m.sep.ro b hb)
   ·exact .inr (by omega)
 ·exact ⟨m.m.prog.g,m.m.prog.v,m.m.prog.t,m.m.prog.o,m.m.prog.cd,m.m.prog.qs,h.m.prog.ro⟩
theorem Mx.begin (h:Mx w C RO K p c s t used (ρ rb)) {key a:Nat} (hb:ay w rb 126 #[.int .u64 key,ι a,ν,ν,ν,ν,ι 0,ν,.bool false]) (hn:rb∉C.l) (ho:rb∉RO):
 cD w C ⟨rb,ν,ν,ν,ν⟩ RO K p c t used ν (fun _=> ι 0) s (eR key a):=by
 have hl:(Ru.mk rb ν ν ν ν).l=[rb]:=rfl;refine ⟨h.m,⟨hb,Row.nil _ _ _ _,Row.nil _ _ _ _,Row.nil _ _ _ _,Row.nil _ _ _ _,fun i u hu=>by simp [eR] at hu,rfl⟩,?_,?_,?_,h.sep.cY⟩
 ·rw [hl,List.nodup_append];exact ⟨h.sep.nd,by simp,fun x hx y hy=>by simp at hy;subst hy;rintro rfl;exact hn hx⟩
 ·rw [hl];intro b iN;rcases List.mem_append.1 iN with iN|iN
  ·exact h.sep.lt b iN
  ·simp at iN;subst iN;exact hb.lt
 ·rw [hl];intro b iN;rcases List.mem_append.1 iN with iN|iN
  ·exact h.sep.ro b iN
  ·simp at iN;subst iN;exact ho
theorem LR (h:Mx w C RO K p c s t used (ρ rb)) {cs:Array Value} (hr:ay w rb 126 cs) (h6:cs[6]? =some (ι 0)) (hn:rb∉C.l) {b2 b5 b4:Nat} {x0 x1 x2:Value} (h2:ay w b2 35 #[ρ C.mb]) (h5:ay w b5 111 #[ρ rb]) (h4:ay w b4 44 #[x0,x1,x2]) (r5:b5∈RO) (r4:b4∈RO):
 CallsD Tryz.prog 61 #[ρ b2,ρ b5,ρ b4] .returning w (fun e u' w'=>u'= .returning/\vU w C RO K p c t used s b4 x0 x1 x2 e w'):=by
 obtain ⟨k1,k2⟩:=h.iV 60 (.pointer none) (rv':= .pointer none) rfl;have oC:w.cell? (π C.mb 60)=some (ρ rb):=h.m.aM.cell 60;have mf:∀o,w.frozen? (π C.mb o)=false:=h.m.aM.frozen;have c2:=h2.c1;have q5:(w.setCell (π C.mb 60) (.pointer none)).cell? (π b5 0)=some (ρ rb):=(h5.aB k1.f (h.cr r5)).cell 0;have q6:(w.setCell (π C.mb 60) (.pointer none)).cell? (π rb 6)=some (ι 0):=((hr.aB k1.f hn).cell 6).trans h6;have HB:=ae (show vU w C RO K p c t used s b4 x0 x1 x2 (.returned (.tuple #[])) (w.setCell (π C.mb 60) (.pointer none)) from ⟨rfl,C,_,k1,k2,ax.refl _ _,h4.aB k1.f (h.cr r4)⟩);clear h k1 k2 h2 h5 h4 r5 r4 hr h6 hn
 go_enter_d Tryz.func61,Tryz.ntmps61
 go_wp2;exact bodyPost_ret (results_none rfl _ _ _) rfl HB.o
end
section
variable {w w':World} {C C':Co} {U U':Ru} {RO RO':List Nat} {K:Kc} {p:aO} {c:Cp} {t t':fI} {used used':Int} {hv hv':Value} {jv jx:Nat->Value} {s s' s0:St} {r r':Rn} {rv rv':Value} {mb rb:Nat} {T:Map} {st:Std}
structure xp (w w5:World) (bx:Nat) (C:Co) (K:Kc) (p:aO) (c:Cp) (s:St) (t:fI) (used:Int) (key:Nat) (a:Int) (rv:Value):Prop where
 at_:bx=w.heap.size
 mx:Mx w5 C (bx::(bx+1)::(bx+1+1+1)::Ma.rest w C) K p c s t used rv
 b2:ay w5 bx 35 #[ρ C.mb]
 b4:ay w5 (bx+1) 44 #[.bool false,ν,ι 0]
 b5:ay w5 (bx+1+1+1) 111 #[ρ (bx+1+1)]
 rb:ay w5 (bx+1+1) 126 #[.int .u64 key,ι a,ν,ν,ν,ν,ι 0,ν,.bool false]
 nc:bx+1+1∉C.l
 no:bx+1+1∉(bx::(bx+1)::(bx+1+1+1)::Ma.rest w C)
 zP:Kept (Ma.rest w C) w w5
theorem acK {p:Prop} (h:p:=by
 exact .inr ⟨by omega,fun hc=>by have:=a8 _ hc;omega⟩):p:=h
theorem u_ (h:Mx w C RO K p c s t used (.pointer none)) (key:Nat) (a:Int):xp w ((((w.alloc (.cells #[ρ C.mb] 35)).alloc (.cells #[.bool false,ν,ι 0] 44)).alloc (.cells #[.int .u64 key,ι a,ν,ν,ν,ν,ι 0,ν,.bool false] 126)).alloc (.cells #[ρ (w.heap.size+1+1)] 111)) w.heap.size C K p c s t used key a (.pointer none):=by
 have sz:∀(w:World) (o:Obj),(w.alloc o).heap.size=w.heap.size+1:=fun w o=>by simp
 have b1:=ay.new w 35 #[ρ C.mb];have h1:=h.rest.box (.cells #[ρ C.mb] 35);have e1:=sz w (.cells #[ρ C.mb] 35);have k1:Below w.heap.size w (w.alloc (.cells #[ρ C.mb] 35)):=(Below.refl _ w).alloc (Nat.le_refl _) _;generalize w.alloc (.cells #[ρ C.mb] 35)=w1 at*;have b2:=ay.new w1 44 #[.bool false,ν,ι 0];have h2:=h1.box (.cells #[.bool false,ν,ι 0] 44);have e2:=sz w1 (.cells #[.bool false,ν,ι 0] 44);have b1:=b1.alloc (.cells #[.bool false,ν,ι 0] 44);have k2:=k1.alloc (by omega) (.cells #[.bool false,ν,ι 0] 44);generalize w1.alloc (.cells #[.bool false,ν,ι 0] 44)=w2 at*;have b3:=ay.new w2 126 #[.int .u64 key,ι a,ν,ν,ν,ν,ι 0,ν,.bool false];have h3:=h2.box (.cells #[.int .u64 key,ι a,ν,ν,ν,ν,ι 0,ν,.bool false] 126);have e3:=sz w2 (.cells #[.int .u64 key,ι a,ν,ν,ν,ν,ι 0,ν,.bool false] 126);have b1:=b1.alloc (.cells #[.int .u64 key,ι a,ν,ν,ν,ν,ι 0,ν,.bool false] 126);have b2:=b2.alloc (.cells #[.int .u64 key,ι a,ν,ν,ν,ν,ι 0,ν,.bool false] 126);have k3:=k2.alloc (by omega) (.cells #[.int .u64 key,ι a,ν,ν,ν,ν,ι 0,ν,.bool false] 126);generalize w2.alloc (.cells #[.int .u64 key,ι a,ν,ν,ν,ν,ι 0,ν,.bool false] 126)=w3 at*;have b4:=ay.new w3 111 #[ρ (w.heap.size+1+1)];have h4:=h3.box (.cells #[ρ (w.heap.size+1+1)] 111);have e4:=sz w3 (.cells #[ρ (w.heap.size+1+1)] 111);have b1:=b1.alloc (.cells #[ρ (w.heap.size+1+1)] 111);have b2:=b2.alloc (.cells #[ρ (w.heap.size+1+1)] 111);have b3:=b3.alloc (.cells #[ρ (w.heap.size+1+1)] 111);have k4:=k3.alloc (by omega) (.cells #[ρ (w.heap.size+1+1)] 111);generalize w3.alloc (.cells #[ρ (w.heap.size+1+1)] 111)=w4 at*;rw [e1] at e2 b2;rw [e2] at e3 b3;rw [e3] at e4 b4;have a8:∀b,b∈C.l->b < w.heap.size:=h.sep.lt;have hrt:∀b,b∈Ma.rest w C->b < w.heap.size:=fun b hb=>(nE.1 hb).1;refine ⟨rfl,h4.less (fun b hb=>?_) (fun b hb=>by simp [hb]),b1,b2,b4,b3,fun hc=>by have:=a8 _ hc;omega,fun hc=>?_,Kept.ah k4 hrt⟩
 ·simp only [List.mem_cons] at hb;rcases hb with rfl|rfl|rfl|hb
  ·exact acK
  ·exact acK
  ·exact acK
  ·exact .inl hb
 ·simp only [List.mem_cons] at hc;rcases hc with hc|hc|hc|hc
  ·omega
  ·omega
  ·omega
  ·have:=hrt _ hc;omega
theorem xp.draw {w5:World} {bx:Nat} {key:Nat} {a:Int} (h:xp w w5 bx C K p c s t used key a rv) (n:Nat):xp w (w5.drewN n) bx C K p c s t used key a rv:=
 ⟨h.at_,h.mx.drewN n,h.b2.drewN n,h.b4.drewN n,h.b5.drewN n,h.rb.drewN n,h.nc,h.no,h.zP.trans (Kept.ah (au w5.heap.size w5 n) (fun b hb=>h.mx.sep.cY b (by simp [hb]))) (fun b hb=>hb)⟩
theorem xp.enter {w5:World} {bx:Nat} {key:Nat} {a:Int} (h:xp w w5 bx C K p c s t used key a (.pointer none)):xp w ((w5.setCell (π C.mb 60) (ρ (bx+1+1))).setCell (π C.mb 17) (ι 0)) bx C K p c s t 0 key a (ρ (bx+1+1)):=by obtain ⟨k1,m1⟩:=h.mx.iV 60 (ρ (bx+1+1)) (rv':=ρ (bx+1+1)) rfl;obtain ⟨k2,m2⟩:=m1.iV 17 (ι 0) (used':=0) rfl;have k:=k1.trans k2;have hk:Kept (Ma.rest w C) w5 ((w5.setCell (π C.mb 60) (ρ (bx+1+1))).setCell (π C.mb 17) (ι 0)):=Kept.cE k.f (fun b hb=>h.mx.cr (by simp [hb])) (fun b hb=>h.mx.sep.cY b (by simp [hb]));exact ⟨h.at_,m2,h.b2.aB k.f (h.mx.cr (by simp)),h.b4.aB k.f (h.mx.cr (by simp)),h.b5.aB k.f (h.mx.cr (by simp)),h.rb.aB k.f h.nc,h.nc,h.no,h.zP.trans hk (fun b hb=>hb)⟩
end
section
variable {w w' wr:World} {C C' C1:Co} {U U':Ru} {RO RO' kG:List Nat} {K:Kc} {p:aO} {c:Cp} {t t':fI} {used used':Int} {hv hv':Value} {jv jx:Nat->Value} {s s' s0 s1:St} {t0:fI} {vW:Int} {r r':Rn} {rv rv':Value} {mb rb bx:Nat} {T:Map} {st:Std}
theorem eK {b o:Nat} {U:TypeId} {cs:Array Value} {v:Value} (h:ay w b U cs) (hv:cs[o]? =some v):w.setCell (π b o) v=w:=by
 have hh:(w.setCell (π b o) v).heap=w.heap:=Array.ext_getElem? fun k=>by
  rw [nR];split
  ·next e=>
   subst e;unfold ay at h;rw [h];have:cs.setIfInBounds o v=cs:=Array.ext_getElem? fun i=>by
    rw [Array.getElem?_setIfInBounds];split
    ·next e=>subst e;split
             ·exact hv.symm
             ·next h2=>rw [Array.getElem?_eq_none (by omega)]
    ·rfl
   simp [this]
  ·rfl
 cases w;simp only [World.setCell] at hh ⊢;congr
structure Over (w wr:World) (bx:Nat) (C C1:Co) (kG:List Nat) (K:Kc) (p:aO) (c:Cp) (s1:St) (t:fI) (used:Int) (tv:Value) (told:List Nat) (br:Int) (x0 x1 x2:Value):Prop where
 at_:bx=w.heap.size
 mb:C1.mb=C.mb
 mx:Mx wr C1 kG K p c s1 t used (ρ (bx+1+1))
 ro:∀b,b∈(bx::(bx+1)::(bx+1+1+1)::Ma.rest w C)->b∈kG
 b2:ay wr bx 35 #[ρ C.mb]
 b4:ay wr (bx+1) 44 #[x0,x1,x2]
 b5:ay wr (bx+1+1+1) 111 #[ρ (bx+1+1)]
 rb:∃cs,ay wr (bx+1+1) 126 cs/\cs[5]? =some tv/\cs[6]? =some (ι br)
 nc:bx+1+1∉C1.l
 td:Row wr 46 1 tv told.length (fun i=> .int .u64 (told.getD i 0:Nat))
 tn:∀b,b∈vb tv->b∉C1.l/\b≠bx+1/\b∉Ma.rest w C
 zP:Kept (Ma.rest w C) w wr
theorem xp.LS {key:Nat} {a:Int} (h:xp w wr bx C K p c s t used key a (ρ (bx+1+1))):Over w wr bx C C (bx::(bx+1)::(bx+1+1+1)::Ma.rest w C) K p c s t used ν [] 0 (.bool false) ν (ι 0):=
 ⟨h.at_,rfl,h.mx,fun b hb=>hb,h.b2,h.b4,h.b5,⟨_,h.rb,rfl,rfl⟩,h.nc,Row.nil _ _ _ _,fun b hb=>by simp [vb,Value.ownBlock] at hb,h.zP⟩
theorem xp.all {key a:Nat} (h:xp w wr bx C K p c s t used key a (ρ (bx+1+1))):cD wr C ⟨bx+1+1,ν,ν,ν,ν⟩ (bx::(bx+1)::(bx+1+1+1)::Ma.rest w C) K p c t used ν (fun _=> ι 0) s (eR key a):=h.mx.begin h.rb h.nc h.no
theorem xp.ran {key a:Nat} {w6:World} (h:xp w w6 bx C K p c s t 0 key a (ρ (bx+1+1))) {z:Nat×SR} (hi:In wr C.mb (bx+1+1) kG K p c t z.1 z.2) (ho:∀b,b∈(bx::(bx+1)::(bx+1+1+1)::Ma.rest w C)->b∈kG) (hk:Kept (bx::(bx+1)::(bx+1+1+1)::Ma.rest w C) w6 wr):
 ∃C1 tv,Over w wr bx C C1 kG K p c z.2.1 t z.1 tv z.2.2.told z.2.2.br (.bool false) ν (ι 0)/\∃U hv jv,U.rb=bx+1+1/\cD wr C1 U kG K p c t z.1 hv jv z.2.1 z.2.2:=by
 obtain ⟨C1,U,hv,jv,h1,h2,A⟩:=hi;have hm:=A.mx;rw [h2] at hm;have hb:=A.r.c_;rw [h2] at hb;refine ⟨C1,U.kF,⟨h.at_,h1,hm,ho,ay.kept h.b2 hk (by simp),ay.kept h.b4 hk (by simp),ay.kept h.b5 hk (by simp),⟨_,hb,rfl,rfl⟩,?_,A.r.kF,?_,h.zP.trans hk (fun b hb=>by simp [hb])⟩,U,hv,jv,h2,A⟩
 ·rw [<-h2];exact A.sep.uc (by simp [Ru.l])
 ·exact fun b hb=>⟨A.sep.uc (by simp [Ru.l,hb]),fun e=>A.sep.ur (b:=b) (ho b (by rw [e];simp)) (by simp [Ru.l,hb]),fun hc=>A.sep.ur (b:=b) (ho b (by simp [hc])) (by simp [Ru.l,hb])⟩
def mj (t:fI) (VE:Bool) (told:List Nat):fI:=if VE then {t with gY:=wrap64 (t.gY+1),fS:=wrap64 (t.fS+told.length)} else {t with bt:=wrap64 (t.bt+1),fS:=wrap64 (t.fS+told.length)}
def vX (w:World) (v:Value) (l:List Nat):Prop:=(v=ν/\l=[])\/∃b cs,v= .slice (some (π b 0)) l.length l.length/\ay w b 46 cs/\∀i,i < l.length->cs[i]? =some (.int .u64 (l.getD i 0:Nat))
def eD (w:World) (C:Co) (RO:List Nat) (K:Kc) (p:aO) (c:Cp) (t:fI) (s:St) (key:Nat) (e:Ending) (w':World):Prop:=
 ∃(tv:Value) (C':Co),e= .returned (.agg #[.bool (if dE p c s key=0 then sH p c s key else false),tv,ι (dE p c s key)])/\bu w w' C C'/\
  Mx w' C' RO K p c (dF p c s key) (if dE p c s key=0 then mj t (sH p c s key) (gK p c s key) else t) (lD p c s key).1 (.pointer none)/\
  vX w' tv (if dE p c s key=0 then gK p c s key else [])/\∀b,b∈vb tv->b∉C'.l/\b∉Ma.rest w C
theorem Mx.XX (h:Mx w C RO' K p c s t used rv) (hs:∀b,b∈RO->b∈RO') (hp:∀b,(b∈vb K.g\/b∈vb K.v\/b∈vb K.t\/b∈vb K.o\/b∈vb K.c\/b∈vb K.qs)->b∈RO):Mx w C RO K p c s t used rv:=
 ⟨⟨h.m.aM,⟨h.m.prog.g,h.m.prog.v,h.m.prog.t,h.m.prog.o,h.m.prog.cd,h.m.prog.qs,hp⟩,h.m.ar,h.m.ix,h.m.vs⟩,h.sep.nd,h.sep.lt,fun b hb hc=>h.sep.ro b hb (hs b hc),fun b hb=>h.sep.cY b (hs b hb)⟩
section
variable {tv x0 x1 x2 y0 y1 y2:Value} {told:List Nat} {br vY:Int} {w8 w9 wz:World} {C2:Co} {s2:St} {t2:fI}
theorem Over.zQ (h:Mx w C RO K p c s0 t0 vW (.pointer none)) (O:Over w wr bx C C1 kG K p c s1 t used tv told br x0 x1 x2) (k:bu wr w8 C1 C2) (m:Mx w8 C2 kG K p c s2 t2 vY rv):bu w w8 C C2/\Mx w8 C2 RO K p c s2 t2 vY rv:=
 narrow h (fun b hb=>O.ro b (by simp [hb])) (O.zP.trans (Kept.cE (RO:=Ma.rest w C) k.f (fun b hb=>O.mx.cr (O.ro b (by simp [hb]))) (fun b hb=>O.mx.sep.cY b (O.ro b (by simp [hb])))) (fun b hb=>hb)) (k.mb.trans O.mb) m
theorem pf (h:Mx w C RO K p c s0 t0 vW (.pointer none)) (hb:bx=w.heap.size) (k:bu w w8 C C2) (m:Mx w8 C2 RO K p c s2 t2 vY rv) (hn:bx+1∉C2.l) (f:ax [bx+1] w8 w9):bu w w9 C C2/\Mx w9 C2 RO K p c s2 t2 vY rv:=
 ⟨k.new (by omega) f,m.aB f (fun b hb hc=>by simp at hc;subst hc;exact hn hb) (fun b iN hc=>by simp at hc;subst hc;have:=h.sep.cY _ iN;omega)⟩
theorem Over.close (h:Mx w C RO K p c s0 t0 vW (.pointer none)) (O:Over w wr bx C C1 kG K p c s1 t used tv told 0 x0 x1 x2) (k:bu wr w8 C1 C1) (m:Mx w8 C1 kG K p c s1 t2 vY (ρ (bx+1+1))) (f:ax [bx+1] w8 w9) (b4:ay w9 (bx+1) 44 #[y0,y1,y2]):
 CallsD Tryz.prog 61 #[ρ bx,ρ (bx+1+1+1),ρ (bx+1)] .returning w9 (fun e u' w'=>u'= .returning/\e= .returned (.tuple #[])/\
  ∃C2,bu w w' C C2/\Mx w' C2 RO K p c s1 t2 vY (.pointer none)/\ay w' (bx+1) 44 #[y0,y1,y2]/\Row w' 46 1 tv told.length (fun i=> .int .u64 (told.getD i 0:Nat))/\∀b,b∈vb tv->b∉C2.l/\b∉Ma.rest w C):=by
 obtain ⟨k1,m1⟩:=O.zQ h k m;have n4:bx+1∉C1.l:=O.mx.cr (O.ro _ (by simp));obtain ⟨k2,m2⟩:=pf h O.at_ k1 m1 n4 f;have n2:bx∉C1.l:=O.mx.cr (O.ro _ (by simp));have n5:bx+1+1+1∉C1.l:=O.mx.cr (O.ro _ (by simp));have c2:=(O.b2.aB k.f n2).aB f (by simp);have c5:=(O.b5.aB k.f n5).aB f (by simp;omega);obtain ⟨cs,qt,-,h6⟩:=O.rb;have cr:=(qt.aB k.f O.nc).aB f (by simp);have td:=(O.td.aB k.f (fun b hb=>(O.tn b (aK.2 hb)).1)).aB f (fun b hb=>by simp;exact (O.tn b (aK.2 hb)).2.1);have tl:∀b,b∈vb tv->b < w9.heap.size:=by
  intro b hb;rcases td.val with ⟨e,-⟩|⟨b',cap,e,-,-,hl⟩
  ·rw [e] at hb;simp [vb,Value.ownBlock] at hb
  ·rw [e] at hb;simp [vb,Value.ownBlock] at hb;subst hb;exact hl
 have m3:Mx w9 C1 (bx::(bx+1)::(bx+1+1+1)::RO) K p c s1 t2 vY (ρ (bx+1+1)):=m2.less (fun b hb=>by
  simp only [List.mem_cons] at hb;rcases hb with rfl|rfl|rfl|hb
  ·exact .inr ⟨c2.lt,n2⟩
  ·exact .inr ⟨b4.lt,n4⟩
  ·exact .inr ⟨c5.lt,n5⟩
  ·exact .inl hb) (fun b hb=>by simp [hb])
 rw [<-O.mb] at c2;refine (LR m3 cr h6 O.nc c2 c5 b4 (by simp) (by simp)).mono ?_;rintro e u' w' ⟨rfl,rfl,C3,wz,k3,m4,kf,kb⟩;have m5:=m4.XX (RO:=RO) (fun b hb=>by simp [hb]) h.m.prog.ro;have n43:bx+1∉C3.l:=m4.cr (by simp);obtain ⟨k4,m6⟩:=pf h O.at_ (k2.trans k3) m5 n43 kf;refine ⟨rfl,rfl,C3,k4,m6,kb,(td.aB k3.f (fun b hb=>(O.tn b (aK.2 hb)).1)).aB kf (fun b hb=>by simp;exact (O.tn b (aK.2 hb)).2.1),fun b hb=>⟨fun hc=>?_,(O.tn b hb).2.2⟩⟩;rcases k3.c b hc with hc|hc
 ·exact (O.tn b hb).1 hc
 ·have:=tl b hb;omega
end
theorem Over.iV {tv x0 x1 x2:Value} {told:List Nat} {br:Int} (O:Over w wr bx C C1 kG K p c s1 t used tv told br x0 x1 x2) (o:Nat) (v:Value) (hb:(rD K C1 p c s1.total t used (ρ (bx+1+1))).setIfInBounds o v=rD K C1 p c s1.total t' used' (ρ (bx+1+1))):
 Over w (wr.setCell (π C.mb o) v) bx C C1 kG K p c s1 t' used' tv told br x0 x1 x2:=by
 obtain ⟨k,m⟩:=O.mx.iV o v hb;rw [O.mb] at k m;obtain ⟨cs,q1,q2,q3⟩:=O.rb;exact ⟨O.at_,O.mb,m,O.ro,O.b2.aB k.f (O.mx.cr (O.ro _ (by simp))),O.b4.aB k.f (O.mx.cr (O.ro _ (by simp))),O.b5.aB k.f (O.mx.cr (O.ro _ (by simp))),⟨cs,q1.aB k.f O.nc,q2,q3⟩,O.nc,
  O.td.aB k.f (fun b hb=>(O.tn b (aK.2 hb)).1),O.tn,O.zP.trans (Kept.cE (RO:=Ma.rest w C) k.f (fun b hb=>O.mx.cr (O.ro b (by simp [hb]))) (fun b hb=>O.mx.sep.cY b (O.ro b (by simp [hb])))) (fun b hb=>hb)⟩
theorem Over.draw {tv x0 x1 x2:Value} {told:List Nat} {br:Int} (O:Over w wr bx C C1 kG K p c s1 t used tv told br x0 x1 x2) (n:Nat):Over w (wr.drewN n) bx C C1 kG K p c s1 t used tv told br x0 x1 x2:=by
 obtain ⟨cs,q1,q2,q3⟩:=O.rb;have b:=au wr.heap.size wr n;exact ⟨O.at_,O.mb,O.mx.drewN n,O.ro,O.b2.drewN n,O.b4.drewN n,O.b5.drewN n,⟨cs,q1.drewN n,q2,q3⟩,O.nc,
  O.td.aB (ax.ah (S:=[]) b) (by simp),O.tn,O.zP.trans (Kept.ah b (fun b hb=>O.mx.sep.cY b (O.ro b (by simp [hb])))) (fun b hb=>hb)⟩
theorem adA {p:Prop} (h:p:=by
 go_enter Tryz.func63,Tryz.ntmps63;go_wp2;exact bodyPost_ret (results_tmp rfl _ _ _) rfl ⟨rfl,rfl⟩):p:=h
theorem nG (w:World):Calls Tryz.prog 63 #[ν] w (fun e w'=>e= .returned ν/\w=w'):=by exact adA
theorem sP (w:World) {b n cap:Nat} (h:n<=cap):Calls Tryz.prog 63 #[.slice (some (π b 0)) n cap] w (fun e w'=>e= .returned (.slice (some (π b 0)) n n)/\w=w'):=by exact adA
end
section
variable {w w' wr:World} {C C' C1:Co} {U U':Ru} {RO RO' kG:List Nat} {K:Kc} {p:aO} {c:Cp} {t t':fI} {used used':Int} {hv hv':Value} {jv jx:Nat->Value} {s s' s0 s1:St} {t0:fI} {vW:Int} {r r':Rn} {rv rv':Value} {mb rb bx:Nat} {T:Map} {st:Std}
theorem acV {p:Prop} (h:p:=by
 obtain ⟨cs,q1,q2,q3⟩:=O9.rb;exact (q1.cell 5).trans q2):p:=h
theorem acU {p:Prop} (h:p:=by
 obtain ⟨cs,q1,q2,q3⟩:=O8.rb;exact (q1.cell 5).trans q2):p:=h
theorem acT {p:Prop} (h:p:=by
 obtain ⟨cs,q1,q2,q3⟩:=HO.o.rb;exact (q1.cell 5).trans q2):p:=h
theorem adT {p:Prop} (h:p:=by
 go_wp2_with fail;refine (nG _).mono ?_;rintro e R4 ⟨rfl,rfl⟩;have tS:=ae (mD.o.close HH.o (bu.refl _ _) mD.o.mx (eT _ (bx+1) (.bool false) ν (ι 0)) (eU mD.o.b4 (.bool false) ν (ι 0)));go_wp2_with fail;refine leaves_cons (f:=61) (args:=#[ρ bx,ρ (bx+1+1+1),ρ (bx+1)]) (by simp) (by simp [go_sem]) ?_;refine tS.o.mono ?_;rintro e u' CE ⟨rfl,rfl,C2,k3,m3,kb,td,tn⟩;have iY:dE p c s key=0:=by unfold dE;rw [HZ.o,pM.o]
 have ot:dF p c s key=z.2.1:=by unfold dF;rw [iY,if_pos rfl,HZ.o]
 have hh:=wF.o;have tT:gK p c s key=z.2.2.told:=by unfold gK;rw [HZ.o]
 obtain ⟨a0,a1,a2⟩:=kb.c3;have fy:=ae (show eD w C RO K p c t s key (.returned (.agg #[.bool false,ν,ι 0])) CE from by
  refine ⟨ν,C2,?_,k3,?_,?_,?_⟩
  ·rw [iY,if_pos rfl,hh]
  ·rw [ot,iY,if_pos rfl,hh,tT,HZ.o];have:mj t false z.2.2.told={t with bt:=wrap64 (t.bt+1),fS:=wrap64 t.fS}:=by have e0:z.2.2.told=[]:=List.length_eq_zero_iff.1 jF;unfold mj;rw [e0];simp
   rw [this];exact m3
  ·rw [iY,if_pos rfl,tT];exact .inl ⟨rfl,List.length_eq_zero_iff.1 jF⟩
  ·exact fun b hb=>by simp [vb,Value.ownBlock] at hb)
 clear tS k3 m3 kb td tn mD;refine ⟨.agg #[.bool false,ν,ι 0],?_,fy.o⟩;simp [results,Tryz.results17,go_sem,a0,a1,a2]):p:=h
theorem Cz (M:N6 K C.mb p c) (V:Env p c T) (hS:mh p) (h:Mx w C RO K p c s t used (.pointer none)) (hI:Inv (aw p c) s) {key:Nat} (hk:key < 18446744073709551616) (hf:s.f key=none):
 Calls Tryz.prog 17 #[ρ C.mb,.int .u64 key] w (eD w C RO K p c t s key):=by
 have qd:∀(fn:Fn) (first cap:Array Value) (w:World),(Instr.makeFunc fn first cap).run Tryz.prog w= .ok (.func fn first cap) w:=fun _ _ _ _=>rfl;have m4:w.cell? (π C.mb 4)=some (ι p.aJ):=h.m.aM.cell 4;have lm:C.mb < w.heap.size:=h.m.aM.lt;have B4:=u_ h key p.aJ;have HM:=ae M;have HV:=ae V;have HS:=ae hS;have HI:=ae hI;have HF:=ae hf;have m10:((((w.alloc (.cells #[ρ C.mb] 35)).alloc (.cells #[.bool false,ν,ι 0] 44)).alloc (.cells #[.int .u64 key,ι p.aJ,ν,ν,ν,ν,ι 0,ν,.bool false] 126)).alloc (.cells #[ρ (w.heap.size+1+1)] 111)).cell? (π C.mb 10)=some (ρ C.xb):=B4.mx.m.aM.cell 10;have HG:=ae (Ix.yk B4.mx.m.ix (key:=key) hf);have mU:=ae B4;have wF:=ae (show sH p c s key=false by unfold sH;rw [hf]);have HH:=ae h;clear M V hS hI hf B4 h
 go_enter_defers Tryz.func17,Tryz.ntmps17
 go_wp2_with fail;refine HG.o.mono ?_;rintro e w5 ⟨rfl,n5,rfl⟩;have B5:=mU.o.draw n5;have nA:=ae B5;clear mU HG m10 m4 lm;generalize eO:w.heap.size=bx at*;generalize World.drewN _ _=w5 at*;clear eO;have d2:=B5.b2.c1;have d5:=B5.b5.c1;have f60:∀o,w5.frozen? (π C.mb o)=false:=B5.mx.m.aM.frozen;have oC:w5.cell? (π C.mb 60)=some (.pointer none):=B5.mx.m.aM.cell 60;have m17:w5.cell? (π C.mb 17)=some (ι used):=B5.mx.m.aM.cell 17;have nm:bx≠C.mb:=fun e=>B5.mx.cr (b:=bx) (by simp) (by rw [e];simp [Co.l]);have MR:bx+1+1+1≠C.mb:=fun e=>B5.mx.cr (b:=bx+1+1+1) (by simp) (by rw [e];simp [Co.l]);clear B5;go_wp2_with fail;go_region;have B6:=nA.o.enter.draw 1;change xp w ((w5.setCell (π C.mb 60) (ρ (bx+1+1))).setCell (π C.mb 17) (ι 0)).drew bx C K p c s t 0 key p.aJ (ρ (bx+1+1)) at B6;clear d2 d5 f60 oC m17 nA;generalize ((w5.setCell (π C.mb 60) (ρ (bx+1+1))).setCell (π C.mb 17) (ι 0)).drew=w6 at*;have HX:=ae (show KU p c s key=p.aJ by unfold KU;rw [HF.o]);generalize Da:p.aJ=lM at*;clear Da;have d2:=B6.b2.c1;have d5:=B6.b5.c1;have r1:w6.cell? (π (bx+1+1) 1)=some (ι lM):=B6.rb.cell 1;by_cases kL:lM < 0
 ·have uR:¬0<=lM:=by omega
  have gA:lD p c s key=(0,(s,eR key 0)):=by unfold lD;rw [HX.o,if_pos kL]
  have O:Over w w6 bx C C (bx::(bx+1)::(bx+1+1+1)::Ma.rest w C) K p c (lD p c s key).2.1 t (lD p c s key).1 ν (lD p c s key).2.2.told (lD p c s key).2.2.br (.bool false) ν (ι 0):=by rw [gA];exact B6.LS
  have gB:(lD p c s key).2.2.br=0:=by rw [gA];rfl
  have g5:=O.b5.c1;clear B6 d2 d5 gA;generalize hz:lD p c s key=z at*;have HZ:=ae hz;obtain ⟨C1,kG,O2⟩:∃C1 kG,Over w w6 bx C C1 kG K p c z.2.1 t z.1 ν z.2.2.told z.2.2.br (.bool false) ν (ι 0):=⟨_,_,O⟩;have HO:=ae O2;clear hz O O2;have g6:w6.cell? (π (bx+1+1) 6)=some (ι 0):=by obtain ⟨cs,q1,q2,q3⟩:=HO.o.rb;rw [gB] at q3;exact (q1.cell 6).trans q3
  generalize w6=w7 at*;have jF:z.2.2.told.length=0:=by
   rcases HO.o.td.val with ⟨-,h⟩|⟨b,cap,h,-⟩
   ·exact h
   ·exact absurd h (by simp)
  have d2:=HO.o.b2.c1;have mB:w7.cell? (π (bx+1+1) 5)=some ν:=by exact acT
  have CA:w7.cell? (π C.mb 13)=some (ι t.gY):=by rw [<-HO.o.mb];exact HO.o.mx.m.aM.cell 13
  have CB:w7.cell? (π C.mb 14)=some (ι t.bt):=by rw [<-HO.o.mb];exact HO.o.mx.m.aM.cell 14
  have pn:w7.cell? (π C.mb 15)=some (ι t.fS):=by rw [<-HO.o.mb];exact HO.o.mx.m.aM.cell 15
  have fm:∀o,w7.frozen? (π C.mb o)=false:=by rw [<-HO.o.mb];exact HO.o.mx.m.aM.frozen
  have CC:bx+1+1≠C.mb:=fun e=>HO.o.nc (by rw [e,<-HO.o.mb];simp [Co.l]);have CD:bx+1≠C.mb:=fun e=>HO.o.mx.cr (b:=bx+1) (HO.o.ro _ (by simp)) (by rw [e,<-HO.o.mb];simp [Co.l]);go_wp2_with fail;have O8:=HO.o.iV 14 (ι (wrap64 (t.bt+1))) (t':={t with bt:=wrap64 (t.bt+1)}) (used':=z.1) rfl;clear d2 g5 mB CA CB pn fm HO g6;generalize (w7.setCell (π C.mb 14) (ι (wrap64 (t.bt+1))))=w8 at*;have d2:=O8.b2.c1;have g5:=O8.b5.c1;have mB:w8.cell? (π (bx+1+1) 5)=some ν:=by exact acU
  have pn:w8.cell? (π C.mb 15)=some (ι t.fS):=by rw [<-O8.mb];exact O8.mx.m.aM.cell 15
  have fm:∀o,w8.frozen? (π C.mb o)=false:=by rw [<-O8.mb];exact O8.mx.m.aM.frozen
  have sh:=ae O8;clear O8;go_region;have O9:=(sh.o.iV 15 (ι (wrap64 t.fS)) (t':={t with bt:=wrap64 (t.bt+1),fS:=wrap64 t.fS}) (used':=z.1) rfl).draw 1;change Over w (w8.setCell (π C.mb 15) (ι (wrap64 t.fS))).drew bx C C1 kG K p c _ _ _ _ _ _ _ _ _ at O9;clear d2 g5 mB pn fm sh;generalize (w8.setCell (π C.mb 15) (ι (wrap64 t.fS))).drew=w9 at*;have g5:=O9.b5.c1;have mB:w9.cell? (π (bx+1+1) 5)=some ν:=by exact acV
  have MT:∀o,w9.frozen? (π (bx+1) o)=false:=O9.b4.frozen;obtain ⟨MU,MV,MX⟩:=O9.b4.c3;rw [gB] at O9;have mD:=ae O9;have pM:=ae gB;clear O9 gB nm MR CC CD qd r1 uR kL;exact adT
 ·have uR:0<=lM:=by omega
  obtain ⟨a,rfl⟩:∃a:Nat,lM=a:=⟨lM.toNat,by omega⟩;have AM:=ae B6;clear B6;have Bk:rN w6 w6 C.mb (bx+1+1) (bx::(bx+1)::(bx+1+1+1)::Ma.rest w C) K p c t T s (s,eR key a) gD:=by have eG:=at_mem HV.o HI.o key;rw [HX.o] at eG;have CF:=pH HV.o eG uR key;have hl:=oV HV.o HS.o eG uR key;rw [Int.toNat_natCast] at CF hl;exact ⟨0,_,_,_,fun b hb=>hb,⟨C,_,_,_,rfl,rfl,AM.o.all⟩,Kept.refl _ _,CF,nr HI.o hk a,⟨Nat.le_refl _,Nat.le_refl _,Nat.le_refl _,Nat.le_refl _⟩,hl,by rw [Nat.zero_add],by omega⟩
  have HR:=ae (vT HM.o HV.o Bk);clear Bk;have HZ:=ae (show lD p c s key=iU p c gD (s,eR key a) by unfold lD;rw [HX.o,if_neg (by omega),Int.toNat_natCast]);go_wp2_with fail;refine HR.o.mono ?_;rintro e w7 ⟨rfl,kG,ho,dK,MY⟩;obtain ⟨C1,tv,O,U,hv,jv,lE,A⟩:=AM.o.ran dK ho MY;clear HR dK ho MY AM d2 d5 r1;rw [<-HZ.o] at O A;have g5:=O.b5.c1;have g6:w7.cell? (π (bx+1+1) 6)=some (ι (lD p c s key).2.2.br):=by obtain ⟨cs,q1,q2,q3⟩:=O.rb;exact (q1.cell 6).trans q3
  have HO:=ae O;have HA:=ae (And.intro lE A);clear O A lE HZ;generalize hz:lD p c s key=z at*;have HZ:=ae hz;clear hz;by_cases gB:z.2.2.br=0
  ·rw [gB] at g6;rcases HO.o.td.val with ⟨fN,jF⟩|⟨tb,uf,fN,nO,lF,a8⟩
   ·subst fN;have d2:=HO.o.b2.c1;have mB:w7.cell? (π (bx+1+1) 5)=some ν:=by exact acT
    have CA:w7.cell? (π C.mb 13)=some (ι t.gY):=by rw [<-HO.o.mb];exact HO.o.mx.m.aM.cell 13
    have CB:w7.cell? (π C.mb 14)=some (ι t.bt):=by rw [<-HO.o.mb];exact HO.o.mx.m.aM.cell 14
    have pn:w7.cell? (π C.mb 15)=some (ι t.fS):=by rw [<-HO.o.mb];exact HO.o.mx.m.aM.cell 15
    have fm:∀o,w7.frozen? (π C.mb o)=false:=by rw [<-HO.o.mb];exact HO.o.mx.m.aM.frozen
    have CC:bx+1+1≠C.mb:=fun e=>HO.o.nc (by rw [e,<-HO.o.mb];simp [Co.l]);have CD:bx+1≠C.mb:=fun e=>HO.o.mx.cr (b:=bx+1) (HO.o.ro _ (by simp)) (by rw [e,<-HO.o.mb];simp [Co.l]);go_wp2_with fail;have O8:=HO.o.iV 14 (ι (wrap64 (t.bt+1))) (t':={t with bt:=wrap64 (t.bt+1)}) (used':=z.1) rfl;clear d2 g5 mB CA CB pn fm HO g6;generalize (w7.setCell (π C.mb 14) (ι (wrap64 (t.bt+1))))=w8 at*;have d2:=O8.b2.c1;have g5:=O8.b5.c1;have mB:w8.cell? (π (bx+1+1) 5)=some ν:=by exact acU
    have pn:w8.cell? (π C.mb 15)=some (ι t.fS):=by rw [<-O8.mb];exact O8.mx.m.aM.cell 15
    have fm:∀o,w8.frozen? (π C.mb o)=false:=by rw [<-O8.mb];exact O8.mx.m.aM.frozen
    have sh:=ae O8;clear O8;go_region;have O9:=(sh.o.iV 15 (ι (wrap64 t.fS)) (t':={t with bt:=wrap64 (t.bt+1),fS:=wrap64 t.fS}) (used':=z.1) rfl).draw 1;change Over w (w8.setCell (π C.mb 15) (ι (wrap64 t.fS))).drew bx C C1 kG K p c _ _ _ _ _ _ _ _ _ at O9;clear d2 g5 mB pn fm sh;generalize (w8.setCell (π C.mb 15) (ι (wrap64 t.fS))).drew=w9 at*;have g5:=O9.b5.c1;have mB:w9.cell? (π (bx+1+1) 5)=some ν:=by exact acV
    have MT:∀o,w9.frozen? (π (bx+1) o)=false:=O9.b4.frozen;obtain ⟨MU,MV,MX⟩:=O9.b4.c3;rw [gB] at O9;have mD:=ae O9;have pM:=ae gB;clear O9 gB nm MR CC CD qd;exact adT
   ·subst fN;have d2:=HO.o.b2.c1;have mB:w7.cell? (π (bx+1+1) 5)=some (.slice (some (π tb 0)) z.2.2.told.length uf):=by exact acT
    have CA:w7.cell? (π C.mb 13)=some (ι t.gY):=by rw [<-HO.o.mb];exact HO.o.mx.m.aM.cell 13
    have CB:w7.cell? (π C.mb 14)=some (ι t.bt):=by rw [<-HO.o.mb];exact HO.o.mx.m.aM.cell 14
    have pn:w7.cell? (π C.mb 15)=some (ι t.fS):=by rw [<-HO.o.mb];exact HO.o.mx.m.aM.cell 15
    have fm:∀o,w7.frozen? (π C.mb o)=false:=by rw [<-HO.o.mb];exact HO.o.mx.m.aM.frozen
    have CC:bx+1+1≠C.mb:=fun e=>HO.o.nc (by rw [e,<-HO.o.mb];simp [Co.l]);have CD:bx+1≠C.mb:=fun e=>HO.o.mx.cr (b:=bx+1) (HO.o.ro _ (by simp)) (by rw [e,<-HO.o.mb];simp [Co.l]);go_wp2_with fail;have O8:=HO.o.iV 14 (ι (wrap64 (t.bt+1))) (t':={t with bt:=wrap64 (t.bt+1)}) (used':=z.1) rfl;clear d2 g5 mB CA CB pn fm HO g6;generalize (w7.setCell (π C.mb 14) (ι (wrap64 (t.bt+1))))=w8 at*;have d2:=O8.b2.c1;have g5:=O8.b5.c1;have mB:w8.cell? (π (bx+1+1) 5)=some (.slice (some (π tb 0)) z.2.2.told.length uf):=by exact acU
    have pn:w8.cell? (π C.mb 15)=some (ι t.fS):=by rw [<-O8.mb];exact O8.mx.m.aM.cell 15
    have fm:∀o,w8.frozen? (π C.mb o)=false:=by rw [<-O8.mb];exact O8.mx.m.aM.frozen
    have sh:=ae O8;clear O8;go_region;have O9:=(sh.o.iV 15 (ι (wrap64 (t.fS+z.2.2.told.length))) (t':={t with bt:=wrap64 (t.bt+1),fS:=wrap64 (t.fS+z.2.2.told.length)}) (used':=z.1) rfl).draw 1;change Over w (w8.setCell (π C.mb 15) (ι (wrap64 (t.fS+z.2.2.told.length)))).drew bx C C1 kG K p c _ _ _ _ _ _ _ _ _ at O9;clear d2 g5 mB pn fm sh;generalize (w8.setCell (π C.mb 15) (ι (wrap64 (t.fS+z.2.2.told.length)))).drew=w9 at*;have g5:=O9.b5.c1;have mB:w9.cell? (π (bx+1+1) 5)=some (.slice (some (π tb 0)) z.2.2.told.length uf):=by exact acV
    have MT:∀o,w9.frozen? (π (bx+1) o)=false:=O9.b4.frozen;obtain ⟨MU,MV,MX⟩:=O9.b4.c3;rw [gB] at O9;have mD:=ae O9;have pM:=ae gB;clear O9 gB nm MR CC CD qd;go_wp2_with fail;refine (sP _ nO).mono ?_;rintro e R4 ⟨rfl,rfl⟩;have tS:=ae (mD.o.close HH.o (bu.refl _ _) mD.o.mx (eT _ (bx+1) (.bool false) (.slice (some (π tb 0)) z.2.2.told.length z.2.2.told.length) (ι 0)) (eU mD.o.b4 (.bool false) (.slice (some (π tb 0)) z.2.2.told.length z.2.2.told.length) (ι 0)));go_wp2_with fail;refine leaves_cons (f:=61) (args:=#[ρ bx,ρ (bx+1+1+1),ρ (bx+1)]) (by simp) (by simp [go_sem]) ?_;refine tS.o.mono ?_;rintro e u' CE ⟨rfl,rfl,C2,k3,m3,kb,td,tn⟩;have iY:dE p c s key=0:=by unfold dE;rw [HZ.o,pM.o]
    have ot:dF p c s key=z.2.1:=by unfold dF;rw [iY,if_pos rfl,HZ.o]
    have hh:=wF.o;have tT:gK p c s key=z.2.2.told:=by unfold gK;rw [HZ.o]
    obtain ⟨a0,a1,a2⟩:=kb.c3;have fy:=ae (show eD w C RO K p c t s key (.returned (.agg #[.bool false,(.slice (some (π tb 0)) z.2.2.told.length z.2.2.told.length),ι 0])) CE from by
     refine ⟨(.slice (some (π tb 0)) z.2.2.told.length z.2.2.told.length),C2,?_,k3,?_,?_,?_⟩
     ·rw [iY,if_pos rfl,hh]
     ·rw [ot,iY,if_pos rfl,hh,tT,HZ.o];exact m3
     ·rw [iY,if_pos rfl,tT];exact (by obtain ⟨cs,qt⟩:=td.c_;exact .inr ⟨tb,cs,rfl,qt,fun i hi=>(qt.cell i).symm.trans (td.cell (o:=i) (by omega))⟩)
     ·exact fun b hb=>tn b hb)
    clear tS k3 m3 kb td tn mD;refine ⟨.agg #[.bool false,(.slice (some (π tb 0)) z.2.2.told.length z.2.2.told.length),ι 0],?_,fy.o⟩;simp [results,Tryz.results17,go_sem,a0,a1,a2]
  ·have Zf:(z.2.2.br==0)=false:=by simpa using gB
   generalize Cf:z.2.2.br=tt at*;obtain ⟨MU,MV,MX⟩:=HO.o.b4.c3;have MT:∀o,w7.frozen? (π (bx+1) o)=false:=HO.o.b4.frozen;go_wp2_with fail;rw [eK HO.o.b4 rfl,eK HO.o.b4 rfl,eK HO.o.b4 rfl];have sT:=Gb HV.o HS.o HI.o hk;rw [HZ.o] at sT;obtain ⟨pq,MZ,-,-,pw,-⟩:=sT;have N9:z.2.2.bm.length < 1000000:=by have:=pw.bm;unfold gD at MZ;omega
   have R5:=vV (s0:=s) (b2:=bx) (b5:=bx+1+1+1) (b4:=bx+1) (by rw [HO.o.mb];exact HM.o) HA.o.2 pq.inv pq.ua (by rw [Cf];exact gB) N9 (by rw [HO.o.mb];exact HO.o.b2) (by rw [HA.o.1];exact HO.o.b5) HO.o.b4 (HO.o.ro _ (by simp)) (HO.o.ro _ (by simp));refine leaves_cons (f:=61) (args:=#[ρ bx,ρ (bx+1+1+1),ρ (bx+1)]) (by simp) (by simp [go_sem]) ?_;refine R5.mono ?_;rintro e u' w9 ⟨rfl,rfl,C2,wz,k1,k2,kf,kb⟩;obtain ⟨k3,m3⟩:=HO.o.zQ HH.o k1 k2;obtain ⟨k4,m4⟩:=pf HH.o HO.o.at_ k3 m3 (k2.cr (HO.o.ro _ (by simp))) kf;have iY:dE p c s key=tt:=by unfold dE;rw [HZ.o,Cf]
   have ot:dF p c s key=s:=by unfold dF;rw [iY,if_neg gB]
   obtain ⟨a0,a1,a2⟩:=kb.c3;rw [Cf] at a2;have fy:=ae (show eD w C RO K p c t s key (.returned (.agg #[.bool false,ν,ι tt])) w9 from by
    refine ⟨ν,C2,?_,k4,?_,?_,?_⟩
    ·rw [iY,if_neg gB]
    ·rw [ot,iY,if_neg gB,HZ.o];exact m4
    ·rw [iY,if_neg gB];exact .inl ⟨rfl,rfl⟩
    ·exact fun b hb=>by simp [vb,Value.ownBlock] at hb)
   have af:∀o,w9.frozen? (π (bx+1) o)=false:=kb.frozen;clear k1 k2 kf kb k3 m3 k4 m4 R5 pq pw;refine ⟨.agg #[.bool false,ν,ι tt],?_,fy.o⟩;simp [results,Tryz.results17,go_sem,a0,a1,a2]
end
section
variable {w w' wr:World} {C C' C1:Co} {U U':Ru} {RO RO' kG:List Nat} {K:Kc} {p:aO} {c:Cp} {t t':fI} {used used':Int} {hv hv':Value} {jv jx:Nat->Value} {s s' s0 s1:St} {t0:fI} {vW:Int} {r r':Rn} {rv rv':Value} {mb rb bx:Nat} {T:Map} {st:Std}
theorem xp.setAt {key:Nat} {a:Int} (h:xp w wr bx C K p c s t used key a (.pointer none)) (a':Int):xp w (wr.setCell (π (bx+1+1) 1) (ι a')) bx C K p c s t used key a' (.pointer none):=by have F:ax [bx+1+1] wr (wr.setCell (π (bx+1+1) 1) (ι a')):=(ax.refl _ wr).setCell (by simp) _;refine ⟨h.at_,h.mx.aB F (fun b hb hc=>by simp at hc;subst hc;exact h.nc hb) (fun b hb hc=>by rw [List.mem_singleton] at hc;subst hc;exact h.no hb),h.b2.aB F (by simp;omega),h.b4.aB F (by simp),h.b5.aB F (by simp),h.rb.set 1 _,h.nc,h.no,h.zP.trans (Kept.cE (RO:=Ma.rest w C) F (fun b hb hc=>by rw [List.mem_singleton] at hc;subst hc;exact h.no (by simp [hb])) (fun b hb=>h.mx.sep.cY b (by simp [hb]))) (fun b hb=>hb)⟩
end
end Go.Proofs.YtblkblclmbhjiaaGreat.Ma
