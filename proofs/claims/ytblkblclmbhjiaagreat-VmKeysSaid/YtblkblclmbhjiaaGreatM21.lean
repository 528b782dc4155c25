import Derived.Test.YtblkblclmbhjiaaGreatM20
import Derived.Deep.Slices
import Derived.Deep.Fields
import Derived.ChangeSame
import Derived.ChangeArms
set_option linter.unusedVariables false
set_option linter.unusedSimpArgs false
set_option maxHeartbeats 40000000
set_option maxRecDepth 100000
open Go.Proofs.Tryz
theorem ag2 {p:Prop} (h:p:=by
 have qJ:bo p=0:=by
  by_cases h0:bo p=0
  ·exact h0
  ·unfold aZ at hv;rw [afE h0] at hv;exact absurd hv h0
 exact (cK qJ).1):p:=h
namespace Go.Proofs.YtblkblclmbhjiaaGreat.Rv
open Go.RowKit ak.Vm
open ak hiding aL an aj
open Ma (dx bQ aU vb aA aQ)
open Vf (Kp fP pV qu bw aV gN gw xw uz mw gC b_)
def FM (J:Nat->Value):Act:={tmps:=#[J 0,J 1,J 2,J 3,J 4,J 5,J 6,J 7,J 8,J 9,J 10,J 11,J 12,J 13,J 14,J 15,J 16,J 17,J 18,J 19,J 20,J 21,J 22,J 23,J 24,J 25,J 26,J 27,J 28,J 29,J 30,J 31,J 32,J 33,J 34,J 35,J 36,J 37,J 38,J 39,J 40,J 41,J 42,J 43,J 44,J 45,J 46,J 47,J 48,J 49,J 50,J 51,J 52,J 53,J 54,J 55,J 56,J 57,J 58,J 59,J 60,J 61,J 62,J 63,J 64,J 65,J 66,J 67,J 68],defers:=[]}
theorem FM.of (A:Array Value) (h:A=(FM fun k=>A.getD k undef).tmps):({tmps:=A,defers:=[]}:Act)=FM fun k=>A.getD k undef:=by rw [h];rfl
noncomputable def ruL (k:Nat):Code:=Mk.mK Tryz.f70.body k
section
variable {w W7:World} {K:Kp} {p:aO} {pb gb:Nat} {Q:Exit->Act->World->Prop}
def RR1 (W7:World) (K:Kp) (p:aO) (pb gb:Nat) (fv:Value) (m:Nat) (a:Act) (W:World):Prop:=
 ∃(J:Nat->Value) (i n:Nat) (lv:Value) (ms:Int),a=FM J/\J 1=ρ pb/\J 2=ρ (pb+1)/\J 3=ρ (pb+1+1)/\J 6=fv/\J 7=ρ gb/\J 8=ι i/\
  i<=p.on.length+1/\m+i=p.on.length+2/\(i<=p.on.length->n=i)/\(i=p.on.length+1->n=p.on.length/\ms=(bN p p.aJ:Nat))/\Hid (Below W7.heap.size W7 W)/\Hid (Row W 3 1 lv n (xw p (p.on++[p.aJ])))/\Hid (∀b,lv.ownBlock=some b->W7.heap.size<=b)/\Hid (ay W gb 97 #[lv,ι ms])/\Hid (bk p (p.on++[p.aJ])=bk p ((p.on++[p.aJ]).drop i))
theorem aep {p:Prop} (h:p:=by
 obtain ⟨a9,m9,c9,Z_⟩:∃a m c,v'= .slice a m c:=by rcases f2.val with ⟨h,-⟩|⟨_,_,h,-⟩<;>exact ⟨_,_,_,h⟩
 subst Z_;have F1:=ae f1;have F2:=ae f2;have F3:=ae f3;have F4:=ae f4;clear bq hf hv f1 f2 f3 f4 g0 g1 hfg Ct;go_wp2_with fail;refine ⟨_,n+1,n+1,_,ms,FM.of _ rfl,rfl,rfl,rfl,rfl,rfl,rfl,by have:=dh.o;omega,omm,(fun _=>rfl),(fun h=>by omega),F1,F2,F3,F4,nC⟩):p:=h
theorem aeo {p:Prop} (h:p:=by
 have nC:=ae (show bk p (p.on++[p.aJ])=some (n9:Int) by rw [HE.o,Ao.o,afE qd]);have Cu:1152921504606846976 < fu:=qd;have kc:=xj.o.of (HB.o.block _ xj.o.lt);have kf:=Lx.o.of (HB.o.block _ Lx.o.lt);obtain ⟨z0,z1⟩:=kc.c2;obtain ⟨z2,z3⟩:=kf.c2;have z4:=kc.frozen;have z5:=kf.frozen;have z6:=kf.lt;have z7:=kc.lt;clear kc kf qd Ct Ao;go_wp2_with fail;exact gO _ _ _ rfl rfl HB.o nC.o):p:=h
theorem rr1 {fb fc:Nat} (H:Hid (fP W7 K p)) (HP:Hid (ay W7 pb 27 (gN K p))) (HGB:Hid (W7.heap.size<=gb)) (HFV:Hid (Row W7 3 1 (.slice (some (π fb 0)) p.code.length fc) p.code.length (gC (jP p)))) (tb:vj p)
 (xj:Hid (ay W7 (pb+1) 97 #[ν,ι 0])) (Lx:Hid (ay W7 (pb+1+1) 99 #[ι 0,ι 0]))
 (gO:∀(B:Array Value) W (n:Int),B.getD 2 undef=ρ (pb+1)->B.getD 3 undef=ρ (pb+1+1)->Below W7.heap.size W7 W->bk p (p.on++[p.aJ])=some n->Q .ret {tmps:=B,defers:=[]} ((((W.setCell (π (pb+1) 0) ν).setCell (π (pb+1) 1) (ι 0)).setCell (π (pb+1+1) 0) (ι 97)).setCell (π (pb+1+1) 1) (ι n)))
 (eZ:∀(J:Nat->Value) W lv,J 2=ρ (pb+1)->J 3=ρ (pb+1+1)->J 7=ρ gb->Below W7.heap.size W7 W->Row W 3 1 lv p.on.length (xw p (p.on++[p.aJ]))->(∀b,lv.ownBlock=some b->W7.heap.size<=b)->ay W gb 97 #[lv,ι (bN p p.aJ:Nat)]->bk p (p.on++[p.aJ])=none->Q (.exit 0) (FM J) W)
 {a:Act} {W:World} (h:RR1 W7 K p pb gb (.slice (some (π fb 0)) p.code.length fc) (p.on.length+2) a W):(Code.loop (ruL 0)).wp prog Q a W:=by
 refine Mk.aP (fun m a W=>RR1 W7 K p pb gb (.slice (some (π fb 0)) p.code.length fc) m a W) (p.on.length+2) h ?_ ?_
 ·rintro a W ⟨J,i,n,lv,ms,-,-,-,-,-,-,-,h1,h2,-⟩;omega
 rintro m a0 W ⟨J,i,n,lv,ms,rfl,j1,j2,j3,j6,j7,j8,hi,hm,uG,ot,HB,HR,HO,HG,HE⟩;unfold FM
 conv=>arg 2;whnf
 have abA:p.on.length<=16:=by have:=tb.on;have:=tb.g;omega
 have w2:=ag5 i omm;rw [j1,j2,j3,j6,j7,j8];clear j1 j2 j3 j6 j7 j8;obtain ⟨oa,oc,ko,-,-⟩:=aV.val H.o.o;have hp:=HP.o.of (HB.o.block _ HP.o.lt);obtain ⟨-,-,-,p3,p4⟩:=hp.c5;have lp:=hp.lt;rw [ko] at p3;obtain ⟨g0,g1⟩:=HG.o.c2;have lg:=HG.o.lt;have hfg:=HG.o.frozen;have HMS:=ae ot;have N8:=ae uG;clear ot uG hp;by_cases a8:i < p.on.length+1
 ·have hbi:∃z,(p.on++[p.aJ]).getD i 0=z/\(-1<=z/\z < p.code.length):=by exact qX7
  obtain ⟨z,hz,jF,r_⟩:=hbi;have dh:=ae a8;have HZ:=ae hz;have Ao:=ae (mw p (p.on++[p.aJ]) (i:=i) sso);rw [hz] at Ao;have bz:=ae (fun (V:World) (v:Value) (n:Nat) (hr:Row V 3 1 v n (xw p (p.on++[p.aJ]))) (hk:∃x y,ay V gb 97 #[x,y])=>show v.ownBlock≠some gb from by obtain ⟨x,y,hk⟩:=hk;exact hr.eF hk dee);by_cases hio:i < p.on.length
  ·obtain ⟨b,off,cap,eo,q1,q2,lo,c⟩:=H.o.o.some omm omm;rw [ko] at eo;simp only [afH] at eo;obtain ⟨rfl,-,rfl⟩:=eo;have c0:W.cell? (π b (off+i))=some (ι z):=by refine (afG (HB.o.block _ lo)).trans ((c i omm).trans ?_);rw [<-hz,afS,agh hio,<-afS];rfl
   have iW:Hid (i+1<=maxLen/\(i+1)*8<=140737488355328):=ae ⟨by unfold maxLen;omega,omm⟩;have hn:n=i:=N8.o omm;subst hn;have ir:∃la ln lc,lv= .slice la ln lc:=by rcases HR.o.val with ⟨h,-⟩|⟨_,_,h,-⟩<;>exact ⟨_,_,_,h⟩
   have Ct:=ae (fun (k:Int) (V:World) (v':Value) (w1:World) (hv:Below W.heap.size W V) (hn:k=(bN p z:Nat)) (hr:Row w1 3 1 v' (n+1) (gU n (xw p (p.on++[p.aJ])) fun _=> ι k)) (hf:da lv.ownBlock.toList V w1) (ho:v'.ownBlock=lv.ownBlock\/v'.ownBlock=some V.heap.size)=>
    show Below W7.heap.size W7 (w1.setCell (π gb 0) v')/\Row (w1.setCell (π gb 0) v') 3 1 v' (n+1) (xw p (p.on++[p.aJ]))/\(∀b,v'.ownBlock=some b->W7.heap.size<=b)/\ay (w1.setCell (π gb 0) v') gb 97 #[v',ι ms]/\w1.cell? (π gb 0)=some lv/\(∀o,w1.frozen? (π gb o)=false)/\gb < w1.heap.size from by
    have h1:Below W7.heap.size W7 V:=HB.o.trans (hv.mono HB.o.size);have h2:=h1.trans (hf.below h1.size (fun b hb=>HO.o b (by simpa using hb)));have fq:ay w1 gb 97 #[lv,ι ms]:=(HG.o.of (hv.block _ HG.o.lt)).aB hf (fun hb=>bz.o _ _ _ HR.o ⟨_,_,HG.o⟩ (by simpa using hb));have Q5:=uz p (p.on++[p.aJ]) (by rw [HZ.o];exact hn) hr;refine ⟨h2.setCell (p:=(π gb 0)) HGB.o _,Q5.other (bz.o _ _ _ Q5 ⟨_,_,fq⟩) _ _,fun b hb=>?_,fq.set 0 v',fq.cell 0,fq.frozen,fq.lt⟩;rcases ho with h|h
    ·exact HO.o b (by rw [<-h];exact hb)
    ·rw [h] at hb;have:=af0 hb;have:=h1.size;omega)
   clear c hz lo q2;by_cases gA:z < 0
   ·have Gs:=ae (show (0:Int)=(bN p z:Nat) by unfold bN;rw [afE gA];rfl);have nC:=ae (show bk p (p.on++[p.aJ])=bk p ((p.on++[p.aJ]).drop (n+1)) by rw [HE.o,Ao.o,abH (by have:=Gs.o;unfold MF;omega)]);have hd:decide (0<=z)=false:=by simp;omega
    clear gA;go_wp2_with (at_builtin;refine cz rfl _ _ 24 rfl 3 underlying24 b_ rfl dee lv n (xw p (p.on++[p.aJ])) rfl (HR.o.alloc _) (π W.heap.size 0) 1 1 (fun _=> ι 0) rfl (fun j hj=>(by obtain rfl:j=0:=omm;exact (ay.new W 3 #[ι 0]).cell 0)) (fun _ _=>rfl) iW.o.1 iW.o.2 ?_);intro v' w1 bq hf hv;obtain ⟨f1,f2,f3,f4,f5,f6,f7⟩:=Ct.o 0 _ v' w1 ((afL _ _).alloc (afF _) _) Gs.o bq hf (by simpa using hv);exact aep
   ·obtain ⟨n9,rfl⟩:=afN (by omega:0<=z);have hn9:n9 < p.code.length:=omm;have YF:W.cell? (π fb n9)=some (ι (jP p n9:Nat)):=(HFV.o.aB (da.ah (S:=[]) HB.o) smm).cell (o:=n9) omm;have sT:bN p (n9:Int)=jP p n9:=by unfold bN;rw [abH omm];rfl
    rw [sT] at Ao Ct;have lfb:=aS YF;clear gA;generalize jP p n9=fu at*;clear sT;by_cases qd:MF < fu
    ·exact aeo
    ·have nC:=ae (show bk p (p.on++[p.aJ])=bk p ((p.on++[p.aJ]).drop (n+1)) by rw [HE.o,Ao.o,abH qd]);have Cu:¬1152921504606846976 < fu:=qd;have YG:fu<=1152921504606846976:=omm;clear qd Cu Ao;go_wp2_with (at_builtin;refine cz rfl _ _ 24 rfl 3 underlying24 b_ rfl dee lv n (xw p (p.on++[p.aJ])) rfl (HR.o.alloc _) (π W.heap.size 0) 1 1 (fun _=> ι (fu:Nat)) rfl (fun j hj=>(by obtain rfl:j=0:=omm;exact (ay.new W 3 #[ι (fu:Nat)]).cell 0)) (fun _ _=>rfl) iW.o.1 iW.o.2 ?_);intro v' w1 bq hf hv;obtain ⟨f1,f2,f3,f4,f5,f6,f7⟩:=Ct.o (fu:Nat) _ v' w1 ((afL _ _).alloc (afF _) _) rfl bq hf (by simpa using hv);exact aep
  ·have U6:=ae (show i=p.on.length by omega);have c0:p.aJ=z:=by rw [<-hz,afS,agf omm,show i - p.on.length=0 by have:=U6.o;omega];simp
   rw [c0] at p4;have HMZ:=ae c0;have hn:=ae (show n=p.on.length by have:=N8.o omm;omega);have Ct:=ae (fun (k:Int) (hk:k=(bN p z:Nat))=>show Below W7.heap.size W7 (W.setCell (π gb 1) (ι k))/\Row (W.setCell (π gb 1) (ι k)) 3 1 lv n (xw p (p.on++[p.aJ]))/\ay (W.setCell (π gb 1) (ι k)) gb 97 #[lv,ι k]/\k=(bN p p.aJ:Nat) from
    ⟨HB.o.setCell (p:=(π gb 1)) HGB.o _,HR.o.other (bz.o _ _ _ HR.o ⟨_,_,HG.o⟩) _ _,HG.o.set 1 _,by rw [HMZ.o];exact hk⟩)
   clear c0 hz;by_cases gA:z < 0
   ·have Gs:=ae (show (0:Int)=(bN p z:Nat) by unfold bN;rw [afE gA];rfl);have nC:=ae (show bk p (p.on++[p.aJ])=bk p ((p.on++[p.aJ]).drop (i+1)) by rw [HE.o,Ao.o,abH (by have:=Gs.o;unfold MF;omega)]);have hd:decide (0<=z)=false:=by simp;omega
    clear gA;have F:=Ct.o 0 Gs.o;have F1:=ae F.1;have F2:=ae F.2.1;have F3:=ae F.2.2.1;have F4:=ae F.2.2.2;clear F Ct;go_wp2_with fail;refine ⟨_,i+1,n,lv,0,FM.of _ rfl,rfl,rfl,rfl,rfl,rfl,rfl,by have:=dh.o;omega,omm,(fun h=>by have:=U6.o;omega),(fun _=>⟨hn.o,F4.o⟩),F1,F2,HO,F3,nC⟩
   ·obtain ⟨n9,rfl⟩:=afN (by omega:0<=z);have hn9:n9 < p.code.length:=omm;have YF:W.cell? (π fb n9)=some (ι (jP p n9:Nat)):=(HFV.o.aB (da.ah (S:=[]) HB.o) smm).cell (o:=n9) omm;have sT:bN p (n9:Int)=jP p n9:=by unfold bN;rw [abH omm];rfl
    rw [sT] at Ao Ct;have lfb:=aS YF;clear gA;generalize jP p n9=fu at*;clear sT;by_cases qd:MF < fu
    ·exact aeo
    ·have nC:=ae (show bk p (p.on++[p.aJ])=bk p ((p.on++[p.aJ]).drop (i+1)) by rw [HE.o,Ao.o,abH qd]);have Cu:¬1152921504606846976 < fu:=qd;have YG:fu<=1152921504606846976:=omm;clear qd Cu Ao;have F:=Ct.o (fu:Nat) rfl;have F1:=ae F.1;have F2:=ae F.2.1;have F3:=ae F.2.2.1;have F4:=ae F.2.2.2;clear F Ct;go_wp2_with fail;refine ⟨_,i+1,n,lv,(fu:Nat),FM.of _ rfl,rfl,rfl,rfl,rfl,rfl,rfl,by have:=dh.o;omega,omm,(fun h=>by have:=U6.o;omega),(fun _=>⟨hn.o,F4.o⟩),F1,F2,HO,F3,nC⟩
 ·obtain rfl:i=p.on.length+1:=omm;obtain ⟨e1,e2⟩:=HMS.o rfl;have XB:=ae (show Row W 3 1 lv p.on.length (xw p (p.on++[p.aJ])) by rw [<-e1];exact HR.o);have HG9:=ae (show ay W gb 97 #[lv,ι (bN p p.aJ:Nat)] by rw [<-e2];exact HG.o);have HE9:=ae (show bk p (p.on++[p.aJ])=none by rw [HE.o,show p.on.length+1=(p.on++[p.aJ]).length by simp,List.drop_length];rfl);clear a8 e1 e2 g1 hfg;go_wp2_with fail;exact Eq.mpr (afK (fun a=>Q (.exit 0) a W) (FM.of _ rfl)) (eZ _ _ _ rfl rfl rfl HB.o XB.o HO.o HG9.o HE9.o)
def NB (w:World) (p:aO) (e:Ending) (w':World):Prop:=∃wB ms,e= .returned (.tuple #[.agg #[wB,ι ms],.agg #[ι (aZ p).1,ι (aZ p).2]])/\Below w.heap.size w w'/\(∀b,wB.ownBlock=some b->w.heap.size<=b)/\
 ((aZ p).1=0->ms=(bN p p.aJ:Nat)/\aV w' 1 wB p.on.length (fun i=> ι (bN p (p.on.getD i 0):Nat)))/\((aZ p).1≠0->wB=ν/\ms=0)
theorem NC {p:aO}:∀{k pc:Nat} {T:Map} {e1:Int} {a:Nat},looks p k pc T= .inl (e1,a)->e1≠0:=by
 intro k
 induction k with
 |zero=>intro pc T e1 a h;unfold looks at h;simp at h
 |succ k ih=>
  intro pc T e1 a h;unfold looks at h;split at h
  ·exact ih h
  ·next bz=>simp at h;rw [<-h.1];exact bz
theorem tU {p:aO}:(iJ p).1=0↔bo p=0/\∃T,looks p p.code.length 0 (db p)= .inr T:=by
 unfold iJ;by_cases h:bo p=0
 ·rw [abH (by simp [h])];obtain ⟨tb,mM⟩:=cK h;obtain ⟨h1,h2⟩:=qI mM p.code.length 0 _ _ (n_ tb) omm;cases hl:looks p p.code.length 0 (db p) with
  |inl e=>
   have hx:e.1≠0:=by have:=tH p;obtain ⟨e1,e2⟩:=e;exact fun h0=>NC hl h0
   rw [h1 e hl];exact ⟨fun h0=>absurd h0 hx,fun ⟨_,T,hT⟩=>by cases hT⟩
  |inr T=>obtain ⟨L',e⟩:=h2 T hl;rw [e];exact ⟨fun _=>⟨h,T,rfl⟩,fun _=>rfl⟩
 ·rw [afE h];exact ⟨fun e=>absurd e h,fun e=>absurd e.1 h⟩
theorem CY {p:aO}:((iJ p).1≠0->aZ p=iJ p)/\((iJ p).1=0->aZ p=match bk p (p.on++[p.aJ]) with|some n=>(97,n)|none=>(0,0)):=by
 have hz:= @tU p;rw [<-tH];unfold vB;unfold iJ at hz ⊢;by_cases h:bo p=0
 ·rw [abH (by simp [h])] at hz ⊢;rw [abH (by simp [h])];cases hl:eX p p.code.length 0 (f_ p) with
  |inl e=>rw [hl] at hz;exact ⟨fun _=>rfl,fun h0=>by obtain ⟨_,T,hT⟩:=hz.1 h0;obtain ⟨tb,mM⟩:=cK h;obtain ⟨L',e9⟩:=(qI mM p.code.length 0 _ _ (n_ tb) omm).2 T hT;rw [hl] at e9;cases e9⟩
  |inr L=>exact ⟨fun h0=>absurd rfl h0,fun _=>rfl⟩
 ·rw [afE h] at hz ⊢;rw [afE h];exact ⟨fun _=>rfl,fun h0=>absurd h0 h⟩
theorem tp {R:Ending->World->Prop} {A:Array Value} {W:World} {cb fb:Nat} {x y u v:Value} (h2:A.getD 2 undef=ρ cb) (h3:A.getD 3 undef=ρ fb) (kc:ay W cb 97 #[x,y]) (kf:ay W fb 99 #[u,v])
 (hR:R (.returned (.tuple #[.agg #[x,y],.agg #[u,v]])) W):bodyPost prog Tryz.f70 R .ret {tmps:=A,defers:=[]} W:=by
 obtain ⟨c0,c1⟩:=kc.c2;obtain ⟨f0,f1⟩:=kf.c2;rw [agn] at h2 h3;refine afI (v:= .tuple #[.agg #[x,y],.agg #[u,v]]) ?_ rfl hR;simp [results,results70,go_sem,h2,h3,c0,c1,f0,f1]
def st4 (W:World) (c f:Nat) (x y u v:Value):World:=(((W.setCell (π c 0) x).setCell (π c 1) y).setCell (π f 0) u).setCell (π f 1) v
theorem AA {W:World} {c f:Nat} {x y u v x0 y0 u0 v0:Value} (hn:c≠f) (kc:ay W c 97 #[x0,y0]) (kf:ay W f 99 #[u0,v0]):ay (st4 W c f x y u v) c 97 #[x,y]/\ay (st4 W c f x y u v) f 99 #[u,v]/\da [c,f] W (st4 W c f x y u v):=
 ⟨((((kc.set 0 x).set 1 y).other hn 0 u).other hn 1 v),((((kf.other hn.symm 0 x).other hn.symm 1 y).set 0 u).set 1 v),
   ((((da.refl [c,f] W).setCell (p:=(π c 0)) smm x).setCell (p:=(π c 1)) smm y).setCell (p:=(π f 0)) smm u).setCell (p:=(π f 1)) smm v⟩
theorem QP {w:World} {K:Kp} {p:aO} (h:fP w K p):Calls prog 70 #[pV K p] w (NB w p):=by
 obtain ⟨⟨ga,gc,g1,g2,g3⟩,⟨va,vc,v1,v2,v3⟩,⟨ta,tc,t1,t2,t3⟩,⟨oa,oc,o1,o2,o3⟩,⟨ca,cc,c1,c2,c3⟩⟩:=h.sl;have tR:=ae (fun V (hb:Below w.heap.size w V)=>ET (w:=V) (h.aB (da.ah hb)));have JE:=ae (fun V (hb:Below w.heap.size w V) hl hi=>EW (w:=V) (h.aB (da.ah hb)) hl hi);have H:=ae h;obtain ⟨W0,lL⟩:∃W0,W0=((w.alloc (.cells #[.slice ga p.ap.length gc,.slice va p.vars.length vc,.slice ta p.aW.length tc,.slice oa p.on.length oc,ι p.aJ,.slice ca p.code.length cc] 27)).alloc (.cells #[ν,ι 0] 97)).alloc (.cells #[ι 0,ι 0] 99):=⟨_,rfl⟩;have kp:ay W0 w.heap.size 27 (gN K p):=by rw [lL];unfold gN;rw [g1,v1,t1,o1,c1];exact ((ay.new _ _ _).alloc _).alloc _
 have kc:ay W0 (w.heap.size+1) 97 #[ν,ι 0]:=by rw [lL];exact (ay.a_ smm).alloc _
 have kf:ay W0 (w.heap.size+1+1) 99 #[ι 0,ι 0]:=by rw [lL];exact ay.a_ smm
 have dQ:Below w.heap.size w W0:=by rw [lL];exact (((afL _ _).alloc (afF _) _).alloc smm _).alloc sso _
 have sS:W0.heap.size=w.heap.size+1+1+1:=by rw [lL];simp
 have HK:=ae (And.intro g1 (And.intro v1 (And.intro t1 (And.intro o1 c1))));unfold pV at tR ⊢;rw [g1,v1,t1,o1,c1] at tR ⊢;rw [c1] at JE;clear h g1 v1 t1 o1 c1 g2 g3 v2 v3 t2 t3 o2 o3 c2 c3;go_enter func70,ntmps70;go_wp2_with fail;rw [<-lL];refine (tR.o _ dQ).mono ?_;rintro e W1 ⟨pv,rfl,hb⟩;have KP:=ae (kp.of (hb.block _ kp.lt));have KC:=ae (kc.of (hb.block _ kc.lt));have KF:=ae (kf.of (hb.block _ kf.lt));have dC:=ae (dQ.trans (hb.mono dQ.size));have tC:Hid (w.heap.size+1+1 < W1.heap.size):=ae (by have:=hb.size;omega);have HZ:=ae (@tU p);have HVL:=ae (@CY p);clear kp kc kf hb dQ sS lL tR;generalize iJ p=lk at*;obtain ⟨le,la⟩:=lk;dsimp only at HZ HVL;have HN:Hid (w.heap.size+1≠w.heap.size+1+1):=ae omm;have KG:=ae (ay.new W1 99 #[ι le,ι la]);by_cases hle:le=0
 case neg=>
  have bz:(le !=0)=true:=by simpa using hle
  have HV:=ae (show aZ p=(le,la) from HVL.o.1 hle);have y_:=ae hle;clear hle;go_wp2_with fail;have dn:Below W1.heap.size W1 (W1.alloc (.cells #[ι le,ι la] 99)):=(afL _ _).alloc (afF _) _;have fg:=ae (dC.o.trans (dn.mono dC.o.size));have V_:=ae (KC.o.of (dn.block _ KC.o.lt));have KF2:=ae (KF.o.of (dn.block _ KF.o.lt));have HG:=ae (show W1.heap.size∉[w.heap.size+1,w.heap.size+1+1] by have:=tC.o;simp;omega);clear dn;generalize rl:W1.heap.size=gb at*;generalize W1.alloc (.cells #[ι le,ι la] 99)=W2 at*;obtain ⟨n0,n1⟩:=KG.o.c2;refine Mk.bF (S:=fun wx=>da [w.heap.size+1,w.heap.size+1+1] W2 wx) krr (da.ah (au _ W2 1)) (fun al=>?_);have AL:=ae (V_.o.drewN 1);have yD:=ae (KF2.o.drewN 1);change Hid (ay W2.drew _ _ _) at AL;change Hid (ay W2.drew _ _ _) at yD;have HD:=ae (au W2.heap.size W2 1);change Hid (Below W2.heap.size W2 W2.drew) at HD;generalize World.drew _=V0 at*;have z0:=AL.o.cell 0;have z1:=AL.o.cell 1;have z2:=yD.o.cell 0;have z3:=yD.o.cell 1;have z4:=AL.o.frozen;have z5:=yD.o.frozen;have z6:=yD.o.lt;have z7:=AL.o.lt;simp only [List.getElem?_toArray,List.getElem?_cons_zero,List.getElem?_cons_succ] at z0 z1 z2 z3;refine Mk.bL 0 ?_;refine Mk.tk 1 (v:=?_) rfl (fun wz bR=>?_) al ?_;rotate_left
  ·have key:∀b i v,b∉[w.heap.size+1,w.heap.size+1+1]->W2.cell? (π b i)=some v->wz.cell? (π b i)=some v:=fun b i v hn hc=>(afG (bR.block _ (aS hc) hn)).trans hc;have y0:=key _ _ _ HG.o n0;have y1:=key _ _ _ HG.o n1;exact qU
  refine Mk.pt ?_;refine Mk.nW (rs:=[2]) (afJ rfl (fun K9 hK=>?_) af1);refine QX ?_;go_simp;refine hK.out _ _ ((al.setCell (p:=(π (w.heap.size+1) 0)) smm ν).setCell (p:=(π (w.heap.size+1) 1)) smm (ι 0)) (fun al=>?_);clear hK K9;refine Mk.pt ?_;refine Mk.nW (rs:=[3]) (afJ rfl (fun K9 hK=>?_) af1);refine QX ?_;go_simp;refine hK.out _ _ ((al.setCell (p:=(π (w.heap.size+1+1) 0)) smm (ι le)).setCell (p:=(π (w.heap.size+1+1) 1)) smm (ι la)) (fun al=>?_);clear hK K9;refine Mk.pt ?_;refine afZ krr ⟨rfl,?_⟩ _;have hs:=AA (x:=ν) (y:=ι 0) (u:=ι le) (v:=ι la) HN.o AL.o yD.o;clear al;go_wp2_with fail
  first|refine tp (cb:=w.heap.size+1) (fb:=w.heap.size+1+1) rfl rfl hs.1 hs.2.1 ?_|(rw [af8];refine tp (cb:=w.heap.size+1) (fb:=w.heap.size+1+1) rfl rfl hs.1 hs.2.1 ?_)
  refine ⟨_,_,by rw [HV.o],(fg.o.trans (HD.o.mono fg.o.size)).trans (hs.2.2.below (fg.o.trans (HD.o.mono fg.o.size)).size sso),(fun b hb=>by cases hb),(fun h=>by rw [HV.o] at h;exact absurd h y_.o),fun _=>⟨rfl,rfl⟩⟩
 subst hle;obtain ⟨qJ,T,hT⟩:=HZ.o.1 rfl;obtain ⟨tb,-⟩:=cK qJ;have TB:=ae tb;have HFI:=ae (yC qJ hT);have HV:=ae (HVL.o.2 rfl);have hlen:=tb.code;clear qJ hT tb;have p5:(W1.alloc (.cells #[ι 0,ι la] 99)).cell? (π w.heap.size 5)=some (.slice ca p.code.length cc):=by rw [<-HK.o.2.2.2.2];exact (KP.o.alloc _).cell 5
 have lp:=(KP.o.alloc (.cells #[ι 0,ι la] 99)).lt;go_wp2_with fail;refine (JE.o _ (dC.o.alloc dC.o.size _) hlen HFI.o).mono ?_;rintro e W3 ⟨fb9,fc9,rfl,MC,wN,V3⟩;have wQ:Below W1.heap.size W1 W3:=((afL _ _).alloc (afF _) _).trans (wN.mono smm);have ki:=ae (dC.o.trans (wQ.mono dC.o.size));have KP3:=ae (KP.o.of (wQ.block _ KP.o.lt));have U9:=ae (KC.o.of (wQ.block _ KC.o.lt));have U_:=ae (KF.o.of (wQ.block _ KF.o.lt));have HS3:=ae (show w.heap.size+1+1 < W3.heap.size by have:=tC.o;have:=wQ.size;omega);have HR3:=ae V3;clear wN wQ V3 MC p5 lp JE HZ HVL KG;go_wp2_with fail;refine rr1 (W7:=W3) (gb:=W3.heap.size) (ae (H.o.aB (da.ah ki.o))) KP3 (ae (afF _)) HR3 TB.o U9 U_ (fun B W n h2 h3 hb he=>?_) (fun J W lv j2 j3 j7 hb hr ho hg he=>?_) ⟨_,0,0,ν,0,FM.of _ rfl,rfl,rfl,rfl,rfl,rfl,rfl,afO _,omm,(fun _=>rfl),(fun h=>by omega),ae ((afL _ _).alloc (afF _) _),ae (Row.nil _ _ _ _),ae (fun b hb=>by cases hb),ae (ay.new _ _ _),ae (by rw [List.drop_zero])⟩
 ·try simp only [Exit.inBlock,Exit.then]
  have OP:=ae (show aZ p=(97,n) by rw [HV.o,he]);have hs:=AA (x:=ν) (y:=ι 0) (u:=ι 97) (v:=ι n) HN.o (U9.o.of (hb.block _ U9.o.lt)) (U_.o.of (hb.block _ U_.o.lt));have wP:=ki.o.trans (hb.mono ki.o.size)
  first|refine tp (cb:=w.heap.size+1) (fb:=w.heap.size+1+1) h2 h3 hs.1 hs.2.1 ?_|(rw [af8];refine tp (cb:=w.heap.size+1) (fb:=w.heap.size+1+1) h2 h3 hs.1 hs.2.1 ?_)
  refine ⟨_,_,by rw [OP.o],wP.trans (hs.2.2.below wP.size sso),(fun b hb=>by cases hb),(fun h=>by rw [OP.o] at h;cases h),fun _=>⟨rfl,rfl⟩⟩
 ·have OP:=ae (show aZ p=(0,0) by rw [HV.o,he]);have hs:=AA (x:=lv) (y:=ι (bN p p.aJ:Nat)) (u:=ι 0) (v:=ι 0) HN.o (U9.o.of (hb.block _ U9.o.lt)) (U_.o.of (hb.block _ U_.o.lt));have wP:=ki.o.trans (hb.mono ki.o.size);have HT:=ae (show NB w p (.returned (.tuple #[.agg #[lv,ι (bN p p.aJ:Nat)],.agg #[ι 0,ι 0]])) (st4 W (w.heap.size+1) (w.heap.size+1+1) lv (ι (bN p p.aJ:Nat)) (ι 0) (ι 0)) from by
   refine ⟨lv,(bN p p.aJ:Nat),by rw [OP.o],wP.trans (hs.2.2.below wP.size sso),(fun b ui=>by have:=ho b ui;have:=HS3.o;omega),fun _=>⟨rfl,?_⟩,fun h=>absurd (by rw [OP.o]) h⟩;have h1:=hr.aB hs.2.2 (fun b ui=>by have:=ho b ui;have:=HS3.o;simp;omega);refine Vf.aV.congr (aV.D9 h1) (fun o ho=>?_);unfold xw;rw [afS,agh ho,<-afS])
  have Aj:=ae (And.intro hs.1 hs.2.1);obtain ⟨a9,m9,c9,Z_⟩:∃a m c,lv= .slice a m c:=by rcases hr.val with ⟨h,-⟩|⟨_,_,h,-⟩<;>exact ⟨_,_,_,h⟩
  subst Z_;obtain ⟨g0,g1⟩:=hg.c2;have lg:=hg.lt;have kc:=U9.o.of (hb.block _ U9.o.lt);have kf:=U_.o.of (hb.block _ U_.o.lt);obtain ⟨z0,z1⟩:=kc.c2;obtain ⟨z2,z3⟩:=kf.c2;have z4:=kc.frozen;have z5:=kf.frozen;have z6:=kf.lt;have z7:=kc.lt;unfold FM;rw [j2,j3,j7];clear kc kf hs wP hb hr ho hg he j2 j3 j7;generalize bN p p.aJ=em at*;go_wp2_with fail
  first|refine tp (cb:=w.heap.size+1) (fb:=w.heap.size+1+1) rfl rfl Aj.o.1 Aj.o.2 ?_|(rw [af8];refine tp (cb:=w.heap.size+1) (fb:=w.heap.size+1+1) rfl rfl Aj.o.1 Aj.o.2 ?_)
  exact HT.o
def ND (w:World) (p:aO) (e:Ending) (w':World):Prop:=∃wB ms,e= .returned (.agg #[wB,ι ms])/\Below w.heap.size w w'/\
 ((aZ p).1=0->ms=(bN p p.aJ:Nat)/\aV w' 1 wB p.on.length (fun i=> ι (bN p (p.on.getD i 0):Nat)))/\((aZ p).1≠0->wB=ν/\ms=0)
theorem QQ {w:World} {K:Kp} {p:aO} (h:fP w K p):Calls prog 52 #[pV K p] w (ND w p):=by
 obtain ⟨⟨ga,gc,g1,g2,g3⟩,⟨va,vc,v1,v2,v3⟩,⟨ta,tc,t1,t2,t3⟩,⟨oa,oc,o1,o2,o3⟩,⟨ca,cc,c1,c2,c3⟩⟩:=h.sl;have Dj:=ae (fun V (hb:Below w.heap.size w V)=>QP (w:=V) (h.aB (da.ah hb)));obtain ⟨W0,lL⟩:∃W0,W0=(w.alloc (.cells #[.slice ga p.ap.length gc,.slice va p.vars.length vc,.slice ta p.aW.length tc,.slice oa p.on.length oc,ι p.aJ,.slice ca p.code.length cc] 27)).alloc (.cells #[ν,ι 0] 97):=⟨_,rfl⟩;have kc:ay W0 (w.heap.size+1) 97 #[ν,ι 0]:=by rw [lL];exact ay.a_ smm
 have dQ:Below w.heap.size w W0:=by rw [lL];exact ((afL _ _).alloc (afF _) _).alloc smm _
 have sS:W0.heap.size=w.heap.size+1+1:=by rw [lL];simp
 unfold pV at Dj ⊢;rw [g1,v1,t1,o1,c1] at Dj ⊢;clear h g1 v1 t1 o1 c1 g2 g3 v2 v3 t2 t3 o2 o3 c2 c3;go_enter func52,ntmps52;go_wp2_with fail;rw [<-lL];refine (Dj.o _ dQ).mono ?_;rintro e W1 ⟨wB,ms,rfl,hb,iF,h1,h2⟩;have KT:∃a m c,wB= .slice a m c:=by
  by_cases hv:(aZ p).1=0
  ·obtain ⟨a,c,e,-,-⟩:=aV.val (h1 hv).2;exact ⟨_,_,_,e⟩
  ·exact ⟨_,_,_,(h2 hv).1⟩
 obtain ⟨a9,m9,c9,rfl⟩:=KT;have dC:=ae (dQ.trans (hb.mono dQ.size));have KC:=ae (kc.of (hb.block _ kc.lt));have tC:=ae (show w.heap.size+1 < W1.heap.size by have:=hb.size;omega);have sL:=ae (fun b (h:(Value.slice a9 m9 c9).ownBlock=some b)=>show b∉[w.heap.size+1] by have:=iF b h;simp;omega);have H1:=ae h1;have H2:=ae h2;obtain ⟨ve,Uj⟩:∃v,aZ p=v:=⟨_,rfl⟩;rw [Uj] at H1 H2 ⊢;have Qb:=ae Uj;obtain ⟨v1,v2⟩:=ve;clear hb dQ kc sS lL h1 h2 Dj Uj iF;obtain ⟨W2,Od⟩:∃W2,W2=(W1.alloc (.cells #[.slice a9 m9 c9,ι ms] 97)).alloc (.cells #[ι v1,ι v2] 99):=⟨_,rfl⟩;have dn:Below W1.heap.size W1 W2:=by rw [Od];exact ((afL _ _).alloc (afF _) _).alloc smm _
 have Cl:=KC.o.of (dn.block _ KC.o.lt);obtain ⟨z0,z1⟩:=Cl.c2;have z4:=Cl.frozen;have z5:=Cl.lt;have UG:=ae ((Cl.set 0 (.slice a9 m9 c9)).set 1 (ι ms));have HF:=ae (show da [w.heap.size+1] W2 ((W2.setCell (π (w.heap.size+1) 0) (.slice a9 m9 c9)).setCell (π (w.heap.size+1) 1) (ι ms)) from ((da.refl _ _).setCell (p:=(π (w.heap.size+1) 0)) smm _).setCell (p:=(π (w.heap.size+1) 1)) smm _);have fg:=ae (dC.o.trans (dn.mono dC.o.size));have nU:=ae (da.ah (S:=[]) dn);clear dn Cl;subst Od;go_wp2_with fail;have HT:=ae (show ND w p (.returned (.agg #[.slice a9 m9 c9,ι ms])) _ from ⟨_,_,rfl,fg.o.trans (HF.o.below fg.o.size smm),fun h=>⟨(H1.o (by rw [<-h,Qb.o])).1,Vf.pP ((H1.o (by rw [<-h,Qb.o])).2.aB nU.o) HF.o sL.o⟩,fun h=>H2.o (fun e=>h (by rw [Qb.o];exact e))⟩);have uN:=UG.o.cell 0;have nO:=UG.o.cell 1;simp only [List.getElem?_toArray,List.getElem?_cons_zero,List.getElem?_cons_succ,List.setIfInBounds_toArray,List.set_cons_zero,List.set_cons_succ] at uN nO;refine afI (v:= .agg #[.slice a9 m9 c9,ι ms]) ?_ rfl HT.o;simp [results,results52,go_sem,uN,nO]
end
end Go.Proofs.YtblkblclmbhjiaaGreat.Rv
namespace Go.Proofs.YtblkblclmbhjiaaGreat.Rv
open Go.RowKit ak.Vm
open ak hiding aL an aj
open Ma (dx bQ aU vb aA aQ)
open Vf (Kp fP pV qu bw aV gN cV)
def acE (J:Nat->Value):Act:={tmps:=#[J 0,J 1,J 2,J 3,J 4,J 5,J 6,J 7,J 8,J 9,J 10,J 11,J 12,J 13,J 14,J 15,J 16,J 17,J 18,J 19,J 20,J 21,J 22,J 23,J 24,J 25,J 26,J 27,J 28,J 29,J 30,J 31,J 32,J 33,J 34,J 35,J 36,J 37,J 38,J 39,J 40,J 41,J 42,J 43,J 44,J 45,J 46,J 47,J 48,J 49,J 50,J 51,J 52,J 53,J 54,J 55,J 56,J 57,J 58,J 59],defers:=[]}
theorem acE.of (A:Array Value) (h:A=(acE fun k=>A.getD k undef).tmps):({tmps:=A,defers:=[]}:Act)=acE fun k=>A.getD k undef:=by rw [h];rfl
noncomputable def snL (k:Nat):Code:=Mk.mK Tryz.f14.body k
def xA (l:List Int):Option Bool:=(l.find? fun q=>decide (5000 < q)).map fun q=>decide (1048576 < q)
def qy (p:aO) (c:Cp):Bool:=match xA c.aI with
 |some b=>b
 |none=>if (aZ p).1=0 then decide (bN p p.aJ<=gD)&&p.on.all (fun n=>decide (bN p n<=gD)) else true
theorem nz {l:List Int} (h:∀j,j < l.length->l.getD j 0<=5000):xA l=none:=by unfold xA;rw [Option.map_eq_none_iff,List.find?_eq_none];intro q hq;obtain ⟨j,hj,rfl⟩:=agd hq;have:=h j hj;rw [afS,afP hj] at this;simp at this ⊢;omega
theorem pI {l:List Int}:∀{i:Nat},i < l.length->(∀j,j < i->l.getD j 0<=5000)->5000 < l.getD i 0->xA l=some (decide (1048576 < l.getD i 0)):=by
 induction l with
 |nil=>intro i h;simp at h
 |cons q l ih=>
  intro i hi h1 h2;cases i with
  |zero=>simp only [List.getD_cons_zero] at h2 ⊢;unfold xA;rw [List.find?_cons_of_pos (by simpa using h2)];rfl
  |succ i=>have h0:=h1 0 omm;simp only [List.getD_cons_zero] at h0;rw [List.getD_cons_succ] at h2 ⊢;have:=ih (i:=i) (by simpa using hi) (fun j hj=>by have:=h1 (j+1) omm;rwa [List.getD_cons_succ] at this) h2;unfold xA at this ⊢;rw [List.find?_cons_of_neg sso];exact this
theorem QR {p:aO} {c:Cp} (h:qy p c=true) (hv:(aZ p).1=0) (hq:∀j,j < c.aI.length->c.aI.getD j 0<=1048576):mh p:=by
 unfold qy at h;cases hb:xA c.aI with
 |some b=>exfalso;rw [hb] at h;dsimp only at h;subst h;unfold xA at hb;rw [Option.map_eq_some_iff] at hb;obtain ⟨q,h1,h2⟩:=hb;have hm:=List.mem_of_find?_eq_some h1;obtain ⟨j,hj,rfl⟩:=agd hm;have:=hq j hj;rw [afS,afP hj] at this;simp at this h2;omega
 |none=>
  rw [hb] at h;dsimp only at h;rw [afE hv] at h;simp only [afW,afX,agb] at h;intro n hn;rcases List.mem_append.1 hn with hn|hn
  ·exact h.2 n hn
  ·simp at hn;subst hn;exact h.1
section
variable {w W0:World} {K:Kp} {p:aO} {c:Cp} {qa:Option Addr} {qc pb cb gb:Nat} {Q:Exit->Act->World->Prop}
def SN1 (W0:World) (c:Cp) (pb cb:Nat) (m:Nat) (a:Act) (W:World):Prop:=∃(J:Nat->Value) (i:Nat) (x:Int),a=acE J/\J 2=ρ pb/\J 3=ρ cb/\J 5=ι x/\J 6=ι i/\i<=c.aI.length/\m+i=c.aI.length+1/\W=W0/\Hid (∀j,j < i->c.aI.getD j 0<=5000)
theorem sn1 (HQ:Hid (aV W0 1 (.slice qa c.aI.length qc) c.aI.length (aU c.aI))) (HC:Hid (ay W0 cb 29 #[ι c.size,.slice qa c.aI.length qc]))
 (gO:∀(A:Array Value) b,A.getD 4 undef= .bool b->xA c.aI=some b->Q .ret {tmps:=A,defers:=[]} W0)
 (eZ:∀(J:Nat->Value),J 2=ρ pb->xA c.aI=none->Q (.exit 0) (acE J) W0)
 {a:Act} (h:SN1 W0 c pb cb (c.aI.length+1) a W0):(Code.loop (snL 0)).wp prog Q a W0:=by
 refine Mk.aP (fun m a W=>SN1 W0 c pb cb m a W) (c.aI.length+1) h ?_ ?_
 ·rintro a W ⟨J,i,x,-,-,-,-,-,h1,h2,-⟩;omega
 rintro m a0 W ⟨J,i,x,rfl,j2,j3,j5,j6,hi,hm,rfl,HA⟩;unfold acE
 conv=>arg 2;whnf
 have hle:=HQ.o.len;rw [j2,j3,j5,j6];clear j2 j3 j5 j6;obtain ⟨k0,k1⟩:=HC.o.c2;have lc:=HC.o.lt;by_cases a8:i < c.aI.length
 ·obtain ⟨b,off,cap,e,q1,q2,lb,hc⟩:=HQ.o.some omm omm;have w2:IntKind.i64.wrap ((i:Int)+1)=((i+1:Nat):Int):=by unfold maxLen at hle;rw [afU _ coo];omega
  clear hle;simp only [afH] at e;obtain ⟨rfl,-,rfl⟩:=e;have c0:W.cell? (π b (off+i))=some (ι (c.aI.getD i 0)):=hc i omm;have dh:=ae a8;have Uv:=ae (fun h=>pI (l:=c.aI) a8 HA.o h);obtain ⟨z,hz⟩:∃z,c.aI.getD i 0=z:=⟨_,rfl⟩;rw [hz] at c0 Uv;have HZ:=ae hz;clear hz hc q2;by_cases h1:5000 < z
  ·have HG:=ae (Uv.o h1);clear Uv;go_wp2_with fail;exact gO _ _ rfl HG.o
  ·have HG:=ae h1;clear Uv;go_wp2_with fail;refine ⟨_,i+1,_,acE.of _ rfl,rfl,rfl,rfl,rfl,dh.o,omm,rfl,ae fun j hj=>?_⟩;by_cases e:j=i
   ·subst e;rw [HZ.o];have:=HG.o;omega
   ·exact HA.o j omm
 ·obtain rfl:i=c.aI.length:=omm;clear a8;have HG:=ae (nz HA.o);go_wp2_with fail;exact Eq.mpr (afK (fun a=>Q (.exit 0) a W) (acE.of _ rfl)) (eZ _ rfl HG.o)
def SN2 (W0:World) (n:Nat) (g:Nat->Int) (ms:Int) (gb:Nat) (m:Nat) (a:Act) (W:World):Prop:=∃(J:Nat->Value) (i:Nat) (ok:Bool),a=acE J/\J 7=ρ gb/\J 8= .bool ok/\J 9=ι i/\i<=n/\m+i=n+1/\W=W0/\Hid (ok=true↔ms<=20000/\∀j,j < i->g j<=20000)
theorem sn2 {n:Nat} {g:Nat->Int} {ms:Int} (HQ:Hid (aV W0 1 (.slice qa n qc) n (fun i=> ι (g i)))) (hn:n<=16) (HC:Hid (ay W0 gb 97 #[.slice qa n qc,ι ms]))
 (eZ:∀(J:Nat->Value) ok,J 8= .bool ok->(ok=true↔ms<=20000/\∀j,j < n->g j<=20000)->Q (.exit 2) (acE J) W0)
 {a:Act} (h:SN2 W0 n g ms gb (n+1) a W0):(Code.loop (snL 1)).wp prog Q a W0:=by
 refine Mk.aP (fun m a W=>SN2 W0 n g ms gb m a W) (n+1) h ?_ ?_
 ·rintro a W ⟨J,i,ok,-,-,-,-,h1,h2,-⟩;omega
 rintro m a0 W ⟨J,i,ok,rfl,j7,j8,j9,hi,hm,rfl,HA⟩;unfold acE
 conv=>arg 2;whnf
 have w2:=ag5 i omm;rw [j7,j8,j9];clear j7 j8 j9;obtain ⟨k0,k1⟩:=HC.o.c2;have lc:=HC.o.lt;by_cases a8:i < n
 ·obtain ⟨b,off,cap,e,q1,q2,lb,hc⟩:=HQ.o.some omm omm;simp only [afH] at e;obtain ⟨rfl,-,rfl⟩:=e;have c0:W.cell? (π b (off+i))=some (ι (g i)):=hc i omm;have dh:=ae a8;have HS:Hid (∀z,g i=z->∀ok',(ok'=true↔ok=true/\z<=20000)->(ok'=true↔ms<=20000/\∀j,j < i+1->g j<=20000)):=ae fun z hz ok' h=>by
   rw [h,HA.o];constructor
   ·rintro ⟨⟨h1,h2⟩,h3⟩;refine ⟨h1,fun j hj=>?_⟩;by_cases e:j=i
    ·subst e;omega
    ·exact h2 j omm
   ·rintro ⟨h1,h2⟩;exact ⟨⟨h1,fun j hj=>h2 j omm⟩,by rw [<-hz];exact h2 i omm⟩
  obtain ⟨z,hz⟩:∃z,g i=z:=⟨_,rfl⟩;rw [hz] at c0;have Gu:=ae (HS.o z hz);clear hz hc q2 HS;cases ok with
  |false=>have HG:=ae (Gu.o false smm);clear Gu;go_wp2_with fail;exact ⟨_,i+1,_,acE.of _ rfl,rfl,rfl,rfl,dh.o,omm,rfl,HG⟩
  |true=>have HG:=ae (Gu.o (decide (z<=20000)) smm);clear Gu;go_wp2_with fail;exact ⟨_,i+1,_,acE.of _ rfl,rfl,rfl,rfl,dh.o,omm,rfl,HG⟩
 ·obtain rfl:i=n:=omm;clear a8;go_wp2_with fail;exact Eq.mpr (afK (fun a=>Q (.exit 2) a W) (acE.of _ rfl)) (eZ _ _ rfl HA.o)
theorem Va {qv:Value} (h:fP w K p) (hq:aV w 1 qv c.aI.length (aU c.aI)):Calls prog 14 #[pV K p,cV c qv] w (fun e w'=>e= .returned (.bool (qy p c))/\Below w.heap.size w w'):=by
 obtain ⟨⟨ga,gc,g1,g2,g3⟩,⟨va,vc,v1,v2,v3⟩,⟨ta,tc,t1,t2,t3⟩,⟨oa,oc,o1,o2,o3⟩,⟨ca,cc,c1,c2,c3⟩⟩:=h.sl;obtain ⟨qa,qc,rfl,-,-⟩:=hq.val;have PJ:=ae (fun V (hb:Below w.heap.size w V)=>QQ (w:=V) (h.aB (da.ah hb)));have HQ:=ae hq;obtain ⟨W0,lL⟩:∃W0,W0=(w.alloc (.cells #[.slice ga p.ap.length gc,.slice va p.vars.length vc,.slice ta p.aW.length tc,.slice oa p.on.length oc,ι p.aJ,.slice ca p.code.length cc] 27)).alloc (.cells #[ι c.size,.slice qa c.aI.length qc] 29):=⟨_,rfl⟩;have kp:ay W0 w.heap.size 27 #[.slice ga p.ap.length gc,.slice va p.vars.length vc,.slice ta p.aW.length tc,.slice oa p.on.length oc,ι p.aJ,.slice ca p.code.length cc]:=by rw [lL];exact (ay.new _ _ _).alloc _
 have kc:ay W0 (w.heap.size+1) 29 #[ι c.size,.slice qa c.aI.length qc]:=by rw [lL];exact ay.a_ smm
 have dQ:Below w.heap.size w W0:=by rw [lL];exact ((afL _ _).alloc (afF _) _).alloc smm _
 have k0:=kc.c1;unfold pV cV at*;rw [g1,v1,t1,o1,c1] at PJ ⊢;clear h hq g1 v1 t1 o1 c1 g2 g3 v2 v3 t2 t3 o2 o3 c2 c3;go_enter func14,ntmps14;have gp:=ae dQ;have KP:=ae kp;have KC:=ae kc;clear dQ kp kc;subst lL;go_wp2_with fail;obtain ⟨W0,lL⟩:∃W0,W0=(w.alloc (.cells #[.slice ga p.ap.length gc,.slice va p.vars.length vc,.slice ta p.aW.length tc,.slice oa p.on.length oc,ι p.aJ,.slice ca p.code.length cc] 27)).alloc (.cells #[ι c.size,.slice qa c.aI.length qc] 29):=⟨_,rfl⟩;rw [<-lL] at gp KP KC ⊢;clear lL k0;refine sn1 (W0:=W0) (pb:=w.heap.size) (cb:=w.heap.size+1) (ae (HQ.o.aB (da.ah gp.o))) KC (fun B b h4 hb=>?_) (fun J j2 hb=>?_) ⟨_,0,c.size,acE.of _ rfl,rfl,rfl,rfl,rfl,afO _,omm,rfl,ae (fun j hj=>absurd hj omm)⟩
 ·try simp only [Exit.inBlock,Exit.then]
  have HV:=ae (show qy p c=b by unfold qy;rw [hb])
  first|refine Vf.eP (P:=prog) (fn:=Tryz.f14) rfl ?_|(rw [af8];refine Vf.eP (P:=prog) (fn:=Tryz.f14) rfl ?_)
  exact ⟨by rw [h4,HV.o],gp.o⟩
 have HV:=ae (show qy p c=(if (aZ p).1=0 then decide (bN p p.aJ<=gD)&&p.on.all (fun n=>decide (bN p n<=gD)) else true) by unfold qy;rw [hb]);unfold acE;rw [j2];clear j2 hb;obtain ⟨p0,p1,p2,p3,p4,p5⟩:=KP.o.c6;go_wp2_with fail;refine (PJ.o _ gp.o).mono ?_;rintro e W1 ⟨wB,ms,rfl,hb,h1,h2⟩;have HT:Hid (∃(n:Nat) (g:Nat->Int),n<=16/\aV W1 1 wB n (fun i=> ι (g i))/\(∀ok:Bool,(ok=true↔ms<=20000/\∀j,j < n->g j<=20000)->qy p c=ok)):=by
  refine ae ?_;by_cases hv:(aZ p).1=0
  ·obtain ⟨e1,hr⟩:=h1 hv;have tb:vj p:=by exact ag2
   refine ⟨p.on.length,fun i=>(bN p (p.on.getD i 0):Nat),by have:=tb.on;have:=tb.g;omega,hr,fun ok lO=>?_⟩;rw [HV.o,afE hv];have:(decide (bN p p.aJ<=gD)&&p.on.all (fun n=>decide (bN p n<=gD)))=true↔ok=true:=by
    rw [lO,afW,afX,wK (0:Int),e1];simp only [afX];unfold gD;constructor
    ·rintro ⟨a,b⟩;exact ⟨omm,fun j hj=>by have:=b j hj;omega⟩
    ·rintro ⟨a,b⟩;exact ⟨omm,fun j hj=>by have:=b j hj;omega⟩
   exact Bool.eq_iff_iff.2 this
  ·obtain ⟨e1,e2⟩:=h2 hv;refine ⟨0,fun _=>0,omm,.inl ⟨e1,rfl⟩,fun ok lO=>?_⟩;rw [HV.o,abH hv];exact (lO.2 ⟨by rw [e2];decide,fun j hj=>absurd hj omm⟩).symm
 obtain ⟨n,g,hn,hr,lO⟩:=HT.o;have xz:=ae lO;have HR:=ae hr;have dC:=ae (gp.o.trans (hb.mono gp.o.size));obtain ⟨a9,c9,rfl,-,-⟩:=hr.val;clear p0 p1 p2 p3 p4 p5 h1 h2 HT hb hr lO PJ HV;go_wp2_with fail;refine sn2 (W0:=W1.alloc (.cells #[.slice a9 n c9,ι ms] 97)) (gb:=W1.heap.size) (ae (HR.o.aB ((da.refl [] _).alloc _))) hn (ae (ay.new _ _ _)) (fun J ok j8 lO=>?_) ⟨_,0,decide (ms<=20000),acE.of _ rfl,rfl,rfl,rfl,afO _,omm,rfl,ae smm⟩;have HG:=ae (xz.o ok lO);unfold acE;rw [j8];clear j8 lO;go_wp2_with fail
 first|refine Vf.eP (P:=prog) (fn:=Tryz.f14) rfl ?_|(rw [af8];refine Vf.eP (P:=prog) (fn:=Tryz.f14) rfl ?_)
 exact ⟨by rw [HG.o];rfl,dC.o.alloc dC.o.size _⟩
end
end Go.Proofs.YtblkblclmbhjiaaGreat.Rv
namespace Go.Proofs.YtblkblclmbhjiaaGreat.Ma
open Go.RowKit ak.Vm
open ak hiding aL an aj
open Vf (aV Kp fP pV Cv Ua)
def FO (J:Nat->Value):Act:={tmps:=#[J 0,J 1,J 2,J 3,J 4,J 5,J 6,J 7,J 8,J 9,J 10,J 11,J 12,J 13,J 14,J 15,J 16,J 17,J 18,J 19,J 20,J 21,J 22,J 23,J 24,J 25,J 26,J 27,J 28,J 29,J 30,J 31,J 32,J 33,J 34],defers:=[]}
theorem FO.of (A:Array Value) (h:A=(FO fun k=>A.getD k undef).tmps):({tmps:=A,defers:=[]}:Act)=FO fun k=>A.getD k undef:=by rw [h];rfl
def SO1 (W0:World) (n gb:Nat) (m:Nat) (a:Act) (W:World):Prop:=∃(J:Nat->Value) (i:Nat) (ok:Bool),a=FO J/\J 3=ρ gb/\J 5= .bool ok/\J 6=ι i/\i<=n/\m+i=n+1/\W=W0
section
variable {w:World} {K:Kp} {p:aO}
theorem ad2 (hv:(aZ p).1=0):vj p:=by exact ag2
theorem aeT (h:fP w K p):Calls prog 13 #[pV K p] w (fun e w'=>(∃b,e= .returned (.bool b))/\Below w.heap.size w w'):=by
 have HR:=ae (fun V (hb:Below w.heap.size w V)=>Ua (w:=V) (h.aB (da.ah hb)));obtain ⟨⟨ga,gc,g1,g2,g3⟩,⟨va,vc,v1,v2,v3⟩,⟨ta,tc,t1,t2,t3⟩,⟨oa,oc,o1,o2,o3⟩,⟨ca,cc,c1,c2,c3⟩⟩:=h.sl;unfold pV at HR ⊢;rw [g1,v1,t1,o1,c1] at HR ⊢;have gp:=ae (show Below w.heap.size w (w.alloc (.cells #[.slice ga p.ap.length gc,.slice va p.vars.length vc,.slice ta p.aW.length tc,.slice oa p.on.length oc,ι p.aJ,.slice ca p.code.length cc] 27)) from (afL _ _).alloc (afF _) _);clear h g1 v1 t1 o1 c1 g2 g3 v2 v3 t2 t3 o2 o3 c2 c3;go_enter func13,ntmps13;go_wp2_with fail;refine (HR.o _ gp.o).mono ?_;rintro e W1 ⟨wB,ms,rfl,⟨xa,xn,xc,rfl⟩,hb,h1⟩;have dC:=ae (gp.o.trans (hb.mono gp.o.size));have H1:=ae h1;clear hb h1 HR gp;have hB:Below W1.heap.size W1 ((W1.alloc (.cells #[.slice xa xn xc,ι ms] 97)).alloc (.cells #[ι (aZ p).1,ι (aZ p).2] 99)):=((afL _ _).alloc (afF _) _).alloc smm _;have kc:ay ((W1.alloc (.cells #[.slice xa xn xc,ι ms] 97)).alloc (.cells #[ι (aZ p).1,ι (aZ p).2] 99)) W1.heap.size 97 #[.slice xa xn xc,ι ms]:=(ay.new _ _ _).alloc _;have LJ:=ae hB;have KC:=ae kc;clear hB kc;by_cases hv:(aZ p).1=0
 ·obtain ⟨-,hr⟩:=H1.o hv;have hn:p.on.length<=16:=by have:=(ad2 hv).on;have:=(ad2 hv).g;omega
  have hrx:=hr;obtain ⟨za,zc,ez,-,-⟩:=hrx.val;simp only [afH] at ez;obtain ⟨rfl,rfl,rfl⟩:=ez;have HR:=ae (hr.aB (da.ah (S:=[]) LJ.o));have d:((aZ p).1 !=0)=false:=by simp [hv]
  clear hr hrx H1;generalize (aZ p).1=x1 at*;generalize (aZ p).2=x2 at*;generalize hL:p.on.length=n at*;clear hL hv;go_wp2_with fail;have ki:=ae (dC.o.trans (LJ.o.mono dC.o.size));clear LJ dC;generalize (W1.alloc (.cells #[.slice xa n xc,ι ms] 97)).alloc (.cells #[ι x1,ι x2] 99)=W0 at*;generalize W1.heap.size=gb at*;refine Mk.aP (SO1 W0 n gb) (n+1) ⟨_,0,_,FO.of _ rfl,rfl,rfl,rfl,afO _,omm,rfl⟩ (fun a W hh=>by obtain ⟨J,i,ok,-,-,-,-,h1,h2,-⟩:=hh;omega) ?_;rintro m a W ⟨J,i,ok,rfl,j3,j5,j6,hi,hm,rfl⟩;unfold FO;rw [j3,j5,j6];clear j3 j5 j6;have w2:=ag5 i omm;have k0:=KC.o.c1;have lc:=KC.o.lt;by_cases a8:i < n
  ·obtain ⟨b,off,cap,e,q1,q2,lb,hc⟩:=HR.o.some omm omm;simp only [afH] at e;obtain ⟨rfl,-,rfl⟩:=e;obtain ⟨z,c0⟩:∃z,W.cell? (π b (off+i))=some (ι z):=⟨_,hc i omm⟩;have dh:=ae a8;clear hc q2;cases ok with
   |false=>go_wp2_with fail;exact ⟨_,i+1,_,FO.of _ rfl,rfl,rfl,rfl,dh.o,omm,rfl⟩
   |true=>go_wp2_with fail;exact ⟨_,i+1,_,FO.of _ rfl,rfl,rfl,rfl,dh.o,omm,rfl⟩
  ·obtain rfl:i=n:=omm;clear a8;go_wp2_with fail
   first|refine Vf.eP (P:=prog) (fn:=Tryz.f13) rfl ?_|(rw [af8];refine Vf.eP (P:=prog) (fn:=Tryz.f13) rfl ?_)
   exact ⟨⟨_,rfl⟩,ki.o⟩
 ·have d:((aZ p).1 !=0)=true:=by simpa using hv
  clear H1;generalize (aZ p).1=x1 at*;generalize (aZ p).2=x2 at*;clear hv;go_wp2_with fail
  first|refine Vf.eP (P:=prog) (fn:=Tryz.f13) rfl ?_|(rw [af8];refine Vf.eP (P:=prog) (fn:=Tryz.f13) rfl ?_)
  exact ⟨⟨_,rfl⟩,dC.o.trans (LJ.o.mono dC.o.size)⟩
end
end Go.Proofs.YtblkblclmbhjiaaGreat.Ma
namespace Go.Proofs.YtblkblclmbhjiaaGreat.Ma
open Go.RowKit ak.Vm
open ak hiding aL an aj
open Vf (Kp fP pV aV cV)
section
variable {w:World} {K:Kp} {p:aO} {c:Cp} {qv:Value} {sa:Option Addr} {sn sc k:Nat}
theorem aex (h:Rv.qy p c=true) (hv:(aZ p).1=0) (lO:kH p c=true):mh p:=by obtain ⟨T,E⟩:=Nc hv lO;exact Rv.QR h hv fun j hj=>(E.gQ.q1 j (by rw [<-E.gQ.len];exact hj)).2
theorem aeU (p:aO) (c:Cp) (σ:Nat->Nat):uD σ (aw p c).nq (xx p) (xx p):=⟨rfl,rfl,fun q n _ hn=>by simp [xx] at hn,fun k=>rfl,rfl,rfl⟩
theorem ae8 (h:fP w K p) (hq:aV w 1 qv c.aI.length (aU c.aI)) (hs:GR w sa sn) (hk:k < 18446744073709551616):Calls prog 5 #[pV K p,cV c qv,.slice sa sn sc,.int .u64 k] w (fun e w'=>e= .returned (.bool true)/\Below w.heap.size w w'):=by
 obtain ⟨⟨ga,gc,g1,g2,g3⟩,⟨va,vc,v1,v2,v3⟩,⟨ta,tc,t1,t2,t3⟩,⟨oa,oc,o1,o2,o3⟩,⟨ca,cc,c1,c2,c3⟩⟩:=h.sl;obtain ⟨qa,qc,rfl,-,-⟩:=hq.val;have YZ:=ae (fun V (hb:Below w.heap.size w V)=>Vf.Α V (h.aB (da.ah hb)));have HSP:=ae (fun V (hb:Below w.heap.size w V)=>aeT (w:=V) (h.aB (da.ah hb)));have HSO:=ae (fun V (hb:Below w.heap.size w V)=>Rv.Va (w:=V) (h.aB (da.ah hb)) (hq.aB (da.ah hb)));have HNW:=ae (fun V (hb:Below w.heap.size w V) (hS:(aZ p).1=0->kH p c=true->mh p)=>E_ (w:=V) (h.aB (da.ah hb)) (hq.aB (da.ah hb)) hS);have HS:=ae hs;obtain ⟨W0,lL⟩:∃W0,W0=(w.alloc (.cells #[.slice ga p.ap.length gc,.slice va p.vars.length vc,.slice ta p.aW.length tc,.slice oa p.on.length oc,ι p.aJ,.slice ca p.code.length cc] 27)).alloc (.cells #[ι c.size,.slice qa c.aI.length qc] 29):=⟨_,rfl⟩;have kp:ay W0 w.heap.size 27 #[.slice ga p.ap.length gc,.slice va p.vars.length vc,.slice ta p.aW.length tc,.slice oa p.on.length oc,ι p.aJ,.slice ca p.code.length cc]:=by rw [lL];exact (ay.new _ _ _).alloc _
 have kc:ay W0 (w.heap.size+1) 29 #[ι c.size,.slice qa c.aI.length qc]:=by rw [lL];exact ay.a_ smm
 have dQ:Below w.heap.size w W0:=by rw [lL];exact ((afL _ _).alloc (afF _) _).alloc smm _
 have HKN:=ae (Qk W0);unfold pV cV at*;rw [g1,v1,t1,o1,c1] at YZ HSP HSO HNW ⊢;clear h hq hs g1 v1 t1 o1 c1 g2 g3 v2 v3 t2 t3 o2 o3 c2 c3;have gp:=ae dQ;have KP:=ae kp;have KC:=ae kc;clear dQ kp kc;go_enter func5,ntmps5;go_wp2_with fail;rw [<-lL];clear lL;refine HKN.o.mono ?_;rintro e W1 ⟨rfl,eN⟩;have dC:=ae (gp.o.trans (eN.mono gp.o.size));have Kk:=ae eN;clear eN;obtain ⟨p0,p1,p2,p3,p4,p5⟩:=(KP.o.aB (da.ah (S:=[]) Kk.o) smm).c6;obtain ⟨q0,q1⟩:=(KC.o.aB (da.ah (S:=[]) Kk.o) smm).c2;go_wp2_with fail;refine (YZ.o _ dC.o).mono ?_;rintro e W2 ⟨rfl,dn⟩;have lN:=ae (Kk.o.trans (dn.mono Kk.o.size));have fg:=ae (dC.o.trans (dn.mono dC.o.size));clear p0 p1 p2 p3 p4 p5 q0 q1 dn;obtain ⟨p0,p1,p2,p3,p4,p5⟩:=(KP.o.aB (da.ah (S:=[]) lN.o) smm).c6;obtain ⟨q0,q1⟩:=(KC.o.aB (da.ah (S:=[]) lN.o) smm).c2;by_cases hf:p.code.length<=3000
 ·have d:decide (p.code.length<=3000)=true:=agx hf;rw [d];clear d hf;go_wp2_with fail;refine (HSP.o _ fg.o).mono ?_;rintro e W3 ⟨⟨b3,rfl⟩,wN⟩;have Jj:=ae (lN.o.trans (wN.mono lN.o.size));have ki:=ae (fg.o.trans (wN.mono fg.o.size));clear p0 p1 p2 p3 p4 p5 q0 q1 wN;cases b3 with
  |false=>
   go_wp2_with fail
   first|refine Vf.eP (P:=prog) (fn:=Tryz.f5) rfl ?_|(rw [af8];refine Vf.eP (P:=prog) (fn:=Tryz.f5) rfl ?_)
   exact ⟨rfl,ki.o⟩
  |true=>
   obtain ⟨p0,p1,p2,p3,p4,p5⟩:=(KP.o.aB (da.ah (S:=[]) Jj.o) smm).c6;obtain ⟨q0,q1⟩:=(KC.o.aB (da.ah (S:=[]) Jj.o) smm).c2;go_wp2_with fail;refine (HSO.o _ ki.o).mono ?_;rintro e W4 ⟨rfl,wQ⟩;have HX4:=ae (Jj.o.trans (wQ.mono Jj.o.size));have mU:=ae (ki.o.trans (wQ.mono ki.o.size));clear p0 p1 p2 p3 p4 p5 q0 q1 wQ;cases mS:Rv.qy p c with
   |false=>
    clear mS;go_wp2_with fail
    first|refine Vf.eP (P:=prog) (fn:=Tryz.f5) rfl ?_|(rw [af8];refine Vf.eP (P:=prog) (fn:=Tryz.f5) rfl ?_)
    exact ⟨rfl,mU.o⟩
   |true=>
    have HSN:=ae (aex (p:=p) (c:=c) mS);clear mS;obtain ⟨p0,p1,p2,p3,p4,p5⟩:=(KP.o.aB (da.ah (S:=[]) HX4.o) smm).c6;obtain ⟨q0,q1⟩:=(KC.o.aB (da.ah (S:=[]) HX4.o) smm).c2;go_wp2_with fail;refine (HNW.o _ mU.o HSN.o).mono ?_;rintro e W5 ⟨BG,⟨-,er,Vi,rfl⟩|⟨hv,lO,CA,rfl,hvm⟩⟩
    ·have nA:=ae (mU.o.trans (BG.mono mU.o.size));have ZH:=ae (HX4.o.trans (BG.mono HX4.o.size));have he0:(er==0)=false:=by simpa using Vi
     clear p0 p1 p2 p3 p4 p5 q0 q1 BG;obtain ⟨p0,p1,p2,p3,p4,p5⟩:=(KP.o.aB (da.ah (S:=[]) ZH.o) smm).c6;obtain ⟨q0,q1⟩:=(KC.o.aB (da.ah (S:=[]) ZH.o) smm).c2;go_wp2_with fail;refine (HNW.o _ nA.o HSN.o).mono ?_;rintro e W6 ⟨uw,⟨-,er2,-,rfl⟩|⟨-,-,C2,rfl,-⟩⟩
     all_goals
      have AM:=ae (nA.o.trans (uw.mono nA.o.size));clear p0 p1 p2 p3 p4 p5 q0 q1 uw;go_wp2_with fail
      first|refine Vf.eP (P:=prog) (fn:=Tryz.f5) rfl ?_|(rw [af8];refine Vf.eP (P:=prog) (fn:=Tryz.f5) rfl ?_)
      exact ⟨rfl,AM.o⟩
    ·have nA:=ae (mU.o.trans (BG.mono mU.o.size));have ZH:=ae (HX4.o.trans (BG.mono HX4.o.size));have HVM:=ae hvm;have HVO:=ae (And.intro hv lO);have Om:=ae (And.intro mU.o.size BG.size);clear p0 p1 p2 p3 p4 p5 q0 q1 BG hvm hv lO;obtain ⟨p0,p1,p2,p3,p4,p5⟩:=(KP.o.aB (da.ah (S:=[]) ZH.o) smm).c6;obtain ⟨q0,q1⟩:=(KC.o.aB (da.ah (S:=[]) ZH.o) smm).c2;go_wp2_with fail;refine (HNW.o _ nA.o HSN.o).mono ?_;rintro e W6 ⟨uw,⟨hn,-⟩|⟨-,-,CB,rfl,hvB⟩⟩
     ·exact absurd HVO.o hn
     have AM:=ae (nA.o.trans (uw.mono nA.o.size));have HT:=ae (show ∃RA RB,TB W6 w.heap.size CA RA CB RB p c (xx p) (xx p) 0 0 [] from by
      obtain ⟨RA,hA,lA⟩:=HVM.o.r;obtain ⟨RB,hB,lB⟩:=hvB.r;have hA6:=hA.aB (da.ah (S:=[]) uw) smm;have l1:=Om.o.1;have l2:=Om.o.2;refine ⟨RA,RB,⟨hA6,hB,fun x hx hc=>?_,fun x hx hc=>?_,fun x hx=>by have:=lA x hx;omega,fun x hx=>by have:=lB x hx;omega⟩,AM.o.size,fun b hb=>by simp at hb⟩
      ·have:=hA.lt hx;have:=lB x (by simp [hc]);omega
      ·have:=hA.lt (b:=x) (by simp [hc]);have:=lB x hx;omega)
     clear p0 p1 p2 p3 p4 p5 q0 q1 uw hvB;obtain ⟨RA,RB,hT⟩:=HT.o;have uW:=ae hT;clear hT HT HVM Om;go_wp2_with fail;refine aeR (w:=w) (k:=k) (mA:=CA.mb) (mB:=CB.mb) (p:=p) (c:=c) (sn:=sn) (sc:=sc) (sa:=sa) HS hk (fun J W hb=>?_) ⟨_,0,FV.of _ rfl,rfl,rfl,rfl,rfl,rfl,afO _,omm,ae ⟨AM.o,CA,RA,CB,RB,_,_,_,_,rfl,rfl,uW.o,aeU p c _⟩⟩;have HB:=ae hb;clear hb;unfold FV;go_wp2_with fail
     first|refine Vf.eP (P:=prog) (fn:=Tryz.f5) rfl ?_|(rw [af8];refine Vf.eP (P:=prog) (fn:=Tryz.f5) rfl ?_)
     exact ⟨rfl,HB.o⟩
 ·have d:decide (p.code.length<=3000)=false:=decide_eq_false hf;rw [d];clear d hf;go_wp2_with fail
  first|refine Vf.eP (P:=prog) (fn:=Tryz.f5) rfl ?_|(rw [af8];refine Vf.eP (P:=prog) (fn:=Tryz.f5) rfl ?_)
  exact ⟨rfl,fg.o⟩
end
end Go.Proofs.YtblkblclmbhjiaaGreat.Ma
namespace Go.Proofs.YtblkblclmbhjiaaGreat.Ma
open Go.RowKit ak.Vm Go.ChangeShapes Go.WideShapes Go.Deep
open ak hiding aL an aj
open Vf (Kp fP pV aV)
section
variable {H:Type} {enc:TypeId×Value->H} {P:Program} {w:World} {base:Nat} {spare:Nat->Bool} {held:Bool}
def Rd (enc:TypeId×Value->H) (P:Program) (w:World) (base:Nat) (spare:Nat->Bool) (held:Bool) (t:TypeId) (cs:List Value):Prop:=∃n y,DataW.trod enc P w base spare held n t cs=some y
theorem Rd.int {t:TypeId} {k:IntKind} {v:Value} (ht:P.underlying t=some (.int k)) (h:Rd enc P w base spare held t [v]):∃n,v= .int k n/\(Lit.int k n).wf=true:=by obtain ⟨f,y,h⟩:=h;obtain ⟨n,e,-,hw⟩:=DataW.trod_int ht h;simp at e;exact ⟨n,e,hw⟩
theorem Rd.bool {t:TypeId} {v:Value} (ht:P.underlying t=some .bool) (h:Rd enc P w base spare held t [v]):∃b,v= .bool b:=by obtain ⟨f,y,h⟩:=h;obtain ⟨n,e,-⟩:=DataW.trod_bool ht h;simp at e;exact ⟨n,e⟩
theorem Rd.fields {t:TypeId} {fs:Array Field} {cs:List Value} (ht:P.underlying t=some (.struct fs)) (Vb:oneCellFields P fs=true) (hC:P.cellsOf t=fs.size) (h:Rd enc P w base spare held t cs):
 cs.length=fs.size/\∀(j:Nat) (f:Field),fs[j]? =some f->∃v,cs[j]? =some v/\Rd enc P w base spare held f.type [v]:=by
 obtain ⟨fu,y,h⟩:=h;obtain ⟨xs,n,-,-,hl,hx,hf⟩:=DataW.trod_struct ht h;rw [hC] at hl;refine ⟨hl,fun j f hj=>?_⟩;have a8:j < fs.size:=(Array.getElem?_eq_some_iff.1 hj).1;obtain ⟨ho,hk⟩:=hone_of Vb j f hj;have h1:=hf j f hj;rw [ho,hk,afP omm] at h1;have:(cs.drop j).take 1=[cs[j]'omm]:=by rw [agu omm];rfl
 rw [this] at h1;exact ⟨_,afP omm,n,_,h1⟩
theorem Rd.rows {t e:TypeId} {v:Value} (ht:P.underlying t=some (.slice e)) (h:Rd enc P w base spare held t [v]):
 v=ν\/∃a len cap,v= .slice (some a) len cap/\len<=cap/\cap<=maxLen/\∀i,i < len->∃cs,cs.length=P.cellsOf e/\(∀j,j < P.cellsOf e->w.cell? (a.add (i*P.cellsOf e+j))=cs[j]?)/\Rd enc P w base spare held e cs:=by
 obtain ⟨fu,y,h⟩:=h;rcases open_slice ht h with ⟨h0,-⟩|⟨a,len,cap,m,n,D,Pl,qt,hb,hl,hm,yZ,hx,hi⟩
 ·simp at h0;exact .inl h0
 ·simp at qt;refine .inr ⟨a,len,cap,qt,hl,hm,fun i mX=>?_⟩;obtain ⟨cs',hc,ht'⟩:=hi i (by rw [yZ];split<;>omega);obtain ⟨-,hcl,Da⟩:=World.cells?_some hc;exact ⟨cs',hcl,fun j hj=>by rw [<-Go.Deep.add_add];exact Da j hj,n,_,ht'⟩
theorem at_plain {a:Addr} {n:Nat} {v:Value} (h:w.cell? (a.add n)=some v) (h0:∃u,w.cell? (a.add 0)=some u):a.spot=none/\w.cell? (π a.block (a.off+n))=some v:=by
 obtain ⟨u,h0⟩:=h0;have hs:a.spot=none:=by simpa [Addr.add] using World.cell?_spot h0
 obtain ⟨b,o,sp⟩:=a;dsimp only at hs;subst hs;rw [add_plain] at h;exact ⟨rfl,h⟩
def cI (w:World) (b o:Nat):Int:=match w.cell? ⟨b,o,none⟩ with|some (.int _ n)=>n|_=>0
def cB (w:World) (b o:Nat):Bool:=match w.cell? ⟨b,o,none⟩ with|some (.bool n)=>n|_=>false
theorem Rd.ints {t e:TypeId} {v:Value} {k:Nat} (ht:P.underlying t=some (.slice e)) (hk:P.cellsOf e=k) (Cj:0 < k)
 (he:∀cs,Rd enc P w base spare held e cs->∀j,j < k->∃n,cs[j]? =some (ι n)) (h:Rd enc P w base spare held t [v]):∃(n:Nat) (g:Nat->Int),aV w k v n (fun o=> ι (g o)):=by
 rcases h.rows ht with rfl|⟨a,len,cap,rfl,h1,h2,h3⟩
 ·exact ⟨0,fun _=>0,.inl ⟨rfl,rfl⟩⟩
 ·rw [hk] at h3;have at_:∀o,o < len*k->∃n,w.cell? (a.add o)=some (ι n):=fun o ho=>by have hi:o / k < len:=Nat.div_lt_of_lt_mul (by rw [Nat.mul_comm];exact ho);have hj:o % k < k:=Nat.mod_lt _ Cj;obtain ⟨cs,hl,hc,hr⟩:=h3 (o / k) hi;obtain ⟨n,hn⟩:=he cs hr _ hj;have:=hc _ hj;rw [show o / k*k+o % k=o from Nat.div_add_mod' o k] at this;exact ⟨n,this.trans hn⟩
  refine ⟨len,fun o=>cI w a.block (a.off+o),.inr ⟨a,cap,rfl,h1,h2,fun o ho=>?_⟩⟩;obtain ⟨n,hn⟩:=at_ o ho;obtain ⟨u,hu⟩:=at_ 0 omm;obtain ⟨e1,e2⟩:=at_plain hn ⟨_,hu⟩;refine ⟨e1,?_⟩;unfold cI;dsimp only;rw [e2]
theorem Rd.Β {t e:TypeId} {v:Value} (ht:P.underlying t=some (.slice e)) (hk:P.cellsOf e=1) (he:P.underlying e=some .bool) (h:Rd enc P w base spare held t [v]):∃(n:Nat) (g:Nat->Bool),aV w 1 v n (fun o=> .bool (g o)):=by
 rcases h.rows ht with rfl|⟨a,len,cap,rfl,h1,h2,h3⟩
 ·exact ⟨0,fun _=>false,.inl ⟨rfl,rfl⟩⟩
 ·rw [hk] at h3;have at_:∀o,o < len->∃n,w.cell? (a.add o)=some (.bool n):=fun o ho=>by
   obtain ⟨cs,hl,hc,hr⟩:=h3 o ho
   match cs,hl with
   |[x],_=>obtain ⟨b,rfl⟩:=hr.bool he;have:=hc 0 omm;rw [Nat.mul_one,Nat.add_zero] at this;exact ⟨b,this⟩
  refine ⟨len,fun o=>cB w a.block (a.off+o),.inr ⟨a,cap,rfl,h1,h2,fun o ho=>?_⟩⟩;obtain ⟨n,hn⟩:=at_ o omm;obtain ⟨u,hu⟩:=at_ 0 omm;obtain ⟨e1,e2⟩:=at_plain hn ⟨_,hu⟩;refine ⟨e1,?_⟩;unfold cB;dsimp only;rw [e2]
theorem ox {size n:Nat} {v:Value} {g f:Nat->Value} (h:aV w size v n g) (e:∀o,o < n*size->g o=f o):aV w size v n f:=by
 rcases h with h|⟨a,cap,h0,h1,h2,h3⟩
 ·exact .inl h
 ·exact .inr ⟨a,cap,h0,h1,h2,fun o ho=>⟨(h3 o ho).1,by rw [<-e o ho];exact (h3 o ho).2⟩⟩
theorem oy {α:Type} (g:Nat->α) (d:α) {n i:Nat} (h:i < n):((List.range n).map g).getD i d=g i:=by simp [List.getD,h]
theorem wM {t:TypeId} {fs:Array Field} {k:Nat} (ht:prog.underlying t=some (.struct fs)) (Vb:oneCellFields prog fs=true) (hC:prog.cellsOf t=k) (hk:fs.size=k)
 (hi:∀(j:Nat) f,fs[j]? =some f->prog.underlying f.type=some (.int .i64)) (cs:List Value) (h:Rd enc prog w base spare held t cs) (j:Nat) (hj:j < k):∃n,cs[j]? =some (ι n):=by
 obtain ⟨hl,hf⟩:=h.fields ht Vb (hC.trans hk.symm);obtain ⟨v,h1,h2⟩:=hf j fs[j] (ago omm);obtain ⟨n,rfl,-⟩:=h2.int (hi j _ (ago omm));exact ⟨n,h1⟩
theorem AB {v:Value} (h:Rd enc prog w base spare held 24 [v]):∃l:List Int,aV w 1 v l.length (aU l):=by
 obtain ⟨n,g,hr⟩:=h.ints (k:=1) underlying24 krr omm (fun cs hc j hj=>by
  have hl:cs.length=1:=by obtain ⟨f,y,hc⟩:=hc;obtain ⟨n,e,-⟩:=DataW.trod_int underlying3 hc;rw [e];rfl
  match cs,hl with
  |[x],_=>
   obtain ⟨n,rfl,-⟩:=hc.int underlying3;obtain rfl:j=0:=omm;exact ⟨n,rfl⟩)
 refine ⟨(List.range n).map g,?_⟩;rw [List.length_map,List.length_range];exact ox hr fun o ho=>by unfold aU;rw [oy g 0 omm]
theorem NF {v:Value} (h:Rd enc prog w base spare held 22 [v]):∃l:List Bool,aV w 1 v l.length (fun i=> .bool (l.getD i false)):=by obtain ⟨n,g,hr⟩:=h.Β underlying22 krr underlying4;refine ⟨(List.range n).map g,?_⟩;rw [List.length_map,List.length_range];exact ox hr fun o ho=>by rw [oy g false omm]
theorem QT {v:Value} (h:Rd enc prog w base spare held 23 [v]):∃l:List Vr,aV w 3 v l.length (fun o=>let x:=l.getD (o / 3) ⟨0,0,0⟩;if o % 3=0 then ι x.init else if o % 3=1 then ι x.lo else ι x.hi):=by
 obtain ⟨n,g,hr⟩:=h.ints (k:=3) underlying23 krr omm (wM underlying122 krr krr rfl (fun j f hf=>by
  match j,hf with
  |0,hf=>cases hf;exact underlying3
  |1,hf=>cases hf;exact underlying3
  |2,hf=>cases hf;exact underlying3
  |n+3,hf=>cases hf))
 refine ⟨(List.range n).map fun i=>⟨g (i*3),g (i*3+1),g (i*3+2)⟩,?_⟩;rw [List.length_map,List.length_range];refine ox hr fun o ho=>?_;dsimp only;rw [oy _ _ omm];dsimp only;split
 ·congr;omega
 split
 ·congr;omega
 ·congr;omega
theorem QU {v:Value} (h:Rd enc prog w base spare held 25 [v]):∃l:List Ins,aV w 5 v l.length (fun o=>let x:=l.getD (o / 5) ⟨0,0,0,0,0⟩;if o % 5=0 then ι x.op else if o % 5=1 then ι x.a else if o % 5=2 then ι x.b else if o % 5=3 then ι x.c else ι x.d):=by
 obtain ⟨n,g,hr⟩:=h.ints (k:=5) underlying25 krr omm (wM underlying40 krr krr rfl (fun j f hf=>by
  match j,hf with
  |0,hf=>cases hf;exact underlying3
  |1,hf=>cases hf;exact underlying3
  |2,hf=>cases hf;exact underlying3
  |3,hf=>cases hf;exact underlying3
  |4,hf=>cases hf;exact underlying3
  |n+5,hf=>cases hf))
 refine ⟨(List.range n).map fun i=>⟨g (i*5),g (i*5+1),g (i*5+2),g (i*5+3),g (i*5+4)⟩,?_⟩;rw [List.length_map,List.length_range];refine ox hr fun o ho=>?_;dsimp only;rw [oy _ _ omm];dsimp only;split
 ·congr;omega
 split
 ·congr;omega
 split
 ·congr;omega
 split
 ·congr;omega
 ·congr;omega
theorem QV {v:Value} {cs:Array Value} (e:v= .agg cs) (h:Rd enc prog w base spare held 27 cs.toList):∃(K:Kp) (p:aO),v=pV K p/\fP w K p:=by
 obtain ⟨hl,hf⟩:=h.fields underlying27 krr krr;obtain ⟨v0,e0,r0⟩:=hf 0 _ rfl;obtain ⟨v1,e1,r1⟩:=hf 1 _ rfl;obtain ⟨v2,e2,r2⟩:=hf 2 _ rfl;obtain ⟨v3,e3,r3⟩:=hf 3 _ rfl;obtain ⟨v4,e4,r4⟩:=hf 4 _ rfl;obtain ⟨v5,e5,r5⟩:=hf 5 _ rfl;obtain ⟨g,hg⟩:=NF r0;obtain ⟨vs,hv⟩:=QT r1;obtain ⟨ts,htg⟩:=AB r2;obtain ⟨on,ho⟩:=AB r3;obtain ⟨m,rfl,-⟩:=r4.int underlying3;obtain ⟨c,hc⟩:=QU r5;refine ⟨⟨v0,v1,v2,v3,v5⟩,⟨g,vs,ts,on,m,c⟩,?_,hg,hv,htg,ho,hc⟩;subst e;obtain ⟨l⟩:=cs
 match l,hl with
 |[x0,x1,x2,x3,x4,x5],_=>simp only [List.getElem?_cons_zero,List.getElem?_cons_succ,af5] at e0 e1 e2 e3 e4 e5;subst e0 e1 e2 e3 e4 e5;rfl
theorem QW {v:Value} {cs:Array Value} (e:v= .agg cs) (h:Rd enc prog w base spare held 29 cs.toList):∃(c:Cp) (qv:Value),v=Vf.cV c qv/\aV w 1 qv c.aI.length (aU c.aI):=by
 obtain ⟨hl,hf⟩:=h.fields underlying29 krr krr;obtain ⟨v0,e0,r0⟩:=hf 0 _ rfl;obtain ⟨v1,e1,r1⟩:=hf 1 _ rfl;obtain ⟨m,rfl,-⟩:=r0.int underlying3;obtain ⟨q,hq⟩:=AB r1;refine ⟨⟨m,q⟩,v1,?_,hq⟩;subst e;obtain ⟨l⟩:=cs
 match l,hl with
 |[x0,x1],_=>simp only [List.getElem?_cons_zero,List.getElem?_cons_succ,af5] at e0 e1;subst e0 e1;rfl
end
end Go.Proofs.YtblkblclmbhjiaaGreat.Ma
