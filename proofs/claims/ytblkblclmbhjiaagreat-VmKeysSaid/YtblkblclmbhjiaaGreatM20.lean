import Derived.Test.YtblkblclmbhjiaaGreatM19
set_option linter.unusedVariables false
set_option linter.unusedSimpArgs false
set_option maxHeartbeats 40000000
set_option maxRecDepth 100000
open Go.Proofs.Tryz
theorem qX7 {p:Prop} (h:p:=by
 refine ⟨_,rfl,?_⟩;rw [afS];by_cases e:i < p.on.length
 ·rw [agh e,afP e];have:=tb.Xb _ (af6 e);simp only [Option.getD_some];omega
 ·rw [agf omm,show i - p.on.length=0 by omega];have:=tb.aJ;simp;omega):p:=h
namespace Go.Proofs.YtblkblclmbhjiaaGreat.Rv
open Go.RowKit ak.Vm
open ak hiding aL an aj
open Ma (dx bQ aU vb aA aQ)
open Vf (Kp fP pV qu bw aV)
def FP (J:Nat->Value):Act:={tmps:=#[J 0,J 1,J 2,J 3,J 4,J 5,J 6,J 7,J 8,J 9,J 10,J 11,J 12,J 13,J 14,J 15,J 16,J 17,J 18,J 19,J 20,J 21,J 22,J 23,J 24,J 25,J 26,J 27,J 28,J 29,J 30,J 31,J 32,J 33,J 34,J 35,J 36,J 37,J 38,J 39,J 40,J 41,J 42,J 43,J 44,J 45,J 46,J 47,J 48,J 49,J 50,J 51,J 52,J 53,J 54,J 55,J 56,J 57,J 58,J 59,J 60,J 61,J 62,J 63,J 64,J 65,J 66,J 67,J 68,J 69,J 70,J 71,J 72,J 73,J 74,J 75,J 76,J 77,J 78,J 79,J 80,J 81,J 82,J 83,J 84,J 85,J 86,J 87,J 88,J 89,J 90,J 91,J 92,J 93,J 94,J 95,J 96,J 97,J 98,J 99,J 100,J 101,J 102,J 103,J 104,J 105,J 106,J 107,J 108,J 109,J 110,J 111,J 112,J 113,J 114,J 115,J 116,J 117,J 118,J 119,J 120,J 121,J 122,J 123,J 124,J 125,J 126,J 127,J 128,J 129,J 130,J 131,J 132,J 133,J 134,J 135,J 136,J 137,J 138,J 139,J 140,J 141,J 142,J 143,J 144],defers:=[]}
theorem FP.of (A:Array Value) (h:A=(FP fun k=>A.getD k undef).tmps):({tmps:=A,defers:=[]}:Act)=FP fun k=>A.getD k undef:=by rw [h];rfl
noncomputable def plL (k:Nat):Code:=Mk.mK Tryz.f232.body k
theorem aaX (s t:kE) (hs:eI s.ty) (ht:eI t.ty) (w:World):(binOp .neq 262 (mQ s) (mQ t)).run prog w= .ok (.bool (!decide (s=t))) w:=by
 have h:=eqS s t hs ht w;unfold mQ at h ⊢;rw [run_eql_struct] at h;rw [run_neq_struct];cases hr:(Op.equalIn 10000 262 (.agg #[.string (nM s.ty),ι s.loop,ι s.hand,.bool s.jI]) (.agg #[.string (nM t.ty),ι t.loop,ι t.hand,.bool t.jI])).run prog w with
 |ok b w'=>rw [hr] at h;simp only [Result.andThen] at h ⊢;simp only [Result.ok.injEq,Value.bool.injEq] at h;rw [h.1,h.2]
 |halt x w'=>rw [hr] at h;simp [Result.andThen] at h
theorem QJ {α:Type} (d:α) (l:List α) {i:Nat} (hi:i < l.length):l.drop i=l.getD i d::l.drop (i+1):=by rw [agu hi,afS,afP hi];rfl
section
variable {w W0:World} {K:Kp} {p:aO} {j_ jA nv wv:Value} {lb A ph pc lo:Nat} {L:jS} {l:List (Nat×kE)} {Q:Exit->Act->World->Prop}
theorem g_.aB {W W':World} {S:List Nat} (h:g_ W lo nv wv l) (f:da S W W') (hS:∀b,b∈S->b < lo):g_ W' lo nv wv l:=
 ⟨h.n.aB f (fun b hb hm=>by have:=h.nl b hb;have:=hS b hm;omega),h.s.aB f (fun b hb hm=>by have:=h.wl b hb;have:=hS b hm;omega),h.nl,h.wl⟩
theorem g_.JM {W:World} (h:g_ W lo nv wv l) {i:Nat} (hi:i < l.length):∃b cap b' mI,nv= .slice (some (π b 0)) l.length cap/\wv= .slice (some (π b' 0)) l.length mI/\l.length<=cap/\l.length<=mI/\lo<=b/\lo<=b'/\W.cell? (π b i)=some (ι ((l.getD i zW).1:Nat))/\
 W.cell? (π b' (i*4))=some (.string (nM (l.getD i zW).2.ty))/\W.cell? (π b' (i*4+1))=some (ι (l.getD i zW).2.loop)/\W.cell? (π b' (i*4+2))=some (ι (l.getD i zW).2.hand)/\W.cell? (π b' (i*4+3))=some (.bool (l.getD i zW).2.jI):=by
 obtain ⟨b,cap,e,h1,-,-⟩:=h.n.some omm;obtain ⟨b',mI,e',h1',-,-⟩:=h.s.some omm;have hn:=h.n;have hs:=h.s;rw [e] at hn;rw [e'] at hs;have key:∀k,k < 4->W.cell? (π b' (i*4+k))=some ((#[.string (nM (l.getD i zW).2.ty),ι (l.getD i zW).2.loop,ι (l.getD i zW).2.hand,.bool (l.getD i zW).2.jI]:Array Value).getD k undef):=fun k hk=>by have e:=hs.cell (o:=i*4+k) omm;rw [e];unfold CQ;rw [show (i*4+k) / 4=i by omega,show (i*4+k) % 4=k by omega]
 exact ⟨b,cap,b',mI,e,e',h1,h1',h.nl b (by rw [e];rfl),h.wl b' (by rw [e'];rfl),hn.cell omm,key 0 omm,key 1 omm,key 2 omm,key 3 omm⟩
theorem g_.val {W:World} (h:g_ W lo nv wv l):∃a c a' c',nv= .slice a l.length c/\wv= .slice a' l.length c':=by
 have key:∀{e:TypeId} {k:Nat} {v:Value} {g:Nat->Value},Row W e k v l.length g->∃a c,v= .slice a l.length c:=fun h=>by
  rcases h.val with ⟨e,h0⟩|⟨b,cap,e,-⟩
  ·rw [h0];exact ⟨none,0,e⟩
  ·exact ⟨_,_,e⟩
 obtain ⟨a,c,e⟩:=key h.n;obtain ⟨a',c',e'⟩:=key h.s;exact ⟨a,c,a',c',e,e'⟩
def P1 (W0:World) (lb pc:Nat) (nv wv:Value) (l:List (Nat×kE)) (p:aO) (m:Nat) (a:Act) (W:World):Prop:=∃(J:Nat->Value) (i:Nat),a=FP J/\J 0=ρ lb/\J 1=ι pc/\J 11=nv/\J 12=wv/\J 13=ι i/\i<=l.length/\m+i=l.length+1/\Hid (Below W0.heap.size W0 W)/\Hid (∀j,j < i->(l.getD j zW).1≠p.code.length)
theorem pl1 (H:Hid (fP w K p)) (HL:Hid (ay W0 lb 260 (uj K p (.slice (some (π A 0)) p.code.length ph) j_ jA))) (HW:Hid (g_ W0 lo nv wv l)) (hl:l.length<=2)
 (gO:∀(B:Array Value) W,B.getD 4 undef=ι 98->Below W0.heap.size W0 W->(∃j,j < l.length/\(l.getD j zW).1=p.code.length)->Q .ret {tmps:=B,defers:=[]} W)
 (eZ:∀(J:Nat->Value) W,J 0=ρ lb->J 1=ι pc->J 11=nv->J 12=wv->Below W0.heap.size W0 W->(∀j,j < l.length->(l.getD j zW).1≠p.code.length)->Q (.exit 0) (FP J) W)
 {a:Act} {W:World} (h:P1 W0 lb pc nv wv l p (l.length+1) a W):(Code.loop (plL 0)).wp prog Q a W:=by
 refine Mk.aP (fun m a W=>P1 W0 lb pc nv wv l p m a W) (l.length+1) h ?_ ?_
 ·exact agT
 rintro m a0 W ⟨J,i,rfl,j0,j1,qY,tQ,Dr,hi,hm,HB,HA⟩;unfold FP
 conv=>arg 2;whnf
 have w2:=ag5 i omm;rw [j0,j1,qY,tQ,Dr];clear j0 j1 qY tQ Dr;obtain ⟨ca,cc,kc,-,-⟩:=aV.val H.o.cd;have Jv:=HL.o.of (HB.o.block _ HL.o.lt);have v5:W.cell? (π lb 5)=some K.c:=Jv.cell 5;have lv:=Jv.lt;rw [kc] at v5;clear Jv kc;by_cases a8:i < l.length
 ·obtain ⟨b,cap,b',mI,en,ew,q1,q2,-,-,c0,-⟩:=(HW.o.aB (S:=[]) (da.ah HB.o) smm).JM a8;have wR:=ae en;have wS:=ae ew;have dh:=ae a8;rw [wR.o,wS.o];clear en ew;obtain ⟨z,hz⟩:∃z,(l.getD i zW).1=z:=⟨_,rfl⟩;rw [hz] at c0;have HZ:=ae hz;clear hz;by_cases h1:z=p.code.length
  ·have e1:((z:Int)==(p.code.length:Int))=true:=by simp;omega
   have HG:=ae h1;clear h1;go_wp2_with fail;go_quiet (fail);go_wp2_with fail;exact gO _ _ rfl (HB.o.trans (au _ _ _)) ⟨i,dh.o,by rw [HZ.o];exact HG.o⟩
  ·have e1:((z:Int)==(p.code.length:Int))=false:=by simp;omega
   have HG:=ae h1;clear h1;go_wp2_with fail;go_quiet (fail);go_wp2_with fail
   try rw [<-wR.o]
   try rw [<-wS.o]
   refine ⟨_,i+1,FP.of _ rfl,rfl,rfl,(by first|rfl|exact wR.o.symm),(by first|rfl|exact wS.o.symm),rfl,dh.o,omm,ae (HB.o.trans (au _ _ _)),ae fun j hj=>?_⟩;by_cases e:j=i
   ·subst e;rw [HZ.o];exact HG.o
   ·exact HA.o j omm
 ·obtain rfl:i=l.length:=omm;clear a8;obtain ⟨a,c,a',c',en,ew⟩:=HW.o.val;have wR:=ae en;have wS:=ae ew;rw [wR.o,wS.o];clear en ew;go_wp2_with fail;exact Eq.mpr (afK (fun a=>Q (.exit 0) a W) (FP.of _ rfl)) (eZ _ _ rfl rfl wR.o.symm wS.o.symm HB.o HA.o)
def wL (L:jS) (w:Nat×kE):Bool:= !(L.at_ w.1).jI||decide (L.at_ w.1=w.2)
def P2 (W0:World) (lb pc:Nat) (nv wv:Value) (l:List (Nat×kE)) (L:jS) (m:Nat) (a:Act) (W:World):Prop:=∃(J:Nat->Value) (i:Nat),a=FP J/\J 0=ρ lb/\J 1=ι pc/\J 11=nv/\J 12=wv/\J 14=ι i/\i<=l.length/\m+i=l.length+1/\Hid (Below W0.heap.size W0 W)/\Hid (∀j,j < i->wL L (l.getD j zW)=true)
theorem aei {p:Prop} (h:p:=by
 go_wp2_with fail;go_quiet (fail);go_wp2_with fail
 try rw [<-wR.o]
 try rw [<-wS.o]
 refine ⟨_,i+1,FP.of _ rfl,rfl,rfl,(by first|rfl|exact wR.o.symm),(by first|rfl|exact wS.o.symm),rfl,dh.o,omm,ae (HB.o.trans (au _ _ _)),ae fun j hj=>?_⟩;by_cases e:j=i
 ·subst e;exact HG.o
 ·exact HA.o j omm):p:=h
theorem pl2 (HL:Hid (qx W0 K p lb (.slice (some (π A 0)) p.code.length ph) j_ jA L)) (HO:Hid (kJ p L)) (HW:Hid (g_ W0 lo nv wv l)) (hl:l.length<=2) (iM:Hid (∀j,j < l.length->(l.getD j zW).1 < p.code.length/\mG p (l.getD j zW).2))
 (gO:∀(B:Array Value) W,B.getD 4 undef=ι 94->Below W0.heap.size W0 W->(∃j,j < l.length/\wL L (l.getD j zW)=false)->Q .ret {tmps:=B,defers:=[]} W)
 (eZ:∀(J:Nat->Value) W,J 0=ρ lb->J 1=ι pc->J 11=nv->J 12=wv->Below W0.heap.size W0 W->(∀j,j < l.length->wL L (l.getD j zW)=true)->Q (.exit 2) (FP J) W)
 {a:Act} {W:World} (h:P2 W0 lb pc nv wv l L (l.length+1) a W):(Code.loop (plL 1)).wp prog Q a W:=by
 refine Mk.aP (fun m a W=>P2 W0 lb pc nv wv l L m a W) (l.length+1) h ?_ ?_
 ·exact agT
 rintro m a0 W ⟨J,i,rfl,j0,j1,qY,tQ,ZF,hi,hm,HB,HA⟩;unfold FP
 conv=>arg 2;whnf
 have w2:=ag5 i omm;rw [j0,j1,qY,tQ,ZF];clear j0 j1 qY tQ ZF;have hLW:=HL.o.aB (da.ah HB.o);have v6:W.cell? (π lb 6)=some (.slice (some (π A 0)) p.code.length ph):=hLW.c_.cell 6;have lv:=hLW.c_.lt;by_cases a8:i < l.length
 ·obtain ⟨b,cap,b',mI,en,ew,q1,q2,-,-,c0,d0,d1,d2,d3⟩:=(HW.o.aB (S:=[]) (da.ah HB.o) smm).JM a8;have wR:=ae en;have wS:=ae ew;have dh:=ae a8;rw [wR.o,wS.o];clear en ew;obtain ⟨gA,jF⟩:=iM.o i a8;have ZW:=ae (show wL L (l.getD i zW)=(!(L.at_ (l.getD i zW).1).jI||decide (L.at_ (l.getD i zW).1=(l.getD i zW).2)) from rfl);have sd:=ae (aaX (L.at_ (l.getD i zW).1) (l.getD i zW).2 (HO.o.at_ _).ty jF.ty);obtain ⟨z,hz⟩:∃z,(l.getD i zW).1=z:=⟨_,rfl⟩;obtain ⟨s,hs⟩:∃s,(l.getD i zW).2=s:=⟨_,rfl⟩;rw [hz] at c0 gA ZW sd;rw [hs] at d0 d1 d2 d3 ZW sd;obtain ⟨b2,z_,eA,a1,a2,a3,s0,s1,s2,s3⟩:=hLW.RD gA;simp only [afH,af5,Addr.mk.injEq] at eA;obtain ⟨⟨rfl,-,-⟩,-,rfl⟩:=eA;clear hz hs jF;have AP:(z:Int) < p.code.length:=omm;cases hg:(L.at_ z).jI with
  |false=>rw [hg] at s3;have HG:=ae (show wL L (l.getD i zW)=true by rw [ZW.o,hg];rfl);clear sd hg;generalize (L.at_ z).ty=t1 at*;generalize (L.at_ z).loop=l1 at*;generalize (L.at_ z).hand=h1 at*;exact aei
  |true=>
   rw [hg] at s3;obtain ⟨dd,wm⟩:∃d,decide (L.at_ z=s)=d:=⟨_,rfl⟩;have HG:=ae (show wL L (l.getD i zW)=dd by rw [ZW.o,hg,wm];rfl);rw [wm] at sd;have bz:∀V,(binOp .neq 262 (mQ (L.at_ z)) (mQ s)).run prog V= .ok (.bool (!dd)) V:=sd.o;unfold mQ at bz;rw [hg] at bz;clear sd hg wm ZW;generalize nM (L.at_ z).ty=t1 at*;generalize (L.at_ z).loop=l1 at*;generalize (L.at_ z).hand=h1 at*;generalize nM s.ty=t2 at*;generalize s.loop=l2 at*;generalize s.hand=h2 at*;generalize s.jI=g2 at*;cases dd with
   |true=>exact aei
   |false=>go_wp2_with fail;go_quiet (fail);go_wp2_with fail;exact gO _ _ rfl (HB.o.trans (au _ _ _)) ⟨i,dh.o,HG.o⟩
 ·obtain rfl:i=l.length:=omm;clear a8 hLW;obtain ⟨a,c,a',c',en,ew⟩:=HW.o.val;have wR:=ae en;have wS:=ae ew;rw [wR.o,wS.o];clear en ew;go_wp2_with fail;exact Eq.mpr (afK (fun a=>Q (.exit 2) a W) (FP.of _ rfl)) (eZ _ _ rfl rfl wR.o.symm wS.o.symm HB.o HA.o)
def P3 (W0:World) (K:Kp) (lb pc A ph:Nat) (j_ jA nv wv:Value) (l:List (Nat×kE)) (p:aO) (L:jS) (m:Nat) (a:Act) (W:World):Prop:=∃(J:Nat->Value) (i:Nat) (L':jS),a=FP J/\J 0=ρ lb/\J 1=ι pc/\J 11=nv/\J 12=wv/\J 15=ι i/\i<=l.length/\m+i=l.length+1/\Hid (da [A] W0 W)/\Hid (qx W K p lb (.slice (some (π A 0)) p.code.length ph) j_ jA L')/\Hid (kJ p L')/\Hid (eC L l=eC L' (l.drop i))
theorem QK {p:aO} {L:jS} {v:Nat×kE} {l:List (Nat×kE)} (K:kJ p L) (hs:mG p v.2):((rY L v.1 v.2).1=true->eC L (v::l)=eC (rY L v.1 v.2).2 l/\kJ p (rY L v.1 v.2).2)/\((rY L v.1 v.2).1=false->eC L (v::l)=none):=by
 rw [show eC L (v::l)=(if (L.at_ v.1).jI then (if L.at_ v.1=v.2 then eC L l else none) else eC {L with at_:=aL L.at_ v.1 v.2} l) from rfl];unfold rY;cases hg:(L.at_ v.1).jI with
 |false=>exact ⟨fun _=>⟨smm,GV K _ hs⟩,fun h=>by simp at h⟩
 |true=>
  by_cases e:L.at_ v.1=v.2
  ·exact ⟨fun _=>⟨by simp [e],by simpa using K⟩,fun h=>by simp [e] at h⟩
  ·exact ⟨fun h=>by simp [e] at h,fun _=>by simp [e]⟩
theorem pl3 (ES:Hid (A < lo/\lb≠A)) (HW:Hid (g_ W0 lo nv wv l)) (hl:l.length<=2) (iM:Hid (∀j,j < l.length->(l.getD j zW).1 < p.code.length/\mG p (l.getD j zW).2))
 (gO:∀(B:Array Value) W,B.getD 4 undef=ι 94->da [A] W0 W->eC L l=none->Q .ret {tmps:=B,defers:=[]} W)
 (eZ:∀(J:Nat->Value) W L',da [A] W0 W->qx W K p lb (.slice (some (π A 0)) p.code.length ph) j_ jA L'->eC L l=some L'->Q (.exit 4) (FP J) W)
 {a:Act} {W:World} (h:P3 W0 K lb pc A ph j_ jA nv wv l p L (l.length+1) a W):(Code.loop (plL 2)).wp prog Q a W:=by
 refine Mk.aP (fun m a W=>P3 W0 K lb pc A ph j_ jA nv wv l p L m a W) (l.length+1) h ?_ ?_
 ·rintro a W ⟨J,i,L',-,-,-,-,-,-,h1,h2,-⟩;omega
 rintro m a0 W ⟨J,i,L',rfl,j0,j1,qY,tQ,ZG,hi,hm,HF,HL,HO,Oo⟩;unfold FP
 conv=>arg 2;whnf
 have w2:=ag5 i omm;rw [j0,j1,qY,tQ,ZG];clear j0 j1 qY tQ ZG;by_cases a8:i < l.length
 ·obtain ⟨b,cap,b',mI,en,ew,q1,q2,lb1,lb2,c0,d0,d1,d2,d3⟩:=(HW.o.aB (S:=[A]) HF.o (by simp;exact ES.o.1)).JM a8;have hNA:b≠A:=by have:=ES.o.1;omega
  have hWA:b'≠A:=by have:=ES.o.1;omega
  have wR:=ae en;have wS:=ae ew;have dh:=ae a8;rw [wR.o,wS.o];clear en ew lb1 lb2;obtain ⟨gA,jF⟩:=iM.o i a8;have Sa:=ae (QK (l:=l.drop (i+1)) HO.o jF);have Λ:=ae (QJ zW l a8);have HC:=ae (fun V (hb:Below W.heap.size W V)=>xM (w:=V) (HL.o.aB (da.ah hb)) gA jF.ty (HO.o.at_ _).ty);obtain ⟨z,hz⟩:∃z,(l.getD i zW).1=z:=⟨_,rfl⟩;obtain ⟨s,hs⟩:∃s,(l.getD i zW).2=s:=⟨_,rfl⟩;rw [hz] at c0 Sa HC;rw [hs] at d0 d1 d2 d3 Sa HC;have Iw:=ae (show eC L l=eC L' ((l.getD i zW)::l.drop (i+1)) by rw [Oo.o,Λ.o]);rw [show l.getD i zW=(z,s) from Prod.ext hz hs] at Iw;rw [show l.getD i zW=(z,s) from Prod.ext hz hs] at Sa;clear hz hs gA jF;have HEZ:=ae (rfl:rY L' z s=rY L' z s);obtain ⟨g,hg⟩:∃g,rY L' z s=g:=⟨_,rfl⟩;obtain ⟨gb,gL⟩:=g;unfold GU mQ at HC;rw [hg] at HC Sa
  try dsimp only at HC Sa
  clear hg HEZ;generalize nM s.ty=t2 at*;generalize s.loop=l2 at*;generalize s.hand=h2 at*;generalize s.jI=g2 at*;go_wp2_with fail;refine Mk.bF (S:=fun wx=>da [A] W wx) krr ((da.ah (S:=[A]) (au _ W 1))) (fun al=>?_);have HD:=ae (au W.heap.size W 1);change Hid (Below W.heap.size W W.drew) at HD;refine Mk.bL 0 ?_;refine Mk.bL 1 ?_;refine Mk.bL 2 ?_;refine Mk.bL 3 ?_;refine Mk.tk 4 (v:=?_) rfl (fun wz bR=>?_) al ?_;rotate_left
  ·have key:∀b i v,b≠A->W.cell? (π b i)=some v->wz.cell? (π b i)=some v:=fun b i v hn hc=>(afG (bR.block _ (aS hc) (by simpa using hn))).trans hc;have y0:=key _ _ _ hNA c0;exact qU
  refine Mk.pt ?_;refine Mk.bL 5 ?_;refine Mk.bL 6 ?_;refine Mk.bL 7 ?_;refine Mk.tk 8 (v:=?_) rfl (fun wz bR=>?_) al ?_;rotate_left
  ·have key:∀b i v,b≠A->W.cell? (π b i)=some v->wz.cell? (π b i)=some v:=fun b i v hn hc=>(afG (bR.block _ (aS hc) (by simpa using hn))).trans hc;have y0:=key _ _ _ hWA d0;have y1:=key _ _ _ hWA d1;have y2:=key _ _ _ hWA d2;have y3:=key _ _ _ hWA d3;exact qU
  refine Mk.pt ?_;refine Mk.nW (rs:=[9]) (afJ rfl (fun K9 hK=>?_) af1);refine QX ?_;go_simp
  with_reducible refine (HC.o _ HD.o).mono ?_
  rintro e W1 ⟨rfl,⟨W9,ui,MC⟩,hl9⟩;have Jk:=al.trans ((da.ah (S:=[A]) ui).trans MC);clear al;refine hK.out _ _ Jk (fun al=>?_);clear hK K9;refine Mk.pt ?_;refine Mk.bL 10 ?_;refine afZ krr ⟨rfl,?_⟩ _;have GL:=ae (HF.o.trans Jk);have AK:=ae hl9;clear al Jk ui MC hl9 c0 d0 d1 d2 d3 HC;cases gb with
  |false=>have HG:=ae (show eC L l=none from Iw.o.trans (Sa.o.2 rfl));go_wp2_with fail;exact gO _ _ rfl GL.o HG.o
  |true=>
   have HG:=ae (Sa.o.1 rfl);go_wp2_with fail
   try rw [<-wR.o]
   try rw [<-wS.o]
   exact ⟨_,i+1,gL,FP.of _ rfl,rfl,rfl,(by first|rfl|exact wR.o.symm),(by first|rfl|exact wS.o.symm),rfl,dh.o,omm,GL,AK,ae HG.o.2,ae (Iw.o.trans HG.o.1)⟩
 ·obtain rfl:i=l.length:=omm;clear a8;obtain ⟨a,c,a',c',en,ew⟩:=HW.o.val;rw [en,ew];have Sb:=Oo.o;rw [List.drop_length] at Sb;have HG:=ae (show eC L l=some L' from Sb);clear Sb en ew;go_wp2_with fail;exact Eq.mpr (afK (fun a=>Q (.exit 4) a W) (FP.of _ rfl)) (eZ _ _ _ HF.o HL.o HG.o)
theorem Fj (L:jS) (pc:Nat) (x:Ins) (s:kE):(dP L pc x s).length<=2:=by
 unfold dP
 repeat' split
 all_goals simp
theorem Jg {p:aO} {L:jS} {pc:Nat} {x:Ins} {s:kE} (nj:pc < p.code.length) (hx:(x.op=22\/x.op=23\/x.op=25\/x.op=26)->0<=x.a/\x.a < p.code.length) {w:Nat×kE} (hw:w∈dP L pc x s):w.1<=p.code.length:=by
 unfold dP at hw;split at hw
 ·simp at hw
 split at hw
 ·next h=>simp at hw;subst hw;have:=hx omm;dsimp only;omega
 split at hw
 ·next h=>simp at hw;have:=hx omm;rcases hw with rfl|rfl<;>dsimp only<;>omega
 split at hw
 ·next h=>simp at hw;have:=hx omm;rcases hw with rfl|rfl<;>dsimp only<;>omega
 split at hw
 ·next h=>simp at hw;have:=hx omm;rcases hw with rfl|rfl<;>dsimp only<;>omega
 ·simp at hw;subst hw;dsimp only;omega
theorem Fk {α:Type} (d:α) {l:List α} {i:Nat} (hi:i < l.length):l.getD i d∈l:=by rw [afS,afP hi];exact af6 hi
theorem Nz {α:Type} (d:α) {f:α->Bool} {l:List α}:l.any f=true↔∃i,i < l.length/\f (l.getD i d)=true:=by
 rw [List.any_eq_true];constructor
 ·rintro ⟨x,hx,h⟩;obtain ⟨i,hi,rfl⟩:=agd hx;exact ⟨i,hi,by rw [afS,afP hi];exact h⟩
 ·rintro ⟨i,hi,h⟩;exact ⟨_,Fk d hi,h⟩
def sZ (w:World) (K:Kp) (p:aO) (lb A ph:Nat) (j_ jA:Value) (L:jS) (pc:Nat) (e:Ending) (w':World):Prop:=e= .returned (ι (jj p L pc).1)/\da (A::j_.ownBlock.toList) w w'/\((jj p L pc).1=0->qx w' K p lb (.slice (some (π A 0)) p.code.length ph) j_ jA (jj p L pc).2)
theorem ada {p:Prop} (h:p:=by
 go_wp2_with fail;refine Vf.mu rfl ?_;exact ⟨by rw [HE.o];rfl,da.ah HB.o,fun h=>by rw [HE.o] at h;cases h⟩):p:=h
theorem QL (h:fP w K p) (hl:qx w K p lb (.slice (some (π A 0)) p.code.length ph) j_ jA L) (ho:kJ p L) (nj:pc < p.code.length) (hlen:p.code.length<=262144) (cW:iP (ai p pc)=true) (dK:gI p (ai p pc)=true):
 Calls prog 232 #[ρ lb,ι pc] w (sZ w K p lb A ph j_ jA L pc):=by
 obtain ⟨cb,wk,zF,kc,q1,q2,c0,c1,c2,c3,c4⟩:=h.ins nj;have lc:=aS c0;obtain ⟨-,-,-,-,-,v5,v6⟩:=hl.c_.c7;have ll:=hl.c_.lt;rw [kc] at v5;obtain ⟨b,mI,e,a1,a2,a3,s0,s1,s2,s3⟩:=hl.RD nj;simp only [afH,af5,Addr.mk.injEq] at e;obtain ⟨⟨rfl,-,-⟩,-,rfl⟩:=e;have HAW:=ae a3;have H:=ae h;have HL:=ae hl;have HO:=ae ho;have GC:=ae nj;have pY:=ae hlen;have ZX:Hid (0<=(ai p pc).op/\(ai p pc).op < 42):=ae (by have:=cW;unfold iP aF at this;simp at this;omega);have iM:=ae dK;have mS:=ho.at_ pc;have HSO:=ae mS;obtain ⟨ha,Ai⟩:=afN mS.ha.1;have ha3:ha<=3:=by have:=mS.ha.2;omega
 have HNA:Hid (lb≠A):=ae (by
  have h1:=hl.at_.eF hl.c_ dee;exact fun e=>h1 (by rw [e];rfl))
 rw [Ai] at s2;have ZZ:=ae (fun hg:(L.at_ pc).jI=false=>show (jj p L pc)=(99,L) by unfold jj;dsimp only;rw [afE hg]);have UR:=ae (fun (hg:(L.at_ pc).jI=true) (e:(dZ p (ai p pc) (ha:Nat)).1=false)=>show (jj p L pc)=(96,L) by unfold jj;dsimp only;rw [Ai,abH (by simp [hg]),afE e]);have US:=ae (fun (hg:(L.at_ pc).jI=true) (e1:(dZ p (ai p pc) (ha:Nat)).1=true) (e:(cw (ai p pc) (L.at_ pc).ty).1≠0)=>show (jj p L pc)=((cw (ai p pc) (L.at_ pc).ty).1,L) by unfold jj;dsimp only;rw [Ai,abH (by simp [hg]),abH (by simp [e1]),afE e]);have UT:=ae (fun (hg:(L.at_ pc).jI=true) (e1:(dZ p (ai p pc) (ha:Nat)).1=true) (e2:(cw (ai p pc) (L.at_ pc).ty).1=0) (e:cJ p (ai p pc)=false)=>show (jj p L pc)=(92,L) by unfold jj;dsimp only;rw [Ai,abH (by simp [hg]),abH (by simp [e1]),abH (by simp [e2]),afE e]);have UU:=ae (fun (hg:(L.at_ pc).jI=true) (e1:(dZ p (ai p pc) (ha:Nat)).1=true) (e2:(cw (ai p pc) (L.at_ pc).ty).1=0) (e3:cJ p (ai p pc)=true) (e:dL p L pc (ai p pc) (cw (ai p pc) (L.at_ pc).ty).2 (L.at_ pc).loop=false)=>show (jj p L pc)=(95,L) by unfold jj;dsimp only;rw [Ai,abH (by simp [hg]),abH (by simp [e1]),abH (by simp [e2]),abH (by simp [e3]),afE e]);have UW:=ae (fun (hg:(L.at_ pc).jI=true) (e1:(dZ p (ai p pc) (ha:Nat)).1=true) (e2:(cw (ai p pc) (L.at_ pc).ty).1=0) (e3:cJ p (ai p pc)=true) (e4:dL p L pc (ai p pc) (cw (ai p pc) (L.at_ pc).ty).2 (L.at_ pc).loop=true) (L1:jS) (KK:fQ L pc (ai p pc) (L.at_ pc).loop=L1) (l:List (Nat×kE)) (JB:dP L1 pc (ai p pc) ⟨(cw (ai p pc) (L.at_ pc).ty).2,(L.at_ pc).loop,(dZ p (ai p pc) (ha:Nat)).2,true⟩=l)=>show (jj p L pc)=(if l.any (fun w=>decide (w.1=p.code.length)) then ((98:Int),L1) else if sI L1 l=false then (94,L1) else match eC L1 l with|none=>(94,L1)|some L2=>(0,L2)) by
  unfold jj;dsimp only;rw [Ai,abH (by simp [hg]),abH (by simp [e1]),abH (by simp [e2]),abH (by simp [e3]),abH (by simp [e4]),KK,JB];rfl)
 have JH:=ae (fun V (hb:Below w.heap.size w V)=>UF (w:=V) (x:=ai p pc) (ha:=ha) (h.aB (da.ah hb)) (hl.aB (da.ah hb)).c_ (fun e=>Vf.Mr dK omm) ha3);have Q_:=ae (fun V=>Fh V (x:=ai p pc) ZX.o.1 ZX.o.2 mS.len mS.ty);have HQD:=ae (fun V (hb:Below w.heap.size w V)=>Nq (w:=V) (x:=ai p pc) (h.aB (da.ah hb)) (hl.aB (da.ah hb)).c_ (fun e=>Vf.Mr dK omm) (fun e=>Vf.RM dK e));have HJD:=ae (fun V ty (hb:Below w.heap.size w V) (ht:eI ty)=>Ac (w:=V) (ty:=ty) (loop:=(L.at_ pc).loop) (h.aB (da.ah hb)) (hl.aB (da.ah hb)) rfl ⟨nj,hlen,mS.lp.2,ht,fun n=>(ho.at_ n).ty⟩);have HGD:=ae (fun V (s:kE) (hb:Below w.heap.size w V) (C_:(ai p pc).op=26->0<=s.loop/\s.loop < p.code.length)=>UH (w:=V) (s:=s) (h.aB (da.ah hb)) (hl.aB (da.ah hb)) rfl nj hlen (fun e=>Vf.Ms dK e) C_);unfold aQ aA at JH Q_ HQD;have UX:=ae (fun e:(cw (ai p pc) (L.at_ pc).ty).1=0=>Nu mS.ty e);have HHN:=ae (Nt p (ai p pc) (h:=(ha:Nat)) ⟨omm,omm⟩);have Z5:=ae (fun ty (e:(ai p pc).op=26) (hj:dL p L pc (ai p pc) ty (L.at_ pc).loop=true)=>show 0<=(L.at_ pc).loop/\(L.at_ pc).loop < p.code.length by
  refine ⟨?_,mS.lp.2⟩;unfold dL at hj;rw [e] at hj;simp at hj;exact hj.2.1)
 have HW2:=ae (fun (L1:jS) s=>Fj L1 pc (ai p pc) s);have Zb:=ae (fun (L1:jS) s v=>Jg (L:=L1) (s:=s) (w:=v) nj (fun e=>Vf.Ms dK e));have VI:=ae (fun s v hs=>Nv (Fi ho pc (ai p pc) mS.lp) nj (ai p pc) (s:=s) (w:=v) hs);have HUP:=ae (Fi ho pc (ai p pc) mS.lp);have HLP:=ae mS.lp;clear h hl ho dK mS ha3 Ai cW a1 a2;unfold Fg at Q_;generalize ai p pc=x at*;generalize (L.at_ pc).ty=ty at*;generalize (L.at_ pc).loop=lp at*;generalize (L.at_ pc).jI=g0 at*;generalize cw x ty=od at*;obtain ⟨oe,QM⟩:=od;generalize dZ p x (ha:Nat)=hd at*;obtain ⟨lO,gM⟩:=hd;dsimp only at UR US UT UU UW UX HHN;dsimp only at Q_ JH;cases g0 with
 |false=>have HE:=ae (ZZ.o smm);go_enter func232,ntmps232;go_wp2_with fail;refine Vf.mu rfl ?_;exact ⟨by rw [HE.o];rfl,(da.refl _ _).alloc _,fun h=>by rw [HE.o] at h;cases h⟩
 |true=>
 go_enter func232,ntmps232;go_wp2_with fail;obtain ⟨V,hV⟩:∃V,V=(w.alloc (.cells #[.string (nM ty),ι lp,ι ha,.bool true] 262)).alloc (.cells #[ι x.op,ι x.a,ι x.b,ι x.c,ι x.d] 40):=⟨_,rfl⟩;rw [<-hV];have KS:=ae (show ay V w.heap.size 262 #[.string (nM ty),ι lp,ι ha,.bool true] by rw [hV];exact (ay.new _ _ _).alloc _);have KX:=ae (show ay V (w.heap.size+1) 40 #[ι x.op,ι x.a,ι x.b,ι x.c,ι x.d] by rw [hV];exact ay.a_ smm);have HB:=ae (show Below w.heap.size w V by rw [hV];exact ((afL _ _).alloc (afF _) _).alloc smm _);clear hV c0 c1 c2 c3 c4 s0 s1 s2 s3 lc v5 v6 ll q1 q2 a3 nj hlen;refine (JH.o _ HB.o).mono ?_;rintro e W1 ⟨rfl,hb⟩;replace KS:=ae (KS.o.of (hb.block _ KS.o.lt));replace KX:=ae (KX.o.of (hb.block _ KX.o.lt));replace HB:=ae (HB.o.trans (hb.mono HB.o.size));clear hb;obtain ⟨s0,s1,s2,s3⟩:=KS.o.c4;obtain ⟨x0,x1,x2,x3,x4⟩:=KX.o.c5;have ls:=KS.o.lt;have lx:=KX.o.lt;cases lO with
 |false=>have HE:=ae (UR.o smm smm);exact ada
 |true=>
 go_wp2_with fail;clear s0 s1 s2 s3 x0 x1 x2 x3 x4 ls lx;refine (Q_.o _).mono ?_;rintro e W2 ⟨rfl,hb⟩;replace KS:=ae (KS.o.of (hb.block _ KS.o.lt));replace KX:=ae (KX.o.of (hb.block _ KX.o.lt));replace HB:=ae (HB.o.trans (hb.mono HB.o.size));clear hb;obtain ⟨s0,s1,s2,s3⟩:=KS.o.c4;obtain ⟨x0,x1,x2,x3,x4⟩:=KX.o.c5;have ls:=KS.o.lt;have lx:=KX.o.lt;by_cases Z6:oe=0
 case neg=>
  have e1:(oe !=0)=true:=by simpa using Z6
  have HE:=ae (US.o smm smm Z6);have sd:=ae Z6;clear Z6;go_wp2_with fail;refine Vf.mu rfl ?_;exact ⟨by rw [HE.o];rfl,da.ah HB.o,fun h=>by rw [HE.o] at h;exact absurd h sd.o⟩
 subst Z6;have HOT:=ae (UX.o smm);go_wp2_with fail;clear s0 s1 s2 s3 x0 x1 x2 x3 x4 ls lx;refine (HQD.o _ HB.o).mono ?_;rintro e W3 ⟨rfl,hb⟩;replace KS:=ae (KS.o.of (hb.block _ KS.o.lt));replace KX:=ae (KX.o.of (hb.block _ KX.o.lt));replace HB:=ae (HB.o.trans (hb.mono HB.o.size));clear hb;obtain ⟨s0,s1,s2,s3⟩:=KS.o.c4;obtain ⟨x0,x1,x2,x3,x4⟩:=KX.o.c5;have ls:=KS.o.lt;have lx:=KX.o.lt;cases hk:cJ p x with
 |false=>have HE:=ae (UT.o smm smm smm hk);exact ada
 |true=>
 have Il:=ae hk;clear hk;go_wp2_with fail;clear s0 s1 s2 s3 x0 x1 x2 x3 x4 ls lx;have HJ0:=HJD.o _ QM HB.o HOT.o.1;have HJ6:=ae (fun e=>Z5.o QM e);have VZ:=ae (UU.o smm smm smm Il.o);have N5:=ae (UW.o smm smm smm Il.o);generalize dL p L pc x QM lp=jb at*;unfold Nr at HJ0;refine HJ0.mono ?_;rintro e W4 ⟨rfl,hb⟩;replace KS:=ae (KS.o.of (hb.block _ KS.o.lt));replace KX:=ae (KX.o.of (hb.block _ KX.o.lt));replace HB:=ae (HB.o.trans (hb.mono HB.o.size));clear hb;obtain ⟨s0,s1,s2,s3⟩:=KS.o.c4;obtain ⟨x0,x1,x2,x3,x4⟩:=KX.o.c5;have ls:=KS.o.lt;have lx:=KX.o.lt;cases jb with
 |false=>have HE:=ae (VZ.o rfl);exact ada
 |true=>
 go_wp2_with fail;clear s0 s1 s2 s3 x0 x1 x2 x3 x4 ls lx;have PM:=HGD.o _ ⟨QM,lp,gM,true⟩ HB.o (fun e=>HJ6.o e smm);unfold mQ at PM;refine PM.mono ?_;rintro e W5 ⟨nv,wv,rfl,hfu,JB,hwy⟩;have Aj:=ae (show mG p ⟨QM,lp,gM,true⟩ from ⟨HOT.o.1,HOT.o.2,HLP.o,HHN.o⟩);have HPE:=ae (N5.o smm _ rfl _ rfl);have JL:=ae (HW2.o (fQ L pc x lp) ⟨QM,lp,gM,true⟩);have y_:=ae (fun v=>Zb.o (fQ L pc x lp) ⟨QM,lp,gM,true⟩ v);have sL:=ae (fun v=>VI.o ⟨QM,lp,gM,true⟩ v Aj.o);have JE:=ae ((da.ah (S:=j_.ownBlock.toList) HB.o).trans hfu);have AK:=ae JB;have GD:=ae hwy;have ES:=ae (show A < W4.heap.size from afQ HAW.o HB.o.size);dsimp only at AK GD;clear hfu JB hwy PM HGD HJD HQD Q_ JH ZZ UR US UT UU UW VZ N5 VI Zb HW2 KS KX HJ6 Z5 UX HB;generalize W4.heap.size=lo at*;generalize KK:fQ L pc x lp=L1 at*;clear KK;generalize dP L1 pc x ⟨QM,lp,gM,true⟩=l at*;obtain ⟨aa,ac,aa',ac',en,ew⟩:=GD.o.val;have wR:=ae en;have wS:=ae ew;rw [wR.o,wS.o];clear en ew;go_wp2_with fail;have GW:=ae (fun (W:World) (e:Int) (L2:jS) (he:jj p L pc=(e,L2)) (f:da [A] W5 W) (h0:e=0->qx W K p lb (.slice (some (π A 0)) p.code.length ph) j_ jA L2)=>show sZ w K p lb A ph j_ jA L pc (.returned (ι e)) W from
  ⟨by rw [he],(JE.o.mono (fun b hb=>by simp only [afV];exact .inr hb)).trans (f.mono (fun b hb=>by simp at hb;simp [hb])),fun h=>by rw [he] at h ⊢;exact h0 h⟩)
 refine pl1 (W0:=W5) H (ae AK.o.c_) GD JL.o (fun B W6 Z7 uw hex=>?_) (fun J6 W6 j0 j1 qY tQ uw hA6=>?_) ⟨_,0,FP.of _ rfl,rfl,rfl,wR.o.symm,wS.o.symm,rfl,afO _,omm,ae (afL _ _),ae (fun j hj=>absurd hj omm)⟩
 ·try simp only [Exit.inBlock,Exit.then]
  refine Vf.eP (P:=prog) (fn:=Tryz.f232) rfl ?_;have hp:jj p L pc=(98,L1):=by obtain ⟨j,hj,e⟩:=hex;rw [HPE.o,afE ((Nz zW).2 ⟨j,hj,by simpa using e⟩)]
  rw [Z7];exact GW.o W6 98 L1 hp (da.ah uw) (fun h=>by cases h)
 have rM:=ae (show ∀j,j < l.length->(l.getD j zW).1 < p.code.length/\mG p (l.getD j zW).2 from fun j hj=>⟨by have:=y_.o _ (Fk zW hj);have:=hA6 j hj;omega,sL.o _ (Fk zW hj)⟩);have HPF:=ae (show jj p L pc=(if sI L1 l=false then ((94:Int),L1) else match eC L1 l with|none=>(94,L1)|some L2=>(0,L2)) by
  rw [HPE.o,abH];intro h;obtain ⟨j,hj,e⟩:=(Nz zW).1 h;exact hA6 j hj (by simpa using e))
 have AM:=ae uw;unfold FP;rw [j0,j1,qY,tQ];clear j0 j1 qY tQ uw hA6;go_wp2_with fail;refine pl2 (W0:=W5) AK HUP GD JL.o rM (fun B W7 Z7 Nn hex=>?_) (fun J7 W7 j0 j1 qY tQ Nn hA7=>?_) ⟨_,0,FP.of _ rfl,rfl,rfl,rfl,rfl,rfl,afO _,omm,AM,ae (fun j hj=>absurd hj omm)⟩
 ·try simp only [Exit.inBlock,Exit.then]
  refine Vf.eP (P:=prog) (fn:=Tryz.f232) rfl ?_;have hp:jj p L pc=(94,L1):=by obtain ⟨j,hj,e⟩:=hex;rw [HPF.o,afE];rw [agk];intro h;have:=(wK zW).1 h j hj;change wL L1 (l.getD j zW)=true at this;rw [this] at e;cases e
  rw [Z7];exact GW.o W7 94 L1 hp (da.ah Nn) (fun h=>by cases h)
 have HPG:=ae (show jj p L pc=(match eC L1 l with|none=>((94:Int),L1)|some L2=>(0,L2)) by
  have h:sI L1 l=true:=(wK zW).2 hA7;rw [HPF.o,h];rfl)
 have NZ:=ae Nn;unfold FP;rw [j0,j1,qY,tQ];clear j0 j1 qY tQ Nn hA7;go_wp2_with fail;refine pl3 (W0:=W5) (lo:=lo) (ae ⟨ES.o,HNA.o⟩) GD JL.o rM (fun B W8 Z7 Un Sb=>?_) (fun J8 W8 L2 Un hl8 Sb=>?_) ⟨_,0,L1,FP.of _ rfl,rfl,rfl,rfl,rfl,rfl,afO _,omm,ae (da.ah NZ.o),ae (AK.o.aB (da.ah NZ.o)),HUP,ae (by rw [List.drop_zero])⟩
 ·try simp only [Exit.inBlock,Exit.then]
  refine Vf.eP (P:=prog) (fn:=Tryz.f232) rfl ?_;have hp:jj p L pc=(94,L1):=by rw [HPG.o,Sb]
  rw [Z7];exact GW.o W8 94 L1 hp Un (fun h=>by cases h)
 ·have HT:=ae (GW.o W8 0 L2 (by rw [HPG.o,Sb]) Un (fun _=>hl8));unfold FP;clear Un hl8 Sb;go_wp2_with fail;refine Vf.eP (P:=prog) (fn:=Tryz.f232) rfl ?_;exact HT.o
end
end Go.Proofs.YtblkblclmbhjiaaGreat.Rv
namespace Go.Proofs.YtblkblclmbhjiaaGreat.Rv
open Go.RowKit ak.Vm
open ak hiding aL an aj
open Ma (dx bQ aU vb aA aQ)
open Vf (Kp fP pV qu bw aV gN gw)
def FL (J:Nat->Value):Act:={tmps:=#[J 0,J 1,J 2,J 3,J 4,J 5,J 6,J 7,J 8,J 9,J 10,J 11,J 12,J 13,J 14,J 15,J 16,J 17,J 18,J 19,J 20,J 21,J 22,J 23,J 24,J 25,J 26,J 27,J 28,J 29,J 30,J 31,J 32,J 33,J 34,J 35,J 36,J 37,J 38,J 39,J 40,J 41,J 42,J 43,J 44,J 45,J 46,J 47,J 48,J 49,J 50,J 51,J 52,J 53,J 54,J 55,J 56,J 57,J 58,J 59,J 60,J 61,J 62,J 63,J 64,J 65,J 66,J 67,J 68,J 69,J 70,J 71,J 72,J 73,J 74,J 75,J 76,J 77],defers:=[]}
theorem FL.of (A:Array Value) (h:A=(FL fun k=>A.getD k undef).tmps):({tmps:=A,defers:=[]}:Act)=FL fun k=>A.getD k undef:=by rw [h];rfl
noncomputable def loL (k:Nat):Code:=Mk.mK Tryz.f144.body k
structure LB (w:World) (K:Kp) (p:aO) (lb A U S:Nat) (g:Nat->kE) (f:Nat->Bool):Prop where
 c_:ay w lb 260 (uj K p (.slice (some (π A 0)) p.code.length p.code.length) (.slice (some (π U 0)) p.code.length p.code.length) (.slice (some (π S 0)) p.code.length p.code.length))
 at_:Row w 262 4 (.slice (some (π A 0)) p.code.length p.code.length) p.code.length (CQ g)
 up:Row w 3 1 (.slice (some (π U 0)) p.code.length p.code.length) p.code.length (fun _=> ι 0)
 st:Row w 4 1 (.slice (some (π S 0)) p.code.length p.code.length) p.code.length (fun i=> .bool (f i))
section
variable {w w' W W4:World} {K:Kp} {p:aO} {lb A U S pb fb:Nat} {g:Nat->kE} {f:Nat->Bool} {Q:Exit->Act->World->Prop}
theorem LB.ne (h:LB w K p lb A U S g f):lb≠A/\lb≠S/\A≠U/\A≠S/\U≠S/\lb≠U:=by have key:∀{x y:Nat} {T T':TypeId} {cs cs':Array Value},ay w x T cs->ay w y T' cs'->T≠T'->x≠y:=fun h k ht=>ay.ne h k ht;obtain ⟨ca,ha⟩:=h.at_.c_;obtain ⟨cu,hu⟩:=h.up.c_;obtain ⟨cs,hs⟩:=h.st.c_;exact ⟨key h.c_ ha dee,key h.c_ hs dee,key ha hu dee,key ha hs dee,key hu hs dee,key h.c_ hu dee⟩
theorem LB.put (h:LB w K p lb A U S g f) {z:Nat} (hz:z < p.code.length):LB (((((w.setCell (π A (z*4)) (.string ⟨#[]⟩)).setCell (π A (z*4+1)) (ι (-1))).setCell (π A (z*4+2)) (ι 0)).setCell (π A (z*4+3)) (.bool true)).setCell (π S z) (.bool true)) K p lb A U S (aL g z ⟨[],-1,0,true⟩) (aL f z true)/\
 da [A,S] w (((((w.setCell (π A (z*4)) (.string ⟨#[]⟩)).setCell (π A (z*4+1)) (ι (-1))).setCell (π A (z*4+2)) (ι 0)).setCell (π A (z*4+3)) (.bool true)).setCell (π S z) (.bool true)):=by
 obtain ⟨n1,n2,n3,n4,n5,n6⟩:=h.ne;have f1:da [A,S] w (((((w.setCell (π A (z*4)) (.string ⟨#[]⟩)).setCell (π A (z*4+1)) (ι (-1))).setCell (π A (z*4+2)) (ι 0)).setCell (π A (z*4+3)) (.bool true)).setCell (π S z) (.bool true)):=
  (((((da.refl [A,S] w).setCell (p:=(π A (z*4))) smm _).setCell (p:=(π A (z*4+1))) smm _).setCell (p:=(π A (z*4+2))) smm _).setCell (p:=(π A (z*4+3))) smm _).setCell (p:=(π S z)) smm _
 have bz:∀{b c:Nat},b≠c->(Value.slice (some (π b 0)) p.code.length p.code.length).ownBlock≠some c:=fun h e=>h (af0 e);refine ⟨⟨h.c_.aB f1 (by simp [n1,n2]),?_,h.up.aB f1 (fun b hb=>by cases hb;simp [n3.symm,n5]),?_⟩,f1⟩
 ·refine ((CR h.at_ hz (.string ⟨#[]⟩) (ι (-1)) (ι 0) (.bool true)).other (bz n4) z (.bool true)).congr fun o ho=>?_;unfold CQ;by_cases e:o / 4=z
  ·rw [afE e,e,an];rfl
  ·rw [abH e,aj _ _ e]
 ·have h2:=(((h.st.other (bz n4.symm) (z*4) (.string ⟨#[]⟩)).other (bz n4.symm) (z*4+1) (ι (-1))).other (bz n4.symm) (z*4+2) (ι 0)).other (bz n4.symm) (z*4+3) (.bool true);refine (h2.set (o:=z) omm (.bool true)).congr fun o ho=>?_;rw [cG];by_cases e:o=z
  ·rw [afE e,afE e]
  ·rw [abH e,abH e]
def s_ (bl:List Int) (i:Nat):Nat->kE:=fun n=>if (bl.take i).contains (n:Int) then ⟨[],-1,0,true⟩ else s0
def tf (bl:List Int) (i:Nat):Nat->Bool:=fun n=>(bl.take i).contains (n:Int)
theorem UZ {bl:List Int} {i:Nat} (h:i < bl.length) (hn:bl.getD i 0 < 0):s_ bl (i+1)=s_ bl i/\tf bl (i+1)=tf bl i:=by
 have key:∀n:Nat,((bl.take (i+1)).contains (n:Int))=(bl.take i).contains (n:Int):=fun n=>by rw [gw bl h];generalize bl.getD i 0=z at*;rw [af7];simp;omega
 exact ⟨by funext n;unfold s_;rw [key],by funext n;unfold tf;rw [key]⟩
theorem QN {bl:List Int} {i m:Nat} (h:i < bl.length) (hn:bl.getD i 0=m):s_ bl (i+1)=aL (s_ bl i) m ⟨[],-1,0,true⟩/\tf bl (i+1)=aL (tf bl i) m true:=by
 have key:∀n:Nat,((bl.take (i+1)).contains (n:Int))=((bl.take i).contains (n:Int)||decide (n=m)):=fun n=>by rw [gw bl h,hn,af7];simp;exact or_congr Iff.rfl omm
 refine ⟨by funext n;rw [cG];unfold s_;rw [key];by_cases e:n=m<;>simp [e],by funext n;rw [cG];unfold tf;rw [key];by_cases e:n=m<;>simp [e]⟩
theorem QO (p:aO):s_ (p.on++[p.aJ]) (p.on.length+1)=(f_ p).at_/\tf (p.on++[p.aJ]) (p.on.length+1)=fx p:=by have e:(p.on++[p.aJ]).take (p.on.length+1)=p.on++[p.aJ]:=List.take_of_length_le smm;exact ⟨by unfold s_;rw [e];rfl,by unfold tf;rw [e];rfl⟩
theorem LB.done (h:LB w K p lb A U S (s_ (p.on++[p.aJ]) (p.on.length+1)) (tf (p.on++[p.aJ]) (p.on.length+1))):qx w K p lb (.slice (some (π A 0)) p.code.length p.code.length) (.slice (some (π U 0)) p.code.length p.code.length) (.slice (some (π S 0)) p.code.length p.code.length) (f_ p):=by obtain ⟨e1,e2⟩:=QO p;exact ⟨h.c_,h.at_.congr (fun o _=>by rw [e1]),h.up,h.st.congr (fun o _=>by rw [e2])⟩
def LO1 (W4:World) (K:Kp) (p:aO) (pb fb lb A U S:Nat) (m:Nat) (a:Act) (W:World):Prop:=
 ∃(J:Nat->Value) (i:Nat),a=FL J/\J 1=ρ pb/\J 3=ρ fb/\J 5=ι p.code.length/\J 6=ρ lb/\J 7=ι i/\i<=p.on.length+1/\m+i=p.on.length+2/\Hid (da [A,S] W4 W)/\Hid (LB W K p lb A U S (s_ (p.on++[p.aJ]) i) (tf (p.on++[p.aJ]) i))
theorem ael {p:Prop} (h:p:=by
 have hd:decide (0<=z)=false:=by simpa using gA
 have HN:=ae (Wr.o omm);clear hold Jh fy Ws Wr gA sr;go_wp2_with fail;exact ⟨_,i+1,FL.of _ rfl,rfl,rfl,rfl,rfl,rfl,by have:=dh.o;omega,omm,HF,ae (by rw [HN.o.1,HN.o.2];exact HS.o)⟩):p:=h
theorem aek {p:Prop} (h:p:=by
 obtain ⟨m,rfl⟩:=afN gA;have GF:m < p.code.length:=omm;have HE:=ae (fy.o m rfl GF);have HY:=ae (Ws.o m rfl);obtain ⟨u0,k0⟩:=hold 0 omm m GF;obtain ⟨u1,k1⟩:=hold 1 omm m GF;obtain ⟨u2,k2⟩:=hold 2 omm m GF;obtain ⟨u3,k3⟩:=hold 3 omm m GF;obtain ⟨u4,k4⟩:=Jh m GF;simp only [Nat.add_zero] at k0;clear hold Jh fy Ws Wr sr;go_wp2_with fail;exact ⟨_,i+1,FL.of _ rfl,rfl,rfl,rfl,rfl,rfl,by have:=dh.o;omega,omm,ae (HF.o.trans HE.o.2),ae (by rw [HY.o.1,HY.o.2];exact HE.o.1)⟩):p:=h
theorem lo1 (H:Hid (fP W4 K p)) (HP:Hid (ay W4 pb 27 (gN K p))) (sd:Hid (pb≠A/\pb≠S)) (HOA:Hid (0 < p.on.length->∀b off c,K.o= .slice (some (π b off)) p.on.length c->b≠A/\b≠S)) (tb:vj p)
 (eZ:∀(J:Nat->Value) W,J 1=ρ pb->J 3=ρ fb->J 5=ι p.code.length->J 6=ρ lb->da [A,S] W4 W->LB W K p lb A U S (s_ (p.on++[p.aJ]) (p.on.length+1)) (tf (p.on++[p.aJ]) (p.on.length+1))->Q (.exit 0) (FL J) W)
 {a:Act} {W:World} (h:LO1 W4 K p pb fb lb A U S (p.on.length+2) a W):(Code.loop (loL 0)).wp prog Q a W:=by
 refine Mk.aP (fun m a W=>LO1 W4 K p pb fb lb A U S m a W) (p.on.length+2) h ?_ ?_
 ·exact agT
 rintro m a0 W ⟨J,i,rfl,j1,j3,j5,j6,j7,hi,hm,HF,HS⟩;unfold FL
 conv=>arg 2;whnf
 have w2:IntKind.i64.wrap ((i:Int)+1)=((i+1:Nat):Int):=by have:=tb.on;have:=tb.g;rw [afU _ coo];omega
 rw [j1,j3,j5,j6,j7];clear j1 j3 j5 j6 j7;obtain ⟨oa,oc,ko,-,-⟩:=aV.val H.o.o;have hp:=HP.o.aB HF.o (by have:=sd.o;simp;exact this);obtain ⟨-,-,-,p3,p4⟩:=hp.c5;have lp:=hp.lt;rw [ko] at p3;have sr:(p.on++[p.aJ]).length=p.on.length+1:=by simp
 obtain ⟨-,-,-,-,-,-,v6,-,v8⟩:=HS.o.c_.c9;have lv:=HS.o.c_.lt;obtain ⟨n1,n2,n3,n4,n5,n6⟩:=HS.o.ne;have NR:∀o,W.frozen? (π A o)=false:=fun o=>HS.o.at_.frozen o;have CZ:∀o,W.frozen? (π S o)=false:=fun o=>HS.o.st.frozen o;have hAl:A < W.heap.size:=(HS.o.at_.slice).2.2.2;have hSl:S < W.heap.size:=(HS.o.st.slice).2.2.2;clear n3 n5 n6;by_cases a8:i < p.on.length+1
 ·have hbi:∃z,(p.on++[p.aJ]).getD i 0=z/\(-1<=z/\z < p.code.length):=by exact qX7
  obtain ⟨z,hz,jF,r_⟩:=hbi;have dh:=ae a8;have Wr:=ae (fun h:z < 0=>UZ (bl:=p.on++[p.aJ]) (i:=i) omm (by rw [hz];exact h));have Ws:=ae (fun (m:Nat) (h:z=m)=>QN (bl:=p.on++[p.aJ]) (i:=i) (m:=m) omm (by rw [hz];exact h));have fy:=ae (fun (m:Nat) (hm:z=m) (h:m < p.code.length)=>HS.o.put h);have hold:∀k,k < 4->∀m,m < p.code.length->∃v,W.cell? (π A (m*4+k))=some v:=fun k hk m hm=>⟨_,HS.o.at_.cell (o:=m*4+k) omm⟩;have Jh:∀m,m < p.code.length->∃v,W.cell? (π S m)=some v:=fun m hm=>⟨_,HS.o.st.cell (o:=m) omm⟩;by_cases hio:i < p.on.length
  ·obtain ⟨b,off,cap,eo,q1,q2,lo,c⟩:=H.o.o.some omm omm;have hbo:=HOA.o omm b off cap eo;rw [ko] at eo;simp only [afH] at eo;obtain ⟨rfl,-,rfl⟩:=eo;have c0:W.cell? (π b (off+i))=some (ι z):=by refine (afG (HF.o.block _ lo (by simp;exact hbo))).trans ((c i omm).trans ?_);rw [<-hz,afS,agh hio,<-afS];rfl
   clear c hz lo q2;by_cases gA:0<=z
   ·exact aek
   ·exact ael
  ·have c0:p.aJ=z:=by rw [<-hz,afS,agf omm,show i - p.on.length=0 by omega];simp
   rw [c0] at p4;clear c0 hz;by_cases gA:0<=z
   ·exact aek
   ·exact ael
 ·obtain rfl:i=p.on.length+1:=omm;clear a8 NR CZ;have HSE:=ae HS.o;go_wp2_with fail;exact Eq.mpr (afK (fun a=>Q (.exit 0) a W) (FL.of _ rfl)) (eZ _ _ rfl rfl rfl rfl HF.o HSE.o)
def LO2 (W5:World) (K:Kp) (p:aO) (fb lb A U S:Nat) (m:Nat) (a:Act) (W:World):Prop:=
 ∃(J:Nat->Value) (i:Nat) (L:jS),a=FL J/\J 3=ρ fb/\J 5=ι p.code.length/\J 6=ρ lb/\J 9=ι i/\i<=p.code.length/\m+i=p.code.length+1/\Hid (da [A,U] W5 W)/\Hid (qx W K p lb (.slice (some (π A 0)) p.code.length p.code.length) (.slice (some (π U 0)) p.code.length p.code.length) (.slice (some (π S 0)) p.code.length p.code.length) L)/\Hid (0 < p.code.length->kJ p L)/\Hid (eX p p.code.length 0 (f_ p)=eX p (p.code.length - i) i L)
theorem nP {W5:World} (P0:Hid (∀V,da [A,U] W5 V->fP V K p)) (SE:Hid (ay W5 fb 99 #[ι 0,ι 0])) (sd:Hid (fb≠A/\fb≠U)) (hlen:p.code.length<=262144) (iM:Hid (∀i,i∈p.code->iP i=true/\gI p i=true))
 (gO:∀(B:Array Value) W (i:Nat) (e:Int),B.getD 2 undef= .pointer none->B.getD 3 undef=ρ fb->da [A,U] W5 W->e≠0->eX p p.code.length 0 (f_ p)= .inl (e,i)->Q .ret {tmps:=B,defers:=[]} ((W.setCell (π fb 0) (ι e)).setCell (π fb 1) (ι i)))
 (eZ:∀(J:Nat->Value) W L,J 3=ρ fb->J 6=ρ lb->da [A,U] W5 W->eX p p.code.length 0 (f_ p)= .inr L->Q (.exit 2) (FL J) W)
 {a:Act} {W:World} (h:LO2 W5 K p fb lb A U S (p.code.length+1) a W):(Code.loop (loL 1)).wp prog Q a W:=by
 refine Mk.aP (fun m a W=>LO2 W5 K p fb lb A U S m a W) (p.code.length+1) h ?_ ?_
 ·rintro a W ⟨J,i,L,-,-,-,-,-,h1,h2,-⟩;omega
 rintro m a0 W ⟨J,i,L,rfl,j3,j5,j6,j9,hi,hm,HF,HL,HO,tR⟩;unfold FL
 conv=>arg 2;whnf
 have w2:=ag5 i omm;rw [j3,j5,j6,j9];clear j3 j5 j6 j9;by_cases a8:i < p.code.length
 ·have GC:=ae (QL (P0.o _ HF.o) HL.o (HO.o omm) a8 hlen (iM.o _ (ei a8)).1 (iM.o _ (ei a8)).2);have xz:=ae (fun e=>I_ (HO.o omm) a8 e);have kV:=ae (show eX p (p.code.length - i) i L=if (jj p L i).1=0 then eX p (p.code.length - (i+1)) (i+1) (jj p L i).2 else .inl ((jj p L i).1,i) by
   rw [show p.code.length - i=(p.code.length - (i+1))+1 by omega];rfl)
  have dh:=ae a8;unfold sZ at GC;generalize jj p L i=pr at*;obtain ⟨pe,pL⟩:=pr;dsimp only at GC kV xz;go_wp2_with fail;refine GC.o.mono ?_;rintro e W1 ⟨rfl,hf,hl⟩;have GL:=ae (HF.o.trans (show da [A,U] W W1 from hf));have AK:=ae hl;have hk:=SE.o.aB GL.o (by have:=sd.o;simp;exact this);obtain ⟨c0,c1⟩:=hk.c2;have tM:=hk.frozen;have lf:=hk.lt;clear hf hl hk;by_cases he:pe=0
  ·subst he;have HG:=ae (show eX p p.code.length 0 (f_ p)=eX p (p.code.length - (i+1)) (i+1) pL by rw [tR.o,kV.o,afE rfl]);have Iw:=ae (AK.o rfl);have ux:=ae (xz.o rfl);clear tM c0 c1 kV AK xz;go_wp2_with fail;exact ⟨_,i+1,pL,FL.of _ rfl,rfl,rfl,rfl,rfl,dh.o,omm,GL,Iw,ae (fun _=>ux.o),HG⟩
  ·have bz:(pe !=0)=true:=by simpa using he
   have HG:=ae (show eX p p.code.length 0 (f_ p)= .inl (pe,i) by rw [tR.o,kV.o,abH he]);have HZ:=ae he;clear he kV AK xz;go_wp2_with fail;exact gO _ _ i pe rfl rfl GL.o HZ.o HG.o
 ·obtain rfl:i=p.code.length:=omm;clear a8;have HG:=ae (show eX p p.code.length 0 (f_ p)= .inr L by rw [tR.o,Nat.sub_self];rfl);go_wp2_with fail;exact Eq.mpr (afK (fun a=>Q (.exit 2) a W) (FL.of _ rfl)) (eZ _ _ _ rfl rfl HF.o HG.o)
def iJ (p:aO):Int×Int:=if bo p≠0 then (bo p,0) else match eX p p.code.length 0 (f_ p) with| .inl (e,at_)=>(e,(at_:Int))| .inr _=>(0,0)
def Z8 (w:World) (p:aO) (e:Ending) (w':World):Prop:=∃pv,e= .returned (.tuple #[pv,.agg #[ι (iJ p).1,ι (iJ p).2]])/\Below w.heap.size w w'
theorem ti {R:Ending->World->Prop} {A:Array Value} {W:World} {fb:Nat} {u v pv:Value} (h2:A.getD 2 undef=pv) (h3:A.getD 3 undef=ρ fb) (kf:ay W fb 99 #[u,v])
 (hR:R (.returned (.tuple #[pv,.agg #[u,v]])) W):bodyPost prog Tryz.f144 R .ret {tmps:=A,defers:=[]} W:=by
 obtain ⟨f0,f1⟩:=kf.c2;rw [agn] at h2 h3;refine afI (v:= .tuple #[pv,.agg #[u,v]]) ?_ rfl hR;simp [results,results144,go_sem,h2,h3,f0,f1]
def RLK (W1:World) (K:Kp) (p:aO) (pb fb:Nat) (a:Act) (W:World):Prop:=∃(J:Nat->Value) (lb A U S:Nat),a=FL J/\J 1=ρ pb/\J 3=ρ fb/\J 5=ι p.code.length/\J 6=ρ lb/\Hid (Below W1.heap.size W1 W)/\Hid (LB W K p lb A U S (fun _=>s0) (fun _=>false))/\Hid (W1.heap.size<=A/\W1.heap.size<=U/\W1.heap.size<=S)
theorem pz:(prog.info? 262).map (fun i=>(i.zero,i.size,i.bytes))=some (some (.agg #[.string ⟨#[]⟩,ι 0,ι 0,.bool false]),4,40):=by kernel_rfl
theorem lK:(prog.info? 4).map (fun i=>(i.zero,i.size,i.bytes))=some (some (.bool false),1,1):=by kernel_rfl
theorem Ji (o:Nat):(#[.string ⟨#[]⟩,ι 0,ι 0,.bool false]:Array Value).getD (o % 4) undef=CQ (fun _=>s0) o:=rfl
theorem abK {p:Prop} (h:p:=by
 unfold uj;rw [HK.o.1,HK.o.2.1,HK.o.2.2.1,HK.o.2.2.2.1,HK.o.2.2.2.2];exact ay.new _ _ _):p:=h
theorem ET {w:World} {K:Kp} {p:aO} (h:fP w K p):Calls prog 144 #[pV K p] w (Z8 w p):=by
 obtain ⟨⟨ga,gc,g1,g2,g3⟩,⟨va,vc,v1,v2,v3⟩,⟨ta,tc,t1,t2,t3⟩,⟨oa,oc,o1,o2,o3⟩,⟨ca,cc,c1,c2,c3⟩⟩:=h.sl;have JI:=ae (fun V (hb:Below w.heap.size w V)=>zY (w:=V) (h.aB (da.ah hb)));have H:=ae h;obtain ⟨W0,lL⟩:∃W0,W0=(w.alloc (.cells #[.slice ga p.ap.length gc,.slice va p.vars.length vc,.slice ta p.aW.length tc,.slice oa p.on.length oc,ι p.aJ,.slice ca p.code.length cc] 27)).alloc (.cells #[ι 0,ι 0] 99):=⟨_,rfl⟩;have kp:ay W0 w.heap.size 27 (gN K p):=by rw [lL];unfold gN;rw [g1,v1,t1,o1,c1];exact (ay.new _ _ _).alloc _
 have kf:ay W0 (w.heap.size+1) 99 #[ι 0,ι 0]:=by rw [lL];exact ay.a_ smm
 have dQ:Below w.heap.size w W0:=by rw [lL];exact ((afL _ _).alloc (afF _) _).alloc smm _
 have sS:W0.heap.size=w.heap.size+1+1:=by rw [lL];simp
 have HK:=ae (And.intro g1 (And.intro v1 (And.intro t1 (And.intro o1 c1))));unfold pV at JI ⊢;rw [g1,v1,t1,o1,c1] at JI ⊢;clear h g1 v1 t1 o1 c1 g2 g3 v2 v3 t2 t3 o2 o3 c2 c3;go_enter func144,ntmps144;go_wp2_with fail;rw [<-lL];refine (JI.o _ dQ).mono ?_;rintro e W1 ⟨rfl,hb⟩;have KP:=ae (kp.of (hb.block _ kp.lt));have KF:=ae (kf.of (hb.block _ kf.lt));have dC:=ae (dQ.trans (hb.mono dQ.size));have tC:Hid (w.heap.size+1 < W1.heap.size):=ae (by have:=hb.size;omega);clear kp kf hb dQ sS lL JI;obtain ⟨f0,f1⟩:=KF.o.c2;have hff:=KF.o.frozen;have lf:=KF.o.lt;by_cases qJ:bo p=0
 case neg=>
  have HV:=ae (show iJ p=(bo p,0) by unfold iJ;rw [afE qJ]);have bz:(bo p !=0)=true:=by simpa using qJ
  generalize bo p=ce at*;clear qJ;go_wp2_with fail
  first
   |refine ti (fb:=w.heap.size+1) rfl rfl ((KF.o.set 0 (.int .i64 ce)).set 1 (.int .i64 0)) ?_
   |(rw [af8];refine ti (fb:=w.heap.size+1) rfl rfl ((KF.o.set 0 (.int .i64 ce)).set 1 (.int .i64 0)) ?_)
  exact ⟨_,by rw [HV.o],by exact (dC.o.setCell (p:=(π (w.heap.size+1) 0)) smm _).setCell (p:=(π (w.heap.size+1) 1)) smm _⟩
 obtain ⟨tb,mM⟩:=cK qJ;have YE:=ae mM;have TB:=ae tb;have hlen:=tb.code;have tR:=ae (show iJ p=(match eX p p.code.length 0 (f_ p) with| .inl (e,at_)=>(e,(at_:Int))| .inr _=>(0,0)) by unfold iJ;rw [abH (by simp [qJ])]);rw [qJ];clear qJ mM tb;have p0:W1.cell? (π w.heap.size 0)=some (.slice ga p.ap.length gc):=by rw [<-HK.o.1];exact KP.o.cell 0
 have p1:W1.cell? (π w.heap.size 1)=some (.slice va p.vars.length vc):=by rw [<-HK.o.2.1];exact KP.o.cell 1
 have p2:W1.cell? (π w.heap.size 2)=some (.slice ta p.aW.length tc):=by rw [<-HK.o.2.2.1];exact KP.o.cell 2
 have p3:W1.cell? (π w.heap.size 3)=some (.slice oa p.on.length oc):=by rw [<-HK.o.2.2.2.1];exact KP.o.cell 3
 have p4:W1.cell? (π w.heap.size 4)=some (ι p.aJ):=KP.o.cell 4;have p5:W1.cell? (π w.heap.size 5)=some (.slice ca p.code.length cc):=by rw [<-HK.o.2.2.2.2];exact KP.o.cell 5
 have lp:=KP.o.lt;have iW:Hid (40*p.code.length<=281474976710656/\8*p.code.length<=281474976710656/\1*p.code.length<=281474976710656/\p.code.length<=maxLen):=ae ⟨omm,omm,omm,by unfold maxLen;omega⟩;clear f0 f1 hff lf;go_wp2_with fail;refine wp_mono (Q:=fun e a W=>e=Exit.normal/\RLK W1 K p w.heap.size (w.heap.size+1) a W) ?_ ?_
 ·refine Mk.bF (S:=fun wx=>Below W1.heap.size W1 wx) krr (au _ W1 1) (fun al=>?_);refine Mk.tk 0 (v:=?_) rfl (fun wz bR=>?_) al ?_;rotate_left
  ·exact agF
  refine Mk.pt ?_;refine Mk.bL 1 ?_;refine Mk.bL 3 ?_;refine Mk.bL 5 ?_;refine Mk.nW (rs:=[2,4,6]) (afJ rfl (fun K9 hK=>?_) (afJ rfl (fun K9 hK=>?_) (afJ rfl (fun K9 hK=>?_) af1)))
  ·refine bJ rfl (.tmp 21) (.tmp 21) 258 rfl 262 underlying258 pz rfl dee .i64 .i64 _ _ p.code.length rfl rfl rfl rfl iW.o.1 iW.o.2.2.2 ?_;intro Wa Sc Z9;have hS:=al.trans (Z9.mono al.size);have Sd:=al.size;clear al;refine hK.out _ _ hS (fun al=>?_);clear hK K9;refine Mk.pt ?_;refine Mk.nW (rs:=[4,6]) (afJ rfl (fun K9 hK=>?_) (afJ rfl (fun K9 hK=>?_) af1))
   ·refine bJ rfl (.tmp 23) (.tmp 23) 24 rfl 3 underlying24 Vf.b_ rfl dee .i64 .i64 _ _ p.code.length rfl rfl rfl rfl iW.o.2.1 iW.o.2.2.2 ?_;intro Wb lE qq;have hS:=al.trans (qq.mono al.size);have Jm:=al.size;clear al;refine hK.out _ _ hS (fun al=>?_);clear hK K9;refine Mk.pt ?_;refine Mk.nW (rs:=[6]) (afJ rfl (fun K9 hK=>?_) af1);refine bJ rfl (.tmp 25) (.tmp 25) 22 rfl 4 underlying22 lK rfl dee .i64 .i64 _ _ p.code.length rfl rfl rfl rfl iW.o.2.2.1 iW.o.2.2.2 ?_;intro Wc GA su;have hS:=al.trans (su.mono al.size);have NA:=al.size;clear al;refine hK.out _ _ hS (fun al=>?_);clear hK K9;refine Mk.pt ?_;refine Mk.bL 7 ?_;refine Mk.nW (rs:=[8]) (afJ rfl (fun K9 hK=>?_) af1);refine QX ?_;go_simp;refine hK.out _ _ (al.alloc al.size _) (fun al=>?_);clear hK K9;refine Mk.pt ?_;refine Mk.bL 9 ?_;refine afZ krr ⟨rfl,rfl,_,_,_,_,_,FL.of _ rfl,rfl,rfl,rfl,rfl,ae al,ae ⟨?_,((((Sc.aB (da.ah (S:=[]) qq) smm).aB (da.ah (S:=[]) su) smm).alloc _)).congr (fun o _=>Ji o),(((lE.aB (da.ah (S:=[]) su) smm).alloc _)).congr (fun o _=>by rw [Nat.mod_one];rfl),((GA.alloc _)).congr (fun o _=>by rw [Nat.mod_one];rfl)⟩,ae ⟨Sd,Jm,NA⟩⟩ _;exact abK
   ·refine bJ rfl (.tmp 25) (.tmp 25) 22 rfl 4 underlying22 lK rfl dee .i64 .i64 _ _ p.code.length rfl rfl rfl rfl iW.o.2.2.1 iW.o.2.2.2 ?_;intro Wb lE qq;have hS:=al.trans (qq.mono al.size);have Jm:=al.size;clear al;refine hK.out _ _ hS (fun al=>?_);clear hK K9;refine Mk.pt ?_;refine Mk.nW (rs:=[4]) (afJ rfl (fun K9 hK=>?_) af1);refine bJ rfl (.tmp 23) (.tmp 23) 24 rfl 3 underlying24 Vf.b_ rfl dee .i64 .i64 _ _ p.code.length rfl rfl rfl rfl iW.o.2.1 iW.o.2.2.2 ?_;intro Wc GA su;have hS:=al.trans (su.mono al.size);have NA:=al.size;clear al;refine hK.out _ _ hS (fun al=>?_);clear hK K9;refine Mk.pt ?_;refine Mk.bL 7 ?_;refine Mk.nW (rs:=[8]) (afJ rfl (fun K9 hK=>?_) af1);refine QX ?_;go_simp;refine hK.out _ _ (al.alloc al.size _) (fun al=>?_);clear hK K9;refine Mk.pt ?_;refine Mk.bL 9 ?_;refine afZ krr ⟨rfl,rfl,_,_,_,_,_,FL.of _ rfl,rfl,rfl,rfl,rfl,ae al,ae ⟨?_,((((Sc.aB (da.ah (S:=[]) qq) smm).aB (da.ah (S:=[]) su) smm).alloc _)).congr (fun o _=>Ji o),((GA.alloc _)).congr (fun o _=>by rw [Nat.mod_one];rfl),(((lE.aB (da.ah (S:=[]) su) smm).alloc _)).congr (fun o _=>by rw [Nat.mod_one];rfl)⟩,ae ⟨Sd,NA,Jm⟩⟩ _;exact abK
  ·refine bJ rfl (.tmp 23) (.tmp 23) 24 rfl 3 underlying24 Vf.b_ rfl dee .i64 .i64 _ _ p.code.length rfl rfl rfl rfl iW.o.2.1 iW.o.2.2.2 ?_;intro Wa Sc Z9;have hS:=al.trans (Z9.mono al.size);have Sd:=al.size;clear al;refine hK.out _ _ hS (fun al=>?_);clear hK K9;refine Mk.pt ?_;refine Mk.nW (rs:=[2,6]) (afJ rfl (fun K9 hK=>?_) (afJ rfl (fun K9 hK=>?_) af1))
   ·refine bJ rfl (.tmp 21) (.tmp 21) 258 rfl 262 underlying258 pz rfl dee .i64 .i64 _ _ p.code.length rfl rfl rfl rfl iW.o.1 iW.o.2.2.2 ?_;intro Wb lE qq;have hS:=al.trans (qq.mono al.size);have Jm:=al.size;clear al;refine hK.out _ _ hS (fun al=>?_);clear hK K9;refine Mk.pt ?_;refine Mk.nW (rs:=[6]) (afJ rfl (fun K9 hK=>?_) af1);refine bJ rfl (.tmp 25) (.tmp 25) 22 rfl 4 underlying22 lK rfl dee .i64 .i64 _ _ p.code.length rfl rfl rfl rfl iW.o.2.2.1 iW.o.2.2.2 ?_;intro Wc GA su;have hS:=al.trans (su.mono al.size);have NA:=al.size;clear al;refine hK.out _ _ hS (fun al=>?_);clear hK K9;refine Mk.pt ?_;refine Mk.bL 7 ?_;refine Mk.nW (rs:=[8]) (afJ rfl (fun K9 hK=>?_) af1);refine QX ?_;go_simp;refine hK.out _ _ (al.alloc al.size _) (fun al=>?_);clear hK K9;refine Mk.pt ?_;refine Mk.bL 9 ?_;refine afZ krr ⟨rfl,rfl,_,_,_,_,_,FL.of _ rfl,rfl,rfl,rfl,rfl,ae al,ae ⟨?_,(((lE.aB (da.ah (S:=[]) su) smm).alloc _)).congr (fun o _=>Ji o),((((Sc.aB (da.ah (S:=[]) qq) smm).aB (da.ah (S:=[]) su) smm).alloc _)).congr (fun o _=>by rw [Nat.mod_one];rfl),((GA.alloc _)).congr (fun o _=>by rw [Nat.mod_one];rfl)⟩,ae ⟨Jm,Sd,NA⟩⟩ _;exact abK
   ·refine bJ rfl (.tmp 25) (.tmp 25) 22 rfl 4 underlying22 lK rfl dee .i64 .i64 _ _ p.code.length rfl rfl rfl rfl iW.o.2.2.1 iW.o.2.2.2 ?_;intro Wb lE qq;have hS:=al.trans (qq.mono al.size);have Jm:=al.size;clear al;refine hK.out _ _ hS (fun al=>?_);clear hK K9;refine Mk.pt ?_;refine Mk.nW (rs:=[2]) (afJ rfl (fun K9 hK=>?_) af1);refine bJ rfl (.tmp 21) (.tmp 21) 258 rfl 262 underlying258 pz rfl dee .i64 .i64 _ _ p.code.length rfl rfl rfl rfl iW.o.1 iW.o.2.2.2 ?_;intro Wc GA su;have hS:=al.trans (su.mono al.size);have NA:=al.size;clear al;refine hK.out _ _ hS (fun al=>?_);clear hK K9;refine Mk.pt ?_;refine Mk.bL 7 ?_;refine Mk.nW (rs:=[8]) (afJ rfl (fun K9 hK=>?_) af1);refine QX ?_;go_simp;refine hK.out _ _ (al.alloc al.size _) (fun al=>?_);clear hK K9;refine Mk.pt ?_;refine Mk.bL 9 ?_;refine afZ krr ⟨rfl,rfl,_,_,_,_,_,FL.of _ rfl,rfl,rfl,rfl,rfl,ae al,ae ⟨?_,((GA.alloc _)).congr (fun o _=>Ji o),((((Sc.aB (da.ah (S:=[]) qq) smm).aB (da.ah (S:=[]) su) smm).alloc _)).congr (fun o _=>by rw [Nat.mod_one];rfl),(((lE.aB (da.ah (S:=[]) su) smm).alloc _)).congr (fun o _=>by rw [Nat.mod_one];rfl)⟩,ae ⟨NA,Sd,Jm⟩⟩ _;exact abK
  ·refine bJ rfl (.tmp 25) (.tmp 25) 22 rfl 4 underlying22 lK rfl dee .i64 .i64 _ _ p.code.length rfl rfl rfl rfl iW.o.2.2.1 iW.o.2.2.2 ?_;intro Wa Sc Z9;have hS:=al.trans (Z9.mono al.size);have Sd:=al.size;clear al;refine hK.out _ _ hS (fun al=>?_);clear hK K9;refine Mk.pt ?_;refine Mk.nW (rs:=[2,4]) (afJ rfl (fun K9 hK=>?_) (afJ rfl (fun K9 hK=>?_) af1))
   ·refine bJ rfl (.tmp 21) (.tmp 21) 258 rfl 262 underlying258 pz rfl dee .i64 .i64 _ _ p.code.length rfl rfl rfl rfl iW.o.1 iW.o.2.2.2 ?_;intro Wb lE qq;have hS:=al.trans (qq.mono al.size);have Jm:=al.size;clear al;refine hK.out _ _ hS (fun al=>?_);clear hK K9;refine Mk.pt ?_;refine Mk.nW (rs:=[4]) (afJ rfl (fun K9 hK=>?_) af1);refine bJ rfl (.tmp 23) (.tmp 23) 24 rfl 3 underlying24 Vf.b_ rfl dee .i64 .i64 _ _ p.code.length rfl rfl rfl rfl iW.o.2.1 iW.o.2.2.2 ?_;intro Wc GA su;have hS:=al.trans (su.mono al.size);have NA:=al.size;clear al;refine hK.out _ _ hS (fun al=>?_);clear hK K9;refine Mk.pt ?_;refine Mk.bL 7 ?_;refine Mk.nW (rs:=[8]) (afJ rfl (fun K9 hK=>?_) af1);refine QX ?_;go_simp;refine hK.out _ _ (al.alloc al.size _) (fun al=>?_);clear hK K9;refine Mk.pt ?_;refine Mk.bL 9 ?_;refine afZ krr ⟨rfl,rfl,_,_,_,_,_,FL.of _ rfl,rfl,rfl,rfl,rfl,ae al,ae ⟨?_,(((lE.aB (da.ah (S:=[]) su) smm).alloc _)).congr (fun o _=>Ji o),((GA.alloc _)).congr (fun o _=>by rw [Nat.mod_one];rfl),((((Sc.aB (da.ah (S:=[]) qq) smm).aB (da.ah (S:=[]) su) smm).alloc _)).congr (fun o _=>by rw [Nat.mod_one];rfl)⟩,ae ⟨Jm,NA,Sd⟩⟩ _;exact abK
   ·refine bJ rfl (.tmp 23) (.tmp 23) 24 rfl 3 underlying24 Vf.b_ rfl dee .i64 .i64 _ _ p.code.length rfl rfl rfl rfl iW.o.2.1 iW.o.2.2.2 ?_;intro Wb lE qq;have hS:=al.trans (qq.mono al.size);have Jm:=al.size;clear al;refine hK.out _ _ hS (fun al=>?_);clear hK K9;refine Mk.pt ?_;refine Mk.nW (rs:=[2]) (afJ rfl (fun K9 hK=>?_) af1);refine bJ rfl (.tmp 21) (.tmp 21) 258 rfl 262 underlying258 pz rfl dee .i64 .i64 _ _ p.code.length rfl rfl rfl rfl iW.o.1 iW.o.2.2.2 ?_;intro Wc GA su;have hS:=al.trans (su.mono al.size);have NA:=al.size;clear al;refine hK.out _ _ hS (fun al=>?_);clear hK K9;refine Mk.pt ?_;refine Mk.bL 7 ?_;refine Mk.nW (rs:=[8]) (afJ rfl (fun K9 hK=>?_) af1);refine QX ?_;go_simp;refine hK.out _ _ (al.alloc al.size _) (fun al=>?_);clear hK K9;refine Mk.pt ?_;refine Mk.bL 9 ?_;refine afZ krr ⟨rfl,rfl,_,_,_,_,_,FL.of _ rfl,rfl,rfl,rfl,rfl,ae al,ae ⟨?_,((GA.alloc _)).congr (fun o _=>Ji o),(((lE.aB (da.ah (S:=[]) su) smm).alloc _)).congr (fun o _=>by rw [Nat.mod_one];rfl),((((Sc.aB (da.ah (S:=[]) qq) smm).aB (da.ah (S:=[]) su) smm).alloc _)).congr (fun o _=>by rw [Nat.mod_one];rfl)⟩,ae ⟨NA,Jm,Sd⟩⟩ _;exact abK
 rintro e a W4 ⟨rfl,J,lb,A,U,S,rfl,j1,j3,j5,j6,mU,Vp,y_⟩;clear p0 p1 p2 p3 p4 p5 lp iW;unfold FL;rw [j1,j3,j5,j6];clear j1 j3 j5 j6;have U2:=ae (dC.o.trans (mU.o.mono dC.o.size));have KF4:=ae (KF.o.of (mU.o.block _ KF.o.lt));have KP4:=ae (KP.o.of (mU.o.block _ KP.o.lt));have JL:=ae (show w.heap.size<=A/\w.heap.size<=U/\w.heap.size<=S by have:=tC.o;have:=y_.o;omega);have dQ:s_ (p.on++[p.aJ]) 0=(fun _=>s0)/\tf (p.on++[p.aJ]) 0=(fun _=>false):=⟨by funext n;simp [s_],by funext n;simp [tf]⟩;have gp:=ae dQ;clear dQ;go_wp2_with fail;refine lo1 (W4:=W4) (A:=A) (U:=U) (S:=S) (ae (H.o.aB (da.ah (by exact U2.o)))) KP4 (ae (by have:=tC.o;have:=y_.o;omega)) (ae (fun hon b off c e=>by
  obtain ⟨b',TQ,mI,e',-,-,hl,-⟩:=H.o.o.some hon omm;rw [e] at e';simp only [afH,af5,Addr.mk.injEq] at e';have:=JL.o;omega)) TB.o (fun J3 W5 j1 j3 j5 j6 Oh hl5=>?_) ⟨_,0,FL.of _ rfl,rfl,rfl,rfl,rfl,rfl,afO _,omm,ae (da.refl _ _),ae (by rw [gp.o.1,gp.o.2];exact Vp.o)⟩
 have OR:=ae Oh;have HL5:=ae hl5.done;have nA:=ae (U2.o.trans (Oh.below U2.o.size (by have:=JL.o;simp;omega)));have T_:=ae (KF4.o.aB Oh (by have:=tC.o;have:=y_.o;simp;omega));unfold FL;rw [j1,j3,j5,j6];clear j1 j3 j5 j6 Oh hl5;go_wp2_with fail;refine nP (W5:=W5) (A:=A) (U:=U) (S:=S) (lb:=lb) (ae (fun V hf=>H.o.aB (da.ah (by exact nA.o.trans (hf.below nA.o.size (by have:=JL.o;simp;omega)))))) T_ (ae (by have:=tC.o;have:=y_.o;omega)) hlen YE (fun B W6 i e h2 h3 Wu bz JJ=>?_) (fun J6 W6 L j3 j6 Wu JJ=>?_) ⟨_,0,f_ p,FL.of _ rfl,rfl,rfl,rfl,rfl,afO _,omm,ae (da.refl _ _),HL5,ae (fun h=>I9 h),ae (by rw [Nat.sub_zero])⟩
 ·try simp only [Exit.inBlock,Exit.then]
  have HV:=ae (show iJ p=(e,(i:Int)) by rw [tR.o,JJ]);have hk:=T_.o.aB Wu (by have:=tC.o;have:=y_.o;simp;omega);have uw:=nA.o.trans (Wu.below nA.o.size (by have:=JL.o;simp;omega))
  first
   |refine ti (fb:=w.heap.size+1) h2 h3 ((hk.set 0 (.int .i64 e)).set 1 (.int .i64 i)) ?_
   |(rw [af8];refine ti (fb:=w.heap.size+1) h2 h3 ((hk.set 0 (.int .i64 e)).set 1 (.int .i64 i)) ?_)
  exact ⟨_,by rw [HV.o],by exact (uw.setCell (p:=(π (w.heap.size+1) 0)) smm _).setCell (p:=(π (w.heap.size+1) 1)) smm _⟩
 ·have HV:=ae (show iJ p=(0,0) by rw [tR.o,JJ]);have Ut:=ae (T_.o.aB Wu (by have:=tC.o;have:=y_.o;simp;omega));have AM:=ae (nA.o.trans (Wu.below nA.o.size (by have:=JL.o;simp;omega)));unfold FL;rw [j3,j6];clear j3 j6 Wu JJ;obtain ⟨f0,f1⟩:=Ut.o.c2;have hff:=Ut.o.frozen;have lf:=Ut.o.lt;go_wp2_with fail
  first
   |refine ti (fb:=w.heap.size+1) rfl rfl ((Ut.o.set 0 (.int .i64 0)).set 1 (.int .i64 0)) ?_
   |(rw [af8];refine ti (fb:=w.heap.size+1) rfl rfl ((Ut.o.set 0 (.int .i64 0)).set 1 (.int .i64 0)) ?_)
  exact ⟨_,by rw [HV.o],by exact (AM.o.setCell (p:=(π (w.heap.size+1) 0)) smm _).setCell (p:=(π (w.heap.size+1) 1)) smm _⟩
end
end Go.Proofs.YtblkblclmbhjiaaGreat.Rv
section
namespace ak.Vm
theorem r7 {a b:Nat} (ha:a<=MS) (hb:b<=MS):bC a b=min (a+b) MS:=by unfold bC;split<;>omega
theorem CX {a b:Nat} (ha:a<=MS) (hb:b<=MS):bC 1 (bC a b)=bC (bC 1 a) b:=by
 have h1:1<=MS:=by decide
 rw [r7 ha hb,r7 h1 omm,r7 h1 ha,r7 omm hb];omega
end ak.Vm
namespace Go.Proofs.YtblkblclmbhjiaaGreat.Rv
open Go.RowKit ak.Vm
open ak hiding aL an aj
open Ma (dx bQ aU vb aA aQ)
open Vf (Kp fP pV qu bw aV gC b_)
def FH (J:Nat->Value):Act:={tmps:=#[J 0,J 1,J 2,J 3,J 4,J 5,J 6,J 7,J 8,J 9,J 10,J 11,J 12,J 13,J 14,J 15,J 16,J 17,J 18,J 19,J 20,J 21,J 22,J 23,J 24,J 25,J 26,J 27,J 28,J 29,J 30,J 31,J 32,J 33,J 34,J 35,J 36,J 37,J 38,J 39,J 40,J 41,J 42,J 43,J 44,J 45,J 46,J 47,J 48,J 49,J 50,J 51,J 52,J 53,J 54,J 55,J 56,J 57,J 58,J 59,J 60,J 61,J 62,J 63,J 64,J 65,J 66,J 67,J 68,J 69,J 70,J 71,J 72,J 73,J 74,J 75,J 76,J 77,J 78,J 79,J 80,J 81,J 82,J 83,J 84],defers:=[]}
theorem FH.of (A:Array Value) (h:A=(FH fun k=>A.getD k undef).tmps):({tmps:=A,defers:=[]}:Act)=FH fun k=>A.getD k undef:=by rw [h];rfl
def FuR (w:World) (p:aO) (cv:Value) (fb:Nat) (fc:Nat) (μ:Nat) (a:Act) (W:World):Prop:=
 ∃(J:Nat->Value) (m:Nat),a=FH J/\J 0=cv/\J 3= .slice (some (π fb 0)) p.code.length fc/\J 4=ι ((m:Int) - 1)/\m<=p.code.length/\μ=m+1/\Hid (w.heap.size<=fb/\Below w.heap.size w W/\Row W 3 1 (.slice (some (π fb 0)) p.code.length fc) p.code.length (gC (dw p (p.code.length - m))))
section
variable {w:World} {K:Kp} {p:aO}
theorem acv {p:Prop} (h:p:=by
 go_wp2_with fail;refine (xr.o _).mono ?_;exact aem):p:=h
theorem aem {p:Prop} (h:p:=by
 rintro e W1 ⟨rfl,rfl⟩;go_wp2_with fail;exact ⟨_,j,FH.of _ rfl,rfl,(by rw [HN.o];rfl),rfl,(by rw [HN.o];omega),(by have:=ME.o;omega),ae (by rw [HN.o];exact rT.o _ _ 0 _ mP.o.symm)⟩):p:=h
theorem EW (h:fP w K p) (hlen:p.code.length<=262144) (dK:Am p):
 Calls prog 145 #[K.c] w (Vf.rS w p):=by
 obtain ⟨ca,cc,kc,RQ,Cl⟩:=aV.val h.cd;rw [kc];have H:=ae h;have xj:=ae kc;have iM:=ae dK;have iW:Hid (8*p.code.length<=281474976710656/\p.code.length<=maxLen):=ae ⟨omm,by unfold maxLen;omega⟩;have EY:Hid (∀V (b:Nat),b<=MS->Calls prog 233 #[ι 1,ι b] V fun e w'=>e= .returned (ι (bC 1 b))/\w'=V):=ae fun V b hb=>Gm V 1 b dee hb;have HPM:=ae (fun V (a b:Nat) ha hb=>Gm V a b ha hb);have HTM:=ae (fun V (a b:Nat) ha hb=>ZM V a b ha hb);clear h kc dK;generalize hn:p.code.length=n at*;have HN:=ae hn;clear hn;have w3:IntKind.i64.wrap ((n:Int) - 1)=(n:Int) - 1:=afU _ coo;go_enter func145,ntmps145;go_wp2_with (refine kz rfl (.tmp 8) (.tmp 8) 24 rfl 3 underlying24 b_ rfl .i64 .i64 _ _ n rfl rfl rfl rfl iW.o.1 iW.o.2 ?_;intro W0 T4 dQ);have tz:=ae T4;have gp:=ae dQ;clear T4 dQ;go_wp2_with fail;obtain ⟨fb,RR⟩:∃fb,fb=w.heap.size:=⟨_,rfl⟩;refine Mk.aP (FuR w p (.slice ca n cc) fb n) (n+1) ⟨_,n,FH.of _ rfl,rfl,by rw [HN.o,RR];rfl,rfl,by rw [HN.o];exact afF _,rfl,ae ⟨by rw [RR];exact afF _,gp.o,by rw [HN.o,RR,Nat.sub_self];exact tz.o⟩⟩ (fun a W hh=>by obtain ⟨J,m,-,-,-,-,-,h2,-⟩:=hh;omega) ?_;clear tz gp RR;rintro μ a W ⟨J,m,rfl,j0,j3,j4,hm,hμ,HF⟩;rw [HN.o] at j3 hm HF;unfold FH;rw [j0,j3,j4];clear j0 j3 j4;by_cases VC:m=0
 ·subst VC;have HE:=ae (show Vf.rS w p (.returned (.slice (some (π fb 0)) n n)) W from ⟨fb,n,by rw [HN.o],HF.o.1,HF.o.2.1,by rw [HN.o];have h:=HF.o.2.2;rw [Nat.sub_zero] at h;unfold jP;rw [HN.o];exact h⟩);go_wp2_with fail;refine Vf.YB rfl ?_;exact HE.o
 obtain ⟨j,rfl⟩:∃j,m=j+1:=⟨m - 1,omm⟩;have w1:(((j+1:Nat):Int) - 1)=(j:Int):=omm;have w2:IntKind.i64.wrap ((j:Int) - 1)=(j:Int) - 1:=afU _ coo;rw [w1];clear w1 VC;have hj:j < n:=omm;obtain ⟨b,off,cap,e,-,-,c0,c1,c2,c3,c4⟩:=(H.o.aB (da.ah HF.o.2.1)).ins (i:=j) (by rw [HN.o];exact hj);rw [xj.o,HN.o] at e;simp only [afH] at e;obtain ⟨rfl,-,rfl⟩:=e;have kV:=ae (ww (p:=p) (j:=j) (by rw [HN.o];exact hj));rw [HN.o] at kV;have ME:=ae hμ;have HX:=ae (fun cs T=>(show Row (W.alloc (.cells cs T)) 3 1 (.slice (some (π fb 0)) n n) n (gC (dw p (n - (j+1)))) from HF.o.2.2.alloc _));have h_:∀i,i < n->W.cell? (π fb i)=some (ι (dw p (n - (j+1)) i:Nat)):=fun i hi=>HF.o.2.2.cell (o:=i) omm;have Mv:∀i,dw p (n - (j+1)) i<=MS:=rR p _;have RR:fb < W.heap.size:=(HF.o.2.2.slice).2.2.2;have tM:∀o,W.frozen? (π fb o)=false:=fun o=>HF.o.2.2.frozen o;have lb:=aS c0;have rT:=ae (fun (cs:Array Value) (T:TypeId) (k v:Nat) (hv:v=km p (dw p (n - (j+1))) j)=>show w.heap.size<=fb/\Below w.heap.size w (((W.setCell (π fb j) (ι v)).alloc (.cells cs T)).drewN k)/\Row (((W.setCell (π fb j) (ι v)).alloc (.cells cs T)).drewN k) 3 1 (.slice (some (π fb 0)) n n) n (gC (dw p (n - j))) from by
  have h1:Below w.heap.size w (W.setCell (π fb j) (ι v)):=HF.o.2.1.setCell HF.o.1 _;have h2:=h1.alloc h1.size (.cells cs T);refine ⟨HF.o.1,h2.trans ((au _ _ k).mono h2.size),?_⟩;rw [kV.o];refine Row.drewN (Row.alloc ?_ _) k;refine (HF.o.2.2.set (o:=j) omm (ι v)).congr fun o ho=>?_;unfold gC;rw [cG];by_cases e:o=j
  ·subst e;rw [afE rfl,afE rfl,hv]
  ·rw [abH e,abH e])
 have zD:=ae (fun (V:World) (hb:Below W.heap.size W V) (v:Nat) (hv:v=km p (dw p (n - (j+1))) j)=>show w.heap.size<=fb/\Below w.heap.size w (V.setCell (π fb j) (ι v))/\Row (V.setCell (π fb j) (ι v)) 3 1 (.slice (some (π fb 0)) n n) n (gC (dw p (n - j))) from by
  refine ⟨HF.o.1,(HF.o.2.1.trans (hb.mono HF.o.2.1.size)).setCell HF.o.1 _,?_⟩;rw [kV.o];have hr:=(HF.o.2.2.aB (da.ah (S:=[]) hb) smm).set (o:=j) omm (ι v);refine hr.congr fun o ho=>?_;unfold gC;rw [cG];by_cases e:o=j
  ·subst e;rw [afE rfl,afE rfl,hv]
  ·rw [abH e,abH e])
 have p_:=ae (fun (V:World) (hb:Below W.heap.size W V)=>HF.o.2.2.aB (da.ah (S:=[]) hb) smm);have dC:=ae (fun cs T=>(afL W.heap.size W).alloc (afF _) (.cells cs T));have cj:=h_ j hj;have hx:=iM.o j (by rw [HN.o];exact hj);rw [HN.o] at hx;have NR:km p (dw p (n - (j+1))) j=if (ai p j).op=0\/(ai p j).op=27 then 1 else if (ai p j).op=22 then bC 1 (dw p (n - (j+1)) (ai p j).a.toNat) else if (ai p j).op=23 then bC 1 (max (dw p (n - (j+1)) (j+1)) (dw p (n - (j+1)) (ai p j).a.toNat)) else if (ai p j).op=24 then bC (bC 1 (dV (ai p j).a.toNat (bC 1 (dw p (n - (j+1)) (j+2))))) (bC 1 (dw p (n - (j+1)) (ai p (j+1)).a.toNat)) else bC 1 (dw p (n - (j+1)) (j+1)):=rfl;have mP:=ae NR;clear NR;have JE:=ae HF.o.2.1;generalize dw p (n - (j+1))=g at*;have HG:=ae Mv;have ug:=ae h_;clear Mv h_;obtain ⟨Oe,IV,tL,Jl⟩:=hx;obtain ⟨op,cW⟩:∃z,(ai p j).op=z:=⟨_,rfl⟩;obtain ⟨xa,wT⟩:∃z,(ai p j).a=z:=⟨_,rfl⟩;obtain ⟨xb,jK⟩:∃z,(ai p j).b=z:=⟨_,rfl⟩;obtain ⟨xc,YC⟩:∃z,(ai p j).c=z:=⟨_,rfl⟩;obtain ⟨xd,Q3⟩:∃z,(ai p j).d=z:=⟨_,rfl⟩;rw [cW] at c0 Oe IV tL Jl mP;rw [wT] at c1 IV tL mP;rw [jK] at c2;rw [YC] at c3;rw [Q3] at c4;clear cW wT jK YC Q3;by_cases o1:op=0\/op=27
 ·rw [afE o1] at mP;have xr:=ae (fun V=>EY.o V 0 dee);rw [show bC 1 0=1 by decide] at xr;rcases o1 with rfl|rfl
  all_goals
   exact acv
 rw [abH o1] at mP;have o0:(op==0)=false:=by simp;exact fun h=>o1 (.inl h)
 have TX:(op==27)=false:=by simp;exact fun h=>o1 (.inr h)
 by_cases o2:op=22
 ·subst o2;rw [afE rfl] at mP;obtain ⟨a1,a2⟩:=IV (.inl rfl);obtain ⟨xm,rfl⟩:=afN a1;have TY:xm < n:=omm;have VX:=ug.o xm TY;have xr:=ae (fun V=>EY.o V (g xm) (HG.o _));rw [Int.toNat_natCast] at mP;generalize g xm=gx at*;exact acv
 rw [abH o2] at mP;have o22:(op==22)=false:=by simpa using o2
 have PV:j+1 < n:=Jl (fun h=>o1 (.inl h)) (fun h=>o1 (.inr h)) o2;have w4:IntKind.i64.wrap ((j:Int)+1)=((j+1:Nat):Int):=by rw [afU _ coo];omega
 have VY:=ug.o (j+1) PV;by_cases o3:op=23
 ·subst o3;rw [afE rfl] at mP;obtain ⟨a1,a2⟩:=IV (.inr rfl);obtain ⟨xm,rfl⟩:=afN a1;have TY:xm < n:=omm;have VX:=ug.o xm TY;rw [Int.toNat_natCast] at mP;have xr:=ae (fun V=>EY.o V (g (j+1)) (HG.o _));have JA:=ae (fun V=>EY.o V (g xm) (HG.o _));have HMX:=ae (fun h:g (j+1) < g xm=>show max (g (j+1)) (g xm)=g xm by omega);have HMY:=ae (fun h:¬g (j+1) < g xm=>show max (g (j+1)) (g xm)=g (j+1) by omega);generalize max (g (j+1)) (g xm)=mx at*;generalize g (j+1)=gx at*;generalize g xm=gy at*;by_cases hc:gx < gy
  ·rw [HMX.o hc] at mP;clear HMX HMY;go_wp2_with fail;refine (JA.o _).mono ?_;exact aem
  ·rw [HMY.o hc] at mP;clear HMX HMY;exact acv
 rw [abH o3] at mP;have o23:(op==23)=false:=by simpa using o3
 by_cases o4:op=24
 ·subst o4;rw [afE rfl] at mP;obtain ⟨a1,a2,TZ,t1,t2⟩:=tL rfl;obtain ⟨xm,rfl⟩:=afN a1;have xle:xm<=4194304:=omm;have T0:=ug.o (j+2) TZ;obtain ⟨b2,EJ,z_,e2,-,-,-,e1,-⟩:=(H.o.aB (da.ah JE.o)).ins (i:=j+1) (by rw [HN.o];exact PV);rw [xj.o,HN.o] at e2;simp only [afH,af5,Addr.mk.injEq] at e2;obtain ⟨⟨rfl,rfl,-⟩,-,-⟩:=e2;obtain ⟨tm,YD⟩:=afN t1;have tlt:tm < n:=omm;rw [YD] at e1 mP;have ct9:=ug.o tm tlt;rw [Int.toNat_natCast,Int.toNat_natCast] at mP;rw [<-CX (rQ _ _) (gZ (HG.o _))] at mP;have xr:=ae (fun V=>EY.o V (g (j+2)) (HG.o _));have JA:=ae (fun V=>HTM.o V xm (bC 1 (g (j+2))) (by unfold MS;omega) (gZ (HG.o _)));have VZ:=ae (fun V=>EY.o V (g tm) (HG.o _));have N5:=ae (fun V=>HPM.o V (dV xm (bC 1 (g (j+2)))) (bC 1 (g tm)) (rQ _ _) (gZ (HG.o _)));have HP6:=ae (fun V=>EY.o V (bC (dV xm (bC 1 (g (j+2)))) (bC 1 (g tm))) (gZ (gZ (HG.o _))));clear YD t1 t2 a1 a2 Oe IV tL Jl VY;generalize bC (dV xm (bC 1 (g (j+2)))) (bC 1 (g tm))=r5 at*;generalize dV xm (bC 1 (g (j+2)))=r2 at*;generalize bC 1 (g (j+2))=r1 at*;generalize bC 1 (g tm)=r4 at*;generalize g (j+2)=gx at*;generalize g tm=gy at*;have El:0<=(j:Int)+1:=omm;have Dq:(j:Int)+1 < (n:Int):=omm;have BM:((j:Int)+1).toNat=j+1:=omm;have xf:0<=(j:Int)+2:=omm;have hs5:(j:Int)+2 < (n:Int):=omm;have hs6:((j:Int)+2).toNat=j+2:=omm;have w6:IntKind.i64.wrap ((j:Int)+2)=(j:Int)+2:=afU _ coo;clear w4;have w4:IntKind.i64.wrap ((j:Int)+1)=(j:Int)+1:=afU _ coo;have eN:=dC.o #[ι 24,ι xm,ι xb,ι xc,ι xd] 40;have kx:ay (W.alloc (.cells #[ι 24,ι xm,ι xb,ι xc,ι xd] 40)) W.heap.size 40 #[ι 24,ι xm,ι xb,ι xc,ι xd]:=ay.new _ _ _;go_wp2_with fail;obtain ⟨W1,Ak⟩:∃W1,W1=W.alloc (.cells #[ι 24,ι xm,ι xb,ι xc,ι xd] 40):=⟨_,rfl⟩;rw [<-Ak] at eN kx ⊢;have d1:W1.cell? (π W.heap.size 1)=some (ι xm):=kx.cell 1;have key:∀b o v,W.cell? (π b o)=some v->W1.cell? (π b o)=some v:=fun b o v h=>(afG (eN.block _ (aS h))).trans h;replace cj:=key _ _ _ cj;replace T0:=key _ _ _ T0;replace ct9:=key _ _ _ ct9;replace e1:=key _ _ _ e1;have jg:=ae eN;clear Ak kx eN key c0 c1 c2 c3 c4 tM;generalize eO:W.heap.size=bx at*;clear eO;refine wp_region_still_tail 20 krr krr ?_;simp only [List.take_succ_cons,List.take_zero,List.drop_succ_cons,List.drop_zero]
  iterate 7 still_step
  still_call (xr.o _)
  still_call (JA.o _)
  iterate 9 still_step
  still_call (VZ.o _)
  still_call (N5.o _)
  refine wpStill_nil ?_;change wpList _ _ _ _ _ (W1.drewN 1);have dn:=jg.o.trans (au _ W1 1);have cj9:(W1.drewN 1).cell? (π fb j)=some (ι (g j:Nat)):=cj;have tM:∀o,(W1.drewN 1).frozen? (π fb o)=false:=fun o=>(p_.o _ dn).frozen o;have fg:=ae dn;clear dn cj T0 ct9 e1 El Dq BM xf hs5 hs6 d1;generalize W1.drewN 1=V0 at*;go_wp2_with fail;refine (HP6.o _).mono ?_;rintro e W1 ⟨rfl,rfl⟩;go_wp2_with fail;exact ⟨_,j,FH.of _ rfl,rfl,(by rw [HN.o];rfl),rfl,(by rw [HN.o];omega),(by have:=ME.o;omega),ae (by rw [HN.o];exact zD.o _ fg.o _ mP.o.symm)⟩
 rw [abH o4] at mP;have RT:(op==24)=false:=by simpa using o4
 have xr:=ae (fun V=>EY.o V (g (j+1)) (HG.o _));generalize g (j+1)=gx at*;clear o1 o2 o3 o4 Oe IV tL Jl;exact acv
end
end Go.Proofs.YtblkblclmbhjiaaGreat.Rv
end
