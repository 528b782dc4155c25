/- Of the proof that VmKeeps holds: a key keeps its node, what traps leaves no trace. No condition. -/
import Derived.Test.YtblkblclmbhjiaaGreatL22
import Derived.Maps.OwnSet
import Derived.Maps.OwnIn
import Derived.RangeFuncOwn
set_option linter.unusedVariables false
set_option linter.unusedSimpArgs false
set_option maxHeartbeats 40000000
set_option maxRecDepth 100000
namespace Go.Proofs.YtblkblclmbhjiaaGreat.Ma
open Go.RowKit ak.Vm
open ak hiding aL an aj
open Vf (Kp fP pV aV cV)
theorem ZA:(aZ gj).1=0:=by rw [yF]
theorem Uz:kH gj iX=true:=by decide
theorem ZC:bH (aw gj iX)=2:=by decide
theorem ZD:(aZ YW).1≠0:=by rw [MN];decide
theorem I5:ci gj k4 2 [(7,0),(9,1)]=⟨[[1,0]],[],[7,9],[0,1]⟩:=by decide
theorem Au {L:List (Nat×Nat)} (h:Ix.mE k4.f L):L=[(7,0),(9,1)]:=h.pS ⟨by simp,fun k v=>by
 rw [E3];simp⟩
theorem Qj {w:World} {v:Value} {l:List Nat} (h:vX w v l):∃x n c,v= .slice x n c:=by rcases h with ⟨h,-⟩|⟨b,cs,h,-⟩<;>exact ⟨_,_,_,h⟩
theorem Ni {w:World} {v:Value} {x:Nat} (h:vX w v [x]):∃b cs,v= .slice (some (π b 0)) 1 1/\ay w b 46 cs/\cs[0]? =some (.int .u64 x):=by
 rcases h with ⟨-,h⟩|⟨b,cs,h,hk,hc⟩
 ·cases h
 ·exact ⟨b,cs,h,hk,hc 0 (by simp)⟩
theorem rX {w:World} {C:Co} {lo:Nat} {p:aO} {c:Cp} {s:St} (h:∃t u,jX w C lo p c s t u) (hl:lo<=w.heap.size) {key:Nat} (hk:key < 18446744073709551616) {mb:Nat} (hm:C.mb=mb):
 Calls Tryz.prog 17 #[ρ mb,.int .u64 key] w (fun e w'=>∃(VE:Bool) (tv:Value) (br used:Int) (C':Co),e= .returned (.agg #[.bool VE,tv,ι br])/\C'.mb=mb/\Below lo w w'/\(∃x n c,tv= .slice x n c)/\(∃t,jX w' C' lo p c (dF p c s key) t used)/\
  Hid (VE=(if dE p c s key=0 then sH p c s key else false)/\br=dE p c s key/\used=(lD p c s key).1/\vX w' tv (if dE p c s key=0 then gK p c s key else [])/\bu w w' C C')):=by
 obtain ⟨t,u,h⟩:=h;subst hm;refine (Nb h hl hk).mono ?_;rintro e w' ⟨tv,C',rfl,k,v,ht,-⟩;exact ⟨_,tv,_,_,C',rfl,k.mb,k.low (fun b hb=>(h.lt hb).1) hl,Qj ht,⟨_,v⟩,ae ⟨rfl,rfl,rfl,ht,k⟩⟩
theorem Qk (w:World):Calls Tryz.prog 11 #[] w (fun e w'=>e= .returned (.bool true)/\Below w.heap.size w w'):=by
 go_enter Tryz.func11,Tryz.ntmps11;go_wp2_with fail;refine (Zz w).mono ?_;rintro e W1 ⟨xg,xo,xc,rfl,hp,eN⟩;have hq:aV (W1.alloc (.cells #[ι 2] 3)) 1 (.slice (some (π W1.heap.size 0)) 1 1) iX.aI.length (aU iX.aI):=px (n:=1) (ay.new _ _ _) rfl (by decide);have HN:=E_ (w:=W1.alloc (.cells #[ι 2] 3)) (c:=iX) (hp.aB ((ax.refl [] _).alloc _)) hq (fun _ _=>pk);have dC:=ae (eN.alloc eN.size (.cells #[ι 2] 3));unfold pV cV at HN;unfold pV;dsimp only [gj,iX] at HN ⊢;change Calls _ _ _ _ (Uw _ gj iX) at HN;have rM:=ae HN;clear hq hp eN HN;go_wp2_with fail;refine rM.o.mono ?_;rintro e W2 ⟨dn,⟨h1,-⟩|⟨-,-,C,rfl,hv⟩⟩
 ·exact absurd ⟨ZA,Uz⟩ h1
 have fg:=ae (dC.o.trans (dn.mono dC.o.size));have iF:(W1.alloc (.cells #[ι 2] 3)).heap.size=W1.heap.size+1:=by simp
 rw [iF] at hv;have sL:=ae (show w.heap.size<=W1.heap.size+1/\W1.heap.size+1<=W2.heap.size from ⟨by have:=dC.o.size;simp only [aE] at this;exact this,by have:=dn.size;simp only [aE] at this;exact this⟩);generalize W1.heap.size+1=lo at*;have HV:=ae hv;clear dn hv iF dC rM;have hp2:fP (W2.alloc (.cells #[ι 1,ι 0,ι 0,ι 0,ι 0] 40)) ⟨ν,ν,ν,ν,.slice (some (π W2.heap.size 0)) 1 1⟩ YW:=⟨.inl ⟨rfl,rfl⟩,.inl ⟨rfl,rfl⟩,.inl ⟨rfl,rfl⟩,.inl ⟨rfl,rfl⟩,px (n:=1) (ay.new _ _ _) rfl (by decide)⟩;have Jy:=E_ (c:=⟨1,[]⟩) (qv:=ν) hp2 (.inl ⟨rfl,rfl⟩) (fun h _=>absurd h ZD);unfold pV cV at Jy;dsimp only [YW] at Jy;change Calls _ _ _ _ (Uw _ YW ⟨1,[]⟩) at Jy;have rM:=ae Jy;have LJ:=ae ((Below.refl W2.heap.size W2).alloc (Nat.le_refl _) (.cells #[ι 1,ι 0,ι 0,ι 0,ι 0] 40));clear hp2 Jy;go_wp2_with fail;refine rM.o.mono ?_;rintro e W3 ⟨wN,hn3⟩;obtain ⟨er,Vi,rfl⟩:∃er:Int,er≠0/\e= .returned (.tuple #[.pointer none,ι er]):=by
  rcases hn3 with ⟨-,h⟩|⟨h1,-⟩
  ·exact h
  ·exact absurd h1 ZD
 clear hn3;have Ql:=LJ.o.trans (wN.mono LJ.o.size);have ki:=ae (fg.o.trans (Ql.mono fg.o.size));have HL3:=ae (Nat.le_trans sL.o.2 Ql.size);have HV3:=ae (show ∃t u,jX W3 C lo gj iX (xx gj) t u from ⟨_,_,HV.o.later Ql⟩);have he0:(er==0)=false:=by simpa using Vi
 obtain ⟨mb,kX⟩:∃mb,C.mb=mb:=⟨_,rfl⟩;rw [kX];have qN:=ae kX;clear wN Ql Vi kX rM LJ HV;go_wp2_with fail;refine (rX HV3.o HL3.o (by decide) qN.o).mono ?_;rintro e W4 ⟨abq,tv4,tr4,us4,C4,rfl,Wd,wQ,⟨xa4,xb4,xc4,rfl⟩,⟨t4,v4⟩,-⟩;have mU:=ae (ki.o.trans (wQ.mono sL.o.1));have Om:=ae (Nat.le_trans HL3.o wQ.size);have Qm:=ae (show ∃t u,jX W4 C4 lo gj iX k1 t u from ⟨_,_,v4⟩);have UA:=ae Wd;clear Wd wQ v4 HV3 qN;go_wp2_with fail;refine (rX Qm.o Om.o (by decide) UA.o).mono ?_;rintro e W5 ⟨abr,tv5,tr5,us5,C5,rfl,GJ,BG,⟨xa5,xb5,xc5,rfl⟩,⟨t5,v5⟩,-⟩;have nA:=ae (mU.o.trans (BG.mono sL.o.1));have HL5:=ae (Nat.le_trans Om.o BG.size);have On:=ae (show ∃t u,jX W5 C5 lo gj iX k2 t u from ⟨_,_,v5⟩);have HM5:=ae GJ;clear GJ BG v5 Qm UA;go_wp2_with fail;refine (rX On.o HL5.o (by decide) HM5.o).mono ?_;rintro e W6 ⟨abt,tv6,Qn,us6,C6,rfl,hm6,uw,⟨Qo,Qp,Qq,rfl⟩,⟨t6,v6⟩,WR⟩;obtain ⟨e1,-,e3,-,-⟩:=WR.o;rw [sV.2.2,if_pos rfl,sV.1] at e1;rw [sV.2.1] at e3;subst e1 e3;have AM:=ae (nA.o.trans (uw.mono sL.o.1));have HL6:=ae (Nat.le_trans HL5.o uw.size);have jg:=ae ((Below.refl W6.heap.size W6).alloc (Nat.le_refl _) (.cells #[.bool true,.slice Qo Qp Qq,ι Qn] 44));have HV6:=ae (show ∃t,jX (W6.alloc (.cells #[.bool true,.slice Qo Qp Qq,ι Qn] 44)) C6 lo gj iX k3 t (2:Nat) from ⟨_,v6.later jg.o⟩);have HU6:=ae (show Calls Tryz.prog 28 #[ρ mb] (W6.alloc (.cells #[.bool true,.slice Qo Qp Qq,ι Qn] 44)) (fun e w'=>e= .returned (ι 2)/\w'=W6.alloc (.cells #[.bool true,.slice Qo Qp Qq,ι Qn] 44)) by
  obtain ⟨t,hv⟩:=HV6.o;rw [<-hm6];exact GN hv)
 have HC6:=ae (show ∀b,b∈C6.l->b < W6.heap.size from fun b hb=>(v6.lt hb).2);have K6:=ae (ay.new W6 44 #[.bool true,.slice Qo Qp Qq,ι Qn]);have Zd:=ae hm6;have NZ:=ae (AM.o.trans (jg.o.mono AM.o.size));have HL7:=ae (show lo<=(W6.alloc (.cells #[.bool true,.slice Qo Qp Qq,ι Qn] 44)).heap.size by simp only [aE];have:=HL6.o;omega);clear hm6 uw v6 On HM5 WR;go_wp2_with fail;refine HU6.o.mono ?_;rintro e W7 ⟨rfl,rfl⟩;have V8:=ae (show W6.heap.size < (W6.alloc (.cells #[.bool true,.slice Qo Qp Qq,ι Qn] 44)).heap.size by simp);generalize W6.alloc (.cells #[.bool true,.slice Qo Qp Qq,ι Qn] 44)=W7 at*;clear HU6;go_wp2_with fail;refine (rX (by obtain ⟨t,h⟩:=HV6.o;exact ⟨_,_,h⟩) HL7.o (by decide) Zd.o).mono ?_;rintro e W8 ⟨abu,tv8,tr8,us8,C8,rfl,hm8,qM,-,⟨t8,v8⟩,hx8⟩;obtain ⟨e1,-,e3,e4,k8⟩:=hx8.o;rw [lH.2.2.1,if_pos rfl,lH.1] at e1;rw [lH.2.1] at e3;rw [lH.2.2.1,if_pos rfl,lH.2.2.2] at e4;obtain ⟨tb,ts,rfl,GO,VB⟩:=Ni e4;subst e1 e3;have RW:=ae (NZ.o.trans (qM.mono sL.o.1));have HS8:=ae (show W6.heap.size < W8.heap.size from Nat.lt_of_lt_of_le V8.o qM.size);obtain ⟨WX,Wl⟩:∃WX,WX=W8.alloc (.cells #[.bool false,.slice (some (π tb 0)) 1 1,ι tr8] 44):=⟨_,rfl⟩;have jg:=ae (show Below W8.heap.size W8 WX by rw [Wl];exact (Below.refl _ _).alloc (Nat.le_refl _) _);have K7:=ae (show ay WX W6.heap.size 44 #[.bool true,.slice Qo Qp Qq,ι Qn] by rw [Wl];exact (K6.o.aB k8.f fun hc=>absurd (HC6.o _ hc) (Nat.lt_irrefl _)).alloc _);have K8:=ae (show ay WX W8.heap.size 44 #[.bool false,.slice (some (π tb 0)) 1 1,ι tr8] by rw [Wl];exact ay.new _ _ _);have K9:=ae (show ay WX tb 46 ts by rw [Wl];exact GO.alloc _);have HV9:=ae (show ∃t,jX WX C8 lo gj iX k4 t (7:Nat) from ⟨_,v8.later jg.o⟩);have Oo:=ae (show Calls Tryz.prog 19 #[ρ mb] WX (rW WX gj k4 2) by
  obtain ⟨t,hv⟩:=HV9.o;rw [<-hm8,<-ZC];exact E8 hv)
 have Dp:=ae (RW.o.trans (jg.o.mono RW.o.size));have HM8:=ae hm8;have HTC:=ae VB;clear hm8 qM v8 HV6 Zd hx8 e4 k8 GO VB K6;go_wp2_with fail;rw [<-Wl];clear Wl jg;refine Oo.o.mono ?_;rintro e W9 ⟨L,a,b,c,d,h1,h2,lv,Wm,rfl,ui,hl⟩;rw [Au Wm,I5] at hl;have r0:Row W9 24 1 a 1 lv:=hl.ls.row;have r1:Row W9 3 1 b 0 (aU []):=hl.fr.row;have r2:Row W9 46 1 c 2 (nK [7,9]):=hl.ks.row;have r3:Row W9 3 1 d 2 (aU [0,1]):=hl.ns.row;have r4:Row W9 3 1 (lv 0) 2 (aU [1,0]):=(hl.ls.q 0 (by decide)).row;obtain ⟨xa,ya,rfl,-,-,-⟩:=r0.some (by decide);obtain ⟨xb,yb,rfl,-,-⟩:=ej r1;obtain ⟨xc,yc,rfl,-,-,-⟩:=r2.some (by decide);obtain ⟨xd,yd,rfl,-,-,-⟩:=r3.some (by decide);obtain ⟨xe,ye,ee,-,-,-⟩:=r4.some (by decide);rw [ee] at r4;obtain ⟨WY,Qr⟩:∃WY,WY=W9.alloc (.cells #[.slice (some (π xa 0)) 1 ya,.slice xb 0 yb,.slice (some (π xc 0)) 2 yc,.slice (some (π xd 0)) 2 yd] 52):=⟨_,rfl⟩;have UB:=ae (show Below WX.heap.size WX WY by rw [Qr];exact ui.alloc ui.size _);have f0:WY.cell? (π W6.heap.size 0)=some (.bool true):=(K7.o.aB (ax.ah (S:=[]) UB.o) (by simp)).cell 0;have f1:WY.cell? (π W8.heap.size 0)=some (.bool false):=(K8.o.aB (ax.ah (S:=[]) UB.o) (by simp)).cell 0;have f2:WY.cell? (π W8.heap.size 1)=some (.slice (some (π tb 0)) 1 1):=(K8.o.aB (ax.ah (S:=[]) UB.o) (by simp)).cell 1;have f3:WY.cell? (π tb 0)=some (.int .u64 8):=((K9.o.aB (ax.ah (S:=[]) UB.o) (by simp)).cell 0).trans HTC.o;have f4:WY.cell? (π xa 0)=some (.slice (some (π xe 0)) 2 ye):=by rw [Qr,<-ee];exact (r0.alloc _).cell (o:=0) (by decide)
 have f5:WY.cell? (π xe 0)=some (ι 1):=by rw [Qr];exact (r4.alloc _).cell (o:=0) (by decide)
 have f6:WY.cell? (π xc 0)=some (.int .u64 7):=by rw [Qr];exact (r2.alloc _).cell (o:=0) (by decide)
 have f7:WY.cell? (π xc 1)=some (.int .u64 9):=by rw [Qr];exact (r2.alloc _).cell (o:=1) (by decide)
 have f8:WY.cell? (π xd 1)=some (ι 1):=by rw [Qr];exact (r3.alloc _).cell (o:=1) (by decide)
 have NO:ay WY W9.heap.size 52 #[.slice (some (π xa 0)) 1 ya,.slice xb 0 yb,.slice (some (π xc 0)) 2 yc,.slice (some (π xd 0)) 2 yd]:=by rw [Qr];exact ay.new _ _ _
 obtain ⟨g0,g1,g2,g3⟩:=NO.c4;have HU:=ae (show Calls Tryz.prog 28 #[ρ mb] WY.drew (fun e w'=>e= .returned (ι 7)/\w'=WY.drew) by
  obtain ⟨t,hv⟩:=HV9.o;rw [<-HM8.o];exact GN (hv.later (UB.o.drew)))
 have HBZ:=ae (Dp.o.trans (UB.o.mono Dp.o.size));clear NO hl ui r0 r1 r2 r3 r4 ee UB Wm;go_wp2_with fail;rw [<-Qr];clear Qr;refine wp_region_still_tail 82 (by kernel_rfl) (by kernel_rfl) ?_;simp only [List.append_eq,List.cons_append,List.nil_append];simp only [List.take_succ_cons,List.take_zero,List.drop_succ_cons,List.drop_zero]
 iterate 26 still_step
 still_call HU.o
 iterate 55 still_step
 refine wpStill_nil ?_;change wpList _ _ _ _ _ (WY.drewN 1);go_wp2;refine Vf.eP rfl ⟨rfl,HBZ.o.drew⟩
end Go.Proofs.YtblkblclmbhjiaaGreat.Ma
namespace ak
open Go Go.RowKit Go.ChangeMaps Go.WideShapes
open Go.Maps (Keyed)
section
structure Typed (P:Program) (t k e:TypeId) (qk qe:IntKind):Prop where
 ht:P.underlying t=some (.map k e)
 hk:P.underlying k=some (.int qk)
 he:P.underlying e=some (.int qe)
 hz:∀w,(zeroValue e).run P w= .ok (.int qe 0) w
def I6 (q:IntKind) (x:Int):Prop:=(Lit.int q x).wf=true
def iI (P:Program) (k e:TypeId) (qk qe:IntKind) (W:World) (B:Nat) (f:Int->Option Int) (c:Nat):Prop:=
 ∃D:DataW Unit,W.ownsMap P k (plainElem P e) B c D/\Maps.size D=c/\∀x,I6 qk x->Maps.has D (.int qk x)=(f x).isSome/\∀v,f x=some v->∀z,D.atKey (.int qk x) z= .lit (.int qe v)
def Nk (f:Int->Option Int) (x v:Int):Int->Option Int:=fun y=>if y=x then some v else f y
variable {P:Program} {t k e:TypeId} {qk qe:IntKind} {W:World} {B c:Nat} {f:Int->Option Int}
theorem tight {D:DataW Unit} {R:Value->Option (DataW Unit×List MemPlace)} {n:Nat} (h:W.ownsMap P k R B n D):W.ownsMap P k R B (Maps.size D) D:=by obtain ⟨es,clock,hb,F,hs,rfl⟩:=h;exact ⟨es,clock,hb,F,by simp [Maps.size,length_sorted],rfl⟩
theorem isKey (qk:IntKind) (x:Int):WideAt.IsKeyLit (.int qk x):=trivial
theorem iI.made (W:World):iI P k e qk qe (W.alloc (.map #[] 0)) W.heap.size (fun _=>none) 0:=
 ⟨.map [],World.ownsMap_made W P k _,rfl,fun x hx=>⟨rfl,fun v h=>by simp at h⟩⟩
theorem iI.lt (h:iI P k e qk qe W B f c):B < W.heap.size:=by obtain ⟨D,h,_⟩:=h;exact h.lt
theorem iI.jY {W':World} (h:iI P k e qk qe W B f c) (hb:W'.heap[B]? =W.heap[B]?):iI P k e qk qe W' B f c:=by obtain ⟨D,⟨es,clock,h1,h2⟩,r⟩:=h;exact ⟨D,⟨es,clock,hb.trans h1,h2⟩,r⟩
theorem iI.look_ok (T:Typed P t k e qk qe) (h:iI P k e qk qe W B f c) {x:Int} (hx:I6 qk x):
 (Instr.lookup t (.map (some B)) (.int qk x) true).run P W= .ok (.tuple #[.int qe ((f x).getD 0),.bool (f x).isSome]) W:=by
 obtain ⟨D,h,_,r⟩:=h;obtain ⟨r1,r2⟩:=r x hx;obtain ⟨v,ps,uh,hv⟩:=h.look_ok (Maps.int_keyed T.hk) T.ht (T.hz W) (plainElem_int T.he (by cases qe<;>decide)) (Maps.keyOf_int_mk T.hk hx);obtain ⟨a,rfl,ha,_⟩:=plainElem_int_inv T.he hv;simp only [Prod.mk.injEq] at ha;rw [uh,r1];cases hf:f x with
 |none=>rw [hf] at r1;have:=Maps.atKey_of_not_has r1 (.lit (.int qe 0));rw [this] at ha;have:=ha.1;simp at this;simp [this]
 |some u=>have:=r2 u hf (.lit (.int qe 0));rw [this] at ha;have:=ha.1;simp at this;simp [this]
theorem iI.store (T:Typed P t k e qk qe) (h:iI P k e qk qe W B f c) (hc:c < maxLen) {x v:Int} (hx:I6 qk x) (hv:I6 qe v):
 ∃W',(Instr.mapUpdate t (.map (some B)) (.int qk x) (.int qe v)).run P W= .ok () W'/\iI P k e qk qe W' B (Nk f x v) (if (f x).isSome then c else c+1)/\W.grownBy W' (some B)/\∀a,W'.frozen? a=W.frozen? a:=by
 obtain ⟨D,h,hs,r⟩:=h;obtain ⟨W',uh,h',ht⟩:=h.store (Maps.int_keyed T.hk) T.ht hc (Maps.keyOf_int_mk T.hk hx) (plainElem_int T.he hv);have kN:=Maps.size_put (k:= .int qk x) (h.tidy (Maps.int_keyed T.hk)) (.lit (.int qe v));refine ⟨W',uh,⟨_,by have:=tight h';rw [kN,(r x hx).1,hs] at this;exact this,by rw [kN,(r x hx).1,hs],fun y hy=>?_⟩,ht.grown,ht.frozen⟩;unfold Nk;by_cases e1:y=x
 ·subst e1;rw [if_pos rfl];exact ⟨by rw [Maps.has_put_same h.isMap (isKey _ _)];rfl,fun u hu z=>by cases hu;rw [Maps.atKey_put_same h.isMap (isKey _ _)]⟩
 ·rw [if_neg e1];have bz:Lit.int qk y≠.int qk x:=fun e'=>e1 (by simpa using e');exact ⟨by rw [Maps.has_put_other bz];exact (r y hy).1,fun u hu z=>by rw [Maps.atKey_put_other bz];exact (r y hy).2 u hu z⟩
section
variable (w:World) {ops:Array Oper} {rest:List Oper} {o:Oper} {a:Act} {Q:Exit->Act->World->Prop}
theorem nM (hg:o.guard=none) (m x:Operand) (t:TypeId) (cW:o.op=Op.lookup t m x true) (T:Typed P t k e qk qe) (B c:Nat) (f:Int->Option Int)
 (hm:a.eval m= .map (some B)) (h:iI P k e qk qe w B f c) (key:Int) (hx:a.eval x= .int qk key) (UD:I6 qk key)
 (hK:wpList P ops Q rest (a.put o.dst (.tuple #[.int qe ((f key).getD 0),.bool (f key).isSome])) w):wpList P ops Q (o::rest) a w:=by
 refine wpList_plain hg fun K' YA=>?_;unfold Oper.wp;simp [execOp,cW,hm,hx,h.look_ok T UD,Result.andThen];exact YA _ _ hK
theorem jj (hg:o.guard=none) (m x:Operand) (t:TypeId) (cW:o.op=Op.lookup t m x true) (T:Typed P t k e qk qe) (B c:Nat) (f:Int->Option Int)
 (hm:a.eval m= .map (some B)) (h:iI P k e qk qe w B f c) (key:Int) (hx:a.eval x= .int qk key) (UD:I6 qk key) (v:Int) (hv:f key=some v)
 (hK:wpList P ops Q rest (a.put o.dst (.tuple #[.int qe v,.bool true])) w):wpList P ops Q (o::rest) a w:=
 nM w hg m x t cW T B c f hm h key hx UD (by rw [hv];exact hK)
theorem oG (hg:o.guard=none) (m x:Operand) (t:TypeId) (cW:o.op=Op.lookup t m x true) (T:Typed P t k e qk qe) (B c:Nat) (f:Int->Option Int)
 (hm:a.eval m= .map (some B)) (h:iI P k e qk qe w B f c) (key:Int) (hx:a.eval x= .int qk key) (UD:I6 qk key) (hv:f key=none)
 (hK:wpList P ops Q rest (a.put o.dst (.tuple #[.int qe 0,.bool false])) w):wpList P ops Q (o::rest) a w:=
 nM w hg m x t cW T B c f hm h key hx UD (by rw [hv];exact hK)
theorem wI (hg:o.guard=none) (m x v:Operand) (t:TypeId) (cW:o.op=Op.mapUpdate t m x v) (T:Typed P t k e qk qe) (B c:Nat) (f:Int->Option Int)
 (hm:a.eval m= .map (some B)) (h:iI P k e qk qe w B f c) (hc:c < maxLen) (key val:Int) (hx:a.eval x= .int qk key) (hv:a.eval v= .int qe val) (UD:I6 qk key) (hwv:I6 qe val)
 (hK:∀w',iI P k e qk qe w' B (Nk f key val) (if (f key).isSome then c else c+1)->w.grownBy w' (some B)->(∀a,w'.frozen? a=w.frozen? a)->wpList P ops Q rest (a.put o.dst undef) w'):wpList P ops Q (o::rest) a w:=by
 refine wpList_plain hg fun K' YA=>?_;obtain ⟨w',uh,r1,r2,r3⟩:=h.store T hc UD hwv;unfold Oper.wp;simp [execOp,cW,hm,hx,hv,uh,Result.andThen];exact YA _ _ (hK w' r1 r2 r3)
variable {F:Fence} {nF:Nat}
end
end
end ak
namespace Go.Proofs.YtblkblclmbhjiaaGreat.Ma
open Go.RowKit ak.Vm
open ak hiding aL an aj
def FQ (J:Nat->Value):Act:={tmps:=#[J 0,J 1,J 2,J 3,J 4,J 5,J 6,J 7,J 8,J 9,J 10,J 11,J 12,J 13,J 14,J 15,J 16,J 17,J 18,J 19,J 20,J 21,J 22,J 23,J 24,J 25,J 26,J 27,J 28,J 29,J 30,J 31,J 32,J 33,J 34,J 35,J 36,J 37,J 38,J 39,J 40,J 41,J 42,J 43,J 44,J 45,J 46,J 47,J 48,J 49,J 50,J 51,J 52,J 53,J 54,J 55,J 56,J 57,J 58,J 59,J 60,J 61,J 62,J 63,J 64,J 65,J 66,J 67,J 68,J 69,J 70,J 71,J 72,J 73,J 74,J 75,J 76,J 77,J 78,J 79,J 80,J 81,J 82,J 83,J 84,J 85,J 86,J 87,J 88,J 89,J 90,J 91,J 92,J 93,J 94,J 95,J 96,J 97,J 98,J 99,J 100,J 101,J 102,J 103,J 104,J 105,J 106,J 107,J 108,J 109,J 110,J 111,J 112,J 113,J 114,J 115,J 116,J 117,J 118,J 119,J 120,J 121,J 122,J 123,J 124,J 125,J 126,J 127,J 128,J 129,J 130,J 131,J 132,J 133,J 134,J 135,J 136,J 137,J 138,J 139,J 140,J 141,J 142,J 143,J 144,J 145,J 146,J 147,J 148,J 149,J 150,J 151,J 152,J 153,J 154,J 155],defers:=[]}
theorem FQ.of (A:Array Value) (h:A=(FQ fun k=>A.getD k undef).tmps):({tmps:=A,defers:=[]}:Act)=FQ fun k=>A.getD k undef:=by rw [h];rfl
noncomputable def kpO:Code:=Mk.mK Tryz.f4.body 0
noncomputable def kpM:Code:=Mk.mK (some kpO) 0
noncomputable def kpE:Code:=Mk.mK (some kpO) 1
theorem Ax:Typed Tryz.prog 67 46 3 .u64 .i64:=⟨Tryz.underlying67,Tryz.underlying46,Tryz.underlying3,fun w=>by kernel_rfl⟩
abbrev Qt:=iI Tryz.prog 46 3 .u64 .i64
def I7 (f:Int->Option Int) (L:List (Nat×Nat)):Prop:=∀(k:Nat) v,f k=some v->∃n:Nat,v=n/\(k,n)∈L
def Fc (L:List (Nat×Nat)):Prop:=∀k n,(k,n)∈L->k < 18446744073709551616/\n<=4194304
theorem uD {k:Nat} (h:k < 18446744073709551616):I6 .u64 (k:Int):=by unfold I6;exact WalkArith.wf_u64 (by omega)
theorem Nl {n:Nat} (h:n<=4194304):I6 .i64 (n:Int):=by unfold I6;exact WalkArith.wf_i64 (by omega)
theorem I7.put {f:Int->Option Int} {L:List (Nat×Nat)} (h:I7 f L) {k n:Nat} (hm:(k,n)∈L):I7 (Nk f k n) L:=by
 intro k' v hv;unfold Nk at hv;split at hv
 ·next e=>obtain rfl:k'=k:=by omega
          cases hv;exact ⟨n,rfl,hm⟩
 ·exact h k' v hv
theorem eJ {w w':World} {B:Nat} (h:w.grownBy w' (some B)):ax [B] w w':=⟨h.os,h.tape,h.output,h.size,fun k hk hs=>h.block k hk (fun e=>hs (by cases e;simp))⟩
def KM (sv mv:Value) (i0 lb B:Nat) (L:List (Nat×Nat)) (W2:World) (m:Nat) (a:Act) (W:World):Prop:=∃(J:Nat->Value) (i:Nat),a=FQ J/\J 2=sv/\J 7=mv/\J 9=ι i0/\J 10=ρ lb/\J 11= .map (some B)/\J 12=ι i/\i<=L.length/\m+i=L.length+1/\Hid (ax [B] W2 W/\∃f c,Qt W B f c/\c<=i/\I7 f L)
section
variable {W2:World} {sv mv a b c d:Value} {i0 lb B:Nat} {L:List (Nat×Nat)} {Q:Exit->Act->World->Prop}
theorem CP {i:Nat} (h:i < L.length):((L.map (·.1)).getD i 0,(L.map (·.2)).getD i 0)∈L:=by
 have:((L.map (·.1)).getD i 0,(L.map (·.2)).getD i 0)=L[i]:=by simp [List.getD,h]
 rw [this];exact List.getElem_mem h
theorem Qu (HK:Hid (ay W2 lb 52 #[a,b,c,d])) (hc:Row W2 46 1 c L.length (nK (L.map (·.1)))) (hd:Row W2 3 1 d L.length (aU (fA (L.map (·.2))))) (hB:Hid (lb≠B/\(∀x,c.ownBlock=some x->x≠B)/\(∀x,d.ownBlock=some x->x≠B))) (xl:Hid (Fc L))
 (eZ:∀(J:Nat->Value) W f n,J 2=sv->J 7=mv->J 9=ι i0->J 10=ρ lb->J 11= .map (some B)->ax [B] W2 W->Qt W B f n->I7 f L->Q (.exit 2) (FQ J) W)
 {a0:Act} {W0:World} (h:KM sv mv i0 lb B L W2 (L.length+1) a0 W0):(Code.loop kpM).wp Tryz.prog Q a0 W0:=by
 obtain ⟨ca,cc,rfl,c1,c2⟩:=ej hc;obtain ⟨da,dc,rfl,d1,d2⟩:=ej hd;have HC:=ae hc;have HD:=ae hd;clear hc hd;refine Mk.aP (fun m a W=>KM sv mv i0 lb B L W2 m a W) (L.length+1) h ?_ ?_
 ·rintro a W ⟨J,i,-,-,-,-,-,-,-,h1,h2,-⟩;omega
 rintro m a9 W ⟨J,i,rfl,j2,j7,j9,xy,qY,tQ,hi,hm,HW⟩;unfold FQ
 conv=>arg 2;whnf
 rw [j2,j7,j9,xy,qY,tQ];clear j2 j7 j9 xy qY tQ;obtain ⟨hf,f,n,ZE,hn,r8⟩:=HW.o;have HF:=ae hf;have HM:=ae ZE;have HN:=ae hn;have nU:=ae r8;have kk:=HK.o.aB hf (by simp only [List.mem_singleton];exact hB.o.1);obtain ⟨-,-,k2,k3⟩:=kk.c4;have lk:=kk.lt;clear kk ZE hn r8 hf;by_cases a8:i < L.length
 ·have w2:IntKind.i64.wrap ((i:Int)+1)=((i+1:Nat):Int):=by unfold maxLen at c2;rw [IntWalk.i64_in _ (by constructor<;>omega)];omega
  have ha:=HC.o.aB HF.o (fun x hx=>by simp only [List.mem_singleton];exact hB.o.2.1 x hx);have hb:=HD.o.aB HF.o (fun x hx=>by simp only [List.mem_singleton];exact hB.o.2.2 x hx);obtain ⟨xa,xc,ea,-,-,la⟩:=ha.some (by omega);obtain ⟨ya,yc,eb,-,-,lb'⟩:=hb.some (by omega);simp only [Value.slice.injEq] at ea eb;obtain ⟨rfl,-,rfl⟩:=ea;obtain ⟨rfl,-,rfl⟩:=eb;have q0:W.cell? (π xa i)=some (.int .u64 ((L.map (·.1)).getD i 0:Nat)):=ha.cell (o:=i) (by omega);have q1:W.cell? (π ya i)=some (ι ((L.map (·.2)).getD i 0:Nat)):=by have:=hb.cell (o:=i) (by omega);unfold aU at this;rw [yI] at this;exact this
  have dh:=ae a8;have iM:=ae (CP a8);have HL:=ae (xl.o _ _ iM.o);generalize (L.map (·.1)).getD i 0=kx at*;generalize (L.map (·.2)).getD i 0=nx at*;have El:0<=(i:Int):=by omega
  have Dq:(i:Int) < (L.length:Int):=by omega
  have BM:(i:Int).toNat=i:=by omega
  have Ζ:=ae c2;clear ha hb c2;go_wp2_with fail;refine wp_region_still_tail 11 (by kernel_rfl) (by kernel_rfl) ?_;simp only [List.take_succ_cons,List.take_zero,List.drop_succ_cons,List.drop_zero]
  iterate 11 still_step
  refine wpStill_nil ?_;change wpList _ _ _ _ _ (W.drewN 1);refine wI _ rfl _ _ _ _ rfl Ax B n f rfl (iI.jY HM.o rfl) (by have:=HN.o;have:=Ζ.o;have:=dh.o;omega) kx nx rfl rfl (uD HL.o.1) (Nl HL.o.2) (fun w' r1 r2 r3=>?_);have xR:=ae r1;have rj:=ae r2;have HR3:=ae r3;clear r1 r2 r3 El Dq BM;go_wp2;go_wp2_with fail;refine ⟨_,i+1,FQ.of _ rfl,rfl,rfl,rfl,rfl,rfl,?_,dh.o,by omega,ae ⟨?_,_,_,xR.o,?_,nU.o.put iM.o⟩⟩
  ·first|rfl|exact congrArg (Value.int .i64) (show (i:Int)+1=((i+1:Nat):Int) by omega)
  ·exact (HF.o.drewN 1).trans (eJ rj.o)
  ·have:=HN.o;split<;>omega
 ·obtain rfl:i=L.length:=by omega
  clear a8 c2;go_wp2_with fail;exact Eq.mpr (congrArg (fun a=>Q (.exit 2) a W) (FQ.of _ rfl)) (eZ (fun k=>Array.getD _ k undef) W f n rfl rfl rfl rfl rfl HF.o HM.o nU.o)
def KE (sv mv:Value) (i0 lb B:Nat) (n:Nat) (W3:World) (m:Nat) (a:Act) (W:World):Prop:=∃(J:Nat->Value) (i:Nat),a=FQ J/\J 2=sv/\J 7=mv/\J 9=ι i0/\J 11= .map (some B)/\J 14=ρ lb/\J 15=ι i/\i<=n/\m+i=n+1/\Hid (∃k,W=W3.drewN k)
theorem ad1 {p:Prop} (h:p:=by
 go_wp2_with (at_lookup;refine jj _ rfl _ _ _ rfl Ax B fc f rfl (iI.jY HM.o rfl) _ rfl (uD HL.o.1) _ HFN.o ?_);go_quiet (fail);exact ad0):p:=h
theorem ad0 {p:Prop} (h:p:=by
 go_wp2_with fail;refine ⟨_,i+1,FQ.of _ rfl,rfl,rfl,rfl,rfl,rfl,?_,dh.o,by omega,ae ⟨_,by first|rfl|rw [World.drewN_drewN]⟩⟩
 first|rfl|exact congrArg (Value.int .i64) (show (i:Int)+1=((i+1:Nat):Int) by omega)):p:=h
theorem GQ {W3:World} {sb so sn sc:Nat} {kind:Int} {key:Nat} {f:Int->Option Int} {fc:Nat} {L1:List (Nat×Nat)} (HK:Hid (ay W3 lb 52 #[a,b,c,d])) (hc:Row W3 46 1 c L.length (nK (L.map (·.1)))) (hd:Row W3 3 1 d L.length (aU (fA (L.map (·.2)))))
 (HM:Hid (Qt W3 B f fc)) (HF:Hid (I7 f L1)) (xl:Hid (Fc L)) (N_:i0 < sn) (g0:W3.cell? (π sb (so+i0*2))=some (ι kind)) (g1:W3.cell? (π sb (so+i0*2+1))=some (.int .u64 key))
 (Lg:Hid (∀k n m,(k,n)∈L1->(k,m)∈L->(kind≠0\/k≠key)->m=n))
 (eZ:∀(J:Nat->Value) W k,J 2= .slice (some (π sb so)) sn sc->J 7=mv->J 9=ι i0->W=W3.drewN k->Q (.exit 5) (FQ J) W)
 {a0:Act} {W0:World} (h:KE (.slice (some (π sb so)) sn sc) mv i0 lb B L.length W3 (L.length+1) a0 W0):(Code.loop kpE).wp Tryz.prog Q a0 W0:=by
 obtain ⟨ca,cc,rfl,c1,c2⟩:=ej hc;obtain ⟨da,dc,rfl,d1,d2⟩:=ej hd;have HC:=ae hc;have HD:=ae hd;have G0:=ae g0;have G1:=ae g1;clear hc hd g0 g1;refine Mk.aP (fun m a W=>KE (.slice (some (π sb so)) sn sc) mv i0 lb B L.length W3 m a W) (L.length+1) h ?_ ?_
 ·rintro a W ⟨J,i,-,-,-,-,-,-,-,h1,h2,-⟩;omega
 rintro m a9 W ⟨J,i,rfl,j2,j7,j9,qY,ZF,ZG,hi,hm,HW⟩;unfold FQ
 conv=>arg 2;whnf
 rw [j2,j7,j9,qY,ZF,ZG];clear j2 j7 j9 qY ZF ZG;obtain ⟨k,rfl⟩:=HW.o;have kk:=HK.o;obtain ⟨-,-,k2,k3⟩:=kk.c4;have lk:=kk.lt;clear kk;by_cases a8:i < L.length
 ·have w2:IntKind.i64.wrap ((i:Int)+1)=((i+1:Nat):Int):=by unfold maxLen at c2;rw [IntWalk.i64_in _ (by constructor<;>omega)];omega
  have ha:=HC.o;have hb:=HD.o;obtain ⟨xa,xc,ea,-,-,la⟩:=ha.some (by omega);obtain ⟨ya,yc,eb,-,-,lb'⟩:=hb.some (by omega);simp only [Value.slice.injEq] at ea eb;obtain ⟨rfl,-,rfl⟩:=ea;obtain ⟨rfl,-,rfl⟩:=eb;have q0:W3.cell? (π xa i)=some (.int .u64 ((L.map (·.1)).getD i 0:Nat)):=ha.cell (o:=i) (by omega);have q1:W3.cell? (π ya i)=some (ι ((L.map (·.2)).getD i 0:Nat)):=by have:=hb.cell (o:=i) (by omega);unfold aU at this;rw [yI] at this;exact this
  have dh:=ae a8;have iM:=ae (CP a8);have HL:=ae (xl.o _ _ iM.o);generalize (L.map (·.1)).getD i 0=kx at*;generalize (L.map (·.2)).getD i 0=nx at*;have Ζ:=ae c2;clear ha hb c2;cases hf:f kx with
  |none=>have HFN:=ae hf;clear hf;go_wp2_with (at_lookup;refine oG _ rfl _ _ _ rfl Ax B fc f rfl (iI.jY HM.o rfl) _ rfl (uD HL.o.1) HFN.o ?_);go_quiet (fail);exact ad0
  |some v=>
   obtain ⟨n1,rfl,dK⟩:=HF.o kx v hf;have HFN:=ae hf;clear hf;by_cases h1:n1=nx
   ·subst h1;clear dK;exact ad1
   ·have Cj:kind=0:=by
     by_cases h:kind=0
     ·exact h
     ·exact absurd (Lg.o _ _ _ dK iM.o (.inl h)).symm h1
    have fq:kx=key:=by
     by_cases h:kx=key
     ·exact h
     ·exact absurd (Lg.o _ _ _ dK iM.o (.inr h)).symm h1
    subst Cj fq;have bz:¬(n1:Int)=(nx:Int):=by omega
    have Md:((n1:Int)==(nx:Int))=false:=by rw [beq_eq_false_iff_ne];exact bz
    have El:0<=(i0:Int):=by omega
    have Dq:(i0:Int) < (sn:Int):=by omega
    have BM:(i0:Int).toNat=i0:=by omega
    have g0:=G0.o;have g1:=G1.o;clear dK h1 N_;exact ad1
 ·obtain rfl:i=L.length:=by omega
  clear a8 c2;go_wp2_with fail;exact Eq.mpr (congrArg (fun a=>Q (.exit 5) a (W3.drewN k)) (FQ.of _ rfl)) (eZ (fun k=>Array.getD _ k undef) _ k rfl rfl rfl rfl)
end
def GR (w:World) (a:Option Addr) (n:Nat):Prop:=
 n<=maxLen/\∀i,i < n->∃b off,a=some (π b off)/\∃(kind:Int) (key:Nat),key < 18446744073709551616/\w.cell? (π b (off+i*2))=some (ι kind)/\w.cell? (π b (off+i*2+1))=some (.int .u64 key)
section
variable {w w':World} {C:Co} {lo:Nat} {p:aO} {c:Cp} {s:St} {t:fI} {used:Int}
theorem jX.small (h:jX w C lo p c s t used) {L:List (Nat×Nat)} (hL:Ix.mE s.f L):Fc L:=by obtain ⟨RO,K,T,h1,M,-,-,hI,-⟩:=h;intro k n hm;obtain ⟨q,hq,hn,hk⟩:=(hI.idx k n).1 ((hL.mem k n).1 hm);obtain ⟨R,A,-,hR,ha,qi⟩:=h1.m.ar;refine ⟨hk▸hI.key q n hq hn,?_⟩;rw [<-ha] at hn;have:=hR.wW q n hq hn;have:=hR.made;have:=M.BP;omega
theorem jX.keeps (h:jX w C lo p c s t used) {key:Nat} (hk:key < 18446744073709551616) {k n m:Nat} (bz:k≠key) (h0:s.f k=some n) (h1:(dF p c s key).f k=some m):m=n:=by obtain ⟨RO,K,T,-,-,V,hS,hI,-⟩:=h;exact Fb V hS hI hk bz h0 h1
theorem I8 {key:Nat} (h:dE p c s key≠0):dF p c s key=s:=by unfold dF;rw [if_neg h]
end
def RS (sv:Value) (mb i lb B:Nat) (W4:World) (C:Co) (lo:Nat) (p:aO) (c:Cp) (s:St) (kind:Int) (key:Nat) (a:Act) (W:World):Prop:=∃(J:Nat->Value) (tr:Bool) (s':St) (C':Co),a=FQ J/\J 2=sv/\J 7=ρ mb/\J 9=ι i/\J 10=ρ lb/\J 11= .map (some B)/\J 13= .bool tr/\
 Hid (C'.mb=mb/\bu W4 W C C'/\(∃t u,jX W C' lo p c s' t u)/\(tr=true->s'=s)/\(∀k n m,s.f k=some n->s'.f k=some m->(kind≠0\/k≠key)->m=n))
def R17 (sv:Value) (mb i lb B:Nat) (W4:World) (a:Act) (V:World):Prop:=V=W4/\∃J,a=FQ J/\J 2=sv/\J 7=ρ mb/\J 9=ι i/\J 10=ρ lb/\J 11= .map (some B)/\J 13= .bool false
def KO (w:World) (sv:Value) (n mb lo:Nat) (p:aO) (c:Cp) (m:Nat) (a:Act) (W:World):Prop:=∃(J:Nat->Value) (i:Nat),a=FQ J/\J 2=sv/\J 7=ρ mb/\J 9=ι i/\i<=n/\m+i=n+1/\Hid (Below w.heap.size w W/\lo<=W.heap.size/\∃C s t u,C.mb=mb/\jX W C lo p c s t u)
section
variable {w:World} {sa:Option Addr} {sn sc mb lo:Nat} {p:aO} {c:Cp} {Q:Exit->Act->World->Prop}
theorem ad3 {p:Prop} (h:p:=by
 go_wp2_with fail;exact Eq.mpr (congrArg (fun a=>Q (.exit 0) a W) (FQ.of _ rfl)) (eZ (fun k=>Array.getD _ k undef) W HB.o)):p:=h
theorem ad2 {p:Prop} (h:p:=by
 simp only [Exit.inBlock,Exit.then]
 apply_assumption
 unfold FQ;rw [j2,j7,j9];go_wp2_with fail;refine ⟨_,i+1,FQ.of _ rfl,rfl,rfl,?_,by have:=AK.o;have:=Iw.o;omega,by omega,ae ⟨?_,?_,C',s',t5,u5,ZI.o,?_⟩⟩
 ·first|rfl|exact congrArg (Value.int .i64) (show (i:Int)+1=((i+1:Nat):Int) by omega)
 ·exact (fy.o.1.trans (qM.mono fy.o.1.size)).trans (au _ _ k)
 ·exact Nat.le_trans fy.o.2.1 qM.size
 ·exact (fy.o.2.2.later qM).later (au _ _ k)):p:=h
theorem Qv (HS:Hid (GR w sa sn)) (sL:Hid (w.heap.size<=lo))
 (eZ:∀(J:Nat->Value) W,Below w.heap.size w W->Q (.exit 0) (FQ J) W)
 {a0:Act} {W0:World} (h:KO w (.slice sa sn sc) (min sn 200) mb lo p c (min sn 200+1) a0 W0):(Code.loop kpO).wp Tryz.prog Q a0 W0:=by
 refine Mk.aP (fun m a W=>KO w (.slice sa sn sc) (min sn 200) mb lo p c m a W) (min sn 200+1) h ?_ ?_
 ·rintro a W ⟨J,i,-,-,-,-,h1,h2,-⟩;omega
 rintro m a9 W ⟨J,i,rfl,j2,j7,j9,hi,hm,HW⟩;unfold FQ
 conv=>arg 2;whnf
 rw [j2,j7,j9];clear j2 j7 j9;by_cases a8:i < sn/\i < 200
 ·obtain ⟨JB,EM⟩:=a8;have AK:=ae JB;have Iw:=ae EM;obtain ⟨wP,hlw,C,s,t,u,kX,hv⟩:=HW.o;have w2:IntKind.i64.wrap ((i:Int)+1)=((i+1:Nat):Int):=by rw [IntWalk.i64_in _ (by constructor<;>omega)];omega
  have EP:=ae wP;have JL:=ae hlw;have HV:=ae hv;have qN:=ae kX;have HC:=ae (show ∀b,b∈C.l->b < W.heap.size from fun b hb=>(hv.lt hb).2);have Oo:=ae (show Calls Tryz.prog 19 #[ρ mb] W (rW W p s (bH (aw p c))) by rw [<-kX];exact E8 hv);clear wP hlw hv kX HW;go_wp2_with fail;refine Oo.o.mono ?_;rintro e W1 ⟨L,a,b,c1,d,h1,h2,lv,Wm,rfl,eN,hl⟩;obtain ⟨xa,ya,rfl,-,-⟩:=ej hl.ls.row;obtain ⟨xb,yb,rfl,-,-⟩:=ej hl.fr.row;obtain ⟨xc,yc,rfl,-,-⟩:=ej hl.ks.row;obtain ⟨xd,yd,rfl,-,-⟩:=ej hl.ns.row;have Wj:=ae Wm;have dC:=ae eN;have ES:=ae hl;clear Wm eN hl Oo;have yZ:= @run_makeMap Tryz.prog;go_wp2_with fail;clear yZ;have fq:(ci p s (bH (aw p c)) L).keys.length=L.length:=by simp [ci]
  have jd:(ci p s (bH (aw p c)) L).nodes.length=L.length:=by simp [ci,fA]
  rw [fq,jd] at ES ⊢;have rk:=ES.o.ks.row;have rn:=ES.o.ns.row;rw [fq] at rk;rw [jd] at rn;have kN:(W1.alloc (.cells #[.slice xa (ci p s (bH (aw p c)) L).lists.length ya,.slice xb (fA (ci p s (bH (aw p c)) L).free).length yb,.slice xc L.length yc,.slice xd L.length yd] 52)).heap.size=W1.heap.size+1:=by simp
  have fg:=ae (show Below W.heap.size W ((W1.alloc (.cells #[.slice xa (ci p s (bH (aw p c)) L).lists.length ya,.slice xb (fA (ci p s (bH (aw p c)) L).free).length yb,.slice xc L.length yc,.slice xd L.length yd] 52)).alloc (.map #[] 0)) from (dC.o.alloc dC.o.size _).alloc (by have:=dC.o.size;simp;omega) _);have kY:=ae (show ay ((W1.alloc (.cells #[.slice xa (ci p s (bH (aw p c)) L).lists.length ya,.slice xb (fA (ci p s (bH (aw p c)) L).free).length yb,.slice xc L.length yc,.slice xd L.length yd] 52)).alloc (.map #[] 0)) W1.heap.size 52 #[.slice xa (ci p s (bH (aw p c)) L).lists.length ya,.slice xb (fA (ci p s (bH (aw p c)) L).free).length yb,.slice xc L.length yc,.slice xd L.length yd] from (ay.new _ _ _).alloc _);have Mc:=ae (iI.made (P:=Tryz.prog) (k:=46) (e:=3) (qk:= .u64) (qe:= .i64) (W1.alloc (.cells #[.slice xa (ci p s (bH (aw p c)) L).lists.length ya,.slice xb (fA (ci p s (bH (aw p c)) L).free).length yb,.slice xc L.length yc,.slice xd L.length yd] 52)));have tB:=ae (((ax.refl [] W1).alloc (.cells #[.slice xa (ci p s (bH (aw p c)) L).lists.length ya,.slice xb (fA (ci p s (bH (aw p c)) L).free).length yb,.slice xc L.length yc,.slice xd L.length yd] 52)).alloc (.map #[] 0));have rk2:=rk.aB tB.o (by simp);have rn2:=rn.aB tB.o (by simp);have ze:=ae (show (W1.alloc (.cells #[.slice xa (ci p s (bH (aw p c)) L).lists.length ya,.slice xb (fA (ci p s (bH (aw p c)) L).free).length yb,.slice xc L.length yc,.slice xd L.length yd] 52)).heap.size < ((W1.alloc (.cells #[.slice xa (ci p s (bH (aw p c)) L).lists.length ya,.slice xb (fA (ci p s (bH (aw p c)) L).free).length yb,.slice xc L.length yc,.slice xd L.length yd] 52)).alloc (.map #[] 0)).heap.size by simp);have xl:=ae (HV.o.small Wj.o);have sd:=ae (show W1.heap.size≠W1.heap.size+1/\(∀x,(Value.slice xc L.length yc).ownBlock=some x->x≠W1.heap.size+1)/\(∀x,(Value.slice xd L.length yd).ownBlock=some x->x≠W1.heap.size+1) from ⟨by omega,fun x hx=>by have:=(World.ownsRow.lt rk x hx).2;omega,fun x hx=>by have:=(World.ownsRow.lt rn x hx).2;omega⟩);rw [kN] at Mc ze;clear rk rn kN;generalize (W1.alloc (.cells #[.slice xa (ci p s (bH (aw p c)) L).lists.length ya,.slice xb (fA (ci p s (bH (aw p c)) L).free).length yb,.slice xc L.length yc,.slice xd L.length yd] 52)).alloc (.map #[] 0)=W2 at*;refine Qu (sv:= .slice sa sn sc) (mv:=ρ mb) (i0:=i) (lb:=W1.heap.size) (B:=W1.heap.size+1) (W2:=W2) kY rk2 rn2 sd xl (fun J W4 f fn j2 j7 j9 xy qY qW Wd r8=>?_) ⟨_,0,FQ.of _ rfl,rfl,rfl,rfl,rfl,rfl,rfl,Nat.zero_le _,by omega,ae ⟨ax.refl _ _,_,0,Mc.o,Nat.le_refl _,fun k v h=>by cases h⟩⟩;simp only [Exit.inBlock,Exit.then]
  apply_assumption
  refine wp_seq ?_;refine wp_mono (Q:=fun e a V=>e=Exit.normal/\R17 (.slice sa sn sc) mb i W1.heap.size (W1.heap.size+1) W4 a V) ?_ ?_
  ·unfold FQ;rw [j2,j7,j9,xy,qY];go_wp2;exact ⟨rfl,_,FQ.of _ rfl,rfl,rfl,rfl,rfl,rfl,rfl⟩
  clear j2 j7 j9 xy qY;rintro e a V ⟨rfl,rfl,J,rfl,j2,j7,j9,xy,qY,Dr⟩;simp only [Exit.then];refine wp_seq ?_;have mU:=ae (fg.o.trans (qW.below fg.o.size (fun k hk=>by have:=dC.o.size;simp only [List.mem_singleton] at hk;omega)));have Qm:=ae (HV.o.later mU.o);have Om:=ae (Nat.le_trans JL.o mU.o.size);obtain ⟨sb,so,e0,kind,key,si,g0,g1⟩:=HS.o.2 i AK.o;subst e0;have ZH:=ae (show _/\_ from ⟨g0,g1⟩);have Vq:=EP.o.trans (mU.o.mono EP.o.size);replace g0:=(World.cell?_of_block (Vq.block _ (aS g0))).trans g0;replace g1:=(World.cell?_of_block (Vq.block _ (aS g1))).trans g1;clear Vq;have HF4:=ae qW;have UA:=ae Wd;have nU:=ae r8;have PM:=ae g0;have N7:=ae g1;have UE:=ae si;clear qW Wd r8 rk2 rn2;refine wp_mono (Q:=fun e a V5=>e=Exit.normal/\RS (.slice (some (π sb so)) sn sc) mb i W1.heap.size (W1.heap.size+1) V C lo p c s kind key a V5) ?_ ?_
  ·unfold FQ;rw [j2,j7,j9,xy,qY,Dr];clear j2 j7 j9 xy qY Dr;have El:0<=(i:Int):=by omega
   have Dq:(i:Int) < (sn:Int):=by omega
   have BM:(i:Int).toNat=i:=by omega
   by_cases k0:kind=0
   ·subst k0;have HAC:=ae (rX ⟨t,u,Qm.o⟩ Om.o UE.o qN.o);clear w2 JB EM si;go_wp2_with fail;refine HAC.o.mono ?_;rintro e W5 ⟨VE,tv,tr,us,C',rfl,GJ,-,⟨xt,nt,ct,rfl⟩,⟨t5,v5⟩,hx⟩;have On:=ae v5;clear v5 HAC;have hfd:∀V:World,(Instr.field 44 (.agg #[.bool VE,.slice xt nt ct,ι tr]) 2).run Tryz.prog V= .ok (ι tr) V:=fun V=>by rfl
    go_wp2_with fail;refine ⟨_,_,dF p c s key,C',FQ.of _ rfl,rfl,rfl,rfl,rfl,rfl,rfl,ae ⟨GJ,hx.o.2.2.2.2,⟨t5,us,On.o⟩,fun h=>I8 ?_,fun k n m h0 h1 hh=>Qm.o.keeps UE.o (by rcases hh with hh|hh;exact absurd rfl hh;exact hh) h0 h1⟩⟩;rw [<-hx.o.2.1];simpa using h
   by_cases k1:kind=1
   ·subst k1;have HRM:=ae (show Calls Tryz.prog 26 #[ρ mb,.int .u64 key] V (Zx V C lo p c s t u key) by rw [<-qN.o];exact Zy Qm.o Om.o key);clear w2 JB EM si k0;go_wp2_with fail;refine HRM.o.mono ?_;rintro e W5 ⟨rfl,C',k5,v5⟩;have On:=ae v5;have Lk:=ae k5;clear v5 HRM k5;generalize gT p c s key=rx;go_wp2_with fail;exact ⟨_,_,gX p c s key,C',FQ.of _ rfl,rfl,rfl,rfl,rfl,rfl,rfl,ae ⟨Lk.o.mb.trans qN.o,Lk.o,⟨_,u,On.o⟩,fun h=>by simp at h,fun k n m h0 h1 hh=>Aw h0 h1⟩⟩
   ·have e0:(kind==0)=false:=by simpa using k0
    have e1:(kind==1)=false:=by simpa using k1
    clear w2 JB EM si;go_wp2_with fail;exact ⟨_,_,s,C,FQ.of _ rfl,rfl,rfl,rfl,rfl,rfl,rfl,ae ⟨qN.o,bu.refl _ _,⟨t,u,Qm.o⟩,fun h=>by simp at h,fun k n m h0 h1 hh=>by rw [h0] at h1;exact (Option.some.inj h1).symm⟩⟩
  clear j2 j7 j9 xy qY Dr g0 g1 si;rintro e a V5 ⟨rfl,J,tr,s',C',rfl,j2,j7,j9,xy,qY,Dr,hx⟩;simp only [Exit.then];obtain ⟨GJ,VD,⟨t5,u5,XS⟩,gB,MY⟩:=hx.o;unfold FQ;rw [j2,j7,j9,xy,qY,Dr];clear j2 j7 j9 xy qY Dr;have Oo:=ae (show Calls Tryz.prog 19 #[ρ mb] V5 (rW V5 p s' (bH (aw p c))) by rw [<-GJ];exact E8 XS);have ZI:=ae GJ;have On:=ae XS;have pM:=ae gB;have ZJ:=ae MY;have Wn:=ae VD;have HCV:=ae (show ∀b,W.heap.size<=b->b∉C.l from fun b hb hc=>by have:=HC.o b hc;omega);have nA:=ae (EP.o.trans ((mU.o.mono EP.o.size).trans (VD.low (fun b hb=>Nat.le_trans sL.o (Qm.o.lt hb).1) (Nat.le_trans sL.o Om.o))));clear GJ VD XS gB MY hx JB EM;go_wp2_with fail;refine Oo.o.mono ?_;rintro e W6 ⟨L',a',b',c',d',h1',h2',lv',Qw,rfl,uw,Ba⟩;obtain ⟨xa',ya',rfl,-,-⟩:=ej Ba.ls.row;obtain ⟨xb',yb',rfl,-,-⟩:=ej Ba.fr.row;obtain ⟨xc',yc',rfl,-,-⟩:=ej Ba.ks.row;obtain ⟨xd',yd',rfl,-,-⟩:=ej Ba.ns.row;have PV:(ci p s' (bH (aw p c)) L').keys.length=L'.length:=by simp [ci]
  have TZ:(ci p s' (bH (aw p c)) L').nodes.length=L'.length:=by simp [ci,fA]
  rw [PV,TZ] at Ba ⊢;have rk:=Ba.ks.row;have rn:=Ba.ns.row;rw [PV] at rk;rw [TZ] at rn;obtain ⟨W7,ZK⟩:∃W7,W7=W6.alloc (.cells #[.slice xa' (ci p s' (bH (aw p c)) L').lists.length ya',.slice xb' (fA (ci p s' (bH (aw p c)) L').free).length yb',.slice xc' L'.length yc',.slice xd' L'.length yd'] 52):=⟨_,rfl⟩;have Nn:Below V5.heap.size V5 W7:=by rw [ZK];exact uw.alloc uw.size _
  have f7:ax [] V5 W7:=ax.ah Nn;have f67:ax [] W6 W7:=by rw [ZK];exact (ax.refl [] W6).alloc _
  have ka:=((kY.o.aB HF4.o (by simp)).aB Wn.o.f (HCV.o _ dC.o.size)).aB f7 (by simp);have kb:ay W7 W6.heap.size 52 #[.slice xa' (ci p s' (bH (aw p c)) L').lists.length ya',.slice xb' (fA (ci p s' (bH (aw p c)) L').free).length yb',.slice xc' L'.length yc',.slice xd' L'.length yd']:=by rw [ZK];exact ay.new _ _ _
  have Ju:=ae kb;have aaU:=ae ((((ES.o.off tB.o (se.nil _ _ _ _)).off HF4.o (se.range fun b hb=>by simp only [List.mem_singleton] at hb;omega)).off Wn.o.f (se.range fun b hb=> .inl (HC.o b hb))).off f7 (se.nil _ _ _ _));have aaV:=ae (Ba.off f67 (se.nil _ _ _ _));have HMP:Hid (Qt W7 (W1.heap.size+1) f fn):=ae (iI.jY (iI.jY UA.o (Wn.o.f.block _ (iI.lt UA.o) (HCV.o _ (by have:=dC.o.size;omega)))) (Nn.block _ (Nat.lt_of_lt_of_le (iI.lt UA.o) Wn.o.f.size)));have Wk:Hid (Row W7 46 1 (.slice xc' L'.length yc') L'.length (nK (L'.map (·.1)))):=ae (rk.aB f67 (by simp));have Dj:Hid (Row W7 3 1 (.slice xd' L'.length yd') L'.length (aU (fA (L'.map (·.2))))):=ae (rn.aB f67 (by simp));have ZL:=ae (On.o.small Qw);have Lg:Hid (∀k n m,(k,n)∈L->(k,m)∈L'->(kind≠0\/k≠key)->m=n):=ae fun k n m h0 h1=>ZJ.o k n m ((Wj.o.mem k n).1 h0) ((Qw.mem k m).1 h1);have fy:=ae (show Below w.heap.size w W7/\lo<=W7.heap.size/\jX W7 C' lo p c s' t5 u5 from ⟨nA.o.trans (Nn.mono nA.o.size),Nat.le_trans Om.o (Nat.le_trans Wn.o.f.size Nn.size),On.o.later Nn⟩);have JK:=ae (show W7.cell? (π sb (so+i*2))=some (ι kind)/\W7.cell? (π sb (so+i*2+1))=some (.int .u64 key) from ⟨(World.cell?_of_block (fy.o.1.block _ (aS ZH.o.1))).trans ZH.o.1,(World.cell?_of_block (fy.o.1.block _ (aS ZH.o.2))).trans ZH.o.2⟩);have aaW:=ae Qw;obtain ⟨n0,n1,n2,n3⟩:=ka.c4;obtain ⟨m0,m1,m2,m3⟩:=kb.c4;clear uw Ba Nn f7 f67 ka kb rk rn PV TZ fq jd kY HF4 tB UA Mc PM N7 ZH Qw ES Oo dC fg mU nA HV Qm On HC HCV Wn ZJ sd ze xl sL HS EP JL Om UE qN;cases tr with
  |true=>obtain rfl:s'=s:=pM.o rfl;obtain rfl:L'=L:=aaW.o.pS Wj.o;have HSL:=ae (fun V9 (hb:Below W7.heap.size W7 V9)=>CN (aaV.o.off (ax.ah (S:=[]) hb) (se.nil _ _ _ _)) (aaU.o.off (ax.ah (S:=[]) hb) (se.nil _ _ _ _)));subst ZK;go_wp2_with fail;refine (HSL.o _ (Below.refl _ _)).mono ?_;rintro e W8 ⟨rfl,qM⟩;clear HSL;go_wp2_with fail;refine GQ (mv:=ρ mb) (i0:=i) (lb:=W6.heap.size) (B:=W1.heap.size+1) (W3:=W8) (sn:=sn) (sc:=sc) (ae (Ju.o.aB (ax.ah (S:=[]) qM) (by simp))) (Wk.o.aB (ax.ah (S:=[]) qM) (by simp)) (Dj.o.aB (ax.ah (S:=[]) qM) (by simp)) (ae (iI.jY HMP.o (qM.block _ (iI.lt HMP.o)))) nU ZL AK.o ((World.cell?_of_block (qM.block _ (aS JK.o.1))).trans JK.o.1) ((World.cell?_of_block (qM.block _ (aS JK.o.2))).trans JK.o.2) Lg (fun J W9 k j2 j7 j9 hW=>?_) ⟨_,0,FQ.of _ rfl,rfl,rfl,rfl,rfl,rfl,rfl,Nat.zero_le _,by omega,ae ⟨0,rfl⟩⟩;subst hW;exact ad2
  |false=>subst ZK;go_wp2_with fail;generalize W6.alloc (.cells #[.slice xa' (ci p s' (bH (aw p c)) L').lists.length ya',.slice xb' (fA (ci p s' (bH (aw p c)) L').free).length yb',.slice xc' L'.length yc',.slice xd' L'.length yd'] 52)=W7 at*;have qM:Below W7.heap.size W7 W7:=Below.refl _ _;refine GQ (mv:=ρ mb) (i0:=i) (lb:=W6.heap.size) (B:=W1.heap.size+1) (W3:=W7) (sn:=sn) (sc:=sc) (ae (Ju.o.aB (ax.ah (S:=[]) qM) (by simp))) (Wk.o.aB (ax.ah (S:=[]) qM) (by simp)) (Dj.o.aB (ax.ah (S:=[]) qM) (by simp)) (ae (iI.jY HMP.o (qM.block _ (iI.lt HMP.o)))) nU ZL AK.o ((World.cell?_of_block (qM.block _ (aS JK.o.1))).trans JK.o.1) ((World.cell?_of_block (qM.block _ (aS JK.o.2))).trans JK.o.2) Lg (fun J W9 k j2 j7 j9 hW=>?_) ⟨_,0,FQ.of _ rfl,rfl,rfl,rfl,rfl,rfl,rfl,Nat.zero_le _,by omega,ae ⟨0,rfl⟩⟩;subst hW;exact ad2
 ·have hn:i=min sn 200:=by omega
  have HB:=ae HW.o.1;by_cases h1:i < sn
  ·have h2:¬i < 200:=fun h=>a8 ⟨h1,h⟩;clear a8 hn;exact ad3
  ·clear a8 hn;exact ad3
end
end Go.Proofs.YtblkblclmbhjiaaGreat.Ma
namespace Go.Proofs.YtblkblclmbhjiaaGreat.Rv
open Go.RowKit ak.Vm
open ak hiding aL an aj
def yJ (t:Nat):UInt8:=if t=1 then 110 else if t=2 then 98 else 63
def fk (ty:List Nat):ByteArray:=⟨(ty.reverse.map yJ).toArray⟩
theorem lJ (ty:List Nat):(fk ty).size=ty.length:=by simp [fk,ByteArray.size]
theorem No (ty:List Nat) (k:Nat):(fk ty).extract 0 (ty.length - k)=fk (ty.drop k):=by apply ByteArray.ext;simp only [fk,ByteArray.data_extract,List.extract_toArray,List.extract_eq_take_drop,List.drop_zero,Nat.sub_zero];congr 1;rw [List.reverse_drop,List.map_take]
theorem Np (ty:List Nat) {k:Nat} (h:k<=ty.length):(fk ty).extract (ty.length - k) ty.length=fk (ty.take k):=by apply ByteArray.ext;simp only [fk,ByteArray.data_extract,List.extract_toArray,List.extract_eq_take_drop];congr 1;rw [List.reverse_take,List.map_drop];exact List.take_of_length_le (by simp)
theorem Qx (a b:List Nat):fk a++fk b=fk (b++a):=by apply ByteArray.ext;simp [fk,ByteArray.data_append]
theorem GS {a b:Nat} (ha:a=1\/a=2) (hb:b=1\/b=2):yJ a=yJ b↔a=b:=by rcases ha with rfl|rfl<;>rcases hb with rfl|rfl<;>decide
theorem Qy {a b:List Nat} (ha:eI a) (hb:eI b) (h:fk a=fk b):a=b:=by
 have e:a.reverse.map yJ=b.reverse.map yJ:=by have:=congrArg ByteArray.data h;simpa [fk] using this
 have key:∀(l m:List Nat),eI l->eI m->l.map yJ=m.map yJ->l=m:=by
  intro l
  induction l with
  |nil=>intro m _ _ h;cases m with
   |nil=>rfl
   |cons _ _=>simp at h
  |cons x l ih=>
   intro m hl hm h;cases m with
   |nil=>simp at h
   |cons y m=>simp only [List.map_cons,List.cons.injEq] at h;rw [(GS (hl x (by simp)) (hm y (by simp))).1 h.1,ih m (fun t ht=>hl t (by simp [ht])) (fun t ht=>hm t (by simp [ht])) h.2]
 have:=key a.reverse b.reverse (fun t ht=>ha t (by simpa using ht)) (fun t ht=>hb t (by simpa using ht)) e;exact List.reverse_inj.1 this
theorem Fe {a b:List Nat} (ha:eI a) (hb:eI b):((fk a).toList=(fk b).toList)=(a=b):=propext ⟨fun h=>Qy ha hb (by
 rw [ByteArray.toList_eq,ByteArray.toList_eq] at h;exact ByteArray.ext (Array.toList_inj.1 h)),fun h=>by rw [h]⟩
theorem zM (w:World) {op:Int} (h0:0<=op) (h1:op < 42):Calls Tryz.prog 317 #[ι op] w (fun e w'=>e= .returned (.string (fk (bO op.toNat)))/\w'=w):=by
 obtain ⟨n,rfl⟩:=Int.eq_ofNat_of_zero_le h0;have e:n=0\/n=1\/n=2\/n=3\/n=4\/n=5\/n=6\/n=7\/n=8\/n=9\/n=10\/n=11\/n=12\/n=13\/n=14\/n=15\/n=16\/n=17\/n=18\/n=19\/n=20\/n=21\/n=22\/n=23\/n=24\/n=25\/n=26\/n=27\/n=28\/n=29\/n=30\/n=31\/n=32\/n=33\/n=34\/n=35\/n=36\/n=37\/n=38\/n=39\/n=40\/n=41:=by omega
 clear h0 h1;rcases e with rfl|rfl|rfl|rfl|rfl|rfl|rfl|rfl|rfl|rfl|rfl|rfl|rfl|rfl|rfl|rfl|rfl|rfl|rfl|rfl|rfl|rfl|rfl|rfl|rfl|rfl|rfl|rfl|rfl|rfl|rfl|rfl|rfl|rfl|rfl|rfl|rfl|rfl|rfl|rfl|rfl|rfl
 all_goals
  go_enter Tryz.func317,Tryz.ntmps317;go_wp2_with fail;go_ret;exact ⟨rfl,rfl⟩
def eL (op:Nat):List Nat:=if aR op=0 then [] else [aR op]
theorem rJ (w:World) {op:Int} (h0:0<=op) (h1:op < 42):Calls Tryz.prog 318 #[ι op] w (fun e w'=>e= .returned (.string (fk (eL op.toNat)))/\w'=w):=by
 obtain ⟨n,rfl⟩:=Int.eq_ofNat_of_zero_le h0;have e:n=0\/n=1\/n=2\/n=3\/n=4\/n=5\/n=6\/n=7\/n=8\/n=9\/n=10\/n=11\/n=12\/n=13\/n=14\/n=15\/n=16\/n=17\/n=18\/n=19\/n=20\/n=21\/n=22\/n=23\/n=24\/n=25\/n=26\/n=27\/n=28\/n=29\/n=30\/n=31\/n=32\/n=33\/n=34\/n=35\/n=36\/n=37\/n=38\/n=39\/n=40\/n=41:=by omega
 clear h0 h1;rcases e with rfl|rfl|rfl|rfl|rfl|rfl|rfl|rfl|rfl|rfl|rfl|rfl|rfl|rfl|rfl|rfl|rfl|rfl|rfl|rfl|rfl|rfl|rfl|rfl|rfl|rfl|rfl|rfl|rfl|rfl|rfl|rfl|rfl|rfl|rfl|rfl|rfl|rfl|rfl|rfl|rfl|rfl
 all_goals
  go_enter Tryz.func318,Tryz.ntmps318;go_wp2_with fail;go_ret;exact ⟨rfl,rfl⟩
theorem Gm (w:World) (a b:Nat) (ha:a<=MS) (hb:b<=MS):Calls Tryz.prog 233 #[ι a,ι b] w fun e w'=>e= .returned (ι (bC a b))/\w'=w:=by
 unfold MS at ha hb;have w1:IntKind.i64.wrap (4611686018427387904 - (b:Int))=4611686018427387904 - (b:Int):=IntWalk.i64_in _ (by constructor<;>omega);by_cases h:4611686018427387904 - b < a
 ·have e:bC a b=4611686018427387904:=by unfold bC MS;rw [if_pos h]
  have h2:((4611686018427387904:Int) - b < a)=True:=by simp;omega
  rw [e];clear e h;go_enter Tryz.func233,Tryz.ntmps233;go_wp2_with fail;go_ret;exact ⟨rfl,rfl⟩
 ·have e:bC a b=a+b:=by unfold bC MS;rw [if_neg h]
  have h2:((4611686018427387904:Int) - b < a)=False:=by simp;omega
  have w2:IntKind.i64.wrap ((a:Int)+(b:Int))=((a+b:Nat):Int):=by rw [IntWalk.i64_in _ (by constructor<;>omega)];omega
  rw [e];clear e h;go_enter Tryz.func233,Tryz.ntmps233;go_wp2_with fail;go_ret;exact ⟨by simp,rfl⟩
theorem Ff {a b:Nat} (ha:0 < a):MS / a < b↔¬a*b<=MS:=by rw [Nat.div_lt_iff_lt_mul ha,Nat.not_le,Nat.mul_comm]
theorem ac2 {p:Prop} (h:p:=by
 go_enter Tryz.func234,Tryz.ntmps234;go_wp2_with fail;go_ret;exact ⟨by simp,rfl⟩):p:=h
theorem ZM (w:World) (a b:Nat) (ha:a<=MS) (hb:b<=MS):Calls Tryz.prog 234 #[ι a,ι b] w fun e w'=>e= .returned (ι (dV a b))/\w'=w:=by
 by_cases h0:a=0
 ·subst h0;have e:dV 0 b=0:=by unfold dV;rw [Nat.zero_mul];rfl
  have w2:IntKind.i64.wrap ((0:Int)*(b:Int))=0:=by rw [Int.zero_mul];rfl
  unfold MS at hb;rw [e];clear e ha;exact ac2
 ·have zI:0 < a:=by omega
  have ht:=Ff (a:=a) (b:=b) zI;have hp2:(0:Int) < a:=by omega
  have hd:(4611686018427387904:Int) / (a:Int)=((4611686018427387904 / a:Nat):Int):=by simp
  have hle:4611686018427387904 / a<=4611686018427387904:=Nat.div_le_self _ _;unfold MS at ha hb ht;generalize 4611686018427387904 / a=q at*;by_cases h:a*b<=4611686018427387904
  ·have e:dV a b=a*b:=by unfold dV MS;rw [if_pos h]
   have h2:¬q < b:=fun h'=>ht.1 h' h;have w2:IntKind.i64.wrap ((a:Int)*(b:Int))=((a*b:Nat):Int):=by rw [<-Int.natCast_mul,IntWalk.i64_in _ (by constructor<;>omega)]
   rw [e];have h3:(q < b)=False:=by simpa using h2
   generalize a*b=x at*;clear e ht h h2;exact ac2
  ·have e:dV a b=4611686018427387904:=by unfold dV MS;rw [if_neg h]
   have h2:q < b:=ht.2 h;have h3:(q < b)=True:=by simpa using h2
   rw [e];clear e ht h h2;exact ac2
end Go.Proofs.YtblkblclmbhjiaaGreat.Rv
namespace Go.Proofs.YtblkblclmbhjiaaGreat.Rv
open Go.RowKit ak.Vm
open ak hiding aL an aj
open Ma (dx bQ aU vb aA aQ)
open Vf (Kp fP pV qu bw aV)
def uj (K:Kp) (p:aO) (iz j_ jA:Value):Array Value:=#[K.g,K.v,K.t,K.o,ι p.aJ,K.c,iz,j_,jA]
section
variable {w:World} {K:Kp} {p:aO} {iz j_ jA:Value} {lb:Nat} {x:Ins} {ha:Nat}
theorem ad5 {p:Prop} (h:p:=by
 rcases hh with rfl|rfl|rfl|rfl
 all_goals
  go_enter Tryz.func291,Tryz.ntmps291;go_wp2_with fail;go_ret2;exact ⟨by simp [dZ],HB.o _ _⟩):p:=h
theorem ad4 {p:Prop} (h:p:=by
 go_enter Tryz.func291,Tryz.ntmps291;go_wp2_with fail;go_quiet (fail);go_wp2_with fail;go_quiet (fail);go_wp2_with fail;go_ret2;exact ⟨by rw [H16.o];rfl,by first|exact HC.o _ _ _|exact (HC.o _ _ _).trans (au _ _ _)⟩):p:=h
theorem UF (h:fP w K p) (hl:ay w lb 260 (uj K p iz j_ jA)) (hq:x.op=35\/x.op=34->qu p x.a) (h3:ha<=3):
 Calls Tryz.prog 291 #[ρ lb,aQ x,ι ha] w (fun e w'=>e= .returned (.tuple #[.bool (dZ p x ha).1,ι (dZ p x ha).2])/\Below w.heap.size w w'):=by
 obtain ⟨op,xa,xb,xc,xd⟩:=x;unfold aQ aA;dsimp only at hq ⊢;have hB:∀cs T,Below w.heap.size w (w.alloc (.cells cs T)):=fun cs T=>(Below.refl _ _).alloc (Nat.le_refl _) _;have hC:∀cs T k,Below w.heap.size w ((w.alloc (.cells cs T)).drewN k):=fun cs T k=>(hB cs T).trans (au _ _ k);have ll:=hl.lt;have v0:=hl.c1;have hh:ha=0\/ha=1\/ha=2\/ha=3:=by omega
 have HB:=ae hB;have HC:=ae hC;clear hB hC h3 hl;by_cases o1:op=36
 ·subst o1;clear hq v0 ll;exact ad5
 by_cases o2:op=37
 ·subst o2;clear hq v0 ll;exact ad5
 by_cases o3:op=35\/op=34
 ·obtain ⟨m,gb,off,cap,rfl,hm,hk,rl,gc⟩:=bw h (hq o3);rw [hk] at v0;clear hk h hq;generalize hg:bj p m=g at*;have HG:=ae hg;clear hg;rcases o3 with rfl|rfl
  ·have e35:((35:Int)==34)=false:=rfl;cases g
   all_goals
    rcases hh with rfl|rfl|rfl|rfl
    all_goals
     go_enter Tryz.func291,Tryz.ntmps291;go_wp2_with fail;go_quiet (fail);go_wp2_with fail;go_ret2;exact ⟨by simp [dZ,HG.o],HC.o _ _ _⟩
  ·have e35:((34:Int)==35)=false:=rfl;cases g
   all_goals
    rcases hh with rfl|rfl|rfl|rfl
    all_goals
     go_enter Tryz.func291,Tryz.ntmps291;go_wp2_with fail;go_quiet (fail);go_wp2_with fail;go_quiet (fail);go_wp2_with fail;go_ret2;exact ⟨by simp [dZ,HG.o],by first|exact HC.o _ _ _|exact (HC.o _ _ _).trans (au _ _ _)⟩
 clear h hq v0 ll;have e36:(op==36)=false:=by simpa using o1
 have e37:(op==37)=false:=by simpa using o2
 have e35:(op==35)=false:=by simp;exact fun h=>o3 (.inl h)
 have e34:(op==34)=false:=by simp;exact fun h=>o3 (.inr h)
 have Wo:∀n:Int,dZ p ⟨op,xa,xb,xc,xd⟩ n=if (1<=op/\op<=21)\/op=28\/op=29\/op=30 then (true,n) else (decide (n=0),0):=by intro n;unfold dZ;dsimp only;rw [if_neg o1,if_neg o2,if_neg (fun h=>o3 (.inl h)),if_neg (fun h=>o3 (.inr h))]
 clear o1 o2 o3;by_cases r:(1<=op/\op<=21)\/op=28\/op=29\/op=30
 ·simp only [if_pos r] at Wo;have H16:=ae Wo;clear Wo hh;rcases r with ⟨r1,r2⟩|rfl|rfl|rfl
  all_goals
   exact ad4
 ·simp only [if_neg r] at Wo;have H16:=ae Wo;simp only [not_or] at r;obtain ⟨r1,r2,r3,r4⟩:=r;have r5:op < 1\/21 < op:=by omega
  have e28:(op==28)=false:=by simpa using r2
  have e29:(op==29)=false:=by simpa using r3
  have e30:(op==30)=false:=by simpa using r4
  clear Wo r1 r2 r3 r4;rcases hh with rfl|rfl|rfl|rfl
  all_goals
   rcases r5 with r5|r5
   all_goals
    exact ad4
end
section
variable {w:World} {K:Kp} {p:aO} {iz j_ jA:Value} {vb:Nat} {x:Ins}
theorem ac4 {p:Prop} (h:p:=by
 go_enter Tryz.func293,Tryz.ntmps293;go_wp2_with fail;go_ret;exact ⟨rfl,hB _ _⟩):p:=h
theorem ac3 {p:Prop} (h:p:=by
 obtain ⟨m,gb,off,cap,rfl,hm,hk,rl,gc⟩:=bw h hq;have v0:=hv.c1;rw [hk] at v0;rw [hf];clear hf hk h hv hq kO;generalize bj p m=g1 at*;cases g1
 all_goals
  exact ac4):p:=h
theorem Nq (h:fP w K p) (hv:ay w vb 260 (uj K p iz j_ jA)) (hq:x.op=32\/x.op=40\/x.op=41\/x.op=38\/x.op=39->qu p x.a) (kO:x.op=38\/x.op=39->qu p x.c):Calls Tryz.prog 293 #[ρ vb,aQ x] w (fun e w'=>e= .returned (.bool (cJ p x))/\Below w.heap.size w w'):=by
 obtain ⟨op,xa,xb,xc,xd⟩:=x;unfold aQ aA;dsimp only;have hB:∀cs T,Below w.heap.size w (w.alloc (.cells cs T)):=fun cs T=>(Below.refl _ _).alloc (Nat.le_refl _) _;have hC:∀cs T k,Below w.heap.size w ((w.alloc (.cells cs T)).drewN k):=fun cs T k=>(hB cs T).trans (au _ _ k);have lv:=hv.lt;dsimp only at hq kO;by_cases o1:op=32
 ·subst o1;have hf:∀n:Int,cJ p ⟨32,n,xb,xc,xd⟩= !bj p n:=fun n=>by simp [cJ]
  replace hq:=hq (by simp);exact ac3
 by_cases o2:op=40
 ·subst o2;have hf:∀n:Int,cJ p ⟨40,n,xb,xc,xd⟩= !bj p n:=fun n=>by simp [cJ]
  replace hq:=hq (by simp);exact ac3
 by_cases o3:op=41
 ·subst o3;have hf:∀n:Int,cJ p ⟨41,n,xb,xc,xd⟩=bj p n:=fun n=>by simp [cJ]
  replace hq:=hq (by simp);exact ac3
 by_cases o4:op=38
 ·subst o4;have hf:∀n n2:Int,cJ p ⟨38,n,xb,n2,xd⟩=(bj p n==bj p n2):=fun n n2=>by simp [cJ]
  replace hq:=hq (by simp);replace kO:=kO (by simp);obtain ⟨m,gb,off,cap,rfl,hm,hk,rl,gc⟩:=bw h hq;obtain ⟨m2,gb2,EJ,z_,rfl,qV,jd,TF,gc2⟩:=bw h kO;have v0:=hv.c1;rw [hk] at v0 jd;simp only [Value.slice.injEq,Option.some.injEq,Addr.mk.injEq] at jd;obtain ⟨⟨rfl,rfl,-⟩,-,rfl⟩:=jd;rw [hf];clear hf hk h hv hq kO;generalize bj p m=g1 at*;generalize bj p m2=g2 at*;cases g1
  all_goals
   cases g2
   all_goals
    go_enter Tryz.func293,Tryz.ntmps293;go_wp2_with fail;go_quiet (fail);go_wp2_with fail;go_ret;exact ⟨rfl,hC _ _ _⟩
 by_cases o5:op=39
 ·subst o5;have hf:∀n n2:Int,cJ p ⟨39,n,xb,n2,xd⟩=(!bj p n&&bj p n2):=fun n n2=>by simp [cJ]
  replace hq:=hq (by simp);replace kO:=kO (by simp);obtain ⟨m,gb,off,cap,rfl,hm,hk,rl,gc⟩:=bw h hq;obtain ⟨m2,gb2,EJ,z_,rfl,qV,jd,TF,gc2⟩:=bw h kO;have v0:=hv.c1;rw [hk] at v0 jd;simp only [Value.slice.injEq,Option.some.injEq,Addr.mk.injEq] at jd;obtain ⟨⟨rfl,rfl,-⟩,-,rfl⟩:=jd;rw [hf];clear hf hk h hv hq kO;generalize bj p m=g1 at*;generalize bj p m2=g2 at*;cases g1
  all_goals
   cases g2
   all_goals
    exact ac4
 ·have hf:cJ p ⟨op,xa,xb,xc,xd⟩=true:=by simp [cJ,o1,o2,o3,o4,o5]
  obtain ⟨ga,gcp,hk,-,-⟩:=h.g.val;have v0:=hv.c1;rw [hk] at v0;rw [hf];clear hf hk h hv hq kO;exact ac4
theorem aes {p:Prop} (h:p:=by
 go_enter Tryz.func319,Tryz.ntmps319;go_wp2_with fail;go_ret;exact ⟨rfl,rfl⟩):p:=h
theorem Ev (h:fP w K p) (hv:ay w vb 260 (uj K p iz j_ jA)) (n:Int):Calls Tryz.prog 319 #[ρ vb,ι n] w (fun e w'=>e= .returned (.bool (gE p n))/\w'=w):=by
 have v5:w.cell? (π vb 5)=some K.c:=hv.cell 5;have lv:=hv.lt;obtain ⟨ca,cc,kc,q1,q2⟩:=aV.val h.cd;rw [kc] at v5;by_cases h0:0<=n
 ·obtain ⟨m,rfl⟩:=Int.eq_ofNat_of_zero_le h0;by_cases h1:m < p.code.length
  ·obtain ⟨b,off,cap,e,q3,q4,c0,-⟩:=h.ins h1;rw [kc] at e;simp only [Value.slice.injEq] at e;obtain ⟨rfl,-,rfl⟩:=e;have ht:gE p m=decide ((ai p m).op=25):=by unfold gE;simp [h1]
   rw [ht];have lb:=aS c0;generalize (ai p m).op=op at*;clear ht kc hv h;by_cases o:op=25
   ·subst o;exact aes
   ·have hd:decide (op=25)=false:=by simpa using o
    rw [hd];go_enter Tryz.func319,Tryz.ntmps319;go_wp2_with fail;go_ret;exact ⟨by simp [o],rfl⟩
  ·have ht:gE p m=false:=by unfold gE;simp [h1]
   rw [ht];clear ht kc hv h;exact aes
 ·have ht:gE p n=false:=by unfold gE;simp [h0]
  rw [ht];clear ht kc hv h;exact aes
end
section
variable {w:World} {K:Kp} {p:aO}
theorem aeh {p:Prop} (h:p:=by
 have HF:=ae (show aY p 7 n=false by unfold aY aF dM dN;simp;omega);exact abE):p:=h
theorem aeg {p:Prop} (h:p:=by
 have HF:=ae (show aY p 5 n=false by unfold aY aF dM dN;simp;omega);exact abE):p:=h
theorem aef {p:Prop} (h:p:=by
 have HF:=ae (show aY p 8 n=false by unfold aY aF dM dN;simp;omega);exact abE):p:=h
theorem aee {p:Prop} (h:p:=by
 have HF:=ae (show aY p 3 n=false by unfold aY aF dM dN;simp;omega);exact abE):p:=h
theorem aed {p:Prop} (h:p:=by
 have HF:=ae (show aY p 2 n=false by unfold aY aF dM dN;simp;omega);exact abE):p:=h
theorem aec {p:Prop} (h:p:=by
 have HF:=ae (show aY p 1 n=false by unfold aY aF dM dN;simp;omega);exact abE):p:=h
theorem abE {p:Prop} (h:p:=by
 go_enter Tryz.func290,Tryz.ntmps290;go_wp2_with fail;go_ret;exact ⟨by rw [HF.o];rfl,HB.o _ _⟩):p:=h
theorem E0 (h:fP w K p) (kind:Nat) (n:Int) (hk:kind<=8):Calls Tryz.prog 290 #[pV K p,ι kind,ι n] w (fun e w'=>e= .returned (.bool (aY p kind n))/\Below w.heap.size w w'):=by
 obtain ⟨⟨ga,gc,g1,g2,g3⟩,⟨va,vc,v1,v2,v3⟩,⟨ta,tc,t1,t2,t3⟩,⟨oa,oc,o1,o2,o3⟩,⟨ca,cc,c1,c2,c3⟩⟩:=h.sl;unfold pV;rw [g1,v1,t1,o1,c1];have hB:∀cs T,Below w.heap.size w (w.alloc (.cells cs T)):=fun cs T=>(Below.refl _ _).alloc (Nat.le_refl _) _;have HB:=ae hB;clear g1 g2 g3 v1 v2 v3 t1 t2 t3 o1 o2 o3 c1 c2 c3 h hB;have e:kind=0\/(kind=1\/kind=2\/kind=3\/kind=8)\/(kind=4\/kind=6)\/kind=5\/kind=7:=by omega
 clear hk;rcases e with rfl|(rfl|rfl|rfl|rfl)|(rfl|rfl)|rfl|rfl
 ·by_cases h0:n=0
  ·subst h0;have HF:=ae (show aY p 0 0=true by unfold aY aF dM dN;simp);exact abE
  ·have e0:(n==0)=false:=by simpa using h0
   have HF:=ae (show aY p 0 n=false by unfold aY aF dM dN;simp;omega);clear h0;exact abE
 ·by_cases h0:0<=n
  ·by_cases h1:n < p.ap.length
   ·have HF:=ae (show aY p 1 n=true by unfold aY aF dM dN;simp;omega);exact abE
   ·exact aec
  ·exact aec
 ·by_cases h0:0<=n
  ·by_cases h1:n < p.vars.length
   ·have HF:=ae (show aY p 2 n=true by unfold aY aF dM dN;simp;omega);exact abE
   ·exact aed
  ·exact aed
 ·by_cases h0:0<=n
  ·by_cases h1:n < p.aW.length
   ·have HF:=ae (show aY p 3 n=true by unfold aY aF dM dN;simp;omega);exact abE
   ·exact aee
  ·exact aee
 ·by_cases h0:0<=n
  ·by_cases h1:n < p.code.length
   ·have HF:=ae (show aY p 8 n=true by unfold aY aF dM dN;simp;omega);exact abE
   ·exact aef
  ·exact aef
 ·by_cases h0:n=0
  ·subst h0;have HF:=ae (show aY p 4 0=true by unfold aY aF dM dN;simp);exact abE
  ·have e0:(n==0)=false:=by simpa using h0
   by_cases h1:n=1
   ·subst h1;have HF:=ae (show aY p 4 1=true by unfold aY aF dM dN;simp);exact abE
   ·have e1:(n==1)=false:=by simpa using h1
    have HF:=ae (show aY p 4 n=false by unfold aY aF dM dN;simp;omega);clear h0 h1;exact abE
 ·by_cases h0:n=0
  ·subst h0;have HF:=ae (show aY p 6 0=true by unfold aY aF dM dN;simp);exact abE
  ·have e0:(n==0)=false:=by simpa using h0
   by_cases h1:n=1
   ·subst h1;have HF:=ae (show aY p 6 1=true by unfold aY aF dM dN;simp);exact abE
   ·have e1:(n==1)=false:=by simpa using h1
    have HF:=ae (show aY p 6 n=false by unfold aY aF dM dN;simp;omega);clear h0 h1;exact abE
 ·by_cases h0: -1073741824<=n
  ·by_cases h1:n<=1073741824
   ·have HF:=ae (show aY p 5 n=true by unfold aY aF dM dN;simp;omega);exact abE
   ·exact aeg
  ·exact aeg
 ·by_cases h0:0<=n
  ·by_cases h1:n<=4194304
   ·have HF:=ae (show aY p 7 n=true by unfold aY aF dM dN;simp;omega);exact abE
   ·exact aeh
  ·exact aeh
def FrV (v:Value) (i:Nat) (a:Act):Prop:=∃J:Nat->Value,a={tmps:=#[v,J 1,J 2,ι i,J 4,J 5,J 6,J 7,J 8,J 9,J 10,J 11,J 12,J 13,J 14,J 15,J 16,J 17,J 18,J 19,J 20,J 21,J 22,J 23,J 24,J 25,J 26,J 27,J 28,J 29,J 30,J 31,J 32,J 33,J 34,J 35,J 36,J 37,J 38,J 39,J 40,J 41,J 42,J 43,J 44,J 45,J 46,J 47,J 48,J 49],defers:=[]}
def LV (w:World) (p:aO) (v:Value) (m:Nat) (a:Act) (W:World):Prop:=∃i,i<=p.vars.length/\m+i=p.vars.length+1/\FrV v i a/\Hid (∃k,W=w.drewN k)/\Hid (∀j,j < i->me (p.vars.getD j ⟨0,0,0⟩)=true)
theorem acs {p:Prop} (h:p:=by
 go_wp2_with fail;go_quiet (fail);go_wp2_with fail;go_ret;exact ⟨by rw [HF.o];rfl,⟨_,by rw [World.drewN_drewN]⟩⟩):p:=h
theorem UJ (h:fP w K p) (hl:p.vars.length<=16):Calls Tryz.prog 286 #[K.v] w (fun e w'=>e= .returned (.bool (p.vars.all me))/\∃k,w'=w.drewN k):=by
 obtain ⟨va,vc,v1,-,-⟩:=aV.val h.v;have H:=ae h;have HV:=ae v1;rw [v1];clear h v1;go_enter Tryz.func286,Tryz.ntmps286;go_wp2_with fail;refine Mk.aP (LV w p (.slice va p.vars.length vc)) (p.vars.length+1) ⟨0,Nat.zero_le _,by omega,pC rfl,ae ⟨0,rfl⟩,ae (fun j hj=>absurd hj (by omega))⟩ (fun a W hh=>by obtain ⟨i,h1,h2,-⟩:=hh;omega) ?_;rintro m a W ⟨i,hi,hm,⟨J,rfl⟩,HW,HA⟩;obtain ⟨k0,rfl⟩:=HW.o;have w2:IntKind.i64.wrap ((i:Int)+1)=((i+1:Nat):Int):=by rw [IntWalk.i64_in _ (by constructor<;>omega)];omega
 by_cases a8:i < p.vars.length
 ·obtain ⟨b,off,cap,hv,q1,q2,sr,c0,c1,c2⟩:=H.o.vr a8;rw [HV.o] at hv;simp only [Value.slice.injEq] at hv;obtain ⟨rfl,-,rfl⟩:=hv;have dh:=ae a8;have bad:∀r,me (p.vars.getD i ⟨0,0,0⟩)=r->(r=false->p.vars.all me=false):=fun r e hr=>by subst hr;rw [Bool.eq_false_iff];intro fF;rw [List.all_eq_true] at fF;have:=fF (p.vars.getD i ⟨0,0,0⟩) (by rw [List.getD_eq_getElem?_getD,List.getElem?_eq_getElem a8];exact List.getElem_mem a8);rw [this] at e;cases e
  have Ay:=ae bad;generalize hx:p.vars.getD i ⟨0,0,0⟩=x at*;have HX:=ae hx;have JC:me x=(decide (x.lo<=x.init)&&decide (x.init<=x.hi)&&decide (-1073741824<=x.lo)&&decide (x.hi<=1073741824)):=rfl;have xz:=ae JC;clear bad hx JC;by_cases k1:x.lo<=x.init
  case neg=>have HF:=ae (Ay.o false (by rw [xz.o];simp [k1]) rfl);exact acs
  by_cases k2:x.init<=x.hi
  case neg=>have HF:=ae (Ay.o false (by rw [xz.o];simp [k2]) rfl);exact acs
  by_cases k3: -1073741824<=x.lo
  case neg=>have HF:=ae (Ay.o false (by rw [xz.o];simp [k3]) rfl);exact acs
  by_cases k4:x.hi<=1073741824
  case neg=>have HF:=ae (Ay.o false (by rw [xz.o];simp [k4]) rfl);exact acs
  go_wp2_with fail;go_quiet (fail);go_wp2_with fail;refine ⟨i+1,dh.o,by omega,pC rfl,ae ⟨_,by first|rfl|rw [World.drewN_drewN]⟩,ae fun j hj=>?_⟩;by_cases e:j=i
  ·subst e;rw [HX.o,xz.o];simp [k1,k2,k3,k4]
  ·exact HA.o j (by omega)
 ·obtain rfl:i=p.vars.length:=by omega
  have HF:=ae (show p.vars.all me=true from by
   rw [List.all_eq_true];intro v hv;obtain ⟨j,hj,e⟩:=List.getElem_of_mem hv;have:=HA.o j hj;rw [List.getD_eq_getElem?_getD,List.getElem?_eq_getElem hj] at this;simpa [e] using this)
  clear a8;go_wp2_with fail;go_ret;exact ⟨by rw [HF.o];rfl,⟨_,rfl⟩⟩
end
end Go.Proofs.YtblkblclmbhjiaaGreat.Rv
