/- Of the proof that VmKeeps holds: a key keeps its node, what traps leaves no trace. No condition. -/
import Derived.Test.YtblkblclmbhjiaaGreatL17
set_option linter.unusedVariables false
set_option linter.unusedSimpArgs false
set_option maxHeartbeats 40000000
set_option maxRecDepth 100000
section
namespace ak.Vm
theorem gZ {a b:Nat} (hb:b<=MS):bC a b<=MS:=by unfold bC;split<;>omega
theorem rQ (a b:Nat):dV a b<=MS:=by unfold dV;split<;>omega
theorem IU {p:aO} {g:Nat->Nat} (hg:∀i,g i<=MS) (pc:Nat):km p g pc<=MS:=by
 unfold km;dsimp only;split
 ·decide
 split
 ·exact gZ (hg _)
 split
 ·exact gZ (by have:=hg (pc+1);have:=hg (ai p pc).a.toNat;omega)
 split
 ·exact gZ (gZ (hg _))
 ·exact gZ (hg _)
theorem rR (p:aO):∀k i,dw p k i<=MS
 |0,_=>Nat.zero_le _
 |k+1,i=>by
  unfold dw;rw [cG];split
  ·exact IU (rR p k) _
  ·exact rR p k i
theorem ww {p:aO} {j:Nat} (h:j < p.code.length):dw p (p.code.length - j)=aL (dw p (p.code.length - (j+1))) j (km p (dw p (p.code.length - (j+1))) j):=by rw [show p.code.length - j=(p.code.length - (j+1))+1 by omega];show aL _ (p.code.length - 1 - (p.code.length - (j+1))) _=_;rw [show p.code.length - 1 - (p.code.length - (j+1))=j by omega]
end ak.Vm
namespace Go.Proofs.YtblkblclmbhjiaaGreat.Vf
open Go.RowKit ak.Vm
open ak hiding aL an aj
open Ma (dx bQ aU vb aA aQ lG)
def FF (J:Nat->Value):Act:={tmps:=#[J 0,J 1,J 2,J 3,J 4,J 5,J 6,J 7,J 8,J 9,J 10,J 11,J 12,J 13,J 14,J 15,J 16,J 17,J 18,J 19,J 20,J 21,J 22,J 23,J 24,J 25,J 26,J 27,J 28,J 29,J 30,J 31,J 32,J 33,J 34,J 35,J 36,J 37,J 38,J 39,J 40,J 41,J 42,J 43,J 44,J 45,J 46,J 47,J 48,J 49,J 50,J 51,J 52,J 53,J 54,J 55,J 56,J 57,J 58,J 59,J 60,J 61,J 62,J 63,J 64,J 65,J 66,J 67,J 68,J 69,J 70,J 71,J 72,J 73,J 74,J 75,J 76,J 77,J 78,J 79,J 80,J 81,J 82,J 83,J 84,J 85,J 86,J 87,J 88,J 89,J 90,J 91,J 92,J 93,J 94,J 95,J 96,J 97],defers:=[]}
theorem FF.of (A:Array Value) (h:A=(FF fun k=>A.getD k undef).tmps):({tmps:=A,defers:=[]}:Act)=FF fun k=>A.getD k undef:=by rw [h];rfl
def gC (g:Nat->Nat) (i:Nat):Value:=ι (g i:Nat)
theorem YB {P:Program} {fn:Func} {R:Ending->World->Prop} {A:Array Value} {w:World} {t:Tmp} (h:fn.results=#[.tmp t]) (hR:R (.returned (A.getD t undef)) w):Exit.noGoto (bodyPost P fn R) .ret {tmps:=A,defers:=[]} w:=by rw [Exit.noGoto_ret];exact eP h hR
def FuS (w:World) (p:aO) (vb:Nat) (cv:Value) (fb fc:Nat) (a:Act) (W:World):Prop:=
 ∃(J:Nat->Value) (m:Nat),a=FF J/\J 0=ρ vb/\J 3=cv/\J 4= .slice (some (π fb 0)) p.code.length fc/\J 5=ι ((m:Int) - 1)/\m<=p.code.length/\Hid (w.heap.size<=fb/\Below w.heap.size w W/\Row W 3 1 (.slice (some (π fb 0)) p.code.length fc) p.code.length (gC (dw p (p.code.length - m))))
def rS (w:World) (p:aO) (e:Ending) (w':World):Prop:=∃fb fc,e= .returned (.slice (some (π fb 0)) p.code.length fc)/\w.heap.size<=fb/\Below w.heap.size w w'/\Row w' 3 1 (.slice (some (π fb 0)) p.code.length fc) p.code.length (gC (jP p))
section
variable {w:World} {K:Kp} {p:aO} {iz:Value} {vb:Nat}
theorem adQ {p:Prop} (h:p:=by
 go_wp2;go_step3;exact ⟨rfl,⟨fb,fc,_,j,FF.of _ rfl,rfl,rfl,(by rw [HN.o];rfl),rfl,(by rw [HN.o];omega),ae (by rw [HN.o];exact zD.o _ fg.o _ mP.o.symm)⟩,by simp [intOf]⟩):p:=h
theorem adP {p:Prop} (h:p:=by
 go_wp2_with fail;refine (xr.o _).mono ?_;rintro e W1 ⟨rfl,rfl⟩;go_wp2;go_step3;exact ⟨rfl,⟨fb,fc,_,j,FF.of _ rfl,rfl,rfl,(by rw [HN.o];rfl),rfl,(by rw [HN.o];omega),ae (by rw [HN.o];exact rT.o _ _ (_) (mP.o.symm))⟩,by simp [intOf]⟩):p:=h
theorem EW (h:fP w K p) (hv:ay w vb 230 (qR K p iz)) (hlen:p.code.length<=262144) (dK:Am p):
 Calls Tryz.prog 174 #[ρ vb] w (rS w p):=by
 have v5:w.cell? (π vb 5)=some K.c:=hv.cell 5;have lv:=hv.lt;obtain ⟨ca,cc,kc,RQ,Cl⟩:=aV.val h.cd;rw [kc] at v5;have H:=ae h;have xj:=ae kc;have iM:=ae dK;have iW:Hid (8*p.code.length<=281474976710656/\p.code.length<=maxLen):=ae ⟨by omega,by unfold maxLen;omega⟩;have EY:Hid (∀V (b:Nat),b<=MS->Calls Tryz.prog 249 #[ι 1,ι b] V fun e w'=>e= .returned (ι (bC 1 b))/\w'=V):=ae fun V b hb=>L6 V 1 b (by decide) hb;have HPM:=ae (fun V (a b:Nat) ha hb=>L6 V a b ha hb);have HTM:=ae (fun V (a b:Nat) ha hb=>PF V a b ha hb);clear h hv kc dK;generalize hn:p.code.length=n at*;have HN:=ae hn;clear hn;go_enter Tryz.func174,Tryz.ntmps174;go_wp2_with fail;refine lG 0 (fun a' wr=>∃fb fc,FuS w p vb (.slice ca n cc) fb fc a' wr) (fun a' _=>(intOf (a'.tmps.getD 5 undef)+1).toNat) rfl ?_ ?_
 ·rintro a' W ⟨fb,fc,J,m,rfl,j0,j3,j4,j5,hm,HF⟩;rw [HN.o] at j4 hm HF;unfold FF;rw [j0,j3,j4,j5];clear j0 j3 j4 j5;by_cases VC:m=0
  ·subst VC;have HE:=ae (show rS w p (.returned (.slice (some (π fb 0)) n fc)) W from ⟨fb,fc,by rw [HN.o],HF.o.1,HF.o.2.1,by rw [HN.o];have h:=HF.o.2.2;rw [Nat.sub_zero] at h;unfold jP;rw [HN.o];exact h⟩);go_wp2_with fail;refine YB rfl ?_;exact HE.o
  obtain ⟨j,rfl⟩:∃j,m=j+1:=⟨m - 1,by omega⟩;have w1:(((j+1:Nat):Int) - 1)=(j:Int):=by omega
  have w2:IntKind.i64.wrap ((j:Int) - 1)=(j:Int) - 1:=IntWalk.i64_in _ (by constructor<;>omega);rw [w1];clear w1 VC;have hj:j < n:=by omega
  obtain ⟨b,off,cap,e,-,-,c0,c1,c2,c3,c4⟩:=(H.o.aB (ax.ah HF.o.2.1)).ins (i:=j) (by rw [HN.o];exact hj);rw [xj.o,HN.o] at e;simp only [Value.slice.injEq] at e;obtain ⟨rfl,-,rfl⟩:=e;have kV:=ae (ww (p:=p) (j:=j) (by rw [HN.o];exact hj));rw [HN.o] at kV;have h_:∀i,i < n->W.cell? (π fb i)=some (ι (dw p (n - (j+1)) i:Nat)):=fun i hi=>HF.o.2.2.cell (o:=i) (by omega);have Mv:∀i,dw p (n - (j+1)) i<=MS:=rR p _;have RR:fb < W.heap.size:=(HF.o.2.2.slice).2.2.2;have tM:∀o,W.frozen? (π fb o)=false:=fun o=>HF.o.2.2.frozen o;have lb:=aS c0;have zD:=ae (fun (V:World) (hb:Below W.heap.size W V) (v:Nat) (hv:v=km p (dw p (n - (j+1))) j)=>show w.heap.size<=fb/\Below w.heap.size w (V.setCell (π fb j) (ι v))/\Row (V.setCell (π fb j) (ι v)) 3 1 (.slice (some (π fb 0)) n fc) n (gC (dw p (n - j))) from by
   refine ⟨HF.o.1,(HF.o.2.1.trans (hb.mono HF.o.2.1.size)).setCell HF.o.1 _,?_⟩;rw [kV.o];have hr:=(HF.o.2.2.aB (ax.ah (S:=[]) hb) (by simp)).set (o:=j) (by omega) (ι v);refine hr.congr fun o ho=>?_;unfold gC;rw [cG];by_cases e:o=j
   ·subst e;rw [if_pos rfl,if_pos rfl,hv]
   ·rw [if_neg e,if_neg e])
  have rT:=ae (fun (cs:Array Value) (T:TypeId) (v:Nat) (hv:v=km p (dw p (n - (j+1))) j)=>show w.heap.size<=fb/\Below w.heap.size w ((W.setCell (π fb j) (ι v)).alloc (.cells cs T))/\Row ((W.setCell (π fb j) (ι v)).alloc (.cells cs T)) 3 1 (.slice (some (π fb 0)) n fc) n (gC (dw p (n - j))) from by
   obtain ⟨h1,h2,h3⟩:=zD.o W (Below.refl _ _) v hv;exact ⟨h1,h2.alloc h2.size _,h3.alloc _⟩)
  have p_:=ae (fun (V:World) (hb:Below W.heap.size W V)=>HF.o.2.2.aB (ax.ah (S:=[]) hb) (by simp));have cj:=h_ j hj;have hx:=iM.o j (by rw [HN.o];exact hj);rw [HN.o] at hx;have HJ2:=ae (show ∀k,(ai p (j+1))=k->(ai p (j+1))=k from fun _ h=>h);have NR:km p (dw p (n - (j+1))) j=if (ai p j).op=0\/(ai p j).op=27 then 1 else if (ai p j).op=22 then bC 1 (dw p (n - (j+1)) (ai p j).a.toNat) else if (ai p j).op=23 then bC 1 (max (dw p (n - (j+1)) (j+1)) (dw p (n - (j+1)) (ai p j).a.toNat)) else if (ai p j).op=24 then bC (bC 1 (dV (ai p j).a.toNat (bC 1 (dw p (n - (j+1)) (j+2))))) (bC 1 (dw p (n - (j+1)) (ai p (j+1)).a.toNat)) else bC 1 (dw p (n - (j+1)) (j+1)):=rfl;have mP:=ae NR;clear NR;have JE:=ae HF.o.2.1;generalize dw p (n - (j+1))=g at*;have HG:=ae Mv;have ug:=ae h_;clear Mv h_;obtain ⟨Oe,IV,tL,Jl⟩:=hx;obtain ⟨op,cW⟩:∃z,(ai p j).op=z:=⟨_,rfl⟩;obtain ⟨xa,wT⟩:∃z,(ai p j).a=z:=⟨_,rfl⟩;obtain ⟨xb,jK⟩:∃z,(ai p j).b=z:=⟨_,rfl⟩;obtain ⟨xc,YC⟩:∃z,(ai p j).c=z:=⟨_,rfl⟩;obtain ⟨xd,Q3⟩:∃z,(ai p j).d=z:=⟨_,rfl⟩;rw [cW] at c0 Oe IV tL Jl mP;rw [wT] at c1 IV tL mP;rw [jK] at c2;rw [YC] at c3;rw [Q3] at c4;clear cW wT jK YC Q3;have dC:=ae (fun cs T=>(Below.refl W.heap.size W).alloc (Nat.le_refl _) (.cells cs T));by_cases o1:op=0\/op=27
  ·rw [if_pos o1] at mP;rcases o1 with rfl|rfl
   all_goals
    go_wp2;go_step3;exact ⟨rfl,⟨fb,fc,_,j,FF.of _ rfl,rfl,rfl,(by rw [HN.o];rfl),rfl,(by rw [HN.o];omega),ae (by rw [HN.o];exact rT.o _ _ (1) (mP.o.symm))⟩,by simp [intOf]⟩
  rw [if_neg o1] at mP;have o0:(op==0)=false:=by simp;exact fun h=>o1 (.inl h)
  have TX:(op==27)=false:=by simp;exact fun h=>o1 (.inr h)
  by_cases o2:op=22
  ·subst o2;rw [if_pos rfl] at mP;obtain ⟨a1,a2⟩:=IV (.inl rfl);obtain ⟨xm,rfl⟩:=Int.eq_ofNat_of_zero_le a1;have TY:xm < n:=by omega
   have VX:=ug.o xm TY;have xr:=ae (fun V=>EY.o V (g xm) (HG.o _));rw [Int.toNat_natCast] at mP;generalize g xm=gx at*;exact adP
  rw [if_neg o2] at mP;have o22:(op==22)=false:=by simpa using o2
  have PV:j+1 < n:=Jl (fun h=>o1 (.inl h)) (fun h=>o1 (.inr h)) o2;have w4:IntKind.i64.wrap ((j:Int)+1)=((j+1:Nat):Int):=by rw [IntWalk.i64_in _ (by constructor<;>omega)];omega
  have VY:=ug.o (j+1) PV;by_cases o3:op=23
  ·subst o3;rw [if_pos rfl] at mP;obtain ⟨a1,a2⟩:=IV (.inr rfl);obtain ⟨xm,rfl⟩:=Int.eq_ofNat_of_zero_le a1;have TY:xm < n:=by omega
   have VX:=ug.o xm TY;rw [Int.toNat_natCast] at mP;have GF:max ((g (j+1):Nat):Int) ((g xm:Nat):Int)=((max (g (j+1)) (g xm):Nat):Int):=by omega
   have xr:=ae (fun V=>EY.o V (max (g (j+1)) (g xm)) (by have:=HG.o (j+1);have:=HG.o xm;omega));generalize hmx:max (g (j+1)) (g xm)=mx at*;generalize g (j+1)=gx at*;generalize g xm=gy at*;have eN:=dC.o #[ι 23,ι xm,ι xb,ι xc,ι xd] 40;have kx:ay (W.alloc (.cells #[ι 23,ι xm,ι xb,ι xc,ι xd] 40)) W.heap.size 40 #[ι 23,ι xm,ι xb,ι xc,ι xd]:=ay.new _ _ _;go_wp2_with fail;obtain ⟨W1,Ak⟩:∃W1,W1=W.alloc (.cells #[ι 23,ι xm,ι xb,ι xc,ι xd] 40):=⟨_,rfl⟩;rw [<-Ak] at eN kx ⊢;have d1:W1.cell? (π W.heap.size 1)=some (ι xm):=kx.cell 1;have key:∀b o v,W.cell? (π b o)=some v->W1.cell? (π b o)=some v:=fun b o v h=>(World.cell?_of_block (eN.block _ (aS h))).trans h;replace cj:=key _ _ _ cj;replace VY:=key _ _ _ VY;replace VX:=key _ _ _ VX;have jg:=ae eN;clear Ak kx eN key c0 c1 c2 c3 c4 tM;generalize eO:W.heap.size=bx at*;clear eO;have El:0<=(j:Int)+1:=by omega
   have Dq:(j:Int)+1 < (n:Int):=by omega
   have BM:((j:Int)+1).toNat=j+1:=by omega
   refine wp_region_still_tail 15 (by kernel_rfl) (by kernel_rfl) ?_;simp only [List.take_succ_cons,List.take_zero,List.drop_succ_cons,List.drop_zero]
   iterate 13 still_step
   still_call (xr.o _)
   still_step
   refine wpStill_nil ?_;change wpList _ _ _ _ _ (W1.drewN 1);have dn:=jg.o.trans (au _ W1 1);have cj9:(W1.drewN 1).cell? (π fb j)=some (ι (g j:Nat)):=cj;have tM:∀o,(W1.drewN 1).frozen? (π fb o)=false:=fun o=>(p_.o _ dn).frozen o;have fg:=ae dn;clear dn cj VY VX El Dq BM;generalize W1.drewN 1=V0 at*;exact adQ
  rw [if_neg o3] at mP;have o23:(op==23)=false:=by simpa using o3
  by_cases o4:op=24
  ·subst o4;rw [if_pos rfl] at mP;obtain ⟨a1,a2,TZ,t1,t2⟩:=tL rfl;obtain ⟨xm,rfl⟩:=Int.eq_ofNat_of_zero_le a1;have xle:xm<=4194304:=by omega
   have T0:=ug.o (j+2) TZ;obtain ⟨b2,EJ,z_,e2,-,-,-,e1,-⟩:=(H.o.aB (ax.ah JE.o)).ins (i:=j+1) (by rw [HN.o];exact PV);rw [xj.o,HN.o] at e2;simp only [Value.slice.injEq,Option.some.injEq,Addr.mk.injEq] at e2;obtain ⟨⟨rfl,rfl,-⟩,-,-⟩:=e2;obtain ⟨tm,YD⟩:=Int.eq_ofNat_of_zero_le t1;have tlt:tm < n:=by omega
   rw [YD] at e1 mP;have T1:=ug.o tm tlt;rw [Int.toNat_natCast,Int.toNat_natCast] at mP;have xr:=ae (fun V=>EY.o V (g (j+2)) (HG.o _));have JA:=ae (fun V=>HTM.o V xm (bC 1 (g (j+2))) (by unfold MS;omega) (gZ (HG.o _)));have HP3:=ae (fun V=>EY.o V (dV xm (bC 1 (g (j+2)))) (rQ _ _));have VZ:=ae (fun V=>EY.o V (g tm) (HG.o _));have N5:=ae (fun V=>HPM.o V (bC 1 (dV xm (bC 1 (g (j+2))))) (bC 1 (g tm)) (gZ (rQ _ _)) (gZ (HG.o _)));clear YD t1 t2 a1 a2 Oe IV tL Jl VY;generalize bC (bC 1 (dV xm (bC 1 (g (j+2))))) (bC 1 (g tm))=r5 at*;generalize bC 1 (dV xm (bC 1 (g (j+2))))=r3 at*;generalize dV xm (bC 1 (g (j+2)))=r2 at*;generalize bC 1 (g (j+2))=r1 at*;generalize bC 1 (g tm)=r4 at*;generalize g (j+2)=gx at*;generalize g tm=gy at*;have eN:=dC.o #[ι 24,ι xm,ι xb,ι xc,ι xd] 40;have kx:ay (W.alloc (.cells #[ι 24,ι xm,ι xb,ι xc,ι xd] 40)) W.heap.size 40 #[ι 24,ι xm,ι xb,ι xc,ι xd]:=ay.new _ _ _;go_wp2_with fail;obtain ⟨W1,Ak⟩:∃W1,W1=W.alloc (.cells #[ι 24,ι xm,ι xb,ι xc,ι xd] 40):=⟨_,rfl⟩;rw [<-Ak] at eN kx ⊢;have d1:W1.cell? (π W.heap.size 1)=some (ι xm):=kx.cell 1;have key:∀b o v,W.cell? (π b o)=some v->W1.cell? (π b o)=some v:=fun b o v h=>(World.cell?_of_block (eN.block _ (aS h))).trans h;replace cj:=key _ _ _ cj;replace T0:=key _ _ _ T0;replace T1:=key _ _ _ T1;replace e1:=key _ _ _ e1;have jg:=ae eN;clear Ak kx eN key c0 c1 c2 c3 c4 tM;generalize eO:W.heap.size=bx at*;clear eO;have El:0<=(j:Int)+1:=by omega
   have Dq:(j:Int)+1 < (n:Int):=by omega
   have BM:((j:Int)+1).toNat=j+1:=by omega
   have xf:0<=(j:Int)+2:=by omega
   have hs5:(j:Int)+2 < (n:Int):=by omega
   have hs6:((j:Int)+2).toNat=j+2:=by omega
   have w6:IntKind.i64.wrap ((j:Int)+2)=(j:Int)+2:=IntWalk.i64_in _ (by constructor<;>omega);refine wp_region_still_tail 24 (by kernel_rfl) (by kernel_rfl) ?_;simp only [List.take_succ_cons,List.take_zero,List.drop_succ_cons,List.drop_zero]
   iterate 9 still_step
   still_call (xr.o _)
   still_call (JA.o _)
   still_call (HP3.o _)
   iterate 9 still_step
   still_call (VZ.o _)
   still_call (N5.o _)
   still_step
   refine wpStill_nil ?_;change wpList _ _ _ _ _ (W1.drewN 1);have dn:=jg.o.trans (au _ W1 1);have cj9:(W1.drewN 1).cell? (π fb j)=some (ι (g j:Nat)):=cj;have tM:∀o,(W1.drewN 1).frozen? (π fb o)=false:=fun o=>(p_.o _ dn).frozen o;have fg:=ae dn;clear dn cj T0 T1 e1 El Dq BM xf hs5 hs6;generalize W1.drewN 1=V0 at*;exact adQ
  rw [if_neg o4] at mP;have RT:(op==24)=false:=by simpa using o4
  have xr:=ae (fun V=>EY.o V (g (j+1)) (HG.o _));generalize bC 1 (g (j+1))=r1 at*;generalize g (j+1)=gx at*;clear o1 o2 o3 o4 Oe IV tL Jl;exact adP
 ·intro hp;go_wp2_with (refine kz rfl (.tmp 13) (.tmp 13) 24 rfl 3 Tryz.underlying24 b_ rfl .i64 .i64 _ _ n rfl rfl rfl rfl iW.o.1 iW.o.2 ?_;intro W0 T4 dQ);have tz:=ae T4;have gp:=ae dQ;have w3:IntKind.i64.wrap ((n:Int) - 1)=(n:Int) - 1:=IntWalk.i64_in _ (by constructor<;>omega);clear T4 dQ;go_wp2;go_step3;simp only [Exit.then]
  apply_assumption
  refine hp _ _ ⟨w.heap.size,n,_,n,FF.of _ rfl,rfl,rfl,by rw [HN.o];rfl,rfl,by rw [HN.o];exact Nat.le_refl _,ae ⟨Nat.le_refl _,gp.o,?_⟩⟩;rw [HN.o,Nat.sub_self];exact tz.o
end
end Go.Proofs.YtblkblclmbhjiaaGreat.Vf
end
namespace Go.Proofs.YtblkblclmbhjiaaGreat.Vf
open Go.RowKit ak.Vm
open ak hiding aL an aj
open Ma (dx bQ aU vb aA aQ)
def FR (J:Nat->Value):Act:={tmps:=#[J 0,J 1,J 2,J 3,J 4,J 5,J 6,J 7,J 8,J 9,J 10,J 11,J 12,J 13,J 14,J 15,J 16,J 17,J 18,J 19,J 20,J 21,J 22,J 23,J 24,J 25,J 26,J 27,J 28,J 29,J 30,J 31,J 32,J 33,J 34,J 35,J 36,J 37,J 38,J 39,J 40,J 41,J 42,J 43,J 44,J 45,J 46,J 47,J 48,J 49,J 50,J 51,J 52,J 53,J 54,J 55,J 56,J 57,J 58,J 59,J 60,J 61,J 62,J 63,J 64,J 65,J 66,J 67,J 68,J 69,J 70,J 71,J 72,J 73,J 74,J 75,J 76,J 77,J 78,J 79,J 80,J 81,J 82,J 83,J 84,J 85,J 86,J 87,J 88,J 89,J 90,J 91,J 92,J 93,J 94,J 95,J 96,J 97,J 98,J 99,J 100,J 101,J 102,J 103,J 104,J 105,J 106,J 107,J 108,J 109,J 110,J 111,J 112,J 113,J 114],defers:=[]}
theorem FR.of (A:Array Value) (h:A=(FR fun k=>A.getD k undef).tmps):({tmps:=A,defers:=[]}:Act)=FR fun k=>A.getD k undef:=by rw [h];rfl
noncomputable def rnL (k:Nat):Code:=((kQ (Tryz.f91.body.getD .skip))[k]?).getD .skip
def GG (w:World) (p:aO) (e:Ending) (w':World):Prop:=∃vv wB ms,e= .returned (.tuple #[vv,.agg #[wB,ι ms],.agg #[ι (aZ p).1,ι (aZ p).2]])/\(∃x y z,wB= .slice x y z)/\Below w.heap.size w w'/\(∀b,wB.ownBlock=some b->w.heap.size<=b)/\
 ((aZ p).1=0->ms=(bN p p.aJ:Nat)/\aV w' 1 wB p.on.length (fun i=> ι (bN p (p.on.getD i 0):Nat)))
section
variable {w:World} {K:Kp} {p:aO}
def RB (pb vb:Nat) (bl:List Int) (W4:World) (a:Act) (W:World):Prop:=∃(J:Nat->Value) (bv:Value),a=FR J/\J 1=ρ pb/\J 3=ρ (pb+1)/\J 4=ρ (pb+1+1)/\J 6=ρ vb/\J 7=bv/\
 Hid (Row W 3 1 bv bl.length (aU bl))/\Hid (mN W4.heap.size W.heap.size bv)/\Hid (Below W4.heap.size W4 W)
theorem Cs (l:List Int) (n:Int) {W:World} {v:Value} (h:Row W 3 1 v (l.length+1) (gU (l.length*1) (aU l) fun _=> ι n)):Row W 3 1 v (l++[n]).length (aU (l++[n])):=by
 rw [List.length_append];refine h.congr fun o ho=>?_;unfold gU aU;rw [Nat.mul_one];by_cases e:o < l.length
 ·rw [if_pos e,List.getD_eq_getElem?_getD,List.getD_eq_getElem?_getD,List.getElem?_append_left e]
 ·obtain rfl:o=l.length:=by omega
  rw [if_neg (by omega),List.getD_eq_getElem?_getD,List.getElem?_append_right (Nat.le_refl _)];simp
theorem IW:(Tryz.prog.info? 233).map (fun i=>(i.zero,i.size,i.bytes))=some (some (cT false TG ν),13,128):=by kernel_rfl
theorem GH {R:Ending->World->Prop} {A:Array Value} {W:World} {cb fb:Nat} {x y u v vv:Value} (h2:A.getD 2 undef=vv) (h3:A.getD 3 undef=ρ cb) (h4:A.getD 4 undef=ρ fb) (kc:ay W cb 97 #[x,y]) (kf:ay W fb 99 #[u,v])
 (hR:R (.returned (.tuple #[vv,.agg #[x,y],.agg #[u,v]])) W):Exit.noGoto (bodyPost Tryz.prog Tryz.f91 R) .ret {tmps:=A,defers:=[]} W:=by
 obtain ⟨c0,c1⟩:=kc.c2;obtain ⟨f0,f1⟩:=kf.c2;rw [Exit.noGoto_ret];rw [Array.getD_eq_getD_getElem?] at h2 h3 h4;refine bodyPost_ret (v:= .tuple #[vv,.agg #[x,y],.agg #[u,v]]) ?_ rfl hR;simp [results,Tryz.results91,go_sem,h2,h3,h4,c0,c1,f0,f1]
theorem An {A:Array Value} {W:World} {pb:Nat} (hpb:w.heap.size=pb) (h2:A.getD 2 undef= .pointer none) (h3:A.getD 3 undef=ρ (pb+1)) (h4:A.getD 4 undef=ρ (pb+1+1)) (kc:ay W (pb+1) 97 #[ν,ι 0]) (kf:ay W (pb+1+1) 99 #[ι 0,ι 0])
 (hb:Below pb w W) {e at_:Int} (hv:aZ p=(e,at_)) (bz:e≠0):Exit.noGoto (bodyPost Tryz.prog Tryz.f91 (GG w p)) .ret {tmps:=A,defers:=[]} ((((W.setCell (π (pb+1) 0) ν).setCell (π (pb+1) 1) (ι 0)).setCell (π (pb+1+1) 0) (ι e)).setCell (π (pb+1+1) 1) (ι at_)):=by
 subst hpb;have n1:w.heap.size+1≠w.heap.size+1+1:=by omega
 refine GH h2 h3 h4 ((((kc.set 0 ν).set 1 (ι 0)).other n1 0 (ι e)).other n1 1 (ι at_)) ((((kf.other n1.symm 0 ν).other n1.symm 1 (ι 0)).set 0 (ι e)).set 1 (ι at_)) ?_;refine ⟨.pointer none,ν,0,by rw [hv],⟨_,_,_,rfl⟩,(((hb.setCell (p:=(π (w.heap.size+1) 0)) (by simp) _).setCell (p:=(π (w.heap.size+1) 1)) (by simp) _).setCell (p:=(π (w.heap.size+1+1) 0)) (by simp;omega) _).setCell (p:=(π (w.heap.size+1+1) 1)) (by simp;omega) _,(fun b hb=>by cases hb),fun h=>?_⟩;rw [hv] at h;exact absurd h bz
def xu (bl:List Int) (i:Nat):Map:=fun pc=>if (bl.take i).contains (pc:Int) then some ⟨[],[],0⟩ else none
theorem gw (bl:List Int) {i:Nat} (h:i < bl.length):bl.take (i+1)=bl.take i++[bl.getD i 0]:=by rw [List.take_succ_eq_append_getElem h,List.getD_eq_getElem?_getD,List.getElem?_eq_getElem h];rfl
theorem PW {bl:List Int} {i:Nat} (h:i < bl.length) (hn:bl.getD i 0 < 0):xu bl (i+1)=xu bl i:=by
 funext pc;unfold xu;rw [gw bl h];generalize bl.getD i 0=z at*;have:((bl.take i++[z]).contains (pc:Int))=(bl.take i).contains (pc:Int):=by rw [Bool.eq_iff_iff];simp;omega
 rw [this]
theorem Mw {bl:List Int} {i m:Nat} (h:i < bl.length) (hn:bl.getD i 0=m):xu bl (i+1)=aL (xu bl i) m (some ⟨[],[],0⟩):=by
 funext pc;rw [cG];unfold xu;rw [gw bl h,hn];by_cases e:pc=m
 ·subst e;rw [if_pos rfl,if_pos (by simp)]
 ·rw [if_neg e];have:((bl.take i++[(m:Int)]).contains (pc:Int))=(bl.take i).contains (pc:Int):=by rw [Bool.eq_iff_iff];simp;omega
  rw [this]
theorem fp {β:Type} (f:Nat->β) (i:Nat):aL f i (f i)=f:=by
 funext j;rw [cG];split
 ·next e=>rw [e]
 ·rfl
def RN1 (W4:World) (p:aO) (pb vb A:Nat) (bv:Value) (bl:List Int) (m:Nat) (a:Act) (W:World):Prop:=
 ∃(J:Nat->Value) (i:Nat),a=FR J/\J 1=ρ pb/\J 3=ρ (pb+1)/\J 4=ρ (pb+1+1)/\J 6=ρ vb/\J 7=bv/\J 37=bv/\J 38=ι bl.length/\J 39=ι i/\
  i<=bl.length/\m+i=bl.length+1/\Hid (ax [A] W4 W)/\Hid (ii W (.slice (some (π A 0)) p.code.length p.code.length) p.code.length (xu bl i) (fun _=> ν))
section
variable {W4:World} {pb vb A:Nat} {bv:Value} {bl:List Int} {Q:Exit->Act->World->Prop}
theorem rn1 (HV:Hid (ay W4 vb 230 (qR K p (.slice (some (π A 0)) p.code.length p.code.length)))) (sd:Hid (vb≠A)) (Og:Hid (Row W4 3 1 bv bl.length (aU bl))) (HBA:Hid (∀b,bv.ownBlock=some b->b≠A)) (hl:bl.length<=17) (iM:Hid (∀i,i < bl.length->-1<=bl.getD i 0/\bl.getD i 0 < p.code.length)) (hlen:p.code.length<=262144)
 (eZ:∀(J:Nat->Value) W,J 1=ρ pb->J 3=ρ (pb+1)->J 4=ρ (pb+1+1)->J 6=ρ vb->J 7=bv->ax [A] W4 W->ii W (.slice (some (π A 0)) p.code.length p.code.length) p.code.length (xu bl bl.length) (fun _=> ν)->Q (.exit 0) (FR J) W)
 {a:Act} {W:World} (h:RN1 W4 p pb vb A bv bl (bl.length+1) a W):(Code.loop (rnL 0)).wp Tryz.prog Q a W:=by
 refine Mk.aP (fun m a W=>RN1 W4 p pb vb A bv bl m a W) (bl.length+1) h ?_ ?_
 ·rintro a W ⟨J,i,-,-,-,-,-,-,-,-,-,h1,h2,-⟩;omega
 rintro m a0 W ⟨J,i,rfl,j1,j3,j4,j6,j7,j37,j38,j39,hi,hm,HF,HS⟩;unfold FR
 conv=>arg 2;whnf
 have w2:IntKind.i64.wrap ((i:Int)+1)=((i+1:Nat):Int):=by rw [IntWalk.i64_in _ (by constructor<;>omega)];omega
 rw [j1,j3,j4,j6,j7,j37,j38,j39];clear j1 j3 j4 j6 j7 j37 j38 j39;by_cases a8:i < bl.length
 ·obtain ⟨b,cap,RU,q1,q2,lb⟩:=Og.o.some (by omega);have EZ:=ae RU;have hr:=Og.o;rw [RU] at hr;have c0:W.cell? (π b i)=some (ι (bl.getD i 0)):=(World.cell?_of_block (HF.o.block _ lb (by have:=HBA.o b (by rw [RU];rfl);simpa using this))).trans (hr.cell (o:=i) (by omega));have lbW:b < W.heap.size:=Nat.lt_of_lt_of_le lb HF.o.size;have dK:=iM.o i a8;have dh:=ae a8;clear hr RU lb;rw [EZ.o];obtain ⟨z,hz⟩:∃z,bl.getD i 0=z:=⟨_,rfl⟩;rw [hz] at c0 dK;have HZ:=ae hz;clear hz;by_cases gA:0<=z
  ·obtain ⟨n,rfl⟩:=Int.eq_ofNat_of_zero_le gA;have hn:n < p.code.length:=by omega
   have hv:ay W vb 230 (qR K p (.slice (some (π A 0)) p.code.length p.code.length)):=HV.o.aB HF.o (by have:=sd.o;simpa using this);have v6:W.cell? (π vb 6)=some (.slice (some (π A 0)) p.code.length p.code.length):=hv.cell 6;have Yi:=hv.lt;have tM:∀o,W.frozen? (π A o)=false:=fun o=>HS.o.row.frozen o;have hAl:A < W.heap.size:=(HS.o.row.slice).2.2.2;have hold:∀k,k < 13->∃v,W.cell? (π A (n*13+k))=some v:=fun k hk=>⟨_,HS.o.row.cell (o:=n*13+k) (by omega)⟩;obtain ⟨u0,o0⟩:=hold 0 (by omega);obtain ⟨u1,o1⟩:=hold 1 (by omega);obtain ⟨u2,o2⟩:=hold 2 (by omega);obtain ⟨u3,o3⟩:=hold 3 (by omega);obtain ⟨u4,o4⟩:=hold 4 (by omega);obtain ⟨u5,o5⟩:=hold 5 (by omega);obtain ⟨u6,o6⟩:=hold 6 (by omega);obtain ⟨u7,o7⟩:=hold 7 (by omega);obtain ⟨u8,o8⟩:=hold 8 (by omega);obtain ⟨u9,o9⟩:=hold 9 (by omega);obtain ⟨u10,VR⟩:=hold 10 (by omega);obtain ⟨u11,VS⟩:=hold 11 (by omega);obtain ⟨u12,VT⟩:=hold 12 (by omega);simp only [Nat.add_zero] at o0;have HP:=ae (ii.put (s:=⟨[],[],0⟩) (mz:=ν) HS.o hn (.inl ⟨rfl,rfl⟩) (fun b hb=>by cases hb) rfl);clear hold hv;go_wp2_with fail
   try rw [<-EZ.o]
   refine ⟨_,i+1,FR.of _ rfl,rfl,rfl,rfl,rfl,(by first|rfl|exact EZ.o),(by first|rfl|exact EZ.o),rfl,rfl,dh.o,by omega,ae (HF.o.trans HP.o.2),ae ?_⟩;rw [Mw dh.o HZ.o,<-fp (fun _=>Value.slice none 0 0) n];exact HP.o.1
  ·have hd:decide (0<=z)=false:=by simpa using gA
   have HZ0:=ae gA;clear gA;go_wp2_with fail
   try rw [<-EZ.o]
   refine ⟨_,i+1,FR.of _ rfl,rfl,rfl,rfl,rfl,(by first|rfl|exact EZ.o),(by first|rfl|exact EZ.o),rfl,rfl,dh.o,by omega,HF,ae ?_⟩;rw [PW dh.o (by rw [HZ.o];have:=HZ0.o;omega)];exact HS.o
 ·obtain rfl:i=bl.length:=by omega
  clear a8;go_wp2_with fail;exact Eq.mpr (congrArg (fun a=>Q (.exit 0) a W) (FR.of _ rfl)) (eZ _ _ rfl rfl rfl rfl rfl HF.o HS.o)
def RN2 (w W5:World) (p:aO) (pb vb A:Nat) (bv:Value) (m:Nat) (a:Act) (W:World):Prop:=
 ∃(J:Nat->Value) (i:Nat),a=FR J/\J 1=ρ pb/\J 3=ρ (pb+1)/\J 4=ρ (pb+1+1)/\J 6=ρ vb/\J 7=bv/\J 55=ι p.code.length/\J 56=ι i/\
  i<=p.code.length/\m+i=p.code.length+1/\Hid (ax [A] W5 W)/\∃T mv,Hid (ii W (.slice (some (π A 0)) p.code.length p.code.length) p.code.length T mv)/\Hid (VM p T)/\Hid (looks p p.code.length 0 (db p)=looks p (p.code.length - i) i T)
theorem rn2 {W5:World} (H:Hid (fP w K p)) (RH:Hid (w.heap.size<=A)) (HW5:Hid (Below w.heap.size w W5)) (HV:Hid (ay W5 vb 230 (qR K p (.slice (some (π A 0)) p.code.length p.code.length)))) (sd:Hid (vb≠A)) (YE:Hid (∀i,i∈p.code->iP i=true/\gI p i=true)) (hlen:p.code.length<=262144)
 (gO:∀(A9:Array Value) W (i:Nat) (e:Int),A9.getD 2 undef= .pointer none->A9.getD 3 undef=ρ (pb+1)->A9.getD 4 undef=ρ (pb+1+1)->ax [A] W5 W->e≠0->looks p p.code.length 0 (db p)= .inl (e,i)->Q .ret {tmps:=A9,defers:=[]} ((((W.setCell (π (pb+1) 0) ν).setCell (π (pb+1) 1) (ι 0)).setCell (π (pb+1+1) 0) (ι e)).setCell (π (pb+1+1) 1) (ι i)))
 (xj:Hid (ay W5 (pb+1) 97 #[ν,ι 0])) (Lx:Hid (ay W5 (pb+1+1) 99 #[ι 0,ι 0])) (HCA:Hid (pb+1+1 < A))
 (eZ:∀(J:Nat->Value) W T,J 1=ρ pb->J 3=ρ (pb+1)->J 4=ρ (pb+1+1)->J 6=ρ vb->J 7=bv->ax [A] W5 W->looks p p.code.length 0 (db p)= .inr T->Q (.exit 2) (FR J) W)
 {a:Act} {W:World} (h:RN2 w W5 p pb vb A bv (p.code.length+1) a W):(Code.loop (rnL 1)).wp Tryz.prog Q a W:=by
 refine Mk.aP (fun m a W=>RN2 w W5 p pb vb A bv m a W) (p.code.length+1) h ?_ ?_
 ·rintro a W ⟨J,i,-,-,-,-,-,-,-,-,h1,h2,-⟩;omega
 rintro m a0 W ⟨J,i,rfl,j1,j3,j4,j6,j7,j55,j56,hi,hm,HF,T,mv,HS,HT,tR⟩;unfold FR
 conv=>arg 2;whnf
 have w2:IntKind.i64.wrap ((i:Int)+1)=((i+1:Nat):Int):=by rw [IntWalk.i64_in _ (by constructor<;>omega)];omega
 rw [j1,j3,j4,j6,j7,j55,j56];clear j1 j3 j4 j6 j7 j55 j56;by_cases a8:i < p.code.length
 ·have wP:Below w.heap.size w W:=HW5.o.trans (HF.o.below HW5.o.size (by have:=RH.o;simpa using this));have uy:=ae (ET (H.o.aB (ax.ah wP)) (HV.o.aB HF.o (by have:=sd.o;simpa using this)) HS.o HT.o a8 hlen (YE.o _ (ei a8)).1 (YE.o _ (ei a8)).2);have dh:=ae a8;have El:looks p (p.code.length - i) i T=if cO p T i=0 then looks p (p.code.length - (i+1)) (i+1) (iE p T i) else .inl (cO p T i,i):=by rw [show p.code.length - i=(p.code.length - (i+1))+1 by omega];rfl
  have tC:=ae El;have hle:=EQ HT.o (pc:=i) (by have:=(YE.o _ (ei a8)).1;unfold iP aF at this;simp at this;exact this.2);have y_:=ae hle;clear El wP a8 hle;go_wp2_with fail
  with_reducible refine uy.o.mono ?_
  rintro e W6 ⟨rfl,r8,fj⟩;have Jn:=ae (HF.o.trans r8);have kV:=ae fj;clear r8 fj uy;by_cases he:cO p T i=0
  ·rw [he];have HE:=ae he;clear he;go_wp2_with fail;obtain ⟨Mg,Bl⟩:=kV.o HE.o;refine ⟨_,i+1,FR.of _ rfl,rfl,rfl,rfl,rfl,rfl,rfl,rfl,dh.o,by omega,Jn,iE p T i,Mg,ae Bl,ae (y_.o HE.o),ae ?_⟩;rw [tR.o,tC.o,if_pos HE.o]
  ·have hb:(cO p T i !=0)=true:=by simpa using he
   have HE:=ae he;have Iw:=ae (show looks p p.code.length 0 (db p)= .inl (cO p T i,i) by rw [tR.o,tC.o,if_neg he]);have kc:=xj.o.aB Jn.o (by have:=HCA.o;simp;omega);have kf:=Lx.o.aB Jn.o (by have:=HCA.o;simp;omega);obtain ⟨z0,z1⟩:=kc.c2;obtain ⟨z2,z3⟩:=kf.c2;have z4:=kc.frozen;have z5:=kf.frozen;have z6:=kf.lt;clear kc kf he;generalize cO p T i=le at*;go_wp2_with fail;exact gO _ _ _ _ rfl rfl rfl Jn.o HE.o Iw.o
 ·obtain rfl:i=p.code.length:=by omega
  clear a8;go_wp2_with fail;exact Eq.mpr (congrArg (fun a=>Q (.exit 2) a W) (FR.of _ rfl)) (eZ _ _ T rfl rfl rfl rfl rfl HF.o (by rw [tR.o,Nat.sub_self];rfl))
def xw (p:aO) (bl:List Int) (k:Nat):Value:=ι (bN p (bl.getD k 0):Nat)
theorem uz (p:aO) (bl:List Int) {i:Nat} {W:World} {v:Value} {n:Int} (hn:n=(bN p (bl.getD i 0):Nat)) (h:Row W 3 1 v (i+1) (gU i (xw p bl) fun _=> ι n)):Row W 3 1 v (i+1) (xw p bl):=by
 refine h.congr fun o ho=>?_;unfold gU;by_cases e:o < i
 ·rw [if_pos e]
 ·rw [if_neg e];obtain rfl:o=i:=by omega
  subst hn;rfl
theorem mw (p:aO) (bl:List Int) {i:Nat} (h:i < bl.length):bk p (bl.drop i)=if MF < bN p (bl.getD i 0) then some (bl.getD i 0) else bk p (bl.drop (i+1)):=by rw [List.drop_eq_getElem_cons h,List.getD_eq_getElem?_getD,List.getElem?_eq_getElem h];rfl
def RN3 (W7:World) (p:aO) (pb vb:Nat) (bv fv:Value) (bl:List Int) (m:Nat) (a:Act) (W:World):Prop:=
 ∃(J:Nat->Value) (i:Nat) (lv:Value),a=FR J/\J 1=ρ pb/\J 3=ρ (pb+1)/\J 4=ρ (pb+1+1)/\J 6=ρ vb/\J 12=fv/\J 13=lv/\J 71=bv/\J 72=ι bl.length/\J 73=ι i/\
  i<=bl.length/\m+i=bl.length+1/\Hid (Below W7.heap.size W7 W)/\Hid (Row W 3 1 lv i (xw p bl))/\Hid (∀b,lv.ownBlock=some b->W7.heap.size<=b)/\Hid (bk p bl=bk p (bl.drop i))
theorem adR {p:Prop} (h:p:=by
 have F1:=ae f1;have F2:=ae f2;have F3:=ae f3;clear bq hf hv f1 f2 f3;go_wp2_with fail
 try rw [<-EZ.o]
 refine ⟨_,i+1,v',FR.of _ rfl,rfl,rfl,rfl,rfl,rfl,rfl,(by first|rfl|exact EZ.o),rfl,rfl,dh.o,by omega,F1,F2,F3,nC⟩):p:=h
theorem rn3 {W7:World} {fb fc:Nat} (Og:Hid (Row W7 3 1 bv bl.length (aU bl))) (HFV:Hid (Row W7 3 1 (.slice (some (π fb 0)) p.code.length fc) p.code.length (gC (jP p)))) (hl:bl.length<=17) (iM:Hid (∀i,i < bl.length->-1<=bl.getD i 0/\bl.getD i 0 < p.code.length)) (hlen:p.code.length<=262144)
 (xj:Hid (ay W7 (pb+1) 97 #[ν,ι 0])) (Lx:Hid (ay W7 (pb+1+1) 99 #[ι 0,ι 0]))
 (gO:∀(A9:Array Value) W (n:Int),A9.getD 2 undef= .pointer none->A9.getD 3 undef=ρ (pb+1)->A9.getD 4 undef=ρ (pb+1+1)->Below W7.heap.size W7 W->bk p bl=some n->Q .ret {tmps:=A9,defers:=[]} ((((W.setCell (π (pb+1) 0) ν).setCell (π (pb+1) 1) (ι 0)).setCell (π (pb+1+1) 0) (ι 97)).setCell (π (pb+1+1) 1) (ι n)))
 (eZ:∀(J:Nat->Value) W lv,J 1=ρ pb->J 3=ρ (pb+1)->J 4=ρ (pb+1+1)->J 6=ρ vb->J 13=lv->Below W7.heap.size W7 W->Row W 3 1 lv bl.length (xw p bl)->(∀b,lv.ownBlock=some b->W7.heap.size<=b)->bk p bl=none->Q (.exit 4) (FR J) W)
 {a:Act} {W:World} (h:RN3 W7 p pb vb bv (.slice (some (π fb 0)) p.code.length fc) bl (bl.length+1) a W):(Code.loop (rnL 2)).wp Tryz.prog Q a W:=by
 refine Mk.aP (fun m a W=>RN3 W7 p pb vb bv (.slice (some (π fb 0)) p.code.length fc) bl m a W) (bl.length+1) h ?_ ?_
 ·rintro a W ⟨J,i,lv,-,-,-,-,-,-,-,-,-,-,h1,h2,-⟩;omega
 rintro m a0 W ⟨J,i,lv,rfl,j1,j3,j4,j6,tQ,Dr,Yf,Yg,Yh,hi,hm,HB,HR,HO,HE⟩;unfold FR
 conv=>arg 2;whnf
 have w2:IntKind.i64.wrap ((i:Int)+1)=((i+1:Nat):Int):=by rw [IntWalk.i64_in _ (by constructor<;>omega)];omega
 rw [j1,j3,j4,j6,tQ,Dr,Yf,Yg,Yh];clear j1 j3 j4 j6 tQ Dr Yf Yg Yh;by_cases a8:i < bl.length
 ·obtain ⟨b,cap,RU,q1,q2,lb⟩:=Og.o.some (by omega);have EZ:=ae RU;have hr:=Og.o.aB (ax.ah (S:=[]) HB.o) (by simp);rw [RU] at hr;have c0:W.cell? (π b i)=some (ι (bl.getD i 0)):=hr.cell (o:=i) (by omega);have lbW:b < W.heap.size:=aS c0;have dK:=iM.o i a8;have dh:=ae a8;have Ao:=ae (mw p bl a8);have iW:Hid (i+1<=maxLen/\(i+1)*8<=140737488355328):=ae ⟨by unfold maxLen;omega,by omega⟩;have hlz:EZ.o=EZ.o:=rfl;clear hr RU lb hlz;rw [EZ.o];have ir:∃la ln lc,lv= .slice la ln lc:=by rcases HR.o.val with ⟨h,-⟩|⟨_,_,h,-⟩<;>exact ⟨_,_,_,h⟩
  obtain ⟨z,hz⟩:∃z,bl.getD i 0=z:=⟨_,rfl⟩;rw [hz] at c0 dK Ao;have HZ:=ae hz;clear hz;have fin:∀(n:Int) (V:World) (v':Value) (w1:World),Below W.heap.size W V->n=(bN p z:Nat)->Row w1 3 1 v' (i+1) (gU i (xw p bl) fun _=> ι n)->ax lv.ownBlock.toList V w1->(v'.ownBlock=lv.ownBlock\/v'.ownBlock=some V.heap.size)->
   Below W7.heap.size W7 w1/\Row w1 3 1 v' (i+1) (xw p bl)/\(∀b,v'.ownBlock=some b->W7.heap.size<=b):=fun n V v' w1 hv hn hr hf ho=>by
   have h1:Below W7.heap.size W7 V:=HB.o.trans (hv.mono HB.o.size);refine ⟨h1.trans (hf.below h1.size (fun b hb=>HO.o b (by simpa using hb))),uz p bl (by rw [HZ.o];exact hn) hr,fun b hb=>?_⟩;rcases ho with h|h
   ·exact HO.o b (by rw [<-h];exact hb)
   ·rw [h] at hb;have:=Option.some.inj hb;have:=h1.size;omega
  have Ct:=ae fin;clear fin;by_cases gA:z < 0
  ·have sT:(0:Int)=(bN p z:Nat):=by unfold bN;rw [if_pos gA];rfl
   have Gs:=ae sT;have nC:=ae (show bk p bl=bk p (bl.drop (i+1)) by rw [HE.o,Ao.o,if_neg (by have:=Gs.o;unfold MF;omega)]);have hd:decide (z < 0)=true:=by simpa using gA
   clear sT gA;go_wp2_with (at_builtin;refine cz rfl _ _ 24 rfl 3 Tryz.underlying24 b_ rfl (by decide) lv i (xw p bl) rfl (HR.o.alloc _) (π W.heap.size 0) 1 1 (fun _=> ι 0) rfl ?zT (fun _ _=>rfl) iW.o.1 iW.o.2 ?_)
   case zT=>intro j hj;obtain rfl:j=0:=(by omega);exact (ay.new W 3 #[ι 0]).cell 0
   intro v' w1 bq hf hv;obtain ⟨f1,f2,f3⟩:=Ct.o 0 _ v' w1 ((Below.refl _ _).alloc (Nat.le_refl _) _) Gs.o bq hf (by simpa using hv);exact adR
  ·obtain ⟨n,rfl⟩:=Int.eq_ofNat_of_zero_le (by omega:0<=z);have hn:n < p.code.length:=by omega
   have YF:W.cell? (π fb n)=some (ι (jP p n:Nat)):=(HFV.o.aB (ax.ah (S:=[]) HB.o) (by simp)).cell (o:=n) (by omega);have sT:bN p (n:Int)=jP p n:=by unfold bN;rw [if_neg (by omega)];rfl
   rw [sT] at Ao Ct;have lfb:=aS YF;clear gA;generalize jP p n=fu at*;clear sT;by_cases qd:MF < fu
   ·have nC:=ae (show bk p bl=some (n:Int) by rw [HE.o,Ao.o,if_pos qd]);have Cu:1152921504606846976 < fu:=qd;have kc:=xj.o.of (HB.o.block _ xj.o.lt);have kf:=Lx.o.of (HB.o.block _ Lx.o.lt);obtain ⟨z0,z1⟩:=kc.c2;obtain ⟨z2,z3⟩:=kf.c2;have z4:=kc.frozen;have z5:=kf.frozen;have z6:=kf.lt;clear kc kf qd;go_wp2_with fail;exact gO _ _ _ rfl rfl rfl HB.o nC.o
   ·have nC:=ae (show bk p bl=bk p (bl.drop (i+1)) by rw [HE.o,Ao.o,if_neg qd]);have Cu:¬1152921504606846976 < fu:=qd;have YG:fu<=1152921504606846976:=by omega
    clear qd Cu;go_wp2_with (at_builtin;refine cz rfl _ _ 24 rfl 3 Tryz.underlying24 b_ rfl (by decide) lv i (xw p bl) rfl (HR.o.alloc _) (π W.heap.size 0) 1 1 (fun _=> ι (fu:Nat)) rfl ?zT (fun _ _=>rfl) iW.o.1 iW.o.2 ?_)
    case zT=>intro j hj;obtain rfl:j=0:=(by omega);exact (ay.new W 3 #[ι (fu:Nat)]).cell 0
    intro v' w1 bq hf hv;obtain ⟨f1,f2,f3⟩:=Ct.o (fu:Nat) _ v' w1 ((Below.refl _ _).alloc (Nat.le_refl _) _) rfl bq hf (by simpa using hv);exact adR
 ·obtain rfl:i=bl.length:=by omega
  clear a8;go_wp2_with fail;exact Eq.mpr (congrArg (fun a=>Q (.exit 4) a W) (FR.of _ rfl)) (eZ _ _ _ rfl rfl rfl rfl rfl HB.o HR.o HO.o (by rw [HE.o,List.drop_length];rfl))
end
end
end Go.Proofs.YtblkblclmbhjiaaGreat.Vf
