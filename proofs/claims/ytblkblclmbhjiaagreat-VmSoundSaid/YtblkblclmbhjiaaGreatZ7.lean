import Derived.Test.YtblkblclmbhjiaaGreatZ6
import Derived.Laws.CopyRow
set_option linter.all false
set_option maxHeartbeats 40000000
set_option maxRecDepth 100000
open Go.Proofs.Tryz
open Option renaming some->O,none->Xb
open Go renaming Value->to,World->ek
open Go.Value renaming slice->H
open Go.Obj renaming cells->Xe
open Go.Ending renaming returned->Xc
open Go.World renaming cell?->Xf
section
namespace al.Vm
def jn{a b:Nat}(X:b<=MS):bM a b<=MS:=by unfold bM;split<;>omega
def vy(a b:Nat):eX a b<=MS:=by unfold eX;split<;>omega
def adR{p:aU}{g:Nat->Nat}(hg:∀i,g i<=MS)(pc:Nat):mI p g pc<=MS:=by
 unfold mI;dsimp only;split
 ·decide
 split
 ·exact jn (hg _)
 split
 ·exact jn (by have:=hg (pc+1);have:=hg (ak p pc).a.toNat;omega)
 split
 ·exact jn (jn (hg _))
 ·exact jn (hg _)
def vz(p:aU):∀k i,dV p k i<=MS
 |0,_=>ck _
 |k+1,i=>by
  unfold dV;rw[dw];split
  ·exact adR (vz p k) _
  ·exact vz p k i
def Av{p:aU}{j:Nat}(h:j<p.code.length):dV p (p.code.length-j)=aS (dV p (p.code.length - (j+1))) j (mI p (dV p (p.code.length - (j+1))) j):=by rw[show p.code.length-j=(p.code.length - (j+1))+1 by omega];show aS _ (p.code.length-1 - (p.code.length - (j+1))) _=_;rw[show p.code.length-1 - (p.code.length - (j+1))=j by omega]
end al.Vm
namespace Go.Vf
open Go.RowKit al.Vm
open al hiding aS aw an
open Ma (dW cy bd vb aK a_ ox)
def FF(J:Nat->to):Act:={tmps:=#[J 0,J 1,J 2,J 3,J 4,J 5,J 6,J 7,J 8,J 9,J 10,J 11,J 12,J 13,J 14,J 15,J 16,J 17,J 18,J 19,J 20,J 21,J 22,J 23,J 24,J 25,J 26,J 27,J 28,J 29,J 30,J 31,J 32,J 33,J 34,J 35,J 36,J 37,J 38,J 39,J 40,J 41,J 42,J 43,J 44,J 45,J 46,J 47,J 48,J 49,J 50,J 51,J 52,J 53,J 54,J 55,J 56,J 57,J 58,J 59,J 60,J 61,J 62,J 63,J 64,J 65,J 66,J 67,J 68,J 69,J 70,J 71,J 72,J 73,J 74,J 75,J 76,J 77,J 78,J 79,J 80,J 81,J 82,J 83,J 84,J 85,J 86,J 87,J 88,J 89,J 90,J 91,J 92,J 93,J 94,J 95,J 96,J 97],defers:=[]}
def FF.of(A:Array to)(h:A=(FF λk=>A.getD k undef).tmps):({tmps:=A,defers:=[]}:Act)=FF λk=>A.getD k undef:=by rw[h];rfl
def gC(g:Nat->Nat)(i:Nat):to:=Y (g i:Nat)
def Vu{P:Program}{fn:Func}{R:Ending->ek->Prop}{A:Array to}{w:ek}{t:Tmp}(h:fn.results=#[.tmp t])(hR:R (Xc (A.getD t undef)) w):Exit.noGoto (bodyPost P fn R) .ret {tmps:=A,defers:=[]} w:=by rw[Exit.noGoto_ret];exact eF h hR
def FuS(w:ek)(p:aU)(vb:Nat)(cv:to)(fb fc:Nat)(a:Act)(W:ek):Prop:=
 ∃(J:Nat->to) (m:Nat),a=FF J/\J 0=Oi vb/\J 3=cv/\J 4=H (O (I fb 0)) p.code.length fc/\J 5=Y ((m:Int) - 1)/\m<=p.code.length/\Hid (w.heap.size<=fb/\Below w.heap.size w W/\Row W 3 1 (H (O (I fb 0)) p.code.length fc) p.code.length (gC (dV p (p.code.length-m))))
def vA(w:ek)(p:aU)(e:Ending)(w':ek):Prop:=∃fb fc,e=Xc (H (O (I fb 0)) p.code.length fc)/\w.heap.size<=fb/\Below w.heap.size w w'/\Row w' 3 1 (H (O (I fb 0)) p.code.length fc) p.code.length (gC (mi p))
section
variable {w:ek}{K:Kp}{p:aU}{jN:to}{vb:Nat}
def Rw{p:Prop}(h:p:=by
 go_wp2;go_step3;exact⟨rfl,⟨fb,fc,_,j,FF.of _ rfl,rfl,rfl,(by rw[HN.o];rfl),rfl,(by rw[HN.o];omega),Z (by rw[HN.o];exact FE.o _ fR.o _ rl.o.symm)⟩,by simp[Proofs.intOf]⟩):p:=h
def Vt{p:Prop}(h:p:=by
 go_wp2_with fail;refine(GD.o _).mono ?_;rintro e W1 ⟨rfl,rfl⟩;go_wp2;go_step3;exact⟨rfl,⟨fb,fc,_,j,FF.of _ rfl,rfl,rfl,(by rw[HN.o];rfl),rfl,(by rw[HN.o];omega),Z (by rw[HN.o];exact Lr.o _ _ (_) (rl.o.symm))⟩,by simp[Proofs.intOf]⟩):p:=h
def JC(h:gM w K p)(hv:aH w vb 230 (uf K p jN))(hlen:p.code.length<=262144)(fi:DZ p):
 Calls prog 174 #[Oi vb] w (vA w p):=by
 have v5:Xf w (I vb 5)=O K.c:=hv.cell 5;have lv:=hv.lt;obtain⟨ca,cc,kc,YD,Gz⟩:=aY.val h.cd;rw[kc]at v5;have a0g:=Z h;have Dq:=Z kc;have mY:=Z fi;have kM:Hid (8*p.code.length<=281474976710656/\p.code.length<=maxLen):=Z ⟨G,by unfold maxLen;omega⟩;have JD:Hid (∀V (b:Nat),b<=MS->Calls prog 249 #[Y 1,Y b] V λe w'=>e=Xc (Y (bM 1 b))/\w'=V):=Z λV b X=>Re V 1 b bz X;have HPM:=Z (λV (a b:Nat) ha X=>Re V a b ha X);have HTM:=Z (λV (a b:Nat) ha X=>aen V a b ha X);clear h hv kc fi;generalize hn:p.code.length=n at*;have HN:=Z hn;clear hn;go_enter func174,ntmps174;go_wp2_with fail;refine ox 0 (λa' wr=>∃fb fc,FuS w p vb (H ca n cc) fb fc a' wr) (λa' _=>(Proofs.intOf (a'.tmps.getD 5 undef)+1).toNat) rfl ?_ ?_
 ·rintro a' W ⟨fb,fc,J,m,rfl,j0,j3,j4,j5,hm,HF⟩;rw[HN.o]at j4 hm HF;unfold FF;rw[j0,j3,j4,j5];clear j0 j3 j4 j5;by_cases hm0:m=0
  ·subst hm0;have HE:=Z (show vA w p (Xc (H (O (I fb 0)) n fc)) W from⟨fb,fc,by rw[HN.o],HF.o.1,HF.o.2.1,by rw[HN.o];have h:=HF.o.2.2;rw[Nat.sub_zero]at h;unfold mi;rw[HN.o];exact h⟩);go_wp2_with fail;refine Vu rfl ?_;exact HE.o
  obtain⟨j,rfl⟩:∃j,m=j+1:=⟨m-1,G⟩;have w1:(((j+1:Nat):Int) - 1)=(j:Int):=G;have w2:IntKind.i64.wrap ((j:Int) - 1)=(j:Int) - 1:=bJ _ kS;rw[w1];clear w1 hm0;have hj:j<n:=G;obtain⟨b,off,cap,e,-,-,c0,c1,c2,c3,c4⟩:=(a0g.o.aG (aC.ai HF.o.2.1)).ins (i:=j) (by rw[HN.o];exact hj);rw[Dq.o,HN.o]at e;simp only[cL]at e;obtain⟨rfl,-,rfl⟩:=e;have l_:=Z (Av (p:=p) (j:=j) (by rw[HN.o];exact hj));rw[HN.o]at l_;have iJ:∀i,i<n->Xf W (I fb i)=O (Y (dV p (n - (j+1)) i:Nat)):=λi hi=>HF.o.2.2.cell (o:=i) G;have RC:∀i,dV p (n - (j+1)) i<=MS:=vz p _;have RD:fb<W.heap.size:=(HF.o.2.2.slice).2.2.2;have xz:∀o,W.frozen? (I fb o)=false:=λo=>HF.o.2.2.frozen o;have lb:=ay c0;have FE:=Z (λ(V:ek) (X:Below W.heap.size W V) (v:Nat) (hv:v=mI p (dV p (n - (j+1))) j)=>show w.heap.size<=fb/\Below w.heap.size w (V.setCell (I fb j) (Y v))/\Row (V.setCell (I fb j) (Y v)) 3 1 (H (O (I fb 0)) n fc) n (gC (dV p (n-j)))from by
   refine⟨HF.o.1,(HF.o.2.1.trans (X.mono HF.o.2.1.size)).setCell HF.o.1 _,?_⟩;rw[l_.o];have hr:=(HF.o.2.2.aG (aC.ai (S:=[]) X) az).set (o:=j) G (Y v);refine hr.congr λo ho=>?_;unfold gC;rw[dw];by_cases e:o=j
   ·subst e;rw[aE rfl,aE rfl,hv]
   ·rw[ax e,ax e])
  have Lr:=Z (λ(cs:Array to) (T:TypeId) (v:Nat) (hv:v=mI p (dV p (n - (j+1))) j)=>show w.heap.size<=fb/\Below w.heap.size w ((W.setCell (I fb j) (Y v)).alloc (Xe cs T))/\Row ((W.setCell (I fb j) (Y v)).alloc (Xe cs T)) 3 1 (H (O (I fb 0)) n fc) n (gC (dV p (n-j)))from by
   obtain⟨h1,h2,h3⟩:=FE.o W (aZ _ _) v hv;exact⟨h1,h2.alloc h2.size _,h3.alloc _⟩)
  have rh:=Z (λ(V:ek) (X:Below W.heap.size W V)=>HF.o.2.2.aG (aC.ai (S:=[]) X) az);have cj:=iJ j hj;have hx:=mY.o j (by rw[HN.o];exact hj);rw[HN.o]at hx;have HJ2:=Z (show∀k,(ak p (j+1))=k->(ak p (j+1))=k from λ_ h=>h);have SV:mI p (dV p (n - (j+1))) j=if(ak p j).op=0\/(ak p j).op=27 then 1 else if(ak p j).op=22 then bM 1 (dV p (n - (j+1)) (ak p j).a.toNat)else if(ak p j).op=23 then bM 1 (max (dV p (n - (j+1)) (j+1)) (dV p (n - (j+1)) (ak p j).a.toNat))else if(ak p j).op=24 then bM (bM 1 (eX (ak p j).a.toNat (bM 1 (dV p (n - (j+1)) (j+2))))) (bM 1 (dV p (n - (j+1)) (ak p (j+1)).a.toNat))else bM 1 (dV p (n - (j+1)) (j+1)):=rfl;have rl:=Z SV;clear SV;have OH:=Z HF.o.2.1;generalize dV p (n - (j+1))=g at*;have HG:=Z RC;have sI:=Z iJ;clear RC iJ;obtain⟨Tp,Lt,wo,IC⟩:=hx;obtain⟨op,dO⟩:∃z,(ak p j).op=z:=⟨_,rfl⟩;obtain⟨xa,AW⟩:∃z,(ak p j).a=z:=⟨_,rfl⟩;obtain⟨xb,me⟩:∃z,(ak p j).b=z:=⟨_,rfl⟩;obtain⟨xc,hxc⟩:∃z,(ak p j).c=z:=⟨_,rfl⟩;obtain⟨xd,Xj⟩:∃z,(ak p j).d=z:=⟨_,rfl⟩;rw[dO]at c0 Tp Lt wo IC rl;rw[AW]at c1 Lt wo rl;rw[me]at c2;rw[hxc]at c3;rw[Xj]at c4;clear dO AW me hxc Xj;have dS:=Z (λcs T=>(aZ W.heap.size W).alloc (aL _) (Xe cs T));by_cases o1:op=0\/op=27
  ·rw[aE o1]at rl;rcases o1 with rfl|rfl
   all_goals
    go_wp2;go_step3;exact⟨rfl,⟨fb,fc,_,j,FF.of _ rfl,rfl,rfl,(by rw[HN.o];rfl),rfl,(by rw[HN.o];omega),Z (by rw[HN.o];exact Lr.o _ _ (1) (rl.o.symm))⟩,by simp[Proofs.intOf]⟩
  rw[ax o1]at rl;have o0:(op==0)=false:=by simp;exact λh=>o1 (.inl h)
  have o27:(op==27)=false:=by simp;exact λh=>o1 (.inr h)
  by_cases o2:op=22
  ·subst o2;rw[aE rfl]at rl;obtain⟨a1,a2⟩:=Lt (.inl rfl);obtain⟨xm,rfl⟩:=eS a1;have xlt:xm<n:=G;have ca9:=sI.o xm xlt;have GD:=Z (λV=>JD.o V (g xm) (HG.o _));rw[Int.toNat_natCast]at rl;generalize g xm=gx at*;exact Vt
  rw[ax o2]at rl;have o22:(op==22)=false:=by simpa using o2
  have hj1:j+1<n:=IC (λh=>o1 (.inl h)) (λh=>o1 (.inr h)) o2;have w4:IntKind.i64.wrap ((j:Int)+1)=((j+1:Nat):Int):=by rw[bJ _ kS];omega
  have cj1:=sI.o (j+1) hj1;by_cases o3:op=23
  ·subst o3;rw[aE rfl]at rl;obtain⟨a1,a2⟩:=Lt (.inr rfl);obtain⟨xm,rfl⟩:=eS a1;have xlt:xm<n:=G;have ca9:=sI.o xm xlt;rw[Int.toNat_natCast]at rl;have hm9:max ((g (j+1):Nat):Int) ((g xm:Nat):Int)=((max (g (j+1)) (g xm):Nat):Int):=G;have GD:=Z (λV=>JD.o V (max (g (j+1)) (g xm)) (by have:=HG.o (j+1);have:=HG.o xm;omega));generalize hmx:max (g (j+1)) (g xm)=mx at*;generalize g (j+1)=gx at*;generalize g xm=gy at*;have fS:=dS.o #[Y 23,Y xm,Y xb,Y xc,Y xd] 40;have kx:aH (W.alloc (Xe #[Y 23,Y xm,Y xb,Y xc,Y xd] 40)) W.heap.size 40 #[Y 23,Y xm,Y xb,Y xc,Y xd]:=aH.new _ _ _;go_wp2_with fail;obtain⟨W1,DX⟩:∃W1,W1=W.alloc (Xe #[Y 23,Y xm,Y xb,Y xc,Y xd] 40):=⟨_,rfl⟩;rw[<-DX]at fS kx ⊢;have d1:Xf W1 (I W.heap.size 1)=O (Y xm):=kx.cell 1;have key:∀b o v,Xf W (I b o)=O v->Xf W1 (I b o)=O v:=λb o v h=>(aR (fS.block _ (ay h))).trans h;replace cj:=key _ _ _ cj;replace cj1:=key _ _ _ cj1;replace ca9:=key _ _ _ ca9;have lL:=Z fS;clear DX kx fS key c0 c1 c2 c3 c4 xz;generalize gP:W.heap.size=bx at*;clear gP;have zQ:0<=(j:Int)+1:=G;have Aw:(j:Int)+1<(n:Int):=G;have zN:((j:Int)+1).toNat=j+1:=G;refine wp_region_still_tail 15 bj bj ?_;simp only[List.take_succ_cons,List.take_zero,List.drop_succ_cons,List.drop_zero]
   iterate 13 still_step
   still_call (GD.o _)
   still_step
   refine wpStill_nil ?_;change wpList _ _ _ _ _ (W1.drewN 1);have dR:=lL.o.trans (aA _ W1 1);have cj9:(W1.drewN 1).cell? (I fb j)=O (Y (g j:Nat)):=cj;have xz:∀o,(W1.drewN 1).frozen? (I fb o)=false:=λo=>(rh.o _ dR).frozen o;have fR:=Z dR;clear dR cj cj1 ca9 zQ Aw zN;generalize W1.drewN 1=V0 at*;exact Rw
  rw[ax o3]at rl;have o23:(op==23)=false:=by simpa using o3
  by_cases o4:op=24
  ·subst o4;rw[aE rfl]at rl;obtain⟨a1,a2,hj2,t1,t2⟩:=wo rfl;obtain⟨xm,rfl⟩:=eS a1;have xle:xm<=4194304:=G;have cj2:=sI.o (j+2) hj2;obtain⟨b2,Jp,DN,e2,-,-,-,e1,-⟩:=(a0g.o.aG (aC.ai OH.o)).ins (i:=j+1) (by rw[HN.o];exact hj1);rw[Dq.o,HN.o]at e2;simp only[cL,iI,Addr.mk.injEq]at e2;obtain⟨⟨rfl,rfl,-⟩,-,-⟩:=e2;obtain⟨tm,htm⟩:=eS t1;have tlt:tm<n:=G;rw[htm]at e1 rl;have ct9:=sI.o tm tlt;rw[Int.toNat_natCast,Int.toNat_natCast]at rl;have GD:=Z (λV=>JD.o V (g (j+2)) (HG.o _));have OC:=Z (λV=>HTM.o V xm (bM 1 (g (j+2))) (by unfold MS;omega) (jn (HG.o _)));have HP3:=Z (λV=>JD.o V (eX xm (bM 1 (g (j+2)))) (vy _ _));have HP4:=Z (λV=>JD.o V (g tm) (HG.o _));have XX:=Z (λV=>HPM.o V (bM 1 (eX xm (bM 1 (g (j+2))))) (bM 1 (g tm)) (jn (vy _ _)) (jn (HG.o _)));clear htm t1 t2 a1 a2 Tp Lt wo IC cj1;generalize bM (bM 1 (eX xm (bM 1 (g (j+2))))) (bM 1 (g tm))=r5 at*;generalize bM 1 (eX xm (bM 1 (g (j+2))))=r3 at*;generalize eX xm (bM 1 (g (j+2)))=r2 at*;generalize bM 1 (g (j+2))=r1 at*;generalize bM 1 (g tm)=r4 at*;generalize g (j+2)=gx at*;generalize g tm=gy at*;have fS:=dS.o #[Y 24,Y xm,Y xb,Y xc,Y xd] 40;have kx:aH (W.alloc (Xe #[Y 24,Y xm,Y xb,Y xc,Y xd] 40)) W.heap.size 40 #[Y 24,Y xm,Y xb,Y xc,Y xd]:=aH.new _ _ _;go_wp2_with fail;obtain⟨W1,DX⟩:∃W1,W1=W.alloc (Xe #[Y 24,Y xm,Y xb,Y xc,Y xd] 40):=⟨_,rfl⟩;rw[<-DX]at fS kx ⊢;have d1:Xf W1 (I W.heap.size 1)=O (Y xm):=kx.cell 1;have key:∀b o v,Xf W (I b o)=O v->Xf W1 (I b o)=O v:=λb o v h=>(aR (fS.block _ (ay h))).trans h;replace cj:=key _ _ _ cj;replace cj2:=key _ _ _ cj2;replace ct9:=key _ _ _ ct9;replace e1:=key _ _ _ e1;have lL:=Z fS;clear DX kx fS key c0 c1 c2 c3 c4 xz;generalize gP:W.heap.size=bx at*;clear gP;have zQ:0<=(j:Int)+1:=G;have Aw:(j:Int)+1<(n:Int):=G;have zN:((j:Int)+1).toNat=j+1:=G;have AP:0<=(j:Int)+2:=G;have hs5:(j:Int)+2<(n:Int):=G;have hs6:((j:Int)+2).toNat=j+2:=G;have w6:IntKind.i64.wrap ((j:Int)+2)=(j:Int)+2:=bJ _ kS;refine wp_region_still_tail 24 bj bj ?_;simp only[List.take_succ_cons,List.take_zero,List.drop_succ_cons,List.drop_zero]
   iterate 9 still_step
   still_call (GD.o _)
   still_call (OC.o _)
   still_call (HP3.o _)
   iterate 9 still_step
   still_call (HP4.o _)
   still_call (XX.o _)
   still_step
   refine wpStill_nil ?_;change wpList _ _ _ _ _ (W1.drewN 1);have dR:=lL.o.trans (aA _ W1 1);have cj9:(W1.drewN 1).cell? (I fb j)=O (Y (g j:Nat)):=cj;have xz:∀o,(W1.drewN 1).frozen? (I fb o)=false:=λo=>(rh.o _ dR).frozen o;have fR:=Z dR;clear dR cj cj2 ct9 e1 zQ Aw zN AP hs5 hs6;generalize W1.drewN 1=V0 at*;exact Rw
  rw[ax o4]at rl;have YE:(op==24)=false:=by simpa using o4
  have GD:=Z (λV=>JD.o V (g (j+1)) (HG.o _));generalize bM 1 (g (j+1))=r1 at*;generalize g (j+1)=gx at*;clear o1 o2 o3 o4 Tp Lt wo IC;exact Vt
 ·intro hp;go_wp2_with (refine jU rfl (.tmp 13) (.tmp 13) 24 rfl 3 underlying24 cA rfl .i64 .i64 _ _ n rfl rfl rfl rfl kM.o.1 kM.o.2 ?_;intro W0 hr0 dG);have xh:=Z hr0;have fM:=Z dG;have w3:IntKind.i64.wrap ((n:Int) - 1)=(n:Int) - 1:=bJ _ kS;clear hr0 dG;go_wp2;go_step3;simp only[Exit.then]
  apply_assumption
  refine hp _ _ ⟨w.heap.size,n,_,n,FF.of _ rfl,rfl,rfl,by rw[HN.o];rfl,rfl,by rw[HN.o];exact aL _,Z ⟨aL _,fM.o,?_⟩⟩;rw[HN.o,Nat.sub_self];exact xh.o
end
end Go.Vf
end
namespace al.Vm
def cY(Qs:List (List PE)):List (List Nat):=Qs.map λl=>l.map PE.key
def iS(gh:Nat->Bool)(Qs:List (List PE)):List (List Nat):=(List.range Qs.length).map λq=>if gh q then[]else(Qs.getD q []).map PE.key
section
variable {Qs:List (List PE)}{gh:Nat->Bool}{q i k:Nat}{Ls:List (List Nat)}
def jo:(cY Qs).length=Qs.length:=by simp[cY]
def gO(q:Nat):(cY Qs).getD q []=(Qs.getD q []).map PE.key:=by
 unfold cY;by_cases h:q<Qs.length
 ·simp[List.getD,h]
 ·simp[List.getD,h]
def pg:(iS gh Qs).length=Qs.length:=by simp[iS]
def nS(hq:q<Qs.length):(iS gh Qs).getD q []=if gh q then[]else(Qs.getD q []).map PE.key:=by unfold iS;exact jg _ _ hq
def vE{l:List PE}(hi:i<l.length):(l.map PE.key).getD i 0=(l.getD i ⟨0,[]⟩).key:=by simp[List.getD,hi]
def acO:k∈ci Ls q i↔(∃j,j<q/\j<Ls.length/\k∈Ls.getD j [])\/k∈(Ls.getD q []).take i:=by
 unfold ci;rw[fE,List.mem_flatten];refine or_congr ⟨?_,?_⟩ Iff.rfl
 ·rintro⟨l,h1,h2⟩;obtain⟨j,hj,rfl⟩:=List.mem_iff_getElem.1 h1;have h3:j<q/\j<Ls.length:=by rw[List.length_take]at hj;omega
  refine⟨j,h3.1,h3.2,?_⟩;rw[List.getElem_take]at h2;simpa[List.getD,h3.2]using h2
 ·rintro⟨j,h1,h2,h3⟩;refine⟨_,?_,h3⟩;have:Ls.getD j []=(Ls.take q)[j]'(by rw[List.length_take];omega):=by rw[List.getElem_take];simp[List.getD,h2]
  rw[this];exact il _
def acL(hq:q<Qs.length)(h:k∈ci (iS gh Qs) q i):k∈ci (cY Qs) q i:=by
 rw[acO]at h ⊢;rcases h with⟨j,h1,h2,h3⟩|h
 ·rw[pg]at h2;rw[nS h2]at h3;refine .inl ⟨j,h1,by rw[jo];exact h2,?_⟩;rw[gO];split at h3
  ·cases h3
  ·exact h3
 ·rw[nS hq]at h;rw[gO];split at h
  ·simp at h
  ·exact .inr h
def Cy(nd:(cY Qs).flatten.Nodup)(hq:q<Qs.length)(hi:i<(Qs.getD q []).length):((Qs.getD q []).getD i ⟨0,[]⟩).key∉ci (cY Qs) q i:=by
 have hi':i<((cY Qs).getD q []).length:=by rw[gO,List.length_map];exact hi
 obtain⟨t,e⟩:=oZ (Ls:=cY Qs) (by rw[jo];exact hq) hi';rw[gO,vE hi]at e;rw[e]at nd;exact λhc=>(List.nodup_append.1 nd).2.2 _ hc _ az rfl
def acK(hi:i<(Qs.getD q []).length):k∈ci (cY Qs) q (i+1)↔if k=((Qs.getD q []).getD i ⟨0,[]⟩).key then true=true else k∈ci (cY Qs) q i:=by
 rw[qJ (by rw[gO,List.length_map];exact hi),gO,vE hi,fE,List.mem_singleton];split
 ·next e=>simp[e]
 ·next e=>exact⟨λh=>h.resolve_right e,.inl⟩
def GS(nd:(cY Qs).flatten.Nodup)(hq:q<Qs.length)(hi:i<(Qs.getD q []).length):k∈ci (iS gh Qs) q (i+1)↔if k=((Qs.getD q []).getD i ⟨0,[]⟩).key then(!gh q)=true else k∈ci (iS gh Qs) q i:=by
 cases hg:gh q with
 |true=>
  have e:ci (iS gh Qs) q (i+1)=ci (iS gh Qs) q i:=by unfold ci;rw[nS hq,aE hg];simp
  rw[e];split
  ·next e'=>subst e';exact⟨λh=>absurd (acL hq h) (Cy nd hq hi),λh=>by cases h⟩
  ·exact Iff.rfl
 |false=>
  have h2:(iS gh Qs).getD q []=(Qs.getD q []).map PE.key:=by rw[nS hq,ax (by rw[hg];decide)]
  rw[qJ (by rw[h2,List.length_map];exact hi),h2,vE hi,fE,List.mem_singleton];split
  ·next e=>simp[e]
  ·next e=>exact⟨λh=>h.resolve_right e,.inl⟩
def AB(hq:q<Qs.length)(hi:i<(Qs.getD q []).length):((Qs.getD q []).getD i ⟨0,[]⟩).key∈(cY Qs).flatten/\(gh q=false->((Qs.getD q []).getD i ⟨0,[]⟩).key∈(iS gh Qs).flatten):=by
 have h1:((Qs.getD q []).getD i ⟨0,[]⟩).key∈(Qs.getD q []).map PE.key:=by
  have hl:i<((Qs.getD q []).map PE.key).length:=by rw[List.length_map];exact hi
  have e:((Qs.getD q []).map PE.key).getD i 0=((Qs.getD q []).map PE.key)[i]:=by rw[dQ (i:=i),ft hl];rfl
  rw[<-vE hi,e];exact il _
 refine⟨List.mem_flatten.2 ⟨_,?_,by rw[<-gO]at h1;exact h1⟩,λhg=>List.mem_flatten.2 ⟨_,?_,h1⟩⟩
 ·have hl:q<(cY Qs).length:=by rw[jo];exact hq
  rw[show(cY Qs).getD q []=(cY Qs)[q]by simp[List.getD,hl]];exact il _
 ·have hl:q<(iS gh Qs).length:=by rw[pg];exact hq
  have e:=nS (gh:=gh) hq;rw[ax (by rw[hg];decide)]at e;rw[<-e,show(iS gh Qs).getD q []=(iS gh Qs)[q]by simp[List.getD,hl]];exact il _
structure GU(gh:Nat->Bool)(Qb Qn:List (List PE))(told:List Nat)(x:Nat)(rem:Bool):Prop where
 ndb:(cY Qb).flatten.Nodup
 ndn:(cY Qn).flatten.Nodup
 a:∀k,k∈(iS gh Qb).flatten->k≠x->(k∈(iS gh Qn).flatten↔k∉told)
 b:∀k,k∈(iS gh Qn).flatten->k∉(iS gh Qb).flatten->k=x/\rem=false
 c:rem=false->x∈(iS gh Qb).flatten->x∈(iS gh Qn).flatten\/x∈told
 d:rem=true->x∉(cY Qn).flatten/\told=[]
variable {p:aU}{c:Cp}{s s':St}
def vF(s:St){q:Nat}(hq:q<p.ap.length):(cH p s).aF.getD q []=ke p s q:=by unfold cH;exact jg _ _ hq
def sq(s:St):(cH p s).aF.length=p.ap.length:=by simp[cH]
def uj(s:St)(q:Nat):(ke p s q).map PE.key=(s.a.ls q).map λn=>(s.a.val n).key:=by unfold ke;rw[List.map_map];rfl
def AC:k∈(iS (λq=>p.ap.getD q false) (cH p s).aF).flatten↔fP (aB p c) s k:=by
 unfold iS;rw[List.mem_flatten,sq];constructor
 ·rintro⟨l,h1,h2⟩;obtain⟨q,hq,rfl⟩:=List.mem_map.1 h1;rw[List.mem_range]at hq;split at h2
  ·cases h2
  ·next hg=>
   rw[vF s hq,uj]at h2;obtain⟨n,hn,hk⟩:=List.mem_map.1 h2;refine⟨q,n,hq,?_,hn,hk⟩;have:p.ap.getD q false=false:=by cases e:p.ap.getD q false with
    |false=>rfl
    |true=>exact absurd e hg
   exact this
 ·rintro⟨q,n,hq,hg,hn,hk⟩;refine⟨_,List.mem_map.2 ⟨q,List.mem_range.2 hq,rfl⟩,?_⟩;have Z5:p.ap.getD q false=false:=hg;have PN:¬p.ap.getD q false=true:=by rw[Z5];decide
  rw[ax PN,vF s hq,uj];exact List.mem_map.2 ⟨n,hn,hk⟩
def wL:(cY (cH p s).aF).flatten=(((List.range p.ap.length).map s.a.ls).flatten).map λn=>(s.a.val n).key:=by rw[List.map_flatten];congr 1;unfold cY cH;rw[List.map_map,List.map_map];refine List.map_congr_left λq _=>?_;exact uj s q
def AD(hI:Inv (aB p c) s):(cY (cH p s).aF).flatten.Nodup:=by rw[wL];refine List.pairwise_map.2 ((Lc hI.wf _ (aL _)).imp_of_mem ?_);intro a b ha X bt e;obtain⟨q,hq,hm⟩:=gZ.1 ha;obtain⟨q',Ol,jw⟩:=gZ.1 X;exact bt (hI.one hq Ol hm jw e)
def sm.ok{x:Nat}{told:List Nat}{rem:Bool}(h:sm (aB p c) s s' x told rem)(hI:Inv (aB p c) s)(UL:Inv (aB p c) s'):GU (λq=>p.ap.getD q false) (cH p s).aF (cH p s').aF told x rem:=by
 refine⟨AD hI,AD UL,λk h1 h2=>?_,λk h1 h2=>?_,λhr h1=>?_,λhr=>⟨λh1=>?_,(h.d hr).2⟩⟩
 ·rw[AC (c:=c)]at h1 ⊢;exact h.a k h2 h1
 ·rw[AC (c:=c)]at h1 h2;exact h.b k h1 h2
 ·rw[AC (c:=c)]at h1 ⊢;exact h.c hr h1
 ·rw[wL]at h1;obtain⟨n,hn,hk⟩:=List.mem_map.1 h1;obtain⟨q,hq,hm⟩:=gZ.1 hn;have:=(UL.idx x n).2 ⟨q,hq,hm,hk⟩;rw[(h.d hr).1]at this;cases this
def qm(gh:Nat->Bool)(Qs:List (List PE))(k:Nat):Nat:=cR k λq=>if gh q then 0 else(Qs.getD q []).length
def acJ{p:aU}{c:Cp}(s:St):qm (λq=>p.ap.getD q false) (cH p s).aF p.ap.length=gD (aB p c) s.a:=by unfold qm gD;refine wT λq hq=>?_;rw[vF s hq];unfold ke;rw[List.length_map];rfl
def aa4{p:aU}{c:Cp}{s:St}(h:Inv (aB p c) s):qm (λq=>p.ap.getD q false) (cH p s).aF p.ap.length<=c.size.toNat:=by rw[acJ (c:=c)];exact h.O5
def acI{gh:Nat->Bool}{Qs:List (List PE)}{k n:Nat}(h:k<=n):qm gh Qs k<=qm gh Qs n:=by
 induction n with
 |zero=>obtain rfl:k=0:=G
        exact aL _
 |succ n ih=>
  by_cases e:k=n+1
  ·subst e;exact aL _
  ·exact bS (ih G) (fo _ _)
def acG(s:St):∀k,(((List.range k).map s.a.ls).flatten).length=cR k λq=>(s.a.ls q).length:=by
 intro k
 induction k with
 |zero=>rfl
 |succ k ih=>rw[List.range_succ,List.map_append,List.flatten_append,mT,ih];simp[cR]
end
end al.Vm
section
def SD{p:Prop}(h:p:=by
 rintro a W ⟨J,i,-,-,-,-,-,-,-,-,h1,h2,-⟩;omega):p:=h
namespace Go.Vf
open Go.RowKit al.Vm
open al hiding aS aw an
open Ma (dW cy bd vb aK a_)
def FR(J:Nat->to):Act:={tmps:=#[J 0,J 1,J 2,J 3,J 4,J 5,J 6,J 7,J 8,J 9,J 10,J 11,J 12,J 13,J 14,J 15,J 16,J 17,J 18,J 19,J 20,J 21,J 22,J 23,J 24,J 25,J 26,J 27,J 28,J 29,J 30,J 31,J 32,J 33,J 34,J 35,J 36,J 37,J 38,J 39,J 40,J 41,J 42,J 43,J 44,J 45,J 46,J 47,J 48,J 49,J 50,J 51,J 52,J 53,J 54,J 55,J 56,J 57,J 58,J 59,J 60,J 61,J 62,J 63,J 64,J 65,J 66,J 67,J 68,J 69,J 70,J 71,J 72,J 73,J 74,J 75,J 76,J 77,J 78,J 79,J 80,J 81,J 82,J 83,J 84,J 85,J 86,J 87,J 88,J 89,J 90,J 91,J 92,J 93,J 94,J 95,J 96,J 97,J 98,J 99,J 100,J 101,J 102,J 103,J 104,J 105,J 106,J 107,J 108,J 109,J 110,J 111,J 112,J 113,J 114],defers:=[]}
def FR.of(A:Array to)(h:A=(FR λk=>A.getD k undef).tmps):({tmps:=A,defers:=[]}:Act)=FR λk=>A.getD k undef:=by rw[h];rfl
noncomputable def rnL(k:Nat):Code:=((nG (Proofs.Tryz.f91.body.getD .skip))[k]?).getD .skip
def Lv(w:ek)(p:aU)(e:Ending)(w':ek):Prop:=∃vv yx ms,e=Xc (.tuple #[vv,.agg #[yx,Y ms],.agg #[Y (a8 p).1,Y (a8 p).2]])/\(∃x y z,yx=H x y z)/\Below w.heap.size w w'/\(∀b,yx.ownBlock=O b->w.heap.size<=b)/\
 ((a8 p).1=0->ms=(b_ p p.aV:Nat)/\aY w' 1 yx p.on.length (λi=> Y (b_ p (p.on.getD i 0):Nat)))
section
variable {w:ek}{K:Kp}{p:aU}
def adQ(pb vb:Nat)(bl:List Int)(W4:ek)(a:Act)(W:ek):Prop:=∃(J:Nat->to) (bv:to),a=FR J/\J 1=Oi pb/\J 3=Oi (pb+1)/\J 4=Oi (pb+1+1)/\J 6=Oi vb/\J 7=bv/\
 Hid (Row W 3 1 bv bl.length (bd bl))/\Hid (nQ W4.heap.size W.heap.size bv)/\Hid (Below W4.heap.size W4 W)
def GF(l:List Int)(n:Int){W:ek}{v:to}(h:Row W 3 1 v (l.length+1) (gQ (l.length*1) (bd l) λ_=> Y n)):Row W 3 1 v (l++[n]).length (bd (l++[n])):=by
 rw[mT];refine h.congr λo ho=>?_;unfold gQ bd;rw[Nat.mul_one];by_cases e:o<l.length
 ·rw[aE e,dQ,dQ,uQ e]
 ·obtain rfl:o=l.length:=G;rw[ax G,dQ,uP (aL _)];simp
def adP:(prog.info? 233).map (λi=>(i.zero,i.size,i.bytes))=O (O (ey false C8 Xd),13,128):=by kernel_rfl
def Lw{R:Ending->ek->Prop}{A:Array to}{W:ek}{cb fb:Nat}{x y u v vv:to}(h2:A.getD 2 undef=vv)(h3:A.getD 3 undef=Oi cb)(h4:A.getD 4 undef=Oi fb)(kc:aH W cb 97 #[x,y])(kf:aH W fb 99 #[u,v])
 (hR:R (Xc (.tuple #[vv,.agg #[x,y],.agg #[u,v]])) W):Exit.noGoto (bodyPost prog Proofs.Tryz.f91 R) .ret {tmps:=A,defers:=[]} W:=by
 obtain⟨c0,c1⟩:=kc.c2;obtain⟨f0,f1⟩:=kf.c2;rw[jO];rw[Aj]at h2 h3 h4;refine bR (v:= .tuple #[vv,.agg #[x,y],.agg #[u,v]]) ?_ rfl hR;simp[results,results91,go_sem,h2,h3,h4,c0,c1,f0,f1]
def D0{A:Array to}{W:ek}{pb:Nat}(hpb:w.heap.size=pb)(h2:A.getD 2 undef= .pointer Xb)(h3:A.getD 3 undef=Oi (pb+1))(h4:A.getD 4 undef=Oi (pb+1+1))(kc:aH W (pb+1) 97 #[Xd,Y 0])(kf:aH W (pb+1+1) 99 #[Y 0,Y 0])
 (X:Below pb w W) {e at_:Int} (hv:a8 p=(e,at_)) (bt:e≠0):Exit.noGoto (bodyPost prog Proofs.Tryz.f91 (Lv w p)) .ret {tmps:=A,defers:=[]} ((((W.setCell (I (pb+1) 0) Xd).setCell (I (pb+1) 1) (Y 0)).setCell (I (pb+1+1) 0) (Y e)).setCell (I (pb+1+1) 1) (Y at_)):=by
 subst hpb;have n1:w.heap.size+1≠w.heap.size+1+1:=G;refine Lw h2 h3 h4 ((((kc.set 0 Xd).set 1 (Y 0)).other n1 0 (Y e)).other n1 1 (Y at_)) ((((kf.other n1.symm 0 Xd).other n1.symm 1 (Y 0)).set 0 (Y e)).set 1 (Y at_)) ?_;refine⟨.pointer Xb,Xd,0,by rw[hv],⟨_,_,_,rfl⟩,(((X.setCell (p:=(I (w.heap.size+1) 0)) az _).setCell (p:=(I (w.heap.size+1) 1)) az _).setCell (p:=(I (w.heap.size+1+1) 0)) kZ _).setCell (p:=(I (w.heap.size+1+1) 1)) kZ _,(λb X=>by cases X),λh=>?_⟩;rw[hv]at h;exact absurd h bt
def Bn(bl:List Int)(i:Nat):Map:=λpc=>if(bl.take i).contains (pc:Int)then O ⟨[],[],0⟩else Xb
def iN(bl:List Int){i:Nat}(h:i<bl.length):bl.take (i+1)=bl.take i++[bl.getD i 0]:=by rw[Kz h,dQ,ft h];rfl
def adO{bl:List Int}{i:Nat}(h:i<bl.length)(hn:bl.getD i 0<0):Bn bl (i+1)=Bn bl i:=by
 funext pc;unfold Bn;rw[iN bl h];generalize bl.getD i 0=z at*;have:((bl.take i++[z]).contains (pc:Int))=(bl.take i).contains (pc:Int):=by rw[jH];simp;omega
 rw[this]
def aay{bl:List Int}{i m:Nat}(h:i<bl.length)(hn:bl.getD i 0=m):Bn bl (i+1)=aS (Bn bl i) m (O ⟨[],[],0⟩):=by
 funext pc;rw[dw];unfold Bn;rw[iN bl h,hn];by_cases e:pc=m
 ·subst e;rw[aE rfl,aE az]
 ·rw[ax e];have:((bl.take i++[(m:Int)]).contains (pc:Int))=(bl.take i).contains (pc:Int):=by rw[jH];simp;omega
  rw[this]
def gj{β:Type}(f:Nat->β)(i:Nat):aS f i (f i)=f:=by
 funext j;rw[dw];split
 ·next e=>rw[e]
 ·rfl
def RN1(W4:ek)(p:aU)(pb vb A:Nat)(bv:to)(bl:List Int)(m:Nat)(a:Act)(W:ek):Prop:=
 ∃(J:Nat->to) (i:Nat),a=FR J/\J 1=Oi pb/\J 3=Oi (pb+1)/\J 4=Oi (pb+1+1)/\J 6=Oi vb/\J 7=bv/\J 37=bv/\J 38=Y bl.length/\J 39=Y i/\
  i<=bl.length/\m+i=bl.length+1/\Hid (aC [A] W4 W)/\Hid (js W (H (O (I A 0)) p.code.length p.code.length) p.code.length (Bn bl i) (λ_=> Xd))
section
variable {W4:ek}{pb vb A:Nat}{bv:to}{bl:List Int}{Q:Exit->Act->ek->Prop}
def rn1(HV:Hid (aH W4 vb 230 (uf K p (H (O (I A 0)) p.code.length p.code.length))))(af:Hid (vb≠A))(Ey:Hid (Row W4 3 1 bv bl.length (bd bl)))(HBA:Hid (∀b,bv.ownBlock=O b->b≠A))(hl:bl.length<=17)(mY:Hid (∀i,i<bl.length->-1<=bl.getD i 0/\bl.getD i 0<p.code.length))(hlen:p.code.length<=262144)
 (dD:∀(J:Nat->to) W,J 1=Oi pb->J 3=Oi (pb+1)->J 4=Oi (pb+1+1)->J 6=Oi vb->J 7=bv->aC [A] W4 W->js W (H (O (I A 0)) p.code.length p.code.length) p.code.length (Bn bl bl.length) (λ_=> Xd)->Q (.exit 0) (FR J) W)
 {a:Act} {W:ek} (h:RN1 W4 p pb vb A bv bl (bl.length+1) a W):(Code.loop (rnL 0)).wp prog Q a W:=by
 refine Mk.aM (λm a W=>RN1 W4 p pb vb A bv bl m a W) (bl.length+1) h ?_ ?_
 ·rintro a W ⟨J,i,-,-,-,-,-,-,-,-,-,h1,h2,-⟩;omega
 rintro m a0 W ⟨J,i,rfl,j1,j3,j4,j6,j7,j37,j38,j39,hi,hm,HF,HS⟩;unfold FR
 conv=>arg 2;whnf
 have w2:=mr i G;rw[j1,j3,j4,j6,j7,j37,j38,j39];clear j1 j3 j4 j6 j7 j37 j38 j39;by_cases be:i<bl.length
 ·obtain⟨b,cap,YF,q1,q2,lb⟩:=Ey.o.some G;have NJ:=Z YF;have hr:=Ey.o;rw[YF]at hr;have c0:Xf W (I b i)=O (Y (bl.getD i 0)):=(aR (HF.o.block _ lb (by have:=HBA.o b (by rw[YF];rfl);simpa using this))).trans (hr.cell (o:=i) G);have lbW:b<W.heap.size:=dC lb HF.o.size;have fi:=mY.o i be;have dm:=Z be;clear hr YF lb;rw[NJ.o];obtain⟨z,hz⟩:∃z,bl.getD i 0=z:=⟨_,rfl⟩;rw[hz]at c0 fi;have HZ:=Z hz;clear hz;by_cases je:0<=z
  ·obtain⟨n,rfl⟩:=eS je;have hn:n<p.code.length:=G;have hv:aH W vb 230 (uf K p (H (O (I A 0)) p.code.length p.code.length)):=HV.o.aG HF.o (by have:=af.o;simpa using this);have v6:Xf W (I vb 6)=O (H (O (I A 0)) p.code.length p.code.length):=hv.cell 6;have lv0:=hv.lt;have xz:∀o,W.frozen? (I A o)=false:=λo=>HS.o.row.frozen o;have hAl:A<W.heap.size:=(HS.o.row.slice).2.2.2;have hold:∀k,k<13->∃v,Xf W (I A (n*13+k))=O v:=λk hk=>⟨_,HS.o.row.cell (o:=n*13+k) G⟩;obtain⟨u0,o0⟩:=hold 0 G;obtain⟨u1,o1⟩:=hold 1 G;obtain⟨u2,o2⟩:=hold 2 G;obtain⟨u3,o3⟩:=hold 3 G;obtain⟨u4,o4⟩:=hold 4 G;obtain⟨adX,o5⟩:=hold 5 G;obtain⟨aaA,o6⟩:=hold 6 G;obtain⟨adW,o7⟩:=hold 7 G;obtain⟨u8,o8⟩:=hold 8 G;obtain⟨u9,o9⟩:=hold 9 G;obtain⟨u10,o10⟩:=hold 10 G;obtain⟨u11,o11⟩:=hold 11 G;obtain⟨u12,o12⟩:=hold 12 G;simp only[Nat.add_zero]at o0;have HP:=Z (js.put (s:=⟨[],[],0⟩) (mz:=Xd) HS.o hn (.inl ⟨rfl,rfl⟩) (λb X=>by cases X) rfl);clear hold hv;go_wp2_with fail
   try rw[<-NJ.o]
   refine⟨_,i+1,FR.of _ rfl,rfl,rfl,rfl,rfl,(by first|rfl|exact NJ.o),(by first|rfl|exact NJ.o),rfl,rfl,dm.o,G,Z (HF.o.trans HP.o.2),Z ?_⟩;rw[aay dm.o HZ.o,<-gj (λ_=>Value.slice Xb 0 0) n];exact HP.o.1
  ·have hd:decide (0<=z)=false:=by simpa using je
   have HZ0:=Z je;clear je;go_wp2_with fail
   try rw[<-NJ.o]
   refine⟨_,i+1,FR.of _ rfl,rfl,rfl,rfl,rfl,(by first|rfl|exact NJ.o),(by first|rfl|exact NJ.o),rfl,rfl,dm.o,G,HF,Z ?_⟩;rw[adO dm.o (by rw[HZ.o];have:=HZ0.o;omega)];exact HS.o
 ·obtain rfl:i=bl.length:=G;clear be;go_wp2;exact Eq.mpr (bo (λa=>Q (.exit 0) a W) (FR.of _ rfl)) (dD _ _ rfl rfl rfl rfl rfl HF.o HS.o)
def RN2(w W5:ek)(p:aU)(pb vb A:Nat)(bv:to)(m:Nat)(a:Act)(W:ek):Prop:=
 ∃(J:Nat->to) (i:Nat),a=FR J/\J 1=Oi pb/\J 3=Oi (pb+1)/\J 4=Oi (pb+1+1)/\J 6=Oi vb/\J 7=bv/\J 55=Y p.code.length/\J 56=Y i/\
  i<=p.code.length/\m+i=p.code.length+1/\Hid (aC [A] W5 W)/\∃T mv,Hid (js W (H (O (I A 0)) p.code.length p.code.length) p.code.length T mv)/\Hid (TOk p T)/\Hid (looks p p.code.length 0 (dH p)=looks p (p.code.length-i) i T)
def rn2{W5:ek}(a0g:Hid (gM w K p))(Yu:Hid (w.heap.size<=A))(OL:Hid (Below w.heap.size w W5))(HV:Hid (aH W5 vb 230 (uf K p (H (O (I A 0)) p.code.length p.code.length))))(af:Hid (vb≠A))(HCD:Hid (∀i,i∈p.code->jX i=true/\iU p i=true))(hlen:p.code.length<=262144)
 (jD:∀(A9:Array to) W (i:Nat) (e:Int),A9.getD 2 undef= .pointer Xb->A9.getD 3 undef=Oi (pb+1)->A9.getD 4 undef=Oi (pb+1+1)->aC [A] W5 W->e≠0->looks p p.code.length 0 (dH p)= .inl (e,i)->Q .ret {tmps:=A9,defers:=[]} ((((W.setCell (I (pb+1) 0) Xd).setCell (I (pb+1) 1) (Y 0)).setCell (I (pb+1+1) 0) (Y e)).setCell (I (pb+1+1) 1) (Y i)))
 (Dq:Hid (aH W5 (pb+1) 97 #[Xd,Y 0])) (Qu:Hid (aH W5 (pb+1+1) 99 #[Y 0,Y 0])) (HCA:Hid (pb+1+1<A))
 (dD:∀(J:Nat->to) W T,J 1=Oi pb->J 3=Oi (pb+1)->J 4=Oi (pb+1+1)->J 6=Oi vb->J 7=bv->aC [A] W5 W->looks p p.code.length 0 (dH p)= .inr T->Q (.exit 2) (FR J) W)
 {a:Act} {W:ek} (h:RN2 w W5 p pb vb A bv (p.code.length+1) a W):(Code.loop (rnL 1)).wp prog Q a W:=by
 refine Mk.aM (λm a W=>RN2 w W5 p pb vb A bv m a W) (p.code.length+1) h ?_ ?_
 ·exact SD
 rintro m a0 W ⟨J,i,rfl,j1,j3,j4,j6,j7,j55,j56,hi,hm,HF,T,mv,HS,HT,xC⟩;unfold FR
 conv=>arg 2;whnf
 have w2:=mr i G;rw[j1,j3,j4,j6,j7,j55,j56];clear j1 j3 j4 j6 j7 j55 j56;by_cases be:i<p.code.length
 ·have yw:Below w.heap.size w W:=OL.o.trans (HF.o.below OL.o.size (by have:=Yu.o;simpa using this));have DT:=Z (JA (a0g.o.aG (aC.ai yw)) (HV.o.aG HF.o (by have:=af.o;simpa using this)) HS.o HT.o be hlen (HCD.o _ (eM be)).1 (HCD.o _ (eM be)).2);have dm:=Z be;have zQ:looks p (p.code.length-i) i T=if dt p T i=0 then looks p (p.code.length - (i+1)) (i+1) (jQ p T i)else .inl (dt p T i,i):=by rw[show p.code.length-i=(p.code.length - (i+1))+1 by omega];rfl
  have sE:=Z zQ;have hle:=ad4 HT.o (pc:=i) (by have:=(HCD.o _ (eM be)).1;unfold jX aP at this;simp at this;exact this.2);have Da:=Z hle;clear zQ yw be hle;go_wp2_with fail
  with_reducible refine DT.o.mono ?_
  rintro e W6 ⟨rfl,uA,fY⟩;have Oq:=Z (HF.o.trans uA);have l_:=Z fY;clear uA fY DT;by_cases he:dt p T i=0
  ·rw[he];have HE:=Z he;clear he;go_wp2_with fail;obtain⟨Ro,EN⟩:=l_.o HE.o;refine⟨_,i+1,FR.of _ rfl,rfl,rfl,rfl,rfl,rfl,rfl,rfl,dm.o,G,Oq,jQ p T i,Ro,Z EN,Z (Da.o HE.o),Z ?_⟩;rw[xC.o,sE.o,aE HE.o]
  ·have X:(dt p T i !=0)=true:=by simpa using he
   have HE:=Z he;have Tc:=Z (show looks p p.code.length 0 (dH p)= .inl (dt p T i,i)by rw[xC.o,sE.o,ax he]);have kc:=Dq.o.aG Oq.o (by have:=HCA.o;simp;omega);have kf:=Qu.o.aG Oq.o (by have:=HCA.o;simp;omega);obtain⟨z0,z1⟩:=kc.c2;obtain⟨z2,z3⟩:=kf.c2;have z4:=kc.frozen;have z5:=kf.frozen;have z6:=kf.lt;clear kc kf he;generalize dt p T i=le at*;go_wp2;exact jD _ _ _ _ rfl rfl rfl Oq.o HE.o Tc.o
 ·obtain rfl:i=p.code.length:=G;clear be;go_wp2;exact Eq.mpr (bo (λa=>Q (.exit 2) a W) (FR.of _ rfl)) (dD _ _ T rfl rfl rfl rfl rfl HF.o (by rw[xC.o,Nat.sub_self];rfl))
def Bo(p:aU)(bl:List Int)(k:Nat):to:=Y (b_ p (bl.getD k 0):Nat)
def yy(p:aU)(bl:List Int){i:Nat}{W:ek}{v:to}{n:Int}(hn:n=(b_ p (bl.getD i 0):Nat))(h:Row W 3 1 v (i+1) (gQ i (Bo p bl) λ_=> Y n)):Row W 3 1 v (i+1) (Bo p bl):=by
 refine h.congr λo ho=>?_;unfold gQ;by_cases e:o<i
 ·rw[aE e]
 ·rw[ax e];obtain rfl:o=i:=G;subst hn;rfl
def o_(p:aU)(bl:List Int){i:Nat}(h:i<bl.length):bH p (bl.drop i)=if MF<b_ p (bl.getD i 0)then O (bl.getD i 0)else bH p (bl.drop (i+1)):=by rw[uY h,dQ,ft h];rfl
def RN3(W7:ek)(p:aU)(pb vb:Nat)(bv fv:to)(bl:List Int)(m:Nat)(a:Act)(W:ek):Prop:=
 ∃(J:Nat->to) (i:Nat) (lv:to),a=FR J/\J 1=Oi pb/\J 3=Oi (pb+1)/\J 4=Oi (pb+1+1)/\J 6=Oi vb/\J 12=fv/\J 13=lv/\J 71=bv/\J 72=Y bl.length/\J 73=Y i/\
  i<=bl.length/\m+i=bl.length+1/\Hid (Below W7.heap.size W7 W)/\Hid (Row W 3 1 lv i (Bo p bl))/\Hid (∀b,lv.ownBlock=O b->W7.heap.size<=b)/\Hid (bH p bl=bH p (bl.drop i))
def Rt{p:Prop}(h:p:=by
 have F1:=Z f1;have F2:=Z f2;have F3:=Z f3;clear bC hf hv f1 f2 f3;go_wp2_with fail
 try rw[<-NJ.o]
 refine⟨_,i+1,v',FR.of _ rfl,rfl,rfl,rfl,rfl,rfl,rfl,(by first|rfl|exact NJ.o),rfl,rfl,dm.o,G,F1,F2,F3,px⟩):p:=h
def rn3{W7:ek}{fb fc:Nat}(Ey:Hid (Row W7 3 1 bv bl.length (bd bl)))(HFV:Hid (Row W7 3 1 (H (O (I fb 0)) p.code.length fc) p.code.length (gC (mi p))))(hl:bl.length<=17)(mY:Hid (∀i,i<bl.length->-1<=bl.getD i 0/\bl.getD i 0<p.code.length))(hlen:p.code.length<=262144)
 (Dq:Hid (aH W7 (pb+1) 97 #[Xd,Y 0])) (Qu:Hid (aH W7 (pb+1+1) 99 #[Y 0,Y 0]))
 (jD:∀(A9:Array to) W (n:Int),A9.getD 2 undef= .pointer Xb->A9.getD 3 undef=Oi (pb+1)->A9.getD 4 undef=Oi (pb+1+1)->Below W7.heap.size W7 W->bH p bl=O n->Q .ret {tmps:=A9,defers:=[]} ((((W.setCell (I (pb+1) 0) Xd).setCell (I (pb+1) 1) (Y 0)).setCell (I (pb+1+1) 0) (Y 97)).setCell (I (pb+1+1) 1) (Y n)))
 (dD:∀(J:Nat->to) W lv,J 1=Oi pb->J 3=Oi (pb+1)->J 4=Oi (pb+1+1)->J 6=Oi vb->J 13=lv->Below W7.heap.size W7 W->Row W 3 1 lv bl.length (Bo p bl)->(∀b,lv.ownBlock=O b->W7.heap.size<=b)->bH p bl=Xb->Q (.exit 4) (FR J) W)
 {a:Act} {W:ek} (h:RN3 W7 p pb vb bv (H (O (I fb 0)) p.code.length fc) bl (bl.length+1) a W):(Code.loop (rnL 2)).wp prog Q a W:=by
 refine Mk.aM (λm a W=>RN3 W7 p pb vb bv (H (O (I fb 0)) p.code.length fc) bl m a W) (bl.length+1) h ?_ ?_
 ·rintro a W ⟨J,i,lv,-,-,-,-,-,-,-,-,-,-,h1,h2,-⟩;omega
 rintro m a0 W ⟨J,i,lv,rfl,j1,j3,j4,j6,h_,sW,j71,j72,j73,hi,hm,HB,HR,HO,HE⟩;unfold FR
 conv=>arg 2;whnf
 have w2:=mr i G;rw[j1,j3,j4,j6,h_,sW,j71,j72,j73];clear j1 j3 j4 j6 h_ sW j71 j72 j73;by_cases be:i<bl.length
 ·obtain⟨b,cap,YF,q1,q2,lb⟩:=Ey.o.some G;have NJ:=Z YF;have hr:=Ey.o.aG (aC.ai (S:=[]) HB.o) az;rw[YF]at hr;have c0:Xf W (I b i)=O (Y (bl.getD i 0)):=hr.cell (o:=i) G;have lbW:b<W.heap.size:=ay c0;have fi:=mY.o i be;have dm:=Z be;have GG:=Z (o_ p bl be);have kM:Hid (i+1<=maxLen/\(i+1)*8<=140737488355328):=Z ⟨by unfold maxLen;omega,G⟩;have hlz:NJ.o=NJ.o:=rfl;clear hr YF lb hlz;rw[NJ.o];have ia:∃la ln lc,lv=H la ln lc:=by rcases HR.o.val with⟨h,-⟩|⟨_,_,h,-⟩<;>exact⟨_,_,_,h⟩
  obtain⟨z,hz⟩:∃z,bl.getD i 0=z:=⟨_,rfl⟩;rw[hz]at c0 fi GG;have HZ:=Z hz;clear hz;have fin:∀(n:Int) (V:ek) (v':to) (w1:ek),Below W.heap.size W V->n=(b_ p z:Nat)->Row w1 3 1 v' (i+1) (gQ i (Bo p bl) λ_=> Y n)->aC lv.ownBlock.toList V w1->(v'.ownBlock=lv.ownBlock\/v'.ownBlock=O V.heap.size)->
   Below W7.heap.size W7 w1/\Row w1 3 1 v' (i+1) (Bo p bl)/\(∀b,v'.ownBlock=O b->W7.heap.size<=b):=λn V v' w1 hv hn hr hf ho=>by
   have h1:Below W7.heap.size W7 V:=HB.o.trans (hv.mono HB.o.size);refine⟨h1.trans (hf.below h1.size (λb X=>HO.o b (by simpa using X))),yy p bl (by rw[HZ.o];exact hn) hr,λb X=>?_⟩;rcases ho with h|h
   ·exact HO.o b (by rw[<-h];exact X)
   ·rw[h]at X;have:=fT X;have:=h1.size;omega
  have JE:=Z fin;clear fin;by_cases je:z<0
  ·have t_:(0:Int)=(b_ p z:Nat):=by unfold b_;rw[aE je];rfl
   have KZ:=Z t_;have px:=Z (show bH p bl=bH p (bl.drop (i+1))by rw[HE.o,GG.o,ax (by have:=KZ.o;unfold MF;omega)]);have hd:decide (z<0)=true:=by simpa using je
   clear t_ je;go_wp2_with (at_builtin;refine cG rfl _ _ 24 rfl 3 underlying24 cA rfl bz lv i (Bo p bl) rfl (HR.o.alloc _) (I W.heap.size 0) 1 1 (λ_=> Y 0) rfl ?Bg (λ_ _=>rfl) kM.o.1 kM.o.2 ?_)
   case Bg=>intro j hj;obtain rfl:j=0:=G;exact(aH.new W 3 #[Y 0]).cell 0
   intro v' w1 bC hf hv;obtain⟨f1,f2,f3⟩:=JE.o 0 _ v' w1 ((aZ _ _).alloc (aL _) _) KZ.o bC hf (by simpa using hv);exact Rt
  ·obtain⟨n,rfl⟩:=eS (by omega:0<=z);have hn:n<p.code.length:=G;have hfc:Xf W (I fb n)=O (Y (mi p n:Nat)):=(HFV.o.aG (aC.ai (S:=[]) HB.o) az).cell (o:=n) G;have t_:b_ p (n:Int)=mi p n:=by unfold b_;rw[ax G];rfl
   rw[t_]at GG JE;have lfb:=ay hfc;clear je;generalize mi p n=fu at*;clear t_;by_cases vm:MF<fu
   ·have px:=Z (show bH p bl=O (n:Int)by rw[HE.o,GG.o,aE vm]);have JF:1152921504606846976<fu:=vm;have kc:=Dq.o.of (HB.o.block _ Dq.o.lt);have kf:=Qu.o.of (HB.o.block _ Qu.o.lt);obtain⟨z0,z1⟩:=kc.c2;obtain⟨z2,z3⟩:=kf.c2;have z4:=kc.frozen;have z5:=kf.frozen;have z6:=kf.lt;clear kc kf vm;go_wp2;exact jD _ _ _ rfl rfl rfl HB.o px.o
   ·have px:=Z (show bH p bl=bH p (bl.drop (i+1))by rw[HE.o,GG.o,ax vm]);have JF:¬1152921504606846976<fu:=vm;have Rs:fu<=1152921504606846976:=G;clear vm JF;go_wp2_with (at_builtin;refine cG rfl _ _ 24 rfl 3 underlying24 cA rfl bz lv i (Bo p bl) rfl (HR.o.alloc _) (I W.heap.size 0) 1 1 (λ_=> Y (fu:Nat)) rfl ?Bg (λ_ _=>rfl) kM.o.1 kM.o.2 ?_)
    case Bg=>intro j hj;obtain rfl:j=0:=G;exact(aH.new W 3 #[Y (fu:Nat)]).cell 0
    intro v' w1 bC hf hv;obtain⟨f1,f2,f3⟩:=JE.o (fu:Nat) _ v' w1 ((aZ _ _).alloc (aL _) _) rfl bC hf (by simpa using hv);exact Rt
 ·obtain rfl:i=bl.length:=G;clear be;go_wp2;exact Eq.mpr (bo (λa=>Q (.exit 4) a W) (FR.of _ rfl)) (dD _ _ _ rfl rfl rfl rfl rfl HB.o HR.o HO.o (by rw[HE.o,List.drop_length];rfl))
end
end
end Go.Vf
end
section
def qX5{p:Prop}(h:p:=by
 have y0:=key _ _ _ lp p0;have y1:=key _ _ _ lp p1;have y2:=key _ _ _ lp p2;have y3:=key _ _ _ lp p3;have y4:=key _ _ _ lp p4;have y5:=key _ _ _ lp p5;exact qZ):p:=h
def ZV{p:Prop}(h:p:=by
 have key:∀b i v,b<W1.heap.size->Xf W1 (I b i)=O v->Xf wz (I b i)=O v:=λb i v X hc=>(aR (fF.block _ X)).trans hc;exact qX5):p:=h
namespace Go.Vf
open Go.RowKit al.Vm
open al hiding aS aw an
open Ma (dW cy bd vb aK a_)
section
variable {w:ek}{K:Kp}{p:aU}
def RF{p:Prop}(h:p:=by
 intro wz fF;have y0:=(aR (fF.block _ lp QG.o)).trans q3;exact qZ):p:=h
def YG{p:Prop}(h:p:=by
 have h2:=(gW Qh b X).2;rcases WR with h|h
 ·exact⟨VE b (by rw[<-h];exact X),h2⟩
 ·rw[h]at X;have h3:=fT X;have h4:=au.size;exact⟨G,h2⟩):p:=h
def ju{p:Prop}(h:p:=by
 intro wz fF;exact qZ):p:=h
def adV(h:gM w K p):Calls prog 91 #[pV K p] w (Lv w p):=by
 obtain⟨⟨ga,gc,g1,g2,g3⟩,⟨va,vc,v1,v2,v3⟩,⟨ta,tc,t1,t2,t3⟩,⟨oa,oc,o1,o2,o3⟩,⟨ca,cc,c1,c2,c3⟩⟩:=h.sl;have OM:=Z (λV (X:Below w.heap.size w V)=>DL (w:=V) (h.aG (aC.ai X)));have a0g:=Z h;have HK:=Z (And.intro g1 (And.intro v1 (And.intro t1 (And.intro o1 c1))));unfold pV at OM ⊢;rw[g1,v1,t1,o1,c1]at OM ⊢;have hB:∀cs T w_ T2 cs3 T3,Below w.heap.size w (((w.alloc (Xe cs T)).alloc (Xe w_ T2)).alloc (Xe cs3 T3)):=λcs T w_ T2 cs3 T3=>(((aZ _ _).alloc (aL _) _).alloc az _).alloc kZ _;have HB:=Z hB;clear h hB g1 v1 t1 o1 c1 g2 g3 v2 v3 t2 t3 o2 o3 c2 c3;go_enter func91,ntmps91;have kp:aH (((w.alloc (Xe #[H ga p.ap.length gc,H va p.vars.length vc,H ta p.aW.length tc,H oa p.on.length oc,Y p.aV,H ca p.code.length cc] 27)).alloc (Xe #[Xd,Y 0] 97)).alloc (Xe #[Y 0,Y 0] 99)) w.heap.size 27 #[H ga p.ap.length gc,H va p.vars.length vc,H ta p.aW.length tc,H oa p.on.length oc,Y p.aV,H ca p.code.length cc]:=((aH.new w _ _).alloc _).alloc _;have kc:aH (((w.alloc (Xe #[H ga p.ap.length gc,H va p.vars.length vc,H ta p.aW.length tc,H oa p.on.length oc,Y p.aV,H ca p.code.length cc] 27)).alloc (Xe #[Xd,Y 0] 97)).alloc (Xe #[Y 0,Y 0] 99)) (w.heap.size+1) 97 #[Xd,Y 0]:=(aH.bK az).alloc _;have kf:aH (((w.alloc (Xe #[H ga p.ap.length gc,H va p.vars.length vc,H ta p.aW.length tc,H oa p.on.length oc,Y p.aV,H ca p.code.length cc] 27)).alloc (Xe #[Xd,Y 0] 97)).alloc (Xe #[Y 0,Y 0] 99)) (w.heap.size+1+1) 99 #[Y 0,Y 0]:=aH.bK az;have qt:(((w.alloc (Xe #[H ga p.ap.length gc,H va p.vars.length vc,H ta p.aW.length tc,H oa p.on.length oc,Y p.aV,H ca p.code.length cc] 27)).alloc (Xe #[Xd,Y 0] 97)).alloc (Xe #[Y 0,Y 0] 99)).heap.size=w.heap.size+1+1+1:=by simp
 have dG:=HB.o #[H ga p.ap.length gc,H va p.vars.length vc,H ta p.aW.length tc,H oa p.on.length oc,Y p.aV,H ca p.code.length cc] 27 #[Xd,Y 0] 97 #[Y 0,Y 0] 99;go_wp2;go_step3;go_wp2_with fail;generalize(((w.alloc (Xe #[H ga p.ap.length gc,H va p.vars.length vc,H ta p.aW.length tc,H oa p.on.length oc,Y p.aV,H ca p.code.length cc] 27)).alloc (Xe #[Xd,Y 0] 97)).alloc (Xe #[Y 0,Y 0] 99))=W0 at*
 with_reducible refine(OM.o _ dG).mono ?_
 rintro e W1 ⟨rfl,X⟩;have kp1:=kp.of (X.block _ kp.lt);have YD:=kc.of (X.block _ kc.lt);have kf1:=kf.of (X.block _ kf.lt);have dS:=Z (dG.trans (X.mono dG.size));have sE:Hid (w.heap.size+1+1+1<=W1.heap.size):=Z (by have:=X.size;omega);clear kp kc kf X dG qt HB;generalize hpb:w.heap.size=pb at*;have VF:=Z hpb;clear hpb;by_cases tV:bE p=0
 case neg=>
  have hv:a8 p=(bE p,0):=by unfold a8;rw[aE tV]
  have HV:=Z hv;have bt:(bE p !=0)=true:=by simpa using tV
  have hz:bE p≠0:=tV;have HZ:=Z hz;generalize bE p=ce at*;clear hv hz tV;obtain⟨c0,c1⟩:=YD.c2;obtain⟨f0,f1⟩:=kf1.c2;have z1:=YD.frozen;have z2:=kf1.frozen;have l2:=kf1.lt;have KC:=Z YD;have KF:=Z kf1;clear YD kf1 kp1;go_wp2;exact D0 VF.o rfl rfl rfl KC.o KF.o dS.o HV.o HZ.o
 rw[tV];obtain⟨tb,pw⟩:=cO tV;have VA:=Z tb;have mY:=Z pw;have hlen:p.code.length<=262144:=tb.code;have hon:p.on.length<=16:=by rw[tb.on];exact tb.g
 have VG:=Z tV;have KP:=Z kp1;have KC:=Z YD;have KF:=Z kf1;obtain⟨p0,p1,p2,p3,p4,p5⟩:=kp1.c6;have kM:Hid (128*p.code.length<=281474976710656/\p.code.length<=maxLen):=Z ⟨G,by unfold maxLen;omega⟩;clear kp1 YD kf1 tb pw tV OM;go_wp2_with fail;have lp:=KP.o.lt;refine Mk.bq (S:=λwx=>Below W1.heap.size W1 wx) bj (aA _ W1 1) (λau=>?_);refine Mk.tk 0 (v:=?_) rfl ?_ cJ ?_;rotate_left
 ·intro wz fF;exact ZV
 refine Mk.pt ?_;refine Mk.tk 1 (v:=?_) rfl ?_ cJ ?_;rotate_left
 ·exact ju
 refine Mk.pt ?_;refine Mk.tk 2 (v:=?_) rfl ?_ cJ ?_;rotate_left
 ·intro wz fF;have key:∀b i v,b<W1.heap.size->Xf W1 (I b i)=O v->Xf wz (I b i)=O v:=λb i v X hc=>(aR (fF.block _ X)).trans hc;have y0:=key _ _ _ lp p5;exact qZ
 refine Mk.pt ?_;refine Mk.tk 3 (v:=?_) rfl ?_ cJ ?_;rotate_left
 ·exact ju
 refine Mk.pt ?_;refine dM (rs:=[4]) bj az ?_;refine bX rfl (λK hK=>?_) cz;refine bU rfl (.tmp 26) (.tmp 26) 228 rfl 233 underlying228 adP rfl bz .i64 .i64 _ _ p.code.length rfl rfl rfl rfl kM.o.1 kM.o.2 ?_;intro W3 hr3 s_;have Gi:=au.trans (s_.mono au.size);clear au;refine hK.out _ _ Gi (λau=>?_);clear hK K;refine Mk.pt ?_;refine Mk.tk 5 (v:=?_) rfl ?_ cJ ?_;rotate_left
 ·exact ju
 refine Mk.pt ?_;refine dM (rs:=[6]) bj az ?_;refine bX rfl (λK hK=>?_) cz;refine fL ?_;go_simp;refine hK.out _ _ (au.alloc au.size _) (λau=>?_);clear hK K;refine Mk.pt ?_;refine Mk.tk 7 (v:=?_) rfl ?_ cJ ?_;rotate_left
 ·exact ju
 refine Mk.pt ?_;refine eT bj ⟨rfl,?_⟩ _;clear au;have hAW:W1.drew.heap.size=W1.heap.size:=rfl;have Wk:Below W1.heap.size W1 W3:=Gi;have fY:js W3 (H (O (I W1.heap.size 0)) p.code.length p.code.length) p.code.length (λ_=>Xb) (λ_=> Xd):=⟨hr3.congr λo ho=>rfl,λi hi=> .inl ⟨rfl,rfl⟩,λi hi b X=>by cases X⟩;have hvs:W3.heap.size<(W3.alloc (Xe #[H ga p.ap.length gc,H va p.vars.length vc,H ta p.aW.length tc,H oa p.on.length oc,Y p.aV,H ca p.code.length cc,H (O (I W1.heap.size 0)) p.code.length p.code.length] 230)).heap.size:=by simp
 have kv:aH (W3.alloc (Xe #[H ga p.ap.length gc,H va p.vars.length vc,H ta p.aW.length tc,H oa p.on.length oc,Y p.aV,H ca p.code.length cc,H (O (I W1.heap.size 0)) p.code.length p.code.length] 230)) W3.heap.size 230 #[H ga p.ap.length gc,H va p.vars.length vc,H ta p.aW.length tc,H oa p.on.length oc,Y p.aV,H ca p.code.length cc,H (O (I W1.heap.size 0)) p.code.length p.code.length]:=aH.new _ _ _;have Qg:=fY.aG ((aC.refl [] W3).alloc (Xe #[H ga p.ap.length gc,H va p.vars.length vc,H ta p.aW.length tc,H oa p.on.length oc,Y p.aV,H ca p.code.length cc,H (O (I W1.heap.size 0)) p.code.length p.code.length] 230));have xX:Below W1.heap.size W1 (W3.alloc (Xe #[H ga p.ap.length gc,H va p.vars.length vc,H ta p.aW.length tc,H oa p.on.length oc,Y p.aV,H ca p.code.length cc,H (O (I W1.heap.size 0)) p.code.length p.code.length] 230)):=Wk.alloc Wk.size _;have Bl:W1.heap.size<W3.heap.size:=(hr3.slice).2.2.2;clear hr3 s_ Gi Wk fY hAW;generalize hW4:W3.alloc (Xe #[H ga p.ap.length gc,H va p.vars.length vc,H ta p.aW.length tc,H oa p.on.length oc,Y p.aV,H ca p.code.length cc,H (O (I W1.heap.size 0)) p.code.length p.code.length] 230)=W4 at*;clear hW4;replace KP:=Z (KP.o.of (xX.block _ KP.o.lt));replace KC:=Z (KC.o.of (xX.block _ KC.o.lt));replace KF:=Z (KF.o.of (xX.block _ KF.o.lt));replace dS:=Z (dS.o.trans (xX.mono (by have:=sE.o;omega)));have HA:Hid (pb+1+1+1<=W1.heap.size):=sE;have hvA:W1.heap.size≠W3.heap.size:=G;generalize W1.heap.size=A at*;generalize W3.heap.size=vb9 at*;have KV:Hid (aH W4 vb9 230 (uf K p (H (O (I A 0)) p.code.length p.code.length))):=Z (by
  obtain⟨e1,e2,e3,e4,e5⟩:=HK.o;unfold uf;rw[e1,e2,e3,e4,e5];exact kv)
 have l_:=Z Qg;have Qi:=Z hvs;have HNV:=Z hvA;have wk:=Z Bl;clear kv Qg hvs hvA xX Bl p0 p1 p2 p3 p4 p5 lp;obtain⟨-,-,-,q3,q4⟩:=KP.o.c5;have lp:=KP.o.lt;have sI:=Z (λV (X:Below w.heap.size w V)=>qg (w:=V) (v:=H oa p.on.length oc) (n:=p.on.length) (g:=bd p.on) (by have h1:=a0g.o.o;rw[HK.o.2.2.2.1]at h1;exact h1.aG (aC.ai X)) G (λ_ _=>rfl));rw[VF.o]at sI;go_wp2;refine wp_mono (Q:=λe a W=>e=Exit.normal/\adQ pb vb9 (p.on++[p.aV]) W4 a W) ?_ ?_
 ·have Vs:Hid (pb<=W4.heap.size):=Z (by have:=HA.o;have:=wk.o;have:=Qi.o;omega);refine Mk.bq (S:=λwx=>Below W4.heap.size W4 wx) bj (aA _ W4 1) (λau=>?_);generalize World.drew _=V0 at*;refine Mk.tk 0 (v:=?_) rfl ?_ cJ ?_;rotate_left
  ·exact ju
  refine Mk.pt ?_;refine Mk.tk 1 (v:=?_) rfl ?_ cJ ?_;rotate_left
  ·intro wz fF;have key:∀b i v,b<W4.heap.size->Xf W4 (I b i)=O v->Xf wz (I b i)=O v:=λb i v X hc=>(aR (fF.block _ X)).trans hc;have y0:=key _ _ _ lp q3;exact qZ
  refine Mk.pt ?_;refine Mk.tk 3 (v:=?_) rfl ?_ cJ ?_;rotate_left
  ·exact ju
  refine Mk.pt ?_;refine Mk.tk 4 (v:=?_) rfl ?_ cJ ?_;rotate_left
  ·intro wz fF;have key:∀b i v,b<W4.heap.size->Xf W4 (I b i)=O v->Xf wz (I b i)=O v:=λb i v X hc=>(aR (fF.block _ X)).trans hc;have y0:=key _ _ _ lp q4;exact qZ
  refine Mk.pt ?_;refine dM (rs:=[2,5]) bj az ?_;refine bX rfl (λK hK=>?_) (bX rfl (λK hK=>?_) cz);refine fL ?_;go_simp;go_at_call 55;refine(sI.o _ (dS.o.trans (au.mono Vs.o))).mono ?_;rintro e wc ⟨xv,rfl,hxr,me,hxi⟩;have hSc:=au.trans (me.mono au.size);have VE:∀b,xv.ownBlock=O b->W4.heap.size<=b:=λb X=>bS au.size (hxi b X).1;clear au;refine hK.out _ _ hSc (λau=>?_);clear hK K;refine Mk.pt ?_;refine dM (rs:=[5]) bj az ?_;refine bX rfl (λK hK=>?_) cz;refine fL ?_;go_simp;have nb:aH (wc.alloc (Xe #[Y p.aV] 3)) wc.heap.size 3 #[Y p.aV]:=aH.new _ _ _;refine hK.out _ _ (au.alloc au.size _) (λau=>?_);clear hK K;refine Mk.pt ?_;refine dM (rs:=[6]) bj az ?_;refine bX rfl (λK hK=>?_) cz;refine cU rfl (.tmp 32) (.tmp 35) 24 rfl 3 underlying24 cA rfl bz xv p.on.length (bd p.on) rfl (hxr.alloc _) (I wc.heap.size 0) 1 1 (λ_=> Y p.aV) rfl (λj hj=>by obtain rfl:j=0:=G;exact nb.cell 0) (λ_ _=>rfl) (by unfold maxLen;omega) G ?_;intro bv W5 Qh Tr WR;have re:Below W4.heap.size W4 W5:=au.trans (Tr.below (B:=W4.heap.size) au.size (λb X=>by
   have h1:xv.ownBlock=O b:=by simpa using X
   exact VE b h1))
  have Wj:nQ W4.heap.size W5.heap.size bv:=λb X=>by exact YG
  have hr6:=GF p.on p.aV Qh;clear au Qh Tr WR;refine hK.out _ _ re (λau=>?_);clear hK K;refine Mk.pt ?_;refine Mk.tk 7 (v:=?_) rfl ?_ cJ ?_;rotate_left
  ·exact ju
  refine Mk.pt ?_;refine eT bj ⟨rfl,?_⟩ _;clear au;exact⟨rfl,_,bv,FR.of _ rfl,rfl,rfl,rfl,rfl,rfl,Z hr6,Z Wj,Z re⟩;rotate_left;refine fL ?_;go_simp;have nb:aH (V0.alloc (Xe #[Y p.aV] 3)) V0.heap.size 3 #[Y p.aV]:=aH.new _ _ _;refine hK.out _ _ (au.alloc au.size _) (λau=>?_);clear hK K;refine Mk.pt ?_;refine dM (rs:=[2]) bj az ?_;refine bX rfl (λK hK=>?_) cz;refine fL ?_;go_simp;go_at_call 55;refine(sI.o _ (dS.o.trans (au.mono Vs.o))).mono ?_;rintro e wc ⟨xv,rfl,hxr,me,hxi⟩;have hSc:=au.trans (me.mono au.size);have VE:∀b,xv.ownBlock=O b->W4.heap.size<=b:=λb X=>bS au.size (hxi b X).1;clear au;refine hK.out _ _ hSc (λau=>?_);clear hK K;refine Mk.pt ?_;refine dM (rs:=[6]) bj az ?_;refine bX rfl (λK hK=>?_) cz;refine cU rfl (.tmp 32) (.tmp 35) 24 rfl 3 underlying24 cA rfl bz xv p.on.length (bd p.on) rfl hxr (I V0.heap.size 0) 1 1 (λ_=> Y p.aV) rfl (λj hj=>by obtain rfl:j=0:=G;exact(nb.of (me.block _ nb.lt)).cell 0) (λ_ _=>rfl) (by unfold maxLen;omega) G ?_;intro bv W5 Qh Tr WR;have re:Below W4.heap.size W4 W5:=au.trans (Tr.below (B:=W4.heap.size) au.size (λb X=>by
   have h1:xv.ownBlock=O b:=by simpa using X
   exact VE b h1))
  have Wj:nQ W4.heap.size W5.heap.size bv:=λb X=>by exact YG
  have hr6:=GF p.on p.aV Qh;clear au Qh Tr WR;refine hK.out _ _ re (λau=>?_);clear hK K;refine Mk.pt ?_;refine Mk.tk 7 (v:=?_) rfl ?_ cJ ?_;rotate_left
  ·exact ju
  refine Mk.pt ?_;refine eT bj ⟨rfl,?_⟩ _;clear au;exact⟨rfl,_,bv,FR.of _ rfl,rfl,rfl,rfl,rfl,rfl,Z hr6,Z Wj,Z re⟩
 rintro e a5 W5 ⟨rfl,J,bv,rfl,j1,j3,j4,j6,j7,Ey,HIB,gY⟩;unfold FR;rw[j1,j3,j4,j6,j7];clear j1 j3 j4 j6 j7 q3 q4 lp;have HBL:Hid ((p.on++[p.aV]).length=p.on.length+1):=Z az;have YH:(p.on++[p.aV]).length<=17:=by have:=HBL.o;omega
 have Rr:Hid (∀i,i<(p.on++[p.aV]).length->-1<=(p.on++[p.aV]).getD i 0/\(p.on++[p.aV]).getD i 0<p.code.length):=Z λi hi=>by
  have hm:(p.on++[p.aV]).getD i 0∈p.on++[p.aV]:=by rw[dQ,ft hi];exact il hi
  rcases List.mem_append.1 hm with h|h
  ·have:=VA.o.ons _ h;omega
  ·rw[List.mem_singleton.1 h];have:=VA.o.aV;omega
 have KC5:=Z (KC.o.of (gY.o.block _ KC.o.lt));have KF5:=Z (KF.o.of (gY.o.block _ KF.o.lt));have KP5:=Z (KP.o.of (gY.o.block _ KP.o.lt));have KV5:=Z (KV.o.of (gY.o.block _ KV.o.lt));have afL:=Z (l_.o.aG (aC.ai gY.o));have HBA:Hid (∀b,bv.ownBlock=O b->b≠A):=Z λb X e=>by have:=(HIB.o b X).1;have:=Qi.o;have:=wk.o;omega
 have HVA:Hid (vb9≠A):=Z λe=>HNV.o e.symm;have VH:Hid (pb+1+1<A):=Z (by have:=HA.o;omega);have RH:Hid (Below w.heap.size w W5):=Z (by have h1:=gY.o.size;rw[VF.o];exact dS.o.trans (gY.o.mono (by have:=HA.o;have:=wk.o;have:=Qi.o;omega)));have Yu:Hid (w.heap.size<=A):=Z (by rw[VF.o];have:=HA.o;omega);have IR:∃x y z,bv=H x y z:=by rcases Ey.o.val with⟨h,-⟩|⟨_,_,h,-⟩<;>exact⟨_,_,_,h⟩
 have afM:∃la lc,bv=H la (p.on++[p.aV]).length lc:=by
  rcases Ey.o.val with⟨h,h0⟩|⟨_,_,h,-⟩
  ·have:=HBL.o;omega
  ·exact⟨_,_,h⟩
 obtain⟨la,lc,rfl⟩:=afM;clear IR;generalize xO:p.on++[p.aV]=bl at*;have RI:=Z xO;clear xO;go_wp2_with fail;refine rn1 (bl:=bl) (vb:=vb9) (pb:=pb) (A:=A) (W4:=W5) KV5 HVA Ey HBA YH Rr hlen (λJ6 W6 j1 j3 j4 j6 j7 hF hS=>?_) ⟨_,0,FR.of _ rfl,rfl,rfl,rfl,rfl,rfl,rfl,rfl,rfl,ck _,rfl,Z (aC.refl _ _),Z (afL.o)⟩;have Oq:=Z hF;have Q6:=Z hS;have k5:=KP5.o.aG Oq.o (by have:=VH.o;simp;omega);have q5:Xf W6 (I pb 5)=O (H ca p.code.length cc):=k5.cell 5;have lp:=k5.lt;unfold FR;rw[j1,j3,j4,j6,j7];clear j1 j3 j4 j6 j7 hF hS k5;have HT0:Hid (TOk p (dH p)):=Z (ad3 VA.o);have HSB:Hid (js W6 (H (O (I A 0)) p.code.length p.code.length) p.code.length (dH p) (λ_=> Xd)):=Z (by
  have h1:=Q6.o;rw[show Bn bl bl.length=dH p from by funext pc;unfold Bn dH;rw[List.take_length,RI.o]]at h1;exact h1)
 go_wp2_with fail;refine rn2 (vb:=vb9) (pb:=pb) (A:=A) (W5:=W5) (bv:=H la bl.length lc) a0g Yu RH KV5 HVA mY hlen (λA9 W7 i e h2 h3 h4 hF bt Lb=>?_) KC5 KF5 VH (λadN W7 T j1 j3 j4 j6 j7 hF Lb=>?_) ⟨_,0,FR.of _ rfl,rfl,rfl,rfl,rfl,rfl,rfl,rfl,ck _,rfl,Oq,_,_,HSB,HT0,Z (by rw[Nat.sub_zero])⟩
 ·have hv:a8 p=(e,(i:Int)):=by unfold a8;rw[ax (by rw[VG.o];simp),Lb]
  refine D0 VF.o h2 h3 h4 (KC5.o.aG hF (by have:=VH.o;simp;omega)) (KF5.o.aG hF (by have:=VH.o;simp;omega)) ?_ hv bt;rw[<-VF.o];exact RH.o.trans (hF.below RH.o.size (by have:=Yu.o;simpa using this))
 have S2:=Z hF;have xC:=Z Lb;have mZ:=Z (RH.o.trans (S2.o.below RH.o.size (by have:=Yu.o;simpa using this)));have KP7:=Z (KP5.o.aG S2.o (by have:=VH.o;simp;omega));have KC7:=Z (KC5.o.aG S2.o (by have:=VH.o;simp;omega));have KF7:=Z (KF5.o.aG S2.o (by have:=VH.o;simp;omega));have KV7:=Z (KV5.o.aG S2.o (by have:=HVA.o;simpa using this));have afN:=Z (Ey.o.aG S2.o (λb X=>by have:=HBA.o b X;simpa using this));have HFI:Hid (DZ p):=Z (Cu VG.o xC.o);have HFL:=Z (JC (a0g.o.aG (aC.ai mZ.o)) KV7.o hlen HFI.o);unfold FR;rw[j1,j3,j4,j6,j7];clear j1 j3 j4 j6 j7 hF Lb q5 lp;go_wp2_with fail
 with_reducible refine HFL.o.mono ?_
 rintro e W8 ⟨fb,fc,rfl,RD,wm,bC⟩;have HFB:=Z bC;have nH:=Z wm;have KP8:=Z (KP7.o.of (nH.o.block _ KP7.o.lt));have KC8:=Z (KC7.o.of (nH.o.block _ KC7.o.lt));have KF8:=Z (KF7.o.of (nH.o.block _ KF7.o.lt));have afO:=Z (afN.o.aG (aC.ai (S:=[]) nH.o) az);have RJ:=Z (mZ.o.trans (nH.o.mono mZ.o.size));clear bC RD wm HFL;go_wp2;go_step3;go_wp2_with fail;refine rn3 (bl:=bl) (vb:=vb9) (pb:=pb) (W7:=W8) afO HFB YH Rr hlen KC8 KF8 (λA9 W9 n h2 h3 h4 X t_=>?_) (λadS W9 lv j1 j3 j4 j6 sW X vU jE t_=>?_) ⟨_,0,Xd,FR.of _ rfl,rfl,rfl,rfl,rfl,rfl,rfl,rfl,rfl,rfl,ck _,rfl,Z (aZ _ _),Z (Row.nil _ _ _ _),Z (λb X=>by cases X),Z (by rw[List.drop_zero])⟩
 ·have hv:a8 p=(97,n):=by unfold a8;rw[ax (by rw[VG.o];simp),xC.o,RI.o,t_]
  refine D0 VF.o h2 h3 h4 (KC8.o.of (X.block _ KC8.o.lt)) (KF8.o.of (X.block _ KF8.o.lt)) ?_ hv bz;rw[<-VF.o];exact RJ.o.trans (X.mono RJ.o.size)
 have afP:=Z (λb X=>bS RJ.o.size (jE b X));clear jE;obtain⟨lb,Wl,rfl,l1,l2,l3⟩:=vU.some (by have:=HBL.o;omega);have HV:=Z (show a8 p=(0,0)from by unfold a8;rw[ax (by rw[VG.o];simp),xC.o,RI.o,t_]);have HRL:=Z vU;have ND:=Z (RJ.o.trans (X.mono RJ.o.size));have kp9:=KP8.o.of (X.block _ KP8.o.lt);have KC9:=Z (KC8.o.of (X.block _ KC8.o.lt));have KF9:=Z (KF8.o.of (X.block _ KF8.o.lt));have q3:Xf W9 (I pb 3)=O (H oa p.on.length oc):=kp9.cell 3;have lp:=kp9.lt;have MP:bl.length=p.on.length+1:=HBL.o;have lc9:Xf W9 (I lb p.on.length)=O (Y (b_ p (bl.getD p.on.length 0):Nat)):=vU.cell (o:=p.on.length) G;have hms:bl.getD p.on.length 0=p.aV:=by rw[<-RI.o,dQ,uP (aL _)];simp
 rw[hms]at lc9;rw[MP]at l1 sW;unfold FR;rw[j1,j3,j4,j6,sW];clear j1 j3 j4 j6 sW X vU t_ kp9 MP hms;obtain⟨em,rM⟩:∃z,b_ p p.aV=z:=⟨_,rfl⟩;rw[rM]at lc9;have Yt:=Z rM;clear rM;go_wp2_with fail;have ags:p.on.length<=Wl:=G;have hx9:(p.on.length:Int)<(p.on.length:Int)+1:=G;have QG:Hid (pb∉[pb+1,pb+1+1]):=Z kZ;have OA:Hid (lb∉[pb+1,pb+1+1]):=Z (by
  have h1:=HRL.o.fx KC9.o bz;have h2:=HRL.o.fx KF9.o bz;simp only[ep,List.not_mem_nil,or_false,not_or];exact⟨λe=>h1 (by rw[e];rfl),λe=>h2 (by rw[e];rfl)⟩)
 have rh:=Z (λ(V:ek) (hf:aC [pb+1,pb+1+1] W9 V)=>show aY V 1 (H (O (I lb 0)) p.on.length p.on.length) p.on.length (λi=> Y (b_ p (p.on.getD i 0):Nat))from by
  have h1:=(HRL.o.aG hf (λb X=>by have:lb=b:=fT X;rw[<-this];exact OA.o));refine .inr ⟨(I lb 0),p.on.length,rfl,aL _,by unfold maxLen;omega,λo ho=>⟨rfl,?_⟩⟩;have h2:=h1.cell (o:=o) (by have:=HBL.o;omega);rw[Nat.zero_add,h2];unfold Bo;rw[<-RI.o,dQ,uQ G,<-dQ])
 refine Mk.bq (S:=λwx=>aC [pb+1,pb+1+1] W9 wx) bj (aC.ai (aA _ W9 1)) (λau=>?_);have Ez:=Z (KC9.o.drewN 1);have Cv:=Z (KF9.o.drewN 1);change Hid (aH W9.drew _ _ _)at Ez;change Hid (aH W9.drew _ _ _)at Cv;generalize World.drew _=V0 at*;refine Mk.tk 0 (v:=?_) rfl ?_ cJ ?_;rotate_left
 ·exact ju
 refine Mk.pt ?_;refine Mk.tk 1 (v:=?_) rfl ?_ cJ ?_;rotate_left
 ·exact ju
 refine Mk.pt ?_;refine Mk.tk 2 (v:=?_) rfl ?_ cJ ?_;rotate_left
 ·exact ju
 refine Mk.pt ?_;refine Mk.tk 3 (v:=?_) rfl ?_ cJ ?_;rotate_left
 ·exact RF
 refine Mk.pt ?_;refine Mk.tk 4 (v:=?_) rfl ?_ cJ ?_;rotate_left
 ·exact ju
 refine Mk.pt ?_;refine Mk.tk 5 (v:=?_) rfl ?_ cJ ?_;rotate_left
 ·exact ju
 refine Mk.pt ?_;refine Mk.tk 6 (v:=?_) rfl ?_ cJ ?_;rotate_left
 ·exact RF
 refine Mk.pt ?_;refine Mk.tk 7 (v:=?_) rfl ?_ cJ ?_;rotate_left
 ·exact ju
 refine Mk.pt ?_;refine Mk.tk 8 (v:=?_) rfl ?_ cJ ?_;rotate_left
 ·exact ju
 refine Mk.pt ?_;refine Mk.tk 9 (v:=?_) rfl ?_ cJ ?_;rotate_left
 ·exact ju
 refine Mk.pt ?_;refine Mk.tk 10 (v:=?_) rfl ?_ cJ ?_;rotate_left
 ·exact ju
 refine Mk.pt ?_;refine Mk.tk 11 (v:=?_) rfl ?_ cJ ?_;rotate_left
 ·exact RF
 refine Mk.pt ?_;refine Mk.tk 12 (v:=?_) rfl ?_ cJ ?_;rotate_left
 ·exact ju
 refine Mk.pt ?_;refine Mk.tk 13 (v:=?_) rfl ?_ cJ ?_;rotate_left
 ·exact ju
 refine Mk.pt ?_;refine Mk.tk 14 (v:=?_) rfl ?_ cJ ?_;rotate_left
 ·intro wz fF;have y0:=(aR (fF.block _ (ay lc9) OA.o)).trans lc9;exact qZ
 refine Mk.pt ?_;refine Mk.tk 15 (v:=?_) rfl ?_ cJ ?_;rotate_left
 ·exact ju
 refine Mk.pt ?_;refine Mk.tk 16 (v:=?_) rfl ?_ cJ ?_;rotate_left
 ·exact ju
 refine Mk.pt ?_;refine Mk.tk 17 (v:=?_) rfl ?_ cJ ?_;rotate_left
 ·exact ju
 refine Mk.pt ?_;have NN:Hid (pb+1≠pb+1+1):=Z G;have z0:=Ez.o.cell 0;have z1:=Ez.o.cell 1;have z2:=Cv.o.cell 0;have z3:=Cv.o.cell 1;have z4:=Ez.o.frozen;have z5:=Cv.o.frozen;have z6:=Cv.o.lt;simp only[List.getElem?_toArray,List.getElem?_cons_zero,List.getElem?_cons_succ]at z0 z1 z2 z3;refine dM (rs:=[18]) bj az ?_;refine bX rfl (λK hK=>?_) cz;refine fL ?_;go_simp;refine hK.out _ _ ((au.setCell (p:=(I (pb+1) 0)) az (H (O (I lb 0)) p.on.length p.on.length)).setCell (p:=(I (pb+1) 1)) az (Y (em:Nat))) (λau=>?_);clear hK K;refine Mk.pt ?_;refine dM (rs:=[19]) bj az ?_;refine bX rfl (λK hK=>?_) cz;refine fL ?_;go_simp;refine hK.out _ _ ((au.setCell (p:=(I (pb+1+1) 0)) az (Y 0)).setCell (p:=(I (pb+1+1) 1)) az (Y 0)) (λau=>?_);clear hK K;refine Mk.pt ?_;refine eT bj ⟨rfl,?_⟩ _;have uA:=au;clear au;go_wp2_with fail;refine Lw (cb:=pb+1) (fb:=pb+1+1) rfl rfl rfl ((((Ez.o.set 0 (H (O (I lb 0)) p.on.length p.on.length)).set 1 (Y (em:Nat))).other NN.o 0 (Y 0)).other NN.o 1 (Y 0)) ((((Cv.o.other NN.o.symm 0 (H (O (I lb 0)) p.on.length p.on.length)).other NN.o.symm 1 (Y (em:Nat))).set 0 (Y 0)).set 1 (Y 0)) ?_;refine⟨Oi vb9,H (O (I lb 0)) p.on.length p.on.length,(em:Nat),by rw[HV.o];rfl,⟨_,_,_,rfl⟩,ND.o.trans (uA.below ND.o.size (by rw[VF.o];simp;omega)),(λb X=>afP.o b X),λ_=>⟨by rw[Yt.o],?_⟩⟩;exact rh.o _ uA
def Ax(w:ek)(p:aU)(e:Ending)(w':ek):Prop:=∃yx ms,e=Xc (.tuple #[.agg #[yx,Y ms],.agg #[Y (a8 p).1,Y (a8 p).2]])/\(∃x y z,yx=H x y z)/\Below w.heap.size w w'/\
 ((a8 p).1=0->ms=(b_ p p.aV:Nat)/\aY w' 1 yx p.on.length (λi=> Y (b_ p (p.on.getD i 0):Nat)))
def JG(h:gM w K p):Calls prog 44 #[pV K p] w (Ax w p):=by
 have HR:=Z (λV (X:Below w.heap.size w V)=>adV (w:=V) (h.aG (aC.ai X)));obtain⟨⟨ga,gc,g1,g2,g3⟩,⟨va,vc,v1,v2,v3⟩,⟨ta,tc,t1,t2,t3⟩,⟨oa,oc,o1,o2,o3⟩,⟨ca,cc,c1,c2,c3⟩⟩:=h.sl;unfold pV at HR ⊢;rw[g1,v1,t1,o1,c1]at HR ⊢;have hB:∀cs T w_ T2 cs3 T3,Below w.heap.size w (((w.alloc (Xe cs T)).alloc (Xe w_ T2)).alloc (Xe cs3 T3)):=λcs T w_ T2 cs3 T3=>(((aZ _ _).alloc (aL _) _).alloc az _).alloc kZ _;have kc:aH (((w.alloc (Xe #[H ga p.ap.length gc,H va p.vars.length vc,H ta p.aW.length tc,H oa p.on.length oc,Y p.aV,H ca p.code.length cc] 27)).alloc (Xe #[Xd,Y 0] 97)).alloc (Xe #[Y 0,Y 0] 99)) (w.heap.size+1) 97 #[Xd,Y 0]:=(aH.bK az).alloc _;have kf:aH (((w.alloc (Xe #[H ga p.ap.length gc,H va p.vars.length vc,H ta p.aW.length tc,H oa p.on.length oc,Y p.aV,H ca p.code.length cc] 27)).alloc (Xe #[Xd,Y 0] 97)).alloc (Xe #[Y 0,Y 0] 99)) (w.heap.size+1+1) 99 #[Y 0,Y 0]:=aH.bK az;have qt:(((w.alloc (Xe #[H ga p.ap.length gc,H va p.vars.length vc,H ta p.aW.length tc,H oa p.on.length oc,Y p.aV,H ca p.code.length cc] 27)).alloc (Xe #[Xd,Y 0] 97)).alloc (Xe #[Y 0,Y 0] 99)).heap.size=w.heap.size+1+1+1:=by simp
 have dG:=hB #[H ga p.ap.length gc,H va p.vars.length vc,H ta p.aW.length tc,H oa p.on.length oc,Y p.aV,H ca p.code.length cc] 27 #[Xd,Y 0] 97 #[Y 0,Y 0] 99;clear h hB g1 v1 t1 o1 c1 g2 g3 v2 v3 t2 t3 o2 o3 c2 c3;go_enter func44,ntmps44;go_wp2_with fail;generalize(((w.alloc (Xe #[H ga p.ap.length gc,H va p.vars.length vc,H ta p.aW.length tc,H oa p.on.length oc,Y p.aV,H ca p.code.length cc] 27)).alloc (Xe #[Xd,Y 0] 97)).alloc (Xe #[Y 0,Y 0] 99))=W0 at*
 with_reducible refine(HR.o _ dG).mono ?_
 rintro e W1 ⟨vv,yx,ms,rfl,⟨x9,y9,z9,rfl⟩,X,Kg,hco⟩;have S3:Hid (∀b,(Value.slice x9 y9 z9).ownBlock=O b->w.heap.size+1+1+1<=b):=Z λb h=>by have:=Kg b h;omega
 clear Kg;have Vp:=Z hco;have dS:=Z (dG.trans (X.mono dG.size));have KC:=Z (kc.of (X.block _ kc.lt));have KF:=Z (kf.of (X.block _ kf.lt));have zQ:w.heap.size+1+1+1<=W1.heap.size:=by have:=X.size;omega
 clear hco X kc kf qt dG HR;obtain⟨e1,he1⟩:∃z,(a8 p).1=z:=⟨_,rfl⟩;obtain⟨e2,Oz⟩:∃z,(a8 p).2=z:=⟨_,rfl⟩;rw[he1]at Vp;rw[he1,Oz];have HE:=Z (And.intro he1 Oz);clear he1 Oz;go_wp2_with fail;have k2:aH ((W1.alloc (Xe #[H x9 y9 z9,Y ms] 97)).alloc (Xe #[Y e1,Y e2] 99)) W1.heap.size 97 #[H x9 y9 z9,Y ms]:=(aH.new _ _ _).alloc _;have k3:aH ((W1.alloc (Xe #[H x9 y9 z9,Y ms] 97)).alloc (Xe #[Y e1,Y e2] 99)) (W1.heap.size+1) 99 #[Y e1,Y e2]:=aH.bK az;have dR:Below W1.heap.size W1 ((W1.alloc (Xe #[H x9 y9 z9,Y ms] 97)).alloc (Xe #[Y e1,Y e2] 99)):=((aZ _ _).alloc (aL _) _).alloc az _;generalize(W1.alloc (Xe #[H x9 y9 z9,Y ms] 97)).alloc (Xe #[Y e1,Y e2] 99)=W2 at*;obtain⟨n0,n1⟩:=k2.c2;obtain⟨n2,n3⟩:=k3.c2;have KC2:=Z (KC.o.of (dR.block _ KC.o.lt));have KF2:=Z (KF.o.of (dR.block _ KF.o.lt));have fR:=Z (dS.o.trans (dR.mono dS.o.size));have yj:Hid (w.heap.size+1+1+1<=W1.heap.size):=Z zQ;have ls2:=k3.lt;have tR:Hid (aC [] W1 W2):=Z (aC.ai dR);clear k2 k3 dR;generalize gz:W1.heap.size=s1 at*;clear gz;refine Mk.bq (S:=λwx=>aC [w.heap.size+1,w.heap.size+1+1] W2 wx) bj (aC.ai (aA _ W2 1)) (λau=>?_);have Ez:=Z (KC2.o.drewN 1);have Cv:=Z (KF2.o.drewN 1);change Hid (aH W2.drew _ _ _)at Ez;change Hid (aH W2.drew _ _ _)at Cv;generalize World.drew _=V0 at*;refine Mk.tk 0 (v:=?_) rfl ?_ cJ ?_;rotate_left
 ·intro wz fF;have y0:=(aR (fF.block _ (ay n0) (by have:=yj.o;simp only[ep,List.not_mem_nil,or_false,not_or];omega))).trans n0;have y1:=(aR (fF.block _ (ay n1) (by have:=yj.o;simp only[ep,List.not_mem_nil,or_false,not_or];omega))).trans n1;exact qZ
 refine Mk.pt ?_;refine Mk.tk 1 (v:=?_) rfl ?_ cJ ?_;rotate_left
 ·intro wz fF;have y0:=(aR (fF.block _ (ay n2) (by have:=yj.o;simp only[ep,List.not_mem_nil,or_false,not_or];omega))).trans n2;have y1:=(aR (fF.block _ (ay n3) (by have:=yj.o;simp only[ep,List.not_mem_nil,or_false,not_or];omega))).trans n3;exact qZ
 refine Mk.pt ?_;have NN:Hid (w.heap.size+1≠w.heap.size+1+1):=Z G;have z0:=Ez.o.cell 0;have z1:=Ez.o.cell 1;have z2:=Cv.o.cell 0;have z3:=Cv.o.cell 1;have z4:=Ez.o.frozen;have z5:=Cv.o.frozen;have z6:=Cv.o.lt;simp only[List.getElem?_toArray,List.getElem?_cons_zero,List.getElem?_cons_succ]at z0 z1 z2 z3;refine dM (rs:=[2]) bj az ?_;refine bX rfl (λK hK=>?_) cz;refine fL ?_;go_simp;refine hK.out _ _ ((au.setCell (p:=(I (w.heap.size+1) 0)) az (H x9 y9 z9)).setCell (p:=(I (w.heap.size+1) 1)) az (Y ms)) (λau=>?_);clear hK K;refine Mk.pt ?_;refine dM (rs:=[3]) bj az ?_;refine bX rfl (λK hK=>?_) cz;refine fL ?_;go_simp;refine hK.out _ _ ((au.setCell (p:=(I (w.heap.size+1+1) 0)) az (Y e1)).setCell (p:=(I (w.heap.size+1+1) 1)) az (Y e2)) (λau=>?_);clear hK K;refine Mk.pt ?_;refine eT bj ⟨rfl,?_⟩ _;have RK:=au;clear au;go_wp2_with fail;have kc9:=((((Ez.o.set 0 (H x9 y9 z9)).set 1 (Y ms)).other NN.o 0 (Y e1)).other NN.o 1 (Y e2));have kf9:=((((Cv.o.other NN.o.symm 0 (H x9 y9 z9)).other NN.o.symm 1 (Y ms)).set 0 (Y e1)).set 1 (Y e2));generalize((((V0.setCell (I (w.heap.size+1) 0) (H x9 y9 z9)).setCell (I (w.heap.size+1) 1) (Y ms)).setCell (I (w.heap.size+1+1) 0) (Y e1)).setCell (I (w.heap.size+1+1) 1) (Y e2))=W9 at*;obtain⟨c0,c1⟩:=kc9.c2;obtain⟨f0,f1⟩:=kf9.c2;refine bR (v:= .tuple #[.agg #[H x9 y9 z9,Y ms],.agg #[Y e1,Y e2]]) ?_ rfl ⟨H x9 y9 z9,ms,by rw[HE.o.1,HE.o.2],⟨_,_,_,rfl⟩,fR.o.trans (RK.below fR.o.size kZ),λh=>?_⟩
 ·simp[results,results44,go_sem,c0,c1,f0,f1]
 ·obtain⟨h1,h2⟩:=Vp.o (by rw[<-h];exact HE.o.1.symm);refine⟨h1,sM (aY.aG h2 tR.o) RK (λb X=>?_)⟩;have h3:=S3.o b X;simp only[ep,List.not_mem_nil,or_false,not_or];omega
end
end Go.Vf
end
namespace Go.Vf
open Go.RowKit al.Vm
open al hiding aS aw an
def sd(n:Int):Bool:=decide (n<1)||decide (1048576<n)
def Wi{p:Prop}(h:p:=by
 rw[hf];clear hf;go_enter func97,ntmps97;go_wp2;go_ret;exact⟨rfl,rfl⟩):p:=h
def wG(w:ek)(n:Int):Calls prog 97 #[Y n] w (λe w'=>e=Xc (.bool (sd n))/\w'=w):=by
 by_cases h1:n<1
 ·have hf:sd n=true:=by simp[sd,h1]
  exact Wi
 ·by_cases h2:1048576<n
  ·have hf:sd n=true:=by simp[sd,h2]
   exact Wi
  ·have hf:sd n=false:=by simp[sd,h1,h2]
   exact Wi
def ae6(w:ek){K:Kp}{p:aU}(h:gM w K p):Calls prog 12 #[pV K p] w (λe w'=>e=Xc (.bool (decide (p.code.length<=3000)))/\Below w.heap.size w w'):=by obtain⟨⟨ga,gc,g1,g2,g3⟩,⟨va,vc,v1,v2,v3⟩,⟨ta,tc,t1,t2,t3⟩,⟨oa,oc,o1,o2,o3⟩,⟨ca,cc,c1,c2,c3⟩⟩:=h.sl;unfold pV;rw[g1,v1,t1,o1,c1];have hB:=rH w;clear g1 g2 g3 v1 v2 v3 t1 t2 t3 o1 o2 o3 c1 c2 c3 h;go_enter func12,ntmps12;go_wp2;go_ret;refine⟨?_,hB _ _⟩;show Ending.returned (.bool (decide ((p.code.length:Int)<=3000)))=_;congr 2;rw[decide_eq_decide];omega
open Ma (dW cy bd vb)
def pa(p:aU)(c:Cp)(q:Nat):Bool:= !sd (c.aF.getD q 0)&&(p.ap.getD q false||decide (c.aF.getD q 0<=c.size))
def iR(p:aU)(c:Cp):Bool:= !sd c.size&&decide (c.aF.length=p.ap.length)&&decide (∀q,q<p.ap.length->pa p c q=true)
def Cw{p:aU}{c:Cp}(h:iR p c=true):pn p c:=by
 unfold iR at h;simp only[fh,fj]at h;obtain⟨⟨h1,h2⟩,h3⟩:=h;have out:∀n,sd n=false->1<=n/\n<=1048576:=λn h=>by unfold sd at h;simp at h;omega
 have hs:=out c.size (by simpa using h1);refine⟨hs.1,hs.2,h2,λq hq=>?_⟩;have:=h3 q hq;unfold pa at this;simp only[fh]at this;exact out _ (by simpa using this.1)
def cV(c:Cp)(qv:to):to:= .agg #[Y c.size,qv]
def pA(p:aU)(c:Cp)(k:Nat):Nat:=cR k λq=>if p.ap.getD q false then 0 else(c.aF.getD q 0).toNat
def rm(p:aU)(c:Cp)(k:Nat):Nat:=cR k λq=>if p.ap.getD q false then(c.aF.getD q 0).toNat else 0
def GH(p:aU)(c:Cp):dE (aB p c)=min (pA p c p.ap.length) c.size.toNat+rm p c p.ap.length:=rfl
def FrF(pb cb:Nat)(r g:Nat)(qv:to)(n i:Nat)(a:Act):Prop:=∃J:Nat->to,a={tmps:=#[J 0,J 1,Oi pb,Oi cb,J 4,J 5,.func (.func 97) #[] #[],Y r,Y g,J 9,J 10,J 11,J 12,J 13,J 14,J 15,J 16,J 17,J 18,J 19,J 20,J 21,J 22,J 23,J 24,J 25,qv,Y n,Y i,J 29,J 30,J 31,J 32,J 33,J 34,J 35,J 36,J 37,J 38,J 39,J 40,J 41,J 42,J 43,J 44,J 45,J 46,J 47,J 48,J 49,J 50,J 51,J 52,J 53,J 54,J 55,J 56,J 57,J 58,J 59,J 60,J 61,J 62,J 63,J 64,J 65,J 66,J 67,J 68,J 69,J 70,J 71,J 72],defers:=[]}
def Ay(p:aU)(c:Cp):to:= .tuple #[Y (if iR p c=true then(dE (aB p c):Nat)else 0),.bool (iR p c&&decide (dE (aB p c)<=4194304))]
def vB{p:aU}{c:Cp}(h:iR p c=false):Ay p c= .tuple #[Y 0,.bool false]:=by unfold Ay;rw[h];rfl
def adZ(w:ek)(p:aU)(c:Cp)(qv:to)(gv:to)(P:ek->Prop)(m:Nat)(a:Act)(W:ek):Prop:=
 ∃i,i<=p.ap.length/\m+i=p.ap.length+1/\FrF w.heap.size (w.heap.size+1) (pA p c i) (rm p c i) qv p.ap.length i a/\Hid (Below w.heap.size w W)/\Hid (P W)/\Hid (∀j,j<i->pa p c j=true)/\pA p c i<=i*1048576/\rm p c i<=i*1048576
def Rq{p:Prop}(h:p:=by
 go_enter func53,ntmps53;go_wp2_with fail;refine(Hi.o _).mono ?_;rintro e w' ⟨rfl,rfl⟩;go_wp2;go_ret2;exact⟨rfl,hB _ _ _ _⟩):p:=h
def JH(w:ek){K:Kp}{p:aU}{c:Cp}{qv:to}(h:gM w K p)(hq:aY w 1 qv c.aF.length (bd c.aF))(hg:p.ap.length<=16):
 Calls prog 53 #[pV K p,cV c qv] w (λe w'=>e=Xc (Ay p c)/\Below w.heap.size w w'):=by
 obtain⟨⟨ga,gc,g1,g2,g3⟩,⟨va,vc,v1,v2,v3⟩,⟨ta,tc,t1,t2,t3⟩,⟨oa,oc,o1,o2,o3⟩,⟨ca,cc,c1,c2,c3⟩⟩:=h.sl;obtain⟨qa,qc,rfl,q2,q3⟩:=hq.val;have a0g:=Z h;have HQ:=Z hq;obtain⟨kg,kv,kt,ko,kc⟩:=K;dsimp only at g1 v1 t1 o1 c1;subst g1 v1 t1 o1 c1;have hB:=Mi w;have HO:=Z (λV n=>wG V n);unfold pV cV;dsimp only;clear h hq g2 g3 v2 v3 t2 t3 o2 o3 c2 c3;by_cases s1:sd c.size=true
 ·have HF:=Z (vB (show iR p c=false by unfold iR;rw[s1];rfl));rw[HF.o];have Hi:=Z (λV=>s1▸wG V c.size);clear HO s1;exact Rq
 have EA:sd c.size=false:=by simpa using s1
 have Hi:=Z (λV=>EA▸wG V c.size);have HS:=Z EA;have nO:1<=c.size/\c.size<=1048576:=by unfold sd at EA;simp at EA;omega
 clear s1 EA;by_cases l1:c.aF.length=p.ap.length
 case neg=>have HF:=Z (vB (show iR p c=false by unfold iR;simp[l1]));rw[HF.o];clear HO;exact Rq
 case pos=>
  rw[l1]at q2 HQ ⊢;have HL:=Z l1;clear l1;go_enter func53,ntmps53;go_wp2_with fail;refine(Hi.o _).mono ?_;rintro e w' ⟨rfl,rfl⟩;go_wp2_with fail;have oD:=Z (And.intro (((aH.new w 27 #[H ga p.ap.length gc,H va p.vars.length vc,H ta p.aW.length tc,H oa p.on.length oc,Y p.aV,H ca p.code.length cc]).alloc (Xe #[Y c.size,H qa p.ap.length qc] 29))) (aH.bK (w:=w.alloc (Xe #[H ga p.ap.length gc,H va p.vars.length vc,H ta p.aW.length tc,H oa p.on.length oc,Y p.aV,H ca p.code.length cc] 27)) (b:=w.heap.size+1) (T:=29) (cs:=#[Y c.size,H qa p.ap.length qc]) az));refine Mk.aM (adZ w p c (H qa p.ap.length qc) (H ga p.ap.length gc) (λW=>aH W w.heap.size 27 #[H ga p.ap.length gc,H va p.vars.length vc,H ta p.aW.length tc,H oa p.on.length oc,Y p.aV,H ca p.code.length cc]/\aH W (w.heap.size+1) 29 #[Y c.size,H qa p.ap.length qc])) (p.ap.length+1) ?start ?zero ?round
  case start=>exact⟨0,ck _,G,rp rfl,Z (hB _ _ _ _),oD,Z (λj hj=>absurd hj G),aL _,aL _⟩
  case zero=>exact λa W hh=>by obtain⟨q,h1,h2,_⟩:=hh;omega
  clear oD Hi
  case round=>
   rintro m a0 W ⟨i,hi,hm,⟨J,rfl⟩,HB,HP,HA,hr,xx⟩;obtain⟨k1,k2⟩:=HP.o;have e0:=k1.c1;have e1:=k2.c1;have l1:=k1.lt;have l2:=k2.lt;clear k1 k2;have hmul:(i+1)*1048576=i*1048576+1048576:=Nat.succ_mul _ _;have HMU:=Z hmul;clear hmul;have Jf:pA p c (i+1)=pA p c i+(if p.ap.getD i false then 0 else(c.aF.getD i 0).toNat):=rfl;have zg:rm p c (i+1)=rm p c i+(if p.ap.getD i false then(c.aF.getD i 0).toNat else 0):=rfl;by_cases be:i<p.ap.length
   ·obtain⟨b,off,cap,hv,-,-,X,hc⟩:=(HQ.o.aG (aC.ai HB.o)).some G G;simp only[cL]at hv;obtain⟨rfl,-,rfl⟩:=hv;have c0:Xf W (I b (off+i))=O (Y (c.aF.getD i 0)):=hc i G;obtain⟨gb,agt,mP,hv,-,-,d0⟩:=(a0g.o.aG (aC.ai HB.o)).gh be;simp only[cL]at hv;obtain⟨rfl,-,rfl⟩:=hv;clear hc X;have YI:pa p c i=(!sd (c.aF.getD i 0)&&(p.ap.getD i false||decide (c.aF.getD i 0<=c.size))):=rfl;have bad:pa p c i=false->iR p c=false:=λe=>by
     unfold iR;have:decide (∀q,q<p.ap.length->pa p c q=true)=false:=by rw[rQ];intro h;rw[h i be]at e;cases e
     rw[this,Bool.and_false]
    generalize hn:c.aF.getD i 0=n at*;generalize Hc:p.ap.getD i false=aax at*;have zU:=Z (HO.o W n);cases ho:sd n with
    |true=>have HF:=Z (vB (bad (by rw[YI,ho];rfl)));rw[ho]at zU;clear bad YI Jf zg ho hn Hc;go_wp2_with fail;refine zU.o.mono ?_;rintro e w' ⟨rfl,rfl⟩;go_wp2;go_ret2;exact⟨by rw[HF.o];rfl,HB.o⟩
    |false=>
     have hni:1<=n/\n<=1048576:=by unfold sd at ho;simp at ho;omega
     rw[ho]at zU;obtain⟨nn,rfl⟩:=eS (show 0<=n by omega);have U_:nn<=1048576:=G;have vh:=Z U_;clear U_;cases aax with
     |true=>
      simp at Jf zg;have HU1:=Z Jf;have NK:=Z zg;have HQK:=Z (show pa p c i=true by rw[YI,ho];rfl);clear bad YI Jf zg ho hn Hc;go_wp2_with fail;refine zU.o.mono ?_;rintro e w' ⟨rfl,rfl⟩;go_wp2;refine⟨i+1,G,G,?_,HB,HP,Z λj hj=>?_,?_,?_⟩
      ·rw[HU1.o,NK.o];exact rp rfl
      ·by_cases e:j=i
       ·subst e;exact HQK.o
       ·exact HA.o j G
      ·rw[HU1.o,HMU.o];exact bS hr (fo _ _)
      ·rw[NK.o,HMU.o];exact Nat.add_le_add xx vh.o
     |false=>
      simp at Jf zg;have HU1:=Z Jf;have NK:=Z zg;by_cases hs:(nn:Int)<=c.size
      ·have HQK:=Z (show pa p c i=true by rw[YI,ho];simp[hs]);clear bad YI Jf zg ho hn Hc;go_wp2_with fail;refine zU.o.mono ?_;rintro e w' ⟨rfl,rfl⟩;go_wp2;refine⟨i+1,G,G,?_,HB,HP,Z λj hj=>?_,?_,?_⟩
       ·rw[HU1.o,NK.o];exact rp rfl
       ·by_cases e:j=i
        ·subst e;exact HQK.o
        ·exact HA.o j G
       ·rw[HU1.o,HMU.o];exact Nat.add_le_add hr vh.o
       ·rw[NK.o,HMU.o];exact bS xx (fo _ _)
      ·have HF:=Z (vB (bad (by rw[YI,ho];simp[hs])));clear bad YI Jf zg ho hn Hc;go_wp2_with fail;refine zU.o.mono ?_;rintro e w' ⟨rfl,rfl⟩;go_wp2_with fail;refine Vg rfl ?_;exact⟨by rw[HF.o];rfl,HB.o⟩
   ·obtain rfl:i=p.ap.length:=G;have nX:iR p c=true:=by unfold iR;rw[HS.o,HL.o];simp;exact HA.o
    have HF:=Z (show Ay p c= .tuple #[Y ((min (pA p c p.ap.length) c.size.toNat+rm p c p.ap.length:Nat):Int),.bool (decide (min (pA p c p.ap.length) c.size.toNat+rm p c p.ap.length<=4194304))]by
     unfold Ay;rw[nX,GH];rfl)
    clear Jf zg nX;have LU:min ((pA p c p.ap.length:Nat):Int) c.size=((min (pA p c p.ap.length) c.size.toNat:Nat):Int):=G;have Ka:min (pA p c p.ap.length) c.size.toNat<=1048576:=G;generalize hr9:pA p c p.ap.length=r9 at*;generalize hg9:rm p c p.ap.length=g9 at*;go_wp2_with fail;refine Vg rfl ?_;have e:decide (((min r9 c.size.toNat:Nat):Int)+(g9:Int)<=4194304)=decide (min r9 c.size.toNat+g9<=4194304):=by rw[decide_eq_decide];omega
    exact⟨by rw[HF.o,<-e];rfl,HB.o⟩
end Go.Vf
section
def AZ{p:Prop}(h:p:=by
 rintro a W ⟨J,i,-,-,-,-,-,-,h1,h2,-⟩;omega):p:=h
namespace al.Vm
open Go Go.RowKit al
def adJ{P:Program}{ops:Array Oper}{rest:List Oper}{op:Oper}{a:Act}{w:ek}{Q:Exit->Act->ek->Prop}(KH:op.guard=Xb)(ty:TypeId)(x y:Operand)(ho:op.op= .store ty x y)
 (b o:Nat) {T:TypeId} {DI:Array to} (cells:Array to) (hx:a.eval x= .pointer (O (I b o))) (hy:a.eval y= .agg cells) (X:aH w b T DI) (nO:o+cells.size<=DI.size) (hi:(P.info? ty).map (·.size)=O cells.size) (h1:∀v∈cells.toList,v.oneCell'=true)
 (h:∀w',aH w' b T (DI.toList.take o++cells.toList++DI.toList.drop (o+cells.size)).toArray->aC [b] w w'->wpList P ops Q rest (a.put op.dst undef) w'):wpList P ops Q (op::rest) a w:=
 wpList_plain KH λK hK=>by
  have hr:=run_storeCells_at P b o T cells.toList 0 DI w X (by simpa using nO) h1;have ri:(storeVar ty (I b o) (.agg cells)).run P w= .ok () (w.setRow b (DI.toList.take o++cells.toList++DI.toList.drop (o+cells.size)).toArray):=by
   cases hq:P.info? ty with
   |none=>simp[hq]at hi
   |some i=>
    have hs:cells.size=i.size:=by simp[hq]at hi;omega
    simp only[Nat.add_zero,Array.length_toList]at hr;simp[storeVar,Go.sizeOf,typeInfo,hq,Value.cells,hs,hr]
  have:=hK _ _ (h _ (setRow_heap w b DI _ T (0,0) X) ⟨rfl,rfl,rfl,az,λk _ hk=>setRow_other w b k _ (by simpa using hk)⟩);unfold Oper.wp execOp;simp only[ho,hx,hy,Instr.storeAt,Instr.sureAddr,Sem.run_bind,Sem.run_pure,Result.andThen_ok,ri];exact this
end al.Vm
namespace Go.Ma
open Go.RowKit al.Vm
open al hiding aS aw an
def bp(mb n:Nat):to:= .func (.func (Gl n)) #[Oi mb] #[]
def RP(mb:Nat):Array to:=#[bp mb 0,bp mb 1,bp mb 2,bp mb 3,bp mb 4,bp mb 5,bp mb 6,bp mb 7,bp mb 8,bp mb 9,bp mb 10,bp mb 11,bp mb 12,bp mb 13,bp mb 14,bp mb 15,bp mb 16,bp mb 17,bp mb 18,bp mb 19,bp mb 20,bp mb 21,bp mb 22,bp mb 23,bp mb 24,bp mb 25,bp mb 26,bp mb 27,bp mb 28,bp mb 29,bp mb 30,bp mb 31,bp mb 32,bp mb 33,bp mb 34,bp mb 35,bp mb 36,bp mb 37,bp mb 38,bp mb 39,bp mb 40,bp mb 41]
def adI(mb:Nat):∀v∈(RP mb).toList,v.oneCell'=true:=by simp[RP,bp,Value.oneCell']
def adH:(prog.info? 110).map (·.size)=O 42:=by kernel_rfl
def D6{w:ek}{mb:Nat}{v:Nat->to}(X:aH w mb 113 #[v 0,v 1,v 2,v 3,v 4,v 5,v 6,v 7,v 8,v 9,v 10,v 11,v 12,v 13,v 14,v 15,v 16,v 17,v 18,v 19,v 20,v 21,v 22,v 23,v 24,v 25,v 26,v 27,v 28,v 29,v 30,v 31,v 32,v 33,v 34,v 35,v 36,v 37,v 38,v 39,v 40,v 41,v 42,v 43,v 44,v 45,v 46,v 47,v 48,v 49,v 50,v 51,v 52,v 53,v 54,v 55,v 56,v 57,v 58,v 59,v 60]):
 Calls prog 58 #[Oi mb] w (λe w'=>e=Xc (.tuple #[])/\aC [mb] w w'/\aH w' mb 113 #[v 0,v 1,v 2,v 3,v 4,v 5,v 6,v 7,v 8,v 9,v 10,v 11,v 12,v 13,v 14,v 15,v 16,v 17,bp mb 0,bp mb 1,bp mb 2,bp mb 3,bp mb 4,bp mb 5,bp mb 6,bp mb 7,bp mb 8,bp mb 9,bp mb 10,bp mb 11,bp mb 12,bp mb 13,bp mb 14,bp mb 15,bp mb 16,bp mb 17,bp mb 18,bp mb 19,bp mb 20,bp mb 21,bp mb 22,bp mb 23,bp mb 24,bp mb 25,bp mb 26,bp mb 27,bp mb 28,bp mb 29,bp mb 30,bp mb 31,bp mb 32,bp mb 33,bp mb 34,bp mb 35,bp mb 36,bp mb 37,bp mb 38,bp mb 39,bp mb 40,bp mb 41,v 60]):=by
 have HB:=Z X;have vm:∀(fn:Fn) (first cap:Array to) (w:ek),(Instr.makeFunc fn first cap).run prog w= .ok (.func fn first cap) w:=λ_ _ _ _=>rfl;clear X;go_enter func58,ntmps58;go_wp2_with (refine adJ rfl 110 (.tmp 89) (.tmp 87) rfl mb 18 (RP mb) ?a1 ?a2 HB.o ?a3 adH (adI mb) ?a4)
 case a2=>rfl
 case a3=>show 18+42<=61;omega
 intro w1 im Oj;have HK:=Z im;have HF:=Z Oj;clear im Oj;go_wp2_with fail;refine bodyPost_end (ei rfl _ _ _) rfl ⟨rfl,HF.o,?_⟩;exact HK.o
end Go.Ma
end
namespace Go.Ma
open Go.RowKit al.Vm
open al hiding aS aw an
open Vf (Kp gM pV aY cV iR Ay GI ub Ax i_)
def FN(J:Nat->to):Act:={tmps:=#[J 0,J 1,J 2,J 3,J 4,J 5,J 6,J 7,J 8,J 9,J 10,J 11,J 12,J 13,J 14,J 15,J 16,J 17,J 18,J 19,J 20,J 21,J 22,J 23,J 24,J 25,J 26,J 27,J 28,J 29,J 30,J 31,J 32,J 33,J 34,J 35,J 36,J 37,J 38,J 39,J 40,J 41,J 42,J 43,J 44,J 45,J 46,J 47,J 48,J 49,J 50,J 51,J 52,J 53,J 54,J 55,J 56,J 57,J 58,J 59,J 60,J 61,J 62,J 63,J 64,J 65,J 66,J 67,J 68,J 69,J 70,J 71,J 72,J 73,J 74,J 75,J 76,J 77,J 78,J 79,J 80,J 81,J 82],defers:=[]}
def FN.of(A:Array to)(h:A=(FN λk=>A.getD k undef).tmps):({tmps:=A,defers:=[]}:Act)=FN λk=>A.getD k undef:=by rw[h];rfl
noncomputable def nwL(k:Nat):Code:=Mk.gI Proofs.Tryz.f16.body k
def mC(v:Nat->to):Array to:=#[v 0,v 1,v 2,v 3,v 4,v 5,v 6,v 7,v 8,v 9,v 10,v 11,v 12,v 13,v 14,v 15,v 16,v 17,v 18,v 19,v 20,v 21,v 22,v 23,v 24,v 25,v 26,v 27,v 28,v 29,v 30,v 31,v 32,v 33,v 34,v 35,v 36,v 37,v 38,v 39,v 40,v 41,v 42,v 43,v 44,v 45,v 46,v 47,v 48,v 49,v 50,v 51,v 52,v 53,v 54,v 55,v 56,v 57,v 58,v 59,v 60]
def np(p:aU)(c:Cp):Bool:=iR p c&&decide (dE (aB p c)<=4194304)
def adC(w:ek)(p:aU)(c:Cp)(e:Ending)(w':ek):Prop:=Below w.heap.size w w'/\
 (((a8 p).1≠0/\e=Xc (.tuple #[.pointer Xb,Y (a8 p).1]))\/((a8 p).1=0/\np p c=false/\e=Xc (.tuple #[.pointer Xb,Y 45]))\/
  ((a8 p).1=0/\np p c=true/\∃(C:Co) (RO:List Nat) (K:Kc),e=Xc (.tuple #[Oi C.mb,Y 0])/\Mx w' C RO K p c (Bp p) ⟨0,0,0,0⟩ 0 (.pointer Xb)/\Tf K C.mb p c/\(∀b,b∈C.l++RO->w.heap.size<=b)))
def YK{w:ek}{e:TypeId}{size n:Nat}{v:to}{g:Nat->to}(h:Row w e size v n g):∃a m c,v=H a m c:=by rcases h.val with⟨e,-⟩|⟨_,_,e,-⟩<;>exact⟨_,_,_,e⟩
def RS{P:Program}{fn:Func}{R:Ending->ek->Prop}{A:Array to}{w:ek}{t u:Tmp}(h:fn.results=#[.tmp t,.tmp u])(hR:R (Xc (.tuple #[A.getD t undef,A.getD u undef])) w):Exit.noGoto (bodyPost P fn R) .ret {tmps:=A,defers:=[]} w:=by rw[jO];exact Vf.Vg h hR
def Hp(v:Nat->to)(o:Nat)(x:to):Nat->to:=λi=>if i=o then x else v i
def ad1(v:Nat->to)(a b:to):(mC (Hp v 11 a)).setIfInBounds 11 b=mC (Hp v 11 b):=rfl
def vrC(p:aU)(j:Nat):to:=Y (p.vars.getD j ⟨0,0,0⟩).init
def NL(V7:ek)(p:aU)(va:to)(mb:Nat)(v:Nat->to)(m:Nat)(a:Act)(W:ek):Prop:=∃(J:Nat->to) (i:Nat) (vs:to),a=FN J/\J 10=Oi mb/\J 62=va/\J 63=Y p.vars.length/\J 64=Y i/\i<=p.vars.length/\m+i=p.vars.length+1/\
 Hid (aC [mb] V7 W)/\Hid (Row W 3 1 vs i (vrC p))/\Hid (∀b,vs.ownBlock=O b->V7.heap.size<=b)/\Hid (aH W mb 113 (mC (Hp v 11 vs)))
def D7{p:Prop}(h:p:=by
 obtain⟨-,y0,y1⟩:=fF;exact qZ):p:=h
def nw1{V7:ek}{p:aU}{va:Option Addr}{vc mb:Nat}{v:Nat->to}{Q:Exit->Act->ek->Prop}(HV:Hid (aY V7 3 (H va p.vars.length vc) p.vars.length (dW p)))(HM:Hid (∃cs,aH V7 mb 113 cs))(hl:p.vars.length<=16)
 (dD:∀(J:Nat->to) W vs,J 10=Oi mb->aC [mb] V7 W->Row W 3 1 vs p.vars.length (vrC p)->(∀b,vs.ownBlock=O b->V7.heap.size<=b)->aH W mb 113 (mC (Hp v 11 vs))->Q (.exit 0) (FN J) W)
 (RT:Hid (∀b off c,0<p.vars.length->Value.slice va p.vars.length vc=H (O (I b off)) p.vars.length c->b≠mb))
 {a:Act} {W:ek} (h:NL V7 p (H va p.vars.length vc) mb v (p.vars.length+1) a W):(Code.loop (nwL 0)).wp prog Q a W:=by
 refine Mk.aM (λm a W=>NL V7 p (H va p.vars.length vc) mb v m a W) (p.vars.length+1) h ?_ ?_
 ·rintro a W ⟨J,i,vs,-,-,-,-,-,h1,h2,-⟩;omega
 rintro m a0 W ⟨J,i,vs,rfl,gN,j62,j63,j64,hi,hm,HF,HR,HO,HB⟩;unfold FN
 conv=>arg 2;whnf
 have w2:=mr i G;rw[gN,j62,j63,j64];clear gN j62 j63 j64;by_cases be:i<p.vars.length
 ·obtain⟨b,off,cap,e,q1,q2,lb,hc⟩:=HV.o.some G G;have hbm:=RT.o b off cap G e;simp only[cL]at e;obtain⟨rfl,-,rfl⟩:=e;have iJ:∀k,k<3->Xf W (I b (off+i*3+k))=O (dW p (i*3+k)):=λk hk=>by have h9:=hc (i*3+k) G;rw[<-Nat.add_assoc]at h9;exact(aR (HF.o.block _ lb (by simpa using hbm))).trans h9
  have c0:=iJ 0 G;have c1:=iJ 1 G;have c2:=iJ 2 G;obtain⟨x,hx⟩:∃x,p.vars.getD i ⟨0,0,0⟩=x:=⟨_,rfl⟩;have P8:dW p (i*3+0)=Y x.init/\dW p (i*3+1)=Y x.lo/\dW p (i*3+2)=Y x.hi:=by unfold dW;rw[show(i*3+0) / 3=i by omega,show(i*3+1) / 3=i by omega,show(i*3+2) / 3=i by omega,show(i*3+0) % 3=0 by omega,show(i*3+1) % 3=1 by omega,show(i*3+2) % 3=2 by omega,hx];exact⟨rfl,rfl,rfl⟩
  rw[P8.1,Nat.add_zero]at c0;rw[P8.2.1]at c1;rw[P8.2.2]at c2;have HX:=Z hx;have dm:=Z be;clear hx P8 iJ hc q2;obtain⟨sa,sn,sc,rfl⟩:=YK HR.o;have lb2:=ay c0;obtain⟨W1,DX⟩:∃W1,W1=W.alloc (Xe #[Y x.init,Y x.lo,Y x.hi] 122):=⟨_,rfl⟩;have k1:aH W1 W.heap.size 122 #[Y x.init,Y x.lo,Y x.hi]:=by rw[DX];exact aH.new _ _ _
  have fS:Below W.heap.size W W1:=by rw[DX];exact(aZ _ _).alloc (aL _) _
  have Kx:=HB.o.of (fS.block _ HB.o.lt);have Bd:=HR.o.aG (aC.ai (S:=[]) fS) az;have Vq:Xf W1 (I mb 11)=O (H sa sn sc):=Kx.cell 11;have z0:=k1.c1;have NC:mb∉(Value.slice sa sn sc).ownBlock.toList:=λhh=>HR.o.fx HB.o bz (by simpa using hh);have Ju:W.heap.size∉(Value.slice sa sn sc).ownBlock.toList:=λhh=>by have:=(gW HR.o W.heap.size (by simpa using hh)).2;omega
  have HN:=Z (And.intro NC Ju);have xT:=Z Kx;have Em:=Z Bd;have HFW:=Z ((aC.ai (S:=[mb]) fS));have yj:=Z fS.size;have lm:=Kx.lt;have lk:=k1.lt;have kM:Hid (i+1<=maxLen/\(i+1)*8<=140737488355328):=Z ⟨by unfold maxLen;omega,G⟩;clear k1 fS Kx Bd NC Ju;go_wp2_with fail;rw[<-DX];clear DX c0 c1 c2 lb2 lb;generalize IR:W.heap.size=vb at*;have HVB:=Z IR;clear IR;refine Gd.region [11] (λ_=>True) (λwx=>Xf wx (I mb 11)=O (H sa sn sc)/\Xf wx (I vb 0)=O (Y x.init)) bj ⟨trivial,Vq,z0⟩ (λau=>?_);have HD:=Z (aA W1.heap.size W1 1);change Hid (Below W1.heap.size W1 W1.drew)at HD;generalize W1.drew=V0 at*;refine Mk.S7 0 (v:=?_) rfl (λwz fF=>?_) au ?_;rotate_left
  ·exact D7
  refine Mk.pt ?_;refine Mk.S7 1 (v:=?_) rfl (λwz fF=>?_) au ?_;rotate_left
  ·exact D7
  refine Mk.pt ?_;refine Mk.S7 2 (v:=?_) rfl (λwz fF=>?_) au ?_;rotate_left
  ·exact D7
  refine Mk.pt ?_;refine Mk.S7 3 (v:=?_) rfl (λwz fF=>?_) au ?_;rotate_left
  ·exact D7
  refine Mk.pt ?_;refine Mk.S7 4 (v:=?_) rfl (λwz fF=>?_) au ?_;rotate_left
  ·exact D7
  refine Mk.pt ?_;refine Mk.S7 5 (v:=?_) rfl (λwz fF=>?_) au ?_;rotate_left
  ·exact D7
  refine Mk.pt ?_;refine Mk.S7 6 (v:=?_) rfl (λwz fF=>?_) au ?_;rotate_left
  ·exact D7
  refine Mk.pt ?_;refine Mk.ZW (rs:=[7]) (Gd.eJ.cons rfl (λK hK=>?_) Gd.eJ.nil);refine fL ?_;go_simp;have dR:Below W1.heap.size W1 (V0.alloc (Xe #[Y x.init] 3)):=HD.o.alloc HD.o.size _;have Aw:(V0.alloc (Xe #[Y x.init] 3)).cell? (I mb 11)=O (H sa sn sc)/\(V0.alloc (Xe #[Y x.init] 3)).cell? (I vb 0)=O (Y x.init):=⟨(aR (dR.block _ lm)).trans Vq,(aR (dR.block _ lk)).trans z0⟩;clear au;refine hK.out _ _ ⟨trivial,Aw⟩ (λau=>?_);clear hK K;refine Mk.pt ?_;refine Mk.ZW (rs:=[8]) (Gd.eJ.cons rfl (λK hK=>?_) Gd.eJ.nil);refine cU rfl (.tmp 72) (.tmp 75) 24 rfl 3 underlying24 Vf.cA rfl bz (H sa sn sc) i (vrC p) (by simp[Act.eval,Act.put]) (Em.o.aG (aC.ai (S:=[]) dR) az) (I V0.heap.size 0) 1 1 (λ_=> Y x.init) (by simp[Act.eval,Act.put]) ?_ (λj _=>rfl) kM.o.1 kM.o.2 ?_
  ·intro j hj;obtain rfl:j=0:=G;exact(aH.new V0 3 #[Y x.init]).cell 0
  intro v2 w2 r2 f2 i2;obtain⟨Yh,Yi,Yj,rfl⟩:=YK r2;have zN:Xf w2 (I mb 11)=O (H sa sn sc)/\Xf w2 (I vb 0)=O (Y x.init):=⟨(aR (f2.block _ (ay Aw.1) HN.o.1)).trans Aw.1,(aR (f2.block _ (ay Aw.2) HN.o.2)).trans Aw.2⟩;have mL:=(xT.o.of (dR.block _ xT.o.lt)).aG f2 HN.o.1;have pZ:=Z mL;have um:=Z (show Row w2 3 1 (H Yh Yi Yj) (i+1) (vrC p)from r2.congr (λo ho=>by
   unfold gQ vrC;by_cases e:o<i*1
   ·rw[aE e]
   ·rw[ax e];obtain rfl:o=i:=G;rw[HX.o]))
  have E6:=Z (show aC [mb] V7 (w2.setCell (I mb 11) (H Yh Yi Yj))from by
   have g1:aC [mb] V7 (V0.alloc (Xe #[Y x.init] 3)):=(HF.o.trans HFW.o).trans (aC.ai dR);have g2:aC [mb] V7 w2:=⟨f2.os.trans g1.os,f2.tape.trans g1.tape,f2.output.trans g1.output,bS g1.size f2.size,λk hk hn=>(f2.block k (dC hk g1.size) (λhm=>by have:=HO.o k (by simpa using hm);omega)).trans (g1.block k hk hn)⟩;exact g2.setCell (p:=(I mb 11)) az _)
  have zU:=Z (show∀b,(Value.slice Yh Yi Yj).ownBlock=O b->V7.heap.size<=b from λb X=>by
   rcases i2 with h|h
   ·exact HO.o b (by rw[<-h];exact X)
   ·rw[h]at X;have h1:=fT X;have h2:=dR.size;have h3:=HF.o.size;have h4:=HFW.o.size;simp only[aO]at h1 h2;omega)
  obtain⟨y0,y1⟩:=zN;have Gi:Xf w2 (I mb 11)=O (H sa sn sc)/\Xf w2 (I vb 0)=O (Y x.init):=⟨y0,y1⟩;have fz:=mL.frozen;have SF:=mL.lt;clear au mL r2 f2 i2 Aw dR;refine hK.out _ _ ⟨trivial,Gi⟩ (λau=>?_);clear hK K;refine Mk.pt ?_;refine Mk.S7 9 (v:=?_) rfl (λwz fF=>?_) au ?_;rotate_left
  ·exact D7
  refine Mk.pt ?_;refine Mk.S7 10 (v:=?_) rfl (λwz fF=>?_) au ?_;rotate_left
  ·exact D7
  refine Mk.pt ?_;refine Mk.ZW (rs:=[11]) (Gd.eJ.last rfl bj (λK hK=>?_) Gd.eJ.nil);refine fL ?_;go_simp;refine hK.out _ _ trivial ?_;clear hK K;refine Mk.pt ?_;refine Gd.done bj ⟨rfl,?_⟩ _;have fR:=Z (show aH (w2.setCell (I mb 11) (H Yh Yi Yj)) mb 113 (mC (Hp v 11 (H Yh Yi Yj)))by rw[<-ad1 v (H sa sn sc)];exact pZ.o.set 11 _);have HR3:=Z (um.o.other (c:=mb) (λe=>(um.o.fx pZ.o bz) e) 11 (H Yh Yi Yj));clear au y0 y1 Gi fz SF;go_wp2;exact⟨_,i+1,_,FN.of _ rfl,rfl,rfl,rfl,rfl,dm.o,G,E6,HR3,zU,fR⟩
 ·obtain rfl:i=p.vars.length:=G;clear be;go_wp2;exact Eq.mpr (bo (λa=>Q (.exit 0) a W) (FN.of _ rfl)) (dD _ _ _ rfl HF.o HR.o HO.o HB.o)
def mv0(K:Kp)(p:aU)(c:Cp)(qs:to)(nd:Int)(z:to):Nat->to:=λi=>if i<18 then(#[K.g,K.v,K.t,K.o,Y p.aV,K.c,Y c.size,qs,Y nd,.pointer Xb,.pointer Xb,Xd,Y 0,Y 0,Y 0,Y 0,Y 0,Y 0]:Array to).getD i undef else if i<60 then z else .pointer Xb
def RN2(w W2:ek)(p:aU)(c:Cp)(nd:Int)(a:Act)(W:ek):Prop:=∃(J:Nat->to) (K:Kp) (qs z:to) (mb:Nat),a=FN J/\J 2=Oi w.heap.size/\J 8=Y nd/\J 10=Oi mb/\Hid (Below W2.heap.size W2 W)/\Hid (Vf.RM W2 W K p)/\Hid (Vf.Own W2 W 3 1 c.aF.length qs (bd c.aF))/\Hid (aH W mb 113 (mC (mv0 K p c qs nd z)))/\Hid (W2.heap.size<=mb)
def adB{w W5 W6 V6 W7 V7 W9:ek}{K1:Kp}{p:aU}{c:Cp}{qs vs:to}{mb:Nat}(tV:bE p=0)(tb:uG p)(nX:np p c=true)(jE:∃W2:ek,w.heap.size<=W2.heap.size/\Vf.RM W2 W5 K1 p/\Vf.Own W2 W5 3 1 c.aF.length qs (bd c.aF)/\W2.heap.size<=mb)(yw:Below w.heap.size w W5)
 (YJ:∃cs,aH W5 mb 113 cs) (f6:aC [] W5 W6) (ha6:eO.cw W6 (W5.heap.size+1) Xd (H (O (I W5.heap.size 0)) p.ap.length p.ap.length) (dE (aB p c)) p.ap.length eO.Dh) (g6:aC [mb] W6 V6)
 (f7:aC [] V6 W7) (hi7:Ix.dp W7 (V6.heap.size+1) V6.heap.size (dE (aB p c)) 0 (λ_=>Xb)) (hz7:W7.heap.size=V6.heap.size+2) (g7:aC [mb] W7 V7) (hs7:V7.heap.size=W7.heap.size) (g9:aC [mb] V7 W9) (hvs:Row W9 3 1 vs p.vars.length (vrC p)) (hvl:∀b,vs.ownBlock=O b->V7.heap.size<=b)
 (hmc:aH W9 mb 113 (tp ⟨K1.g,K1.v,K1.t,K1.o,K1.c,qs,dE (aB p c),λn=>bp mb n⟩ ⟨mb,W5.heap.size+1,V6.heap.size+1,V6.heap.size,Xd,H (O (I W5.heap.size 0)) p.ap.length p.ap.length,vs⟩ p c 0 ⟨0,0,0,0⟩ 0 (.pointer Xb))):
 Below w.heap.size w W9/\∃(C:Co) (RO:List Nat) (K:Kc),C.mb=mb/\Mx W9 C RO K p c (Bp p) ⟨0,0,0,0⟩ 0 (.pointer Xb)/\Tf K C.mb p c/\(∀b,b∈C.l++RO->w.heap.size<=b):=by
 obtain⟨W2,h2,Hu,hqo,mO⟩:=jE;obtain⟨cs5,YJ⟩:=YJ;have Ka:=YJ.lt;have up:∀{a0c a0a:ek},aC [] a0c a0a->aC [mb] a0c a0a:=λf=>f.mono az;have f59:aC [mb] W5 W9:=((((up f6).trans g6).trans (up f7)).trans g7).trans g9;have agu:W5.heap.size+1<W6.heap.size:=by obtain⟨R,A,hc,-⟩:=ha6;exact hc.head.lt
 have s6:=g6.size;have s9:=g9.size;have NP:∀{E:TypeId} {size n:Nat} {v:to} {g:Nat->to},Vf.Own W2 W5 E size n v g->E≠113->Row W9 E size v n g/\(∀b,b∈vb v->W2.heap.size<=b/\b<W5.heap.size/\b≠mb):=λh hE=>by have bt:∀b,b∈vb _->b≠mb:=λb X e=>h.1.fx YJ hE (by rw[<-e];exact aX.1 X);exact⟨h.1.aG f59 (λb X=>by have:=bt b (aX.2 X);simpa using this),λb X=>⟨(h.2 b (aX.1 X)).1,(h.2 b (aX.1 X)).2,bt b X⟩⟩
 obtain⟨rg,adA⟩:=NP Hu.g bz;obtain⟨rv,aav⟩:=NP Hu.v bz;obtain⟨rt,it⟩:=NP Hu.t bz;obtain⟨ro,aau⟩:=NP Hu.o bz;obtain⟨rc,aat⟩:=NP Hu.c bz;obtain⟨aar,adz⟩:=NP hqo bz;have hRO:∀b,b∈vb K1.g++vb K1.v++vb K1.t++vb K1.o++vb K1.c++vb qs->W2.heap.size<=b/\b<W5.heap.size/\b≠mb:=by
  intro b X;simp only[fE]at X;rcases X with((((X|X)|X)|X)|X)|X
  ·exact adA b X
  ·exact aav b X
  ·exact it b X
  ·exact aau b X
  ·exact aat b X
  ·exact adz b X
 have IR:∀b,b∈vb vs->V7.heap.size<=b/\b<W9.heap.size:=λb X=>⟨hvl b (aX.1 X),(gW hvs b (aX.1 X)).2⟩;have hvn:(vb vs).Nodup:=by unfold vb;cases vs.ownBlock<;>simp
 have Jo:=nX;unfold np at Jo;simp only[fh,fj]at Jo;have nO:W5.heap.size<=W9.heap.size:=f59.size;refine⟨yw.trans (f59.below yw.size kZ),⟨mb,W5.heap.size+1,V6.heap.size+1,V6.heap.size,Xd,H (O (I W5.heap.size 0)) p.ap.length p.ap.length,vs⟩,vb K1.g++vb K1.v++vb K1.t++vb K1.o++vb K1.c++vb qs,⟨K1.g,K1.v,K1.t,K1.o,K1.c,qs,dE (aB p c),λn=>bp mb n⟩,rfl,⟨⟨hmc,⟨rg,rv,rt,ro,rc,aar,?_⟩,?_,?_,hvs⟩,⟨?_,?_,?_,?_⟩⟩,⟨Vf.Cw Jo.1,rfl,Jo.2,tV,λn _=>rfl⟩,?_⟩
 ·intro b X;simp only[fE];rcases X with X|X|X|X|X|X<;>simp[X]
 ·refine ha6.aG (((g6.trans (up f7)).trans g7).trans g9) ?_;intro b X;simp only[bL,Value.ownBlock,Option.toList,ep,List.nil_append,List.not_mem_nil,or_false]at X;rcases X with rfl|rfl<;>simp<;>omega
 ·have h0:fN p (Bp p).a=0:=eO.zp _;show Ix.dp W9 (V6.heap.size+1) V6.heap.size (dE (aB p c)) (fN p (Bp p).a) (Bp p).f;rw[h0];have e1:V6.heap.size+1≠mb:=G;have e2:V6.heap.size≠mb:=G;exact hi7.aG (g7.trans g9) ⟨by simpa using e1,by simpa using e2⟩
 ·simp only[Co.l,bL,Value.ownBlock,Option.toList,List.nil_append,List.cons_append];simp only[List.nodup_cons,ep,fE,List.not_mem_nil,or_false,not_or];refine⟨⟨G,G,G,G,λh=>?_⟩,⟨G,G,G,λh=>?_⟩,⟨G,G,λh=>?_⟩,⟨G,λh=>?_⟩,λh=>?_,hvn⟩
  all_goals (have:=(IR _ h).1;omega)
 ·intro b X;simp only[Co.l,bL,Value.ownBlock,Option.toList,List.nil_append,List.cons_append,ep,fE,List.not_mem_nil,or_false]at X;rcases X with rfl|rfl|rfl|rfl|rfl|X
  ·omega
  ·omega
  ·omega
  ·omega
  ·omega
  ·exact(IR b X).2
 ·intro b X hr;have h1:=hRO b hr;simp only[Co.l,bL,Value.ownBlock,Option.toList,List.nil_append,List.cons_append,ep,fE,List.not_mem_nil,or_false]at X;rcases X with rfl|rfl|rfl|rfl|rfl|X
  ·exact h1.2.2 rfl
  ·omega
  ·omega
  ·omega
  ·omega
  ·have:=(IR b X).1;omega
 ·intro b X;have:=hRO b X;omega
 ·intro b X;rw[fE]at X;rcases X with X|X
  ·simp only[Co.l,bL,Value.ownBlock,Option.toList,List.nil_append,List.cons_append,ep,fE,List.not_mem_nil,or_false]at X;have:=yw.size;rcases X with rfl|rfl|rfl|rfl|rfl|X
   ·omega
   ·omega
   ·omega
   ·omega
   ·omega
   ·have:=(IR b X).1;omega
  ·have:=(hRO b X).1;omega
def Fi{w:ek}{K:Kp}{p:aU}{c:Cp}{qv:to}(h:gM w K p)(hq:aY w 1 qv c.aF.length (bd c.aF)):Calls prog 16 #[pV K p,cV c qv] w (adC w p c):=by
 obtain⟨⟨ga,gc,g1,g2,g3⟩,⟨va,vc,v1,v2,v3⟩,⟨ta,tc,t1,t2,t3⟩,⟨oa,oc,o1,o2,o3⟩,⟨ca,cc,c1,c2,c3⟩⟩:=h.sl;obtain⟨qa,qc,rfl,-,-⟩:=hq.val;have Nj:=Z (λV (X:Below w.heap.size w V)=>Vf.JG (w:=V) (h.aG (aC.ai X)));have HFT:=Z (λV (X:Below w.heap.size w V) hg=>Vf.JH V (c:=c) (h.aG (aC.ai X)) (hq.aG (aC.ai X)) hg);have HTW:=Z (λV (X:Below w.heap.size w V) hm=>Vf.aaC V (h.aG (aC.ai X)) hm);have sI:=Z (λV (X:Below w.heap.size w V) hn=>Vf.qg (w:=V) (hq.aG (aC.ai X)) hn (λ_ _=>rfl));have a0g:=Z h;have HQ:=Z hq;obtain⟨W0,jM⟩:∃W0,W0=(w.alloc (Xe #[H ga p.ap.length gc,H va p.vars.length vc,H ta p.aW.length tc,H oa p.on.length oc,Y p.aV,H ca p.code.length cc] 27)).alloc (Xe #[Y c.size,H qa c.aF.length qc] 29):=⟨_,rfl⟩;have kp:aH W0 w.heap.size 27 #[H ga p.ap.length gc,H va p.vars.length vc,H ta p.aW.length tc,H oa p.on.length oc,Y p.aV,H ca p.code.length cc]:=by rw[jM];exact(aH.new _ _ _).alloc _
 have kc:aH W0 (w.heap.size+1) 29 #[Y c.size,H qa c.aF.length qc]:=by rw[jM];exact aH.bK az
 have dG:Below w.heap.size w W0:=by rw[jM];exact((aZ _ _).alloc (aL _) _).alloc az _
 have HKV:=Z v1;unfold pV cV at*;rw[g1,v1,t1,o1,c1]at Nj HFT HTW ⊢;clear h hq g1 v1 t1 o1 c1 g2 g3 v2 v3 t2 t3 o2 o3 c2 c3;go_enter func16,ntmps16;go_wp2_with fail;rw[<-jM];refine(Nj.o _ dG).mono ?_;rintro e W1 ⟨yx,ms,rfl,⟨x9,y9,z9,rfl⟩,X,h1⟩;have KP:=Z (kp.of (X.block _ kp.lt));have KC:=Z (kc.of (X.block _ kc.lt));have dS:=Z (dG.trans (X.mono dG.size));have sE:=Z (show w.heap.size+1<W1.heap.size by have:=X.size;have:=kc.lt;omega);have H1:=Z h1;clear kp kc X dG jM h1 Nj;obtain⟨ve,hve⟩:∃v,a8 p=v:=⟨_,rfl⟩;have VK:=Z hve;rw[hve]at H1 ⊢;obtain⟨e1,e2⟩:=ve;clear hve;dsimp only;obtain⟨p0,p1,p2,p3,p4,p5⟩:=KP.o.c6;obtain⟨k0,k1⟩:=KC.o.c2;have lp:=KP.o.lt;have lc:=KC.o.lt;have Sl:=Z (λcs T w_ T2=>(dS.o.alloc dS.o.size (Xe cs T)).alloc (by simp;have:=dS.o.size;omega) (Xe w_ T2));by_cases he:e1=0
 case neg=>
  have bt:(e1 !=0)=true:=by simpa using he
  have HE:=Z he;clear he;go_wp2;go_quiet (fail);go_wp2_with fail;refine RS rfl ?_;exact⟨(Sl.o _ _ _ _).trans (aA _ _ _),.inl ⟨by rw[VK.o];exact HE.o,by rw[VK.o];rfl⟩⟩
 subst he;have OM:=Z (show bE p=0 by
  by_cases h0:bE p=0
  ·exact h0
  ·have:=VK.o;unfold a8 at this;rw[aE h0]at this;exact absurd (Prod.mk.inj this).1 h0)
 have TB:=Z (cO OM.o).1;have Ad:=TB.o.g;have VL:=Z (λV X=>HFT.o V X Ad);unfold Ay at VL;have HNK:=Z (show(iR p c&&decide (dE (aB p c)<=4194304))=np p c from rfl);rw[HNK.o]at VL;generalize iE:(if iR p c=true then((dE (aB p c):Nat):Int)else 0)=nd at*;have Ot:=Z iE;clear iE Ad HFT;go_wp2_with fail;refine(VL.o _ (Sl.o _ _ _ _)).mono ?_;rintro e W2 ⟨rfl,X⟩;have dR:Below W1.heap.size W1 W2:=(((aZ _ _).alloc (aL _) _).alloc az _).trans (X.mono kZ);have KP2:=Z (KP.o.of (dR.block _ KP.o.lt));have KC2:=Z (KC.o.of (dR.block _ KC.o.lt));have fR:=Z (dS.o.trans (dR.mono dS.o.size));have Ho:=Z (show w.heap.size+1<W2.heap.size by have:=sE.o;have:=dR.size;omega);clear X dR p0 p1 p2 p3 p4 p5 k0 k1 lp lc Sl VL;cases nX:np p c with
 |false=>have Bq:=Z nX;clear nX;go_wp2_with fail;refine RS rfl ?_;exact⟨fR.o,.inr (.inl ⟨by rw[VK.o],Bq.o,rfl⟩)⟩
 |true=>
 have Bq:=Z nX;clear nX;obtain⟨p0,p1,p2,p3,p4,p5⟩:=KP2.o.c6;obtain⟨k0,k1⟩:=KC2.o.c2;have lp:=KP2.o.lt;have lc:=KC2.o.lt;have afQ:=Z (show Vf.Mod p from⟨by have:=TB.o.g;omega,by have:=TB.o.v;omega,by have:=TB.o.t;omega,by have:=TB.o.on;have:=TB.o.g;omega,by have:=TB.o.code;omega⟩);have HQ8:=Z (show c.aF.length*8<=140737488355328 by
  have h:=Bq.o;unfold np iR at h;simp only[fh,fj]at h;have:=h.1.1.2;have:=TB.o.g;omega)
 have Rl:=Z (show nd=((dE (aB p c):Nat):Int)/\dE (aB p c)<=4194304 by
  have h:=Bq.o;unfold np at h;simp only[fh,fj]at h;rw[<-Ot.o,aE h.1];exact⟨rfl,h.2⟩)
 have p9:=Z (λV (X:Below W2.heap.size W2 V)=>HTW.o V (fR.o.trans (X.mono fR.o.size)) afQ.o);have p8:=Z (λV (X:Below W2.heap.size W2 V)=>sI.o V (fR.o.trans (X.mono fR.o.size)) HQ8.o);clear HTW sI;go_wp2;refine wp_mono (Q:=λe a W=>e=Exit.normal/\RN2 w W2 p c nd a W) ?_ ?_
 ·refine Mk.bq (S:=λwx=>Below W2.heap.size W2 wx) bj (aA _ W2 1) (λau=>?_);refine Mk.tk 0 (v:=?_) rfl (λwz fF=>?_) au ?_;rotate_left
  ·have key:∀b i v,b<W2.heap.size->Xf W2 (I b i)=O v->Xf wz (I b i)=O v:=λb i v X hc=>(aR (fF.block _ X)).trans hc;exact qX5
  refine Mk.pt ?_;refine Mk.cD 2 ?_;refine Mk.tk 3 (v:=?_) rfl (λwz fF=>?_) au ?_;rotate_left
  ·have key:∀b i v,b<W2.heap.size->Xf W2 (I b i)=O v->Xf wz (I b i)=O v:=λb i v X hc=>(aR (fF.block _ X)).trans hc;have y0:=key _ _ _ lc k0;exact qZ
  refine Mk.pt ?_;refine Mk.cD 4 ?_;refine Mk.tk 5 (v:=?_) rfl (λwz fF=>?_) au ?_;rotate_left
  ·have key:∀b i v,b<W2.heap.size->Xf W2 (I b i)=O v->Xf wz (I b i)=O v:=λb i v X hc=>(aR (fF.block _ X)).trans hc;have y0:=key _ _ _ lc k1;exact qZ
  refine Mk.pt ?_;refine Mk.cD 8 ?_;refine Mk.oH (rs:=[1]) (bX rfl (λK9 hK=>?_) cz);refine fL ?_;go_simp;refine(p9.o _ au).mono ?_;rintro e Wt ⟨K1,rfl,Hu,hbt⟩;obtain⟨kg,kv,kt,ko,kc⟩:=K1;obtain⟨ag,mg,cg,eg⟩:=YK Hu.g.1;obtain⟨av,mv,cv,ev⟩:=YK Hu.v.1;obtain⟨at_,mt,ct,et⟩:=YK Hu.t.1;obtain⟨ao,mo,co,eo⟩:=YK Hu.o.1;obtain⟨ac,mc,cc9,ec⟩:=YK Hu.c.1;dsimp only at eg ev et eo ec;subst eg ev et eo ec;unfold pV;dsimp only;have hS:=au.trans (hbt.mono au.size);have agv:=au.size;clear au;refine hK.out _ _ hS (λau=>?_);clear hK K9;refine Mk.pt ?_;refine Mk.oH (rs:=[6]) (bX rfl (λK9 hK=>?_) cz);refine fL ?_;go_simp;refine(p8.o _ au).mono ?_;rintro e ady ⟨qs,rfl,hrq,hbq,hiq⟩;obtain⟨aq,mq,cq,rfl⟩:=YK hrq;have hS:=au.trans (hbq.mono au.size);have ug:=au.size;clear au;refine hK.out _ _ hS (λau=>?_);clear hK K9;refine Mk.pt ?_;refine Mk.cD 7 ?_;refine Mk.cD 9 ?_;refine Mk.oH (rs:=[10]) (bX rfl (λK9 hK=>?_) cz);refine fL ?_;go_simp;refine hK.out _ _ (au.alloc au.size _) (λau=>?_);clear hK K9;refine Mk.pt ?_;refine Mk.cD 11 ?_;refine eT bj ⟨rfl,rfl,_,⟨H ag mg cg,H av mv cv,H at_ mt ct,H ao mo co,H ac mc cc9⟩,H aq mq cq,.nilFunc,_,FN.of _ rfl,rfl,rfl,rfl,Z au,Z ?_,Z ⟨hrq.alloc _,hiq.mono ug az⟩,Z ?_,Z (bS ug hbq.size)⟩ _
  ·have h0:Vf.RM W2 Wt ⟨H ag mg cg,H av mv cv,H at_ mt ct,H ao mo co,H ac mc cc9⟩ p:=⟨Hu.g,Hu.v,Hu.t,Hu.o,Hu.c⟩;have xO:Below Wt.heap.size Wt (ady.alloc (Xe #[H ag mg cg,H av mv cv,H at_ mt ct,H ao mo co,Y p.aV,H ac mc cc9,Y c.size,H aq mq cq,Y nd,.pointer Xb,.pointer Xb,Xd,Y 0,Y 0,Y 0,Y 0,Y 0,Y 0,.nilFunc,.nilFunc,.nilFunc,.nilFunc,.nilFunc,.nilFunc,.nilFunc,.nilFunc,.nilFunc,.nilFunc,.nilFunc,.nilFunc,.nilFunc,.nilFunc,.nilFunc,.nilFunc,.nilFunc,.nilFunc,.nilFunc,.nilFunc,.nilFunc,.nilFunc,.nilFunc,.nilFunc,.nilFunc,.nilFunc,.nilFunc,.nilFunc,.nilFunc,.nilFunc,.nilFunc,.nilFunc,.nilFunc,.nilFunc,.nilFunc,.nilFunc,.nilFunc,.nilFunc,.nilFunc,.nilFunc,.nilFunc,.nilFunc,.pointer Xb] 113)):=hbq.alloc hbq.size _;exact⟨h0.g.later xO,h0.v.later xO,h0.t.later xO,h0.o.later xO,h0.c.later xO⟩
  ·exact aH.new _ _ _
 rintro e a W5 ⟨rfl,J,K1,qs,z,mb,rfl,j2,j8,gN,gY,HPO,HQS,rY,kM⟩;clear p0 p1 p2 p3 p4 p5 k0 k1 lp lc p9 p8;unfold FN;have hN:=Rl.o.1;rw[j2,j8,gN,hN];have hN4:=Rl.o.2;subst hN;clear j2 j8 gN Ot;have Pl:=Z (fR.o.trans (gY.o.mono fR.o.size));have KP5:=Z (KP2.o.of (gY.o.block _ KP2.o.lt));have HWL:=Z (show w.heap.size≠mb by have:=Ho.o;have:=kM.o;omega);have p0:=KP5.o.c1;have lp:=KP5.o.lt;have Ad:=TB.o.g;have HAR:=Z (λV=>eO.Fi (dE (aB p c)) p.ap.length V hN4 G);have HIX:=Z (λV=>Ix.Jc (dE (aB p c)) V hN4);generalize hNN:dE (aB p c)=N at*;have vh:=Z hNN;clear hNN;go_wp2_with fail;refine(HAR.o W5).mono ?_;rintro e W6 ⟨rfl,f6,ha6⟩;have km6:aH W6 mb 113 (mC (mv0 K1 p c qs N z)):=rY.o.aG f6 az;have m9:Xf W6 (I mb 9)=O (.pointer Xb):=km6.cell 9;have fz6:=km6.frozen;have lm6:=km6.lt;have D8:=Z (show aH (W6.setCell (I mb 9) (Oi (W5.heap.size+1))) mb 113 (mC (Hp (mv0 K1 p c qs N z) 9 (Oi (W5.heap.size+1))))from km6.set 9 _);have XS:=Z (show aC [mb] W6 (W6.setCell (I mb 9) (Oi (W5.heap.size+1)))from(aC.refl _ _).setCell (p:=(I mb 9)) az _);have Oq:=Z f6;have HA6:=Z ha6;clear f6 ha6 km6 p0 lp;go_wp2_with fail;obtain⟨V6,hV6⟩:∃V,V=W6.setCell (I mb 9) (Oi (W5.heap.size+1)):=⟨_,rfl⟩;rw[<-hV6]at D8 XS ⊢;clear m9 fz6 lm6 hV6;refine(HIX.o V6).mono ?_;rintro r W7 ⟨rfl,f7,hi7,hz7⟩;have km7:aH W7 mb 113 (mC (Hp (mv0 K1 p c qs N z) 9 (Oi (W5.heap.size+1)))):=D8.o.aG f7 az;have m10:Xf W7 (I mb 10)=O (.pointer Xb):=km7.cell 10;have fz7:=km7.frozen;have lm7:=km7.lt;have hZ:aC [mb] W5 W7:=(((aC.mono Oq.o az).trans XS.o).trans (aC.mono f7 az));have kp7:=KP5.o.aG hZ (by have:=HWL.o;simpa using this);have p1:Xf W7 (I w.heap.size 1)=O (H va p.vars.length vc):=kp7.cell 1;have lp:=kp7.lt;have HG7:=Z (show aC [mb] W7 (W7.setCell (I mb 10) (Oi (V6.heap.size+1)))from(aC.refl _ _).setCell (p:=(I mb 10)) az _);have HM7:=Z (show aH (W7.setCell (I mb 10) (Oi (V6.heap.size+1))) mb 113 (mC (Hp (Hp (mv0 K1 p c qs N z) 9 (Oi (W5.heap.size+1))) 10 (Oi (V6.heap.size+1))))from km7.set 10 _);have S2:=Z f7;have HI7:=Z hi7;have HZ7:=Z hz7;have afR:=Z hZ;have hnw:=HWL.o;clear f7 hi7 hz7 km7 hZ kp7;go_wp2_with fail;obtain⟨V7,hV7⟩:∃V,V=W7.setCell (I mb 10) (Oi (V6.heap.size+1)):=⟨_,rfl⟩;have HS7:=Z (show V7.heap.size=W7.heap.size by rw[hV7];simp);rw[<-hV7]at HG7 HM7 ⊢;clear m10 fz7 lm7 p1 lp hV7 hnw;have HVR:=Z (show aY V7 3 (H va p.vars.length vc) p.vars.length (dW p)by
  have h0:=a0g.o.v;rw[HKV.o]at h0;exact h0.aG (aC.ai (Pl.o.trans ((afR.o.trans HG7.o).below Pl.o.size (by have:=kM.o;have:=fR.o.size;simp;omega)))))
 refine nw1 (V7:=V7) (mb:=mb) (v:=Hp (Hp (mv0 K1 p c qs N z) 9 (Oi (W5.heap.size+1))) 10 (Oi (V6.heap.size+1))) HVR (Z ⟨_,HM7.o⟩) TB.o.v (λJ W8 vs gN hf8 hr8 ho8 wm=>?_) (Z (λb off cp hn e=>?_)) ⟨_,0,Xd,FN.of _ rfl,rfl,rfl,rfl,rfl,ck _,G,Z (aC.refl _ _),Z (Row.nil _ _ _ _),Z (λb X=>by cases X),Z HM7.o⟩;rotate_left
 ·have h0:=a0g.o.v;rw[HKV.o]at h0;obtain⟨b',Ef,pq,e',-,-,hl,-⟩:=h0.some hn G;rw[e]at e';simp only[cL,iI,Addr.mk.injEq]at e';have:=kM.o;have:=fR.o.size;omega
 unfold FN;rw[gN];have HF8:=Z hf8;have HR8:=Z hr8;have vL:=Z ho8;have xG:=Z (D6 (v:=Hp (Hp (Hp (mv0 K1 p c qs N z) 9 (Oi (W5.heap.size+1))) 10 (Oi (V6.heap.size+1))) 11 vs) wm);have afS:=Z (λe=>hr8.fx wm bz e);clear gN hf8 hr8 ho8 wm;go_wp2_with fail;refine xG.o.mono ?_;rintro e W9 ⟨rfl,RK,sV⟩;have jc:=adB (w:=w) (c:=c) OM.o TB.o Bq.o ⟨W2,fR.o.size,HPO.o,HQS.o,kM.o⟩ Pl.o ⟨_,rY.o⟩ Oq.o (by rw[vh.o];exact HA6.o) XS.o S2.o (by rw[vh.o];exact HI7.o) HZ7.o HG7.o HS7.o (HF8.o.trans RK) (HR8.o.aG RK (λb X hm=>afS.o (by simp at hm;rw[<-hm];exact X))) vL.o (by rw[vh.o];exact sV);have HD:=Z jc;clear jc RK sV xG;go_wp2_with fail;refine RS rfl ?_;obtain⟨h1,C,RO,K9,rfl,h3,h4,h5⟩:=HD.o;exact⟨h1,.inr (.inr ⟨by rw[VK.o],Bq.o,C,RO,K9,rfl,h3,h4,h5⟩)⟩
end Go.Ma
section
def Rk{p:Prop}(h:p:=by
 go_wp2;exact Eq.mpr (bo (λa=>Code.wp prog ly _ a w5) (FP.of _ rfl)) (aaM HM.o HV.o HS.o HH.o HI.o hk Jg.o HX.o gY.o cJ (λk=>Array.getD _ k undef))):p:=h
namespace Go.Ma
open Go.RowKit al.Vm
open al hiding aS aw an
def VC:Nat->Code->Code
 |0,c=>c
 |n+1,.seq _ b=>VC n b
 |_,c=>c
def FP(bx:Nat)(X:Bool)(D:List Deferred)(J:Nat->to):Act:={tmps:=#[J 0,J 1,Oi bx,J 3,Oi (bx+1),Oi (bx+1+1+1),.bool X,J 7,J 8,J 9,J 10,J 11,J 12,J 13,J 14,J 15,J 16,J 17,J 18,J 19,J 20,J 21,J 22,J 23,J 24,J 25,J 26,J 27,J 28,J 29,J 30,J 31,J 32,J 33,J 34,J 35,J 36,J 37,J 38,J 39,J 40,J 41,J 42,J 43,J 44,J 45,J 46,J 47,J 48,J 49,J 50,J 51,J 52,J 53,J 54,J 55,J 56,J 57,J 58,J 59,J 60,J 61,J 62,J 63,J 64,J 65,J 66,J 67,J 68,J 69,J 70,J 71,J 72,J 73,J 74,J 75,J 76,J 77,J 78,J 79,J 80,J 81,J 82,J 83,J 84,J 85,J 86,J 87,J 88,J 89,J 90,J 91,J 92,J 93,J 94,J 95,J 96,J 97,J 98,J 99,J 100,J 101,J 102,J 103,J 104,J 105,J 106,J 107,J 108,J 109,J 110,J 111,J 112,J 113,J 114,J 115,J 116,J 117,J 118],defers:=D}
def FP.of{bx:Nat}{X:Bool}{D:List Deferred}(A:Array to)(h:A=(FP bx X D λk=>A.getD k undef).tmps):({tmps:=A,defers:=D}:Act)=FP bx X D λk=>A.getD k undef:=by rw[h];rfl
def DD(bx:Nat):List Deferred:=[{target:= .fn (.func 61) #[Oi bx,Oi (bx+1+1+1),Oi (bx+1)],args:=#[]}]
def WL(bx:Nat)(X:Bool)(a:Act):Prop:=∃J,a=FP bx X (DD bx) J
noncomputable def Vk:Code:=VC 5 (Proofs.Tryz.f17.body.getD .skip)
noncomputable def ly:Code:=match VC 4 (Proofs.Tryz.f17.body.getD .skip)with| .seq a _=>a|c=>c
noncomputable def aaT:Code:=VC 8 (Proofs.Tryz.f17.body.getD .skip)
def half(t:fG)(X:Bool):fG:=if X then{t with db:=wrap64 (t.db+1)}else{t with bm:=wrap64 (t.bm+1)}
def aaq{w:ek}{ta:Option Addr}{n xV:Nat}{g:Nat->to}(h:Row w 46 1 (H ta n xV) n g):Calls prog 63 #[H ta n xV] w (λe w'=>e=Xc (H ta n n)/\w=w'):=by
 rcases h.val with⟨e,h0⟩|⟨b,cap,e,h1,-,-⟩
 ·simp only[cL]at e;obtain⟨rfl,rfl,rfl⟩:=e;exact aby w
 ·simp only[cL]at e;obtain⟨rfl,-,rfl⟩:=e;exact aeU w h1
section
variable {w w7:ek}{C C1:Co}{RO mX:List Nat}{K:Kc}{p:aU}{c:Cp}{t:fG}{used:Int}{s s1:St}{bx key us:Nat}{told:List Nat}{ta:Option Addr}{xV:Nat}{X:Bool}{T:Map}{oF:Int}
def aaK(h:Mx w C RO K p c s t used (.pointer Xb))(a0f:Over w w7 bx C C1 mX K p c s1 t us (H ta told.length xV) told 0 (.bool false) Xd (Y 0))(hT:eQ p c s key=0)(hN:fD p c s key=s1)(hH:qY p c s key=X)(hL:gu p c s key=told)(hU:(nM p c s key).1=us)(J:Nat->to):
 Code.wp prog aaT (bodyPostD prog Proofs.Tryz.f17 (jK w C RO K p c t s key)) (FP bx X (DD bx) J) w7:=by
 have HH:=Z h;have HO:=Z a0f;have HX:=Z (show _/\_/\_/\_/\_ from⟨hT,hN,hH,hL,hU⟩);clear h a0f hT hN hH hL hU
 conv=>arg 2;whnf
 refine wp_seq ?_;refine wp_mono (Q:=λe a V=>e=Exit.normal/\WL bx X a/\Over w V bx C C1 mX K p c s1 (half t X) us (H ta told.length xV) told 0 (.bool false) Xd (Y 0)) ?_ ?_
 ·have d2:=HO.o.b2.c1;have a1k:Xf w7 (I C.mb 13)=O (Y t.db):=by rw[<-HO.o.mb];exact HO.o.mx.m.aT.cell 13
  have a1l:Xf w7 (I C.mb 14)=O (Y t.bm):=by rw[<-HO.o.mb];exact HO.o.mx.m.aT.cell 14
  have fm:∀o,w7.frozen? (I C.mb o)=false:=by rw[<-HO.o.mb];exact HO.o.mx.m.aT.frozen
  unfold FP DD;cases X with
  |true=>
   go_wp2
   first|exact⟨rfl,⟨_,FP.of _ rfl⟩,HO.o.kK 13 (Y (wrap64 (t.db+1))) (t':=half t true) (used':=us) rfl⟩|exact⟨⟨_,FP.of _ rfl⟩,HO.o.kK 13 (Y (wrap64 (t.db+1))) (t':=half t true) (used':=us) rfl⟩
  |false=>
   go_wp2
   first|exact⟨rfl,⟨_,FP.of _ rfl⟩,HO.o.kK 14 (Y (wrap64 (t.bm+1))) (t':=half t false) (used':=us) rfl⟩|exact⟨⟨_,FP.of _ rfl⟩,HO.o.kK 14 (Y (wrap64 (t.bm+1))) (t':=half t false) (used':=us) rfl⟩
 rintro e a w8 ⟨rfl,⟨adx,rfl⟩,O8⟩;simp only[Exit.then];have d2:=O8.b2.c1;have g5:=O8.b5.c1;have pd:Xf w8 (I (bx+1+1) 5)=O (H ta told.length xV):=by obtain⟨cs,q1,q2,q3⟩:=O8.rb;exact(q1.cell 5).trans q2
 have adw:Xf w8 (I C.mb 15)=O (Y (half t X).fZ):=by rw[<-O8.mb];exact O8.mx.m.aT.cell 15
 have fm:∀o,w8.frozen? (I C.mb o)=false:=by rw[<-O8.mb];exact O8.mx.m.aT.frozen
 have adu:bx+1+1≠C.mb:=λe=>O8.nc (by rw[e,<-O8.mb];simp[Co.l]);have ads:bx+1≠C.mb:=λe=>O8.mx.cr (b:=bx+1) (O8.ro _ az) (by rw[e,<-O8.mb];simp[Co.l]);have vL:=Z O8;clear O8;unfold FP DD;go_wp2;go_region;have O9:=(vL.o.kK 15 (Y (wrap64 ((half t X).fZ+told.length))) (t':={half t X with fZ:=wrap64 ((half t X).fZ+told.length)}) (used':=us) rfl).draw 1;change Over w (w8.setCell (I C.mb 15) (Y (wrap64 ((half t X).fZ+told.length)))).drew bx C C1 mX K p c _ _ _ _ _ _ _ _ _ at O9;clear d2 g5 pd adw fm vL;generalize(w8.setCell (I C.mb 15) (Y (wrap64 ((half t X).fZ+told.length)))).drew=w9 at*;have g5:=O9.b5.c1;have pd:Xf w9 (I (bx+1+1) 5)=O (H ta told.length xV):=by obtain⟨cs,q1,q2,q3⟩:=O9.rb;exact(q1.cell 5).trans q2
 have adr:∀o,w9.frozen? (I (bx+1) o)=false:=O9.b4.frozen;obtain⟨adq,adp,adn⟩:=O9.b4.c3;have ww:=Z O9;clear O9 adu ads;go_wp2_with fail;refine(aaq ww.o.td).mono ?_;rintro e w8' ⟨rfl,rfl⟩;have K_:=Z (ww.o.close HH.o (bN.refl _ _) ww.o.mx (jZ _ (bx+1) (.bool X) (H ta told.length told.length) (Y 0)) (j_ ww.o.b4 (.bool X) (H ta told.length told.length) (Y 0)));go_wp2_with fail;refine leaves_cons (f:=61) (args:=#[Oi bx,Oi (bx+1+1+1),Oi (bx+1)]) az (by simp[go_sem]) ?_;refine K_.o.mono ?_;rintro e u' aal ⟨rfl,rfl,C2,k3,m3,kb,td,tn⟩;obtain⟨xA,tB,hh,QR,Xg⟩:=HX.o;obtain⟨a0,a1,a2⟩:=kb.c3;have oJ:=Z (show jK w C RO K p c t s key (Xc (.agg #[.bool X,H ta told.length told.length,Y 0])) aal from by
  refine⟨H ta told.length told.length,C2,?_,k3,?_,?_,λb X=>tn b (by cases ta with
   |none=>simp[vb,Value.ownBlock]at X
   |some a=>exact X)⟩
  ·rw[xA,aE rfl,hh]
  ·rw[tB,xA,aE rfl,hh,QR,Xg];have e:m_ t X told={half t X with fZ:=wrap64 ((half t X).fZ+told.length)}:=by unfold m_ half;cases X<;>rfl
   rw[e];exact m3
  ·rw[xA,aE rfl,QR];rcases td.val with⟨e,h0⟩|⟨b,cap,e,h1,-,-⟩
   ·simp only[cL]at e;exact .inl ⟨by rw[e.1,h0],List.length_eq_zero_iff.1 h0⟩
   ·simp only[cL]at e;obtain⟨rfl,-,rfl⟩:=e;obtain⟨cs,nB⟩:=td.dY;exact .inr ⟨b,cs,rfl,nB,λi hi=>(nB.cell i).symm.trans (td.cell (o:=i) G)⟩)
 clear K_ k3 m3 kb td tn ww;refine⟨.agg #[.bool X,H ta told.length told.length,Y 0],?_,oJ.o⟩;simp[results,results17,go_sem,a0,a1,a2]
def lU(w:ek)(bx:Nat)(C:Co)(K:Kc)(p:aU)(c:Cp)(s:St)(t:fG)(key:Nat)(V:ek):Prop:=∃C1 mX ta xV,Over w V bx C C1 mX K p c (nM p c s key).2.1 t (nM p c s key).1 (H ta (nM p c s key).2.2.told.length xV) (nM p c s key).2.2.told (nM p c s key).2.2.bG (.bool false) Xd (Y 0)/\
 ((nM p c s key).2.2.bG≠0->∃U hv jv,U.rb=bx+1+1/\dh V C1 U mX K p c t (nM p c s key).1 hv jv (nM p c s key).2.1 (nM p c s key).2.2)
def aaN{V:ek}{tv:to}{n:Nat}{g:Nat->to}(h:Row V 46 1 tv n g):∃ta xV,tv=H ta n xV:=by
 rcases h.val with⟨e,h0⟩|⟨b,cap,e,-⟩
 ·exact⟨Xb,0,by rw[e,h0]⟩
 ·exact⟨_,_,e⟩
def Vj{p:Prop}(h:p:=by
 go_wp2
 first|exact⟨rfl,rfl,⟨_,FP.of _ rfl⟩⟩|exact⟨rfl,⟨_,FP.of _ rfl⟩⟩|exact⟨_,FP.of _ rfl⟩):p:=h
def aak{w6:ek}(M:Tf K C.mb p c)(V:Env p c T)(hS:oV p)(h:Mx w C RO K p c s t used (.pointer Xb))(hI:Inv (aB p c) s)(hk:key<18446744073709551616)(hH:qY p c s key=X)(hX:Pf p c s key=oF)(B6:Bf w w6 bx C K p c s t 0 key oF (Oi (bx+1+1)))(J:Nat->to):
 Code.wp prog Vk (bodyPostD prog Proofs.Tryz.f17 (jK w C RO K p c t s key)) (FP bx X [] J) w6:=by
 have vm:∀(fn:Fn) (first cap:Array to) (w:ek),(Instr.makeFunc fn first cap).run prog w= .ok (.func fn first cap) w:=λ_ _ _ _=>rfl;have HM:=Z M;have HV:=Z V;have HS:=Z hS;have HH:=Z h;have HI:=Z hI;have HX:=Z hX;have Jg:=Z hH;have jk:=Z B6;clear M V hS h hI hX hH B6
 conv=>arg 2;whnf
 refine wp_seq ?_;refine wp_mono (Q:=λe a V=>e=Exit.normal/\V=w6/\WL bx X a) ?_ ?_
 ·unfold FP;exact Vj
 rintro e a V ⟨rfl,rfl,⟨a1m,rfl⟩⟩;simp only[Exit.then];refine wp_seq ?_;refine wp_mono (Q:=λe a V=>e=Exit.normal/\WL bx X a/\lU w bx C K p c s t key V) ?_ ?_
 ·have d2:=jk.o.b2.c1;have d5:=jk.o.b5.c1;have r1:Xf V (I (bx+1+1) 1)=O (Y oF):=jk.o.rb.cell 1;by_cases ny:oF<0
  ·have E8:¬0<=oF:=G;have HR:=Z (show lU w bx C K p c s t key V from by
    have je:nM p c s key=(0,(s,eN key 0)):=by unfold nM;rw[HX.o,aE ny]
    unfold lU;rw[je];exact⟨C,_,Xb,0,jk.o.QS,λh=>absurd rfl h⟩)
   unfold FP DD;go_wp2
   first|exact⟨rfl,⟨_,FP.of _ rfl⟩,HR.o⟩|exact⟨⟨_,FP.of _ rfl⟩,HR.o⟩
  ·have E8:0<=oF:=G;obtain⟨a,rfl⟩:∃a:Nat,oF=a:=⟨oF.toNat,G⟩;have Fb:vj V V C.mb (bx+1+1) (bx::(bx+1)::(bx+1+1+1)::Ma.rest w C) K p c t T s (s,eN key a) iZ:=by have gg:=at_mem HV.o HI.o key;rw[HX.o]at gg;have yt:=yf HV.o gg E8 key;have hl:=yX HV.o HS.o gg E8 key;rw[Int.toNat_natCast]at yt hl;exact⟨0,_,_,_,λb X=>X,⟨C,_,_,_,rfl,rfl,jk.o.all⟩,Kept.refl _ _,yt,uL HI.o hk a,⟨aL _,aL _,aL _,aL _⟩,hl,by rw[Nat.zero_add],G⟩
   have HR:=Z (abC HM.o HV.o Fb);have HZ:=Z (show nM p c s key=kB p c iZ (s,eN key a)by unfold nM;rw[HX.o,ax G,Int.toNat_natCast]);clear Fb;unfold FP DD;go_wp2_with fail;refine HR.o.mono ?_;rintro e w7 ⟨rfl,mX,ho,fi,YL⟩;have HRZ:=Z (show lU w bx C K p c s t key w7 from by
    obtain⟨C1,tv,a0f,U,hv,jv,ou,A⟩:=jk.o.ran fi ho YL;rw[<-HZ.o]at a0f A;obtain⟨ta,xV,rfl⟩:=aaN a0f.td;exact⟨C1,mX,ta,xV,a0f,λ_=>⟨U,hv,jv,ou,A⟩⟩)
   clear HR fi ho YL d2 d5 r1;go_wp2
   first|exact⟨rfl,⟨_,FP.of _ rfl⟩,HRZ.o⟩|exact⟨⟨_,FP.of _ rfl⟩,HRZ.o⟩
 rintro e a w7 ⟨rfl,⟨J2,rfl⟩,C1,mX,ta,xV,a0f,hA⟩;simp only[Exit.then];have g5:=a0f.b5.c1;have g6:Xf w7 (I (bx+1+1) 6)=O (Y (nM p c s key).2.2.bG):=by obtain⟨cs,q1,q2,q3⟩:=a0f.rb;exact(q1.cell 6).trans q3
 have HO:=Z a0f;have HA:=Z hA;clear a0f hA jk;generalize hz:nM p c s key=z at*;have HZ:=Z hz;clear hz;by_cases kU:z.2.2.bG=0
 ·rw[kU]at g6 HO;have HT:=Z kU;clear kU HA;refine wp_seq ?_;refine wp_mono (Q:=λe a V=>e=Exit.normal/\V=w7/\WL bx X a) ?_ ?_
  ·unfold FP DD;exact Vj
  rintro e a V ⟨rfl,rfl,⟨J3,rfl⟩⟩;simp only[Exit.then];have xA:eQ p c s key=0:=by unfold eQ;rw[HZ.o,HT.o]
  exact aaK HH.o HO.o xA (by unfold fD;rw[xA,aE rfl,HZ.o]) Jg.o (by unfold gu;rw[HZ.o]) (by rw[HZ.o]) J3
 ·have agc:(z.2.2.bG==0)=false:=by simpa using kU
  have aaU:(z.2.2.bG !=0)=true:=by simpa using kU
  have HAA:=Z (HA.o kU);generalize QM:z.2.2.bG=tt at*;obtain⟨adq,adp,adn⟩:=HO.o.b4.c3;have adr:∀o,w7.frozen? (I (bx+1) o)=false:=HO.o.b4.frozen;unfold FP DD;go_wp2_with fail;rw[qH HO.o.b4 rfl,qH HO.o.b4 rfl,qH HO.o.b4 rfl];have t_:=Pg HV.o HS.o HI.o hk;rw[HZ.o]at t_;obtain⟨QO,afA,-,-,QP,-⟩:=t_;have hjl:z.2.2.bI.length<1000000:=by have:=QP.bI;unfold iZ at afA;omega
  obtain⟨U,hv,jv,ou,A⟩:=HAA.o;have hUA:=abA (s0:=s) (b2:=bx) (b5:=bx+1+1+1) (b4:=bx+1) (by rw[HO.o.mb];exact HM.o) A QO.inv QO.AV (by rw[QM];exact kU) hjl (by rw[HO.o.mb];exact HO.o.b2) (by rw[ou];exact HO.o.b5) HO.o.b4 (HO.o.ro _ az) (HO.o.ro _ az);refine leaves_cons (f:=61) (args:=#[Oi bx,Oi (bx+1+1+1),Oi (bx+1)]) az (by simp[go_sem]) ?_;refine hUA.mono ?_;rintro e u' w9 ⟨rfl,rfl,C2,wz,k1,k2,kf,kb⟩;obtain⟨k3,m3⟩:=HO.o.QQ HH.o k1 k2;obtain⟨k4,m4⟩:=z_ HH.o HO.o.at_ k3 m3 (k2.cr (HO.o.ro _ az)) kf;have xA:eQ p c s key=tt:=by unfold eQ;rw[HZ.o,QM]
  have tB:fD p c s key=s:=by unfold fD;rw[xA,ax kU]
  obtain⟨a0,a1,a2⟩:=kb.c3;rw[QM]at a2;have oJ:=Z (show jK w C RO K p c t s key (Xc (.agg #[.bool false,Xd,Y tt])) w9 from by
   refine⟨Xd,C2,?_,k4,?_,?_,?_⟩
   ·rw[xA,ax kU]
   ·rw[tB,xA,ax kU,HZ.o];exact m4
   ·rw[xA,ax kU];exact .inl ⟨rfl,rfl⟩
   ·exact λb X=>by simp[vb,Value.ownBlock]at X)
  clear k1 k2 kf kb k3 m3 k4 m4 hUA QO QP;refine⟨.agg #[.bool false,Xd,Y tt],?_,oJ.o⟩;simp[results,results17,go_sem,a0,a1,a2]
def aaM{w5:ek}{Kk:Act->ek->Prop}(M:Tf K C.mb p c)(V:Env p c T)(hS:oV p)(h:Mx w C RO K p c s t used (.pointer Xb))(hI:Inv (aB p c) s)(hk:key<18446744073709551616)(hH:qY p c s key=X)(hX:Pf p c s key=oF)(B5:Bf w w5 bx C K p c s t used key oF (.pointer Xb))(hK:∀a V,Code.wp prog Vk (bodyPostD prog Proofs.Tryz.f17 (jK w C RO K p c t s key)) a V->Kk a V)(J:Nat->to):
 Code.wp prog ly (Exit.then Kk (bodyPostD prog Proofs.Tryz.f17 (jK w C RO K p c t s key))) (FP bx X [] J) w5:=by
 have gY:=Z B5;have HT:=Z (λw6 (B6:Bf w w6 bx C K p c s t 0 key oF (Oi (bx+1+1))) J=>hK _ _ (aak M V hS h hI hk hH hX B6 J));clear M V hS h hI hk hH hX hK;have d2:=B5.b2.c1;have d5:=B5.b5.c1;have f60:∀o,w5.frozen? (I C.mb o)=false:=B5.mx.m.aT.frozen;have rU:Xf w5 (I C.mb 60)=O (.pointer Xb):=B5.mx.m.aT.cell 60;have m17:Xf w5 (I C.mb 17)=O (Y used):=B5.mx.m.aT.cell 17;have nm:bx≠C.mb:=λe=>B5.mx.cr (b:=bx) az (by rw[e];simp[Co.l]);have a1n:bx+1+1+1≠C.mb:=λe=>B5.mx.cr (b:=bx+1+1+1) az (by rw[e];simp[Co.l]);clear B5;unfold FP
 conv=>arg 2;whnf
 go_wp2;go_region;have B6:=gY.o.enter.draw 1;change Bf w ((w5.setCell (I C.mb 60) (Oi (bx+1+1))).setCell (I C.mb 17) (Y 0)).drew bx C K p c s t 0 key oF (Oi (bx+1+1))at B6;simp only[Exit.then];exact Eq.mpr (bo (λa=>Kk a _) (FP.of _ rfl)) (HT.o _ B6 (λk=>Array.getD _ k undef))
end
end Go.Ma
end
namespace Go.Ma
open Go.RowKit al.Vm
open al hiding aS aw an
open eO (cw bP eY)
open Ix (dp)
section
variable {w w' wr:ek}{C C' C1:Co}{U U':Ru}{RO RO' mX:List Nat}{K:Kc}{p:aU}{c:Cp}{t t':fG}{used used':Int}{hv hv':to}{jv lM:Nat->to}{s s' s0 s1:St}{t0:fG}{Aa:Int}{r r':Rn}{rv rv':to}{mb rb bx:Nat}{T:Map}{st:Std}
def aaj(M:Tf K C.mb p c)(V:Env p c T)(hS:oV p)(h:Mx w C RO K p c s t used (.pointer Xb))(hI:Inv (aB p c) s){key:Nat}(hk:key<18446744073709551616)(hf:s.f key=Xb):
 Calls prog 17 #[Oi C.mb,.int .u64 key] w (jK w C RO K p c t s key):=by
 have vm:∀(fn:Fn) (first cap:Array to) (w:ek),(Instr.makeFunc fn first cap).run prog w= .ok (.func fn first cap) w:=λ_ _ _ _=>rfl;have m4:Xf w (I C.mb 4)=O (Y p.aV):=h.m.aT.cell 4;have lm:C.mb<w.heap.size:=h.m.aT.lt;have B4:=yH h key p.aV;have HM:=Z M;have HV:=Z V;have HS:=Z hS;have HI:=Z hI;have HF:=Z hf;have m10:((((w.alloc (Xe #[Oi C.mb] 35)).alloc (Xe #[.bool false,Xd,Y 0] 44)).alloc (Xe #[.int .u64 key,Y p.aV,Xd,Xd,Xd,Xd,Y 0,Xd,.bool false] 126)).alloc (Xe #[Oi (w.heap.size+1+1)] 111)).cell? (I C.mb 10)=O (Oi C.xb):=B4.mx.m.aT.cell 10;have HG:=Z (Ix.Ca B4.mx.m.ix (key:=key) hf);have iw:=Z B4;have Jg:=Z (show qY p c s key=false by unfold qY;rw[hf]);have HH:=Z h;clear M V hS hI hf B4 h
 go_enter_defers func17,ntmps17
 go_wp2_with fail;refine HG.o.mono ?_;rintro e w5 ⟨rfl,n5,rfl⟩;have B5:=iw.o.draw n5;have gY:=Z B5;clear iw HG m10 m4 lm;generalize gP:w.heap.size=bx at*;generalize World.drewN _ _=w5 at*;clear gP;have HX:=Z (show Pf p c s key=p.aV by unfold Pf;rw[HF.o]);clear B5;exact Rk
def SJ{p:Prop}(h:p:=by
 intro wz fF
 (try dsimp only at fF)
 exact qZ):p:=h
def adm(M:Tf K C.mb p c)(V:Env p c T)(hS:oV p)(h:Mx w C RO K p c s t used (.pointer Xb))(hI:Inv (aB p c) s){key:Nat}(hk:key<18446744073709551616){n q:Nat}(hf:s.f key=O n)(hq:q<p.ap.length)(hn:n∈s.a.ls q){g:Bool}(hg:p.ap.getD q false=g):
 Calls prog 17 #[Oi C.mb,.int .u64 key] w (jK w C RO K p c t s key):=by
 have vm:∀(fn:Fn) (first cap:Array to) (w:ek),(Instr.makeFunc fn first cap).run prog w= .ok (.func fn first cap) w:=λ_ _ _ _=>rfl;have m4:Xf w (I C.mb 4)=O (Y p.aV):=h.m.aT.cell 4;have lm:C.mb<w.heap.size:=h.m.aT.lt;have B4:=yH h key p.aV;have HM:=Z M;have HV:=Z V;have HS:=Z hS;have HI:=Z hI;have HF:=Z hf;have m10:((((w.alloc (Xe #[Oi C.mb] 35)).alloc (Xe #[.bool false,Xd,Y 0] 44)).alloc (Xe #[.int .u64 key,Y p.aV,Xd,Xd,Xd,Xd,Y 0,Xd,.bool false] 126)).alloc (Xe #[Oi (w.heap.size+1+1)] 111)).cell? (I C.mb 10)=O (Oi C.xb):=B4.mx.m.aT.cell 10;have HG:=Z (Ix.sG B4.mx.m.ix (key:=key) hf);have iw:=Z B4;have Jg:=Z (show qY p c s key= !g by unfold qY;rw[hf];dsimp only;rw[jy hI.wf hq hn,hg]);have HX:=Z (show Pf p c s key=p.on.getD q 0 by unfold Pf;rw[hf];dsimp only;rw[jy hI.wf hq hn]);have hqo:q<p.on.length:=by rw[(cO M.check).1.on];exact hq
 have HQ:=Z (And.intro hq hn);have HGH:=Z hg;have HH:=Z h;clear M V hS hI hf B4 h hq hn hg
 go_enter_defers func17,ntmps17
 go_wp2_with fail;refine HG.o.mono ?_;rintro e w5 ⟨rfl,n5,rfl⟩;have B5:=iw.o.draw n5;have gY:=Z B5;clear iw HG m10 m4 lm;generalize gP:w.heap.size=bx at*;generalize World.drewN _ _=w5 at*;clear gP;have HL:=Z (eO.Dg B5.mx.m.ar HQ.o.1 HQ.o.2);have d2:=B5.b2.c1;have d5:=B5.b5.c1;have m9:Xf w5 (I C.mb 9)=O (Oi C.ab):=B5.mx.m.aT.cell 9;obtain⟨ob,JL,VM,OB,pB,aaQ⟩:=B5.mx.m.prog.o.some G;obtain⟨gb,mP,kX,Hc,PN,aaR⟩:=B5.mx.m.prog.g.some (by have:=HQ.o.1;omega);have m3:Xf w5 (I C.mb 3)=O (H (O (I ob 0)) p.on.length JL):=by rw[<-VM];exact B5.mx.m.aT.cell 3
 have m0:Xf w5 (I C.mb 0)=O (H (O (I gb 0)) p.ap.length mP):=by rw[<-kX];exact B5.mx.m.aT.cell 0
 have oq:Xf w5 (I ob q)=O (Y (p.on.getD q 0)):=by have h3:=B5.mx.m.prog.o;rw[VM]at h3;exact h3.cell (o:=q) G
 have gq:Xf w5 (I gb q)=O (.bool g):=by have h3:=B5.mx.m.prog.g;rw[kX]at h3;rw[<-HGH.o];exact h3.cell (o:=q) (by have:=HQ.o.1;omega)
 have hqg:q<p.ap.length:=HQ.o.1;have OQ:∀o,w5.frozen? (I (bx+1+1) o)=false:=B5.rb.frozen;have r1:Xf w5 (I (bx+1+1) 1)=O (Y p.aV):=B5.rb.cell 1;have qU:=B5.mx.m.prog.ro;have nob:ob≠bx+1+1:=λe=>B5.no (by have h5:=qU ob (.inr (.inr (.inr (.inl (aX.2 (by rw[VM];rfl))))));rw[e]at h5;exact h5);have ngb:gb≠bx+1+1:=λe=>B5.no (by have h5:=qU gb (.inl (aX.2 (by rw[kX];rfl)));rw[e]at h5;exact h5);have nmb:C.mb≠bx+1+1:=λe=>B5.nc (by rw[<-e];simp[Co.l]);clear B5 VM OB pB aaQ kX Hc PN aaR qU;generalize Ep:p.on.getD q 0=oF at*;clear Ep;generalize p.on.length=ol at*;generalize p.ap.length=gl at*;generalize p.aV=ms at*;go_wp2_with fail;refine HL.o.mono ?_;rintro e w5' ⟨rfl,rfl⟩;have hSS:(w5.drew.setCell (I (bx+1+1) 1) (Y oF)).cell? (I bx 0)=O (Oi C.mb)/\(w5.drew.setCell (I (bx+1+1) 1) (Y oF)).cell? (I (bx+1+1+1) 0)=O (Oi (bx+1+1))/\(w5.drew.setCell (I (bx+1+1) 1) (Y oF)).cell? (I C.mb 3)=O (H (O (I ob 0)) ol JL)/\
  (w5.drew.setCell (I (bx+1+1) 1) (Y oF)).cell? (I C.mb 0)=O (H (O (I gb 0)) gl mP)/\(w5.drew.setCell (I (bx+1+1) 1) (Y oF)).cell? (I ob q)=O (Y oF)/\(w5.drew.setCell (I (bx+1+1) 1) (Y oF)).cell? (I gb q)=O (.bool g):=
  ⟨(bi G).trans d2,(bi G).trans d5,(bi nmb).trans m3,(bi nmb).trans m0,(bi nob).trans oq,(bi ngb).trans gq⟩
 have wF:=Z hSS;clear hSS nmb nob ngb;go_wp2;refine Mk.bq (S:=(λwx=>Xf wx (I bx 0)=O (Oi C.mb)/\Xf wx (I (bx+1+1+1) 0)=O (Oi (bx+1+1))/\Xf wx (I C.mb 3)=O (H (O (I ob 0)) ol JL)/\Xf wx (I C.mb 0)=O (H (O (I gb 0)) gl mP)/\Xf wx (I ob q)=O (Y oF)/\Xf wx (I gb q)=O (.bool g))) bj ⟨d2,d5,m3,m0,oq,gq⟩ (λau=>?_);refine Mk.tk 0 (v:=?_) rfl ?_ cJ ?_;rotate_left
 ·exact SJ
 refine Mk.pt ?_;refine Mk.tk 1 (v:=?_) rfl ?_ cJ ?_;rotate_left
 ·exact SJ
 refine Mk.pt ?_;refine Mk.tk 2 (v:=?_) rfl ?_ cJ ?_;rotate_left
 ·exact SJ
 refine Mk.pt ?_;refine Mk.tk 3 (v:=?_) rfl ?_ cJ ?_;rotate_left
 ·exact SJ
 refine Mk.pt ?_;refine Mk.tk 4 (v:=?_) rfl ?_ cJ ?_;rotate_left
 ·exact SJ
 refine Mk.pt ?_;refine Mk.tk 5 (v:=?_) rfl ?_ cJ ?_;rotate_left
 ·exact SJ
 refine Mk.pt ?_;refine Mk.tk 6 (v:=?_) rfl ?_ cJ ?_;rotate_left
 ·exact SJ
 refine Mk.pt ?_;refine Mk.tk 7 (v:=?_) rfl ?_ cJ ?_;rotate_left
 ·exact SJ
 refine Mk.pt ?_;refine Mk.tk 8 (v:=?_) rfl ?_ cJ ?_;rotate_left
 ·exact SJ
 refine Mk.pt ?_;refine Mk.tk 9 (v:=?_) rfl ?_ cJ ?_;rotate_left
 ·exact SJ
 refine Mk.pt ?_;refine Mk.tk 10 (v:=?_) rfl ?_ cJ ?_;rotate_left
 ·exact SJ
 refine Mk.pt ?_;refine Mk.tk 11 (v:=?_) rfl ?_ cJ ?_;rotate_left
 ·exact SJ
 refine Mk.pt ?_;refine Mk.tk 12 (v:=?_) rfl ?_ cJ ?_;rotate_left
 ·exact SJ
 refine Mk.pt ?_;refine Mk.tk 13 (v:=?_) rfl ?_ cJ ?_;rotate_left
 ·exact SJ
 refine Mk.pt ?_;refine Mk.tk 14 (v:=?_) rfl ?_ cJ ?_;rotate_left
 ·exact SJ
 refine Mk.pt ?_;refine Mk.tk 15 (v:=?_) rfl ?_ cJ ?_;rotate_left
 ·exact SJ
 refine Mk.pt ?_;refine Mk.tk 16 (v:=?_) rfl ?_ cJ ?_;rotate_left
 ·exact SJ
 refine Mk.pt ?_;refine Mk.tk 17 (v:=?_) rfl ?_ cJ ?_;rotate_left
 ·exact SJ
 refine Mk.pt ?_;refine Mk.tk 18 (v:=?_) rfl ?_ cJ ?_;rotate_left
 ·exact SJ
 refine Mk.pt ?_;refine Mk.tk 19 (v:=?_) rfl ?_ cJ ?_;rotate_left
 ·exact SJ
 refine Mk.pt ?_;refine dM (rs:=[20]) bj az ?_;refine bX rfl (λK hK=>?_) cz;refine fL ?_;go_simp;refine hK.out _ _ wF.o (λau=>?_);clear hK K;refine Mk.pt ?_;refine Mk.tk 21 (v:=?_) rfl ?_ cJ ?_;rotate_left
 ·exact SJ
 refine Mk.pt ?_;refine eT bj ⟨rfl,?_⟩ _;clear au wF;have B5:=(gY.o.setAt oF).draw 1;change Bf w (w5.setCell (I (bx+1+1) 1) (Y oF)).drew bx C K p c s t used key oF (.pointer Xb)at B5;clear gY d2 d5 m9 m3 m0 oq gq hqg hqo OQ r1 HL;have gY:=Z B5;generalize(w5.setCell (I (bx+1+1) 1) (Y oF)).drew=w5 at*;clear B5;exact Rk
end
end Go.Ma
namespace Go.Ma
open Go.RowKit al.Vm
open al hiding aS aw an
open Vf (Kp gM pV aY cV)
def fA(w:ek)(C:Co)(lo:Nat)(p:aU)(c:Cp)(s:St)(t:fG)(used:Int):Prop:=∃(RO:List Nat) (K:Kc) (T:Map),Mx w C RO K p c s t used (.pointer Xb)/\Tf K C.mb p c/\Env p c T/\oV p/\Inv (aB p c) s/\(∀b,b∈C.l++RO->lo<=b)
section
variable {w w':ek}{C:Co}{lo:Nat}{p:aU}{c:Cp}{s:St}{t:fG}{used:Int}
def fA.later(h:fA w C lo p c s t used)(b:Below w.heap.size w w'):fA w' C lo p c s t used:=by obtain⟨RO,K,T,h1,h2⟩:=h;exact⟨RO,K,T,h1.later b,h2⟩
def fA.lt(h:fA w C lo p c s t used){b:Nat}(X:b∈C.l):lo<=b/\b<w.heap.size:=by obtain⟨RO,K,T,h1,-,-,-,-,h2⟩:=h;exact⟨h2 b (by simp[X]),h1.sep.lt b X⟩
def fA.JS(h:fA w C lo p c s t used):uG p:=by obtain⟨RO,K,T,-,h2,-⟩:=h;exact(cO h2.check).1
def fA.inv(h:fA w C lo p c s t used):Inv (aB p c) s:=by obtain⟨RO,K,T,-,-,-,-,h2,-⟩:=h;exact h2
def bN.low{C':Co}(k:bN w w' C C')(h:∀b,b∈C.l->lo<=b)(hs:lo<=w.heap.size):Below lo w w':=k.f.below hs h
def afT(w:ek)(C:Co)(lo:Nat)(p:aU)(c:Cp)(s:St)(t:fG)(key:Nat)(e:Ending)(w':ek):Prop:=
 ∃(tv:to) (C':Co),e=Xc (.agg #[.bool (if eQ p c s key=0 then qY p c s key else false),tv,Y (eQ p c s key)])/\bN w w' C C'/\
  fA w' C' lo p c (fD p c s key) (if eQ p c s key=0 then m_ t (qY p c s key) (gu p c s key)else t) (nM p c s key).1/\
  jC w' tv (if eQ p c s key=0 then gu p c s key else[])/\∀b,b∈vb tv->b∉C'.l/\b∉Ma.rest w C
def zl{p:Prop}(h:p:=by
 rw[fE]at lJ;rcases lJ with lJ|lJ
 ·rcases k.c b lJ with h2|h2
  ·exact jE b (by simp[h2])
  ·omega
 ·exact jE b (by simp[lJ])):p:=h
def Az(h:fA w C lo p c s t used)(hl:lo<=w.heap.size){key:Nat}(hk:key<18446744073709551616):
 Calls prog 17 #[Oi C.mb,.int .u64 key] w (afT w C lo p c s t key):=by
 obtain⟨RO,K,T,h1,M,V,hS,hI,jE⟩:=h;have JR:Calls prog 17 #[Oi C.mb,.int .u64 key] w (jK w C RO K p c t s key):=by
  cases hf:s.f key with
  |none=>exact aaj M V hS h1 hI hk hf
  |some n=>obtain⟨q,hq,hn,-⟩:=(hI.idx key n).1 hf;exact adm M V hS h1 hI hk hf hq hn rfl
 refine JR.mono ?_;rintro e w' ⟨tv,C',rfl,k,m,ht,X⟩;refine⟨tv,C',rfl,k,⟨RO,K,T,m,by rw[k.mb];exact M,V,hS,rG V hS hI hk,λb lJ=>?_⟩,ht,X⟩;exact zl
def kd(w:ek)(C:Co)(lo:Nat)(p:aU)(c:Cp)(s:St)(t:fG)(used:Int)(key:Nat)(e:Ending)(w':ek):Prop:=
 e=Xc (Y (gV p c s key))/\∃C',bN w w' C C'/\fA w' C' lo p c (gR p c s key) (if gV p c s key=0 then t else{t with gK:=wrap64 (t.gK+1)}) used
def aed(h:fA w C lo p c s t used)(hl:lo<=w.heap.size)(key:Nat):
 Calls prog 26 #[Oi C.mb,.int .u64 key] w (kd w C lo p c s t used key):=by
 obtain⟨RO,K,T,h1,M,V,hS,hI,jE⟩:=h;have tb:=(cO M.check).1;refine(aah h1 hI M.FJ (by have:=tb.g;omega) key (M.ev hI).total).mono ?_;rintro e w' ⟨rfl,C',k,m⟩;refine⟨rfl,C',k,RO,K,T,m,by rw[k.mb];exact M,V,hS,Ik hI key,λb lJ=>?_⟩;exact zl
def JM(h:fA w C lo p c s t used):Calls prog 19 #[Oi C.mb] w (vt w p s (dE (aB p c))):=by obtain⟨RO,K,T,h1,M,V,hS,hI,jE⟩:=h;have:=aeE h1 (cO M.check).1 M.FJ;rw[M.nd]at this;exact this
def Ly(h:fA w C lo p c s t used):Calls prog 28 #[Oi C.mb] w (λe w'=>e=Xc (Y used)/\w'=w):=by obtain⟨RO,K,T,h1,-⟩:=h;exact(aaV h1).mono λe w' hh=>⟨hh.1,hh.2.symm⟩
def N9(w:ek)(p:aU)(c:Cp)(e:Ending)(w':ek):Prop:=Below w.heap.size w w'/\
 ((¬((a8 p).1=0/\np p c=true)/\∃er:Int,er≠0/\e=Xc (.tuple #[.pointer Xb,Y er]))\/
  ((a8 p).1=0/\np p c=true/\∃C:Co,e=Xc (.tuple #[Oi C.mb,Y 0])/\fA w' C w.heap.size p c (Bp p) ⟨0,0,0,0⟩ 0))
def RW{p:aU}{c:Cp}(hv:(a8 p).1=0)(nX:np p c=true):∃T,Env p c T:=by obtain⟨hc,T,hT,-⟩:=uF rfl hv;have h:=nX;unfold np at h;simp only[fh]at h;exact⟨T,hT,hc,Vf.Cw h.1⟩
def JN{K:Kp}{qv:to}(h:gM w K p)(hq:aY w 1 qv c.aF.length (bd c.aF))(hS:(a8 p).1=0->np p c=true->oV p):Calls prog 16 #[pV K p,cV c qv] w (N9 w p c):=by
 refine(Fi h hq).mono ?_;rintro e w' ⟨X,h1|h1|h1⟩
 ·exact⟨X,.inl ⟨λh=>h1.1 h.1,_,h1.1,h1.2⟩⟩
 ·exact⟨X,.inl ⟨λh=>by rw[h.2]at h1;exact absurd h1.2.1 az,45,bz,h1.2.2⟩⟩
 ·obtain⟨hv,nX,C,RO,K',rfl,m,M,jE⟩:=h1;obtain⟨T,V⟩:=RW hv nX;exact⟨X,.inr ⟨hv,nX,C,rfl,RO,K',T,m,M,V,hS hv nX,Lx c (cO M.check).1,jE⟩⟩
def sr{w:ek}{b n size:Nat}{E:TypeId}{cs:Array to}{g:Nat->to}(h:aH w b E cs)(hc:cs=((List.range (n*size)).map g).toArray)(hm:n<=maxLen):aY w size (H (O (I b 0)) n n) n g:=by refine .inr ⟨_,_,rfl,aL _,hm,λo ho=>⟨rfl,?_⟩⟩;rw[h.cell,hc,Nat.zero_add];simp[ho]
def acj(w:ek)(e:Ending)(w':ek):Prop:=∃xg xo xc,e=Xc (pV ⟨H xg 1 1,Xd,Xd,H xo 1 1,H xc 9 9⟩ iM)/\gM w' ⟨H xg 1 1,Xd,Xd,H xo 1 1,H xc 9 9⟩ iM/\Below w.heap.size w w'
def aes(w:ek):Calls prog 51 #[] w (acj w):=by
 obtain⟨Wf,hWf⟩:∃Wf,Wf=(((w.alloc (Xe #[H (O (I (w.heap.size+1) 0)) 1 1,Xd,Xd,H (O (I (w.heap.size+1+1) 0)) 1 1,Y 2,H (O (I (w.heap.size+1+1+1) 0)) 9 9] 27)).alloc (Xe #[.bool false] 4)).alloc (Xe #[Y 0] 3)).alloc (Xe #[Y 32,Y 0,Y 0,Y 0,Y 0,Y 0,Y 0,Y 0,Y 0,Y 0,Y 4,Y 0,Y 0,Y 0,Y 0,Y 5,Y 0,Y 0,Y 0,Y 0,Y 19,Y 0,Y 0,Y 0,Y 0,Y 23,Y 7,Y 0,Y 0,Y 0,Y 40,Y 0,Y 1,Y 0,Y 0,Y 31,Y 0,Y 0,Y 0,Y 0,Y 0,Y 0,Y 0,Y 0,Y 0] 40):=⟨_,rfl⟩;have k0:aH Wf w.heap.size 27 #[H (O (I (w.heap.size+1) 0)) 1 1,Xd,Xd,H (O (I (w.heap.size+1+1) 0)) 1 1,Y 2,H (O (I (w.heap.size+1+1+1) 0)) 9 9]:=by rw[hWf];exact(((aH.new _ _ _).alloc _).alloc _).alloc _
 have k1:aH Wf (w.heap.size+1) 4 #[.bool false]:=by rw[hWf];exact((aH.bK az).alloc _).alloc _
 have k2:aH Wf (w.heap.size+1+1) 3 #[Y 0]:=by rw[hWf];exact(aH.bK az).alloc _
 have k3:aH Wf (w.heap.size+1+1+1) 40 #[Y 32,Y 0,Y 0,Y 0,Y 0,Y 0,Y 0,Y 0,Y 0,Y 0,Y 4,Y 0,Y 0,Y 0,Y 0,Y 5,Y 0,Y 0,Y 0,Y 0,Y 19,Y 0,Y 0,Y 0,Y 0,Y 23,Y 7,Y 0,Y 0,Y 0,Y 40,Y 0,Y 1,Y 0,Y 0,Y 31,Y 0,Y 0,Y 0,Y 0,Y 0,Y 0,Y 0,Y 0,Y 0]:=by rw[hWf];exact aH.bK az
 have X:Below w.heap.size w Wf:=by rw[hWf];exact((((aZ _ _).alloc (aL _) _).alloc az _).alloc kZ _).alloc kZ _
 obtain⟨c0,c1,c2,c3,c4,c5⟩:=k0.c6;go_enter func51,ntmps51;go_wp2_with fail;rw[<-hWf];clear hWf;refine bR (v:= .agg #[H (O (I (w.heap.size+1) 0)) 1 1,Xd,Xd,H (O (I (w.heap.size+1+1) 0)) 1 1,Y 2,H (O (I (w.heap.size+1+1+1) 0)) 9 9]) ?_ rfl ⟨_,_,_,rfl,⟨sr k1 rfl bz,.inl ⟨rfl,rfl⟩,.inl ⟨rfl,rfl⟩,sr k2 rfl bz,sr k3 bj bz⟩,X⟩;simp[results,results51,go_sem,c0,c1,c2,c3,c4,c5]
def aet:(a8 iM).1=0:=by rw[Cx]
def abd:np iM kN=true:=by decide
def aeu:dE (aB iM kN)=2:=by decide
def Gy:(a8 noP).1≠0:=by rw[adD];decide
def aci:DH iM k4 2 [(7,0),(9,1)]=⟨[[1,0]],[],[7,9],[0,1]⟩:=by decide
def ach{L:List (Nat×Nat)}(h:Ix.kL k4.f L):L=[(7,0),(9,1)]:=h.tI ⟨az,λk v=>by
 rw[adE];simp⟩
def afj{w:ek}{v:to}{l:List Nat}(h:jC w v l):∃x n c,v=H x n c:=by rcases h with⟨h,-⟩|⟨b,cs,h,-⟩<;>exact⟨_,_,_,h⟩
def afi{w:ek}{v:to}{x:Nat}(h:jC w v [x]):∃b cs,v=H (O (I b 0)) 1 1/\aH w b 46 cs/\cs[0]? =O (.int .u64 x):=by
 rcases h with⟨-,h⟩|⟨b,cs,h,hk,hc⟩
 ·cases h
 ·exact⟨b,cs,h,hk,hc 0 az⟩
def yC{w:ek}{C:Co}{lo:Nat}{p:aU}{c:Cp}{s:St}(h:∃t u,fA w C lo p c s t u)(hl:lo<=w.heap.size){key:Nat}(hk:key<18446744073709551616){mb:Nat}(hm:C.mb=mb):
 Calls prog 17 #[Oi mb,.int .u64 key] w (λe w'=>∃(AS:Bool) (tv:to) (bG used:Int) (C':Co),e=Xc (.agg #[.bool AS,tv,Y bG])/\C'.mb=mb/\Below lo w w'/\(∃x n c,tv=H x n c)/\(∃t,fA w' C' lo p c (fD p c s key) t used)/\
  Hid (AS=(if eQ p c s key=0 then qY p c s key else false)/\bG=eQ p c s key/\used=(nM p c s key).1/\jC w' tv (if eQ p c s key=0 then gu p c s key else[])/\bN w w' C C')):=by
 obtain⟨t,u,h⟩:=h;subst hm;refine(Az h hl hk).mono ?_;rintro e w' ⟨tv,C',rfl,k,v,ht,-⟩;exact⟨_,tv,_,_,C',rfl,k.mb,k.low (λb X=>(h.lt X).1) hl,afj ht,⟨_,v⟩,Z ⟨rfl,rfl,rfl,ht,k⟩⟩
def ae5(w:ek):Calls prog 11 #[] w (λe w'=>e=Xc (.bool true)/\Below w.heap.size w w'):=by
 go_enter func11,ntmps11;go_wp2_with fail;refine(aes w).mono ?_;rintro e W1 ⟨xg,xo,xc,rfl,hp,fS⟩;have hq:aY (W1.alloc (Xe #[Y 2] 3)) 1 (H (O (I W1.heap.size 0)) 1 1) kN.aF.length (bd kN.aF):=sr (n:=1) (aH.new _ _ _) rfl bz;have HN:=JN (w:=W1.alloc (Xe #[Y 2] 3)) (c:=kN) (hp.aG ((aC.refl [] _).alloc _)) hq (λ_ _=>sg);have dS:=Z (fS.alloc fS.size (Xe #[Y 2] 3));unfold pV cV at HN;unfold pV;dsimp only[iM,kN]at HN ⊢;change Calls _ _ _ _ (N9 _ iM kN)at HN;have vh:=Z HN;clear hq hp fS HN;go_wp2_with fail;refine vh.o.mono ?_;rintro e W2 ⟨dR,⟨h1,-⟩|⟨-,-,C,rfl,hv⟩⟩
 ·exact absurd ⟨aet,abd⟩ h1
 have fR:=Z (dS.o.trans (dR.mono dS.o.size));have jE:(W1.alloc (Xe #[Y 2] 3)).heap.size=W1.heap.size+1:=by simp
 rw[jE]at hv;have zM:=Z (show w.heap.size<=W1.heap.size+1/\W1.heap.size+1<=W2.heap.size from⟨by have:=dS.o.size;simp only[aO]at this;exact this,by have:=dR.size;simp only[aO]at this;exact this⟩);generalize W1.heap.size+1=lo at*;have HV:=Z hv;clear dR hv jE dS vh;have hp2:gM (W2.alloc (Xe #[Y 1,Y 0,Y 0,Y 0,Y 0] 40)) ⟨Xd,Xd,Xd,Xd,H (O (I W2.heap.size 0)) 1 1⟩ noP:=⟨.inl ⟨rfl,rfl⟩,.inl ⟨rfl,rfl⟩,.inl ⟨rfl,rfl⟩,.inl ⟨rfl,rfl⟩,sr (n:=1) (aH.new _ _ _) rfl bz⟩;have OA:=JN (c:=⟨1,[]⟩) (qv:=Xd) hp2 (.inl ⟨rfl,rfl⟩) (λh _=>absurd h Gy);unfold pV cV at OA;dsimp only[noP]at OA;change Calls _ _ _ _ (N9 _ noP ⟨1,[]⟩)at OA;have vh:=Z OA;have Nf:=Z ((aZ W2.heap.size W2).alloc (aL _) (Xe #[Y 1,Y 0,Y 0,Y 0,Y 0] 40));clear hp2 OA;go_wp2_with fail;refine vh.o.mono ?_;rintro e W3 ⟨s_,hn3⟩;obtain⟨er,OT,rfl⟩:∃er:Int,er≠0/\e=Xc (.tuple #[.pointer Xb,Y er]):=by
  rcases hn3 with⟨-,h⟩|⟨h1,-⟩
  ·exact h
  ·exact absurd h1 Gy
 clear hn3;have Wp:=Nf.o.trans (s_.mono Nf.o.size);have mM:=Z (fR.o.trans (Wp.mono fR.o.size));have NA:=Z (bS zM.o.2 Wp.size);have HV3:=Z (show∃t u,fA W3 C lo iM kN (Bp iM) t u from⟨_,_,HV.o.later Wp⟩);have he0:(er==0)=false:=by simpa using OT
 obtain⟨mb,mO⟩:∃mb,C.mb=mb:=⟨_,rfl⟩;rw[mO];have rY:=Z mO;clear s_ Wp OT mO vh Nf HV;go_wp2_with fail;refine(yC HV3.o NA.o bz rY.o).mono ?_;rintro e W4 ⟨agB,tv4,tr4,us4,C4,rfl,hm4,xX,⟨xa4,xb4,xc4,rfl⟩,⟨t4,v4⟩,-⟩;have iw:=Z (mM.o.trans (xX.mono zM.o.1));have YV:=Z (bS NA.o xX.size);have YW:=Z (show∃t u,fA W4 C4 lo iM kN k1 t u from⟨_,_,v4⟩);have HM4:=Z hm4;clear hm4 xX v4 HV3 rY;go_wp2_with fail;refine(yC YW.o YV.o bz HM4.o).mono ?_;rintro e W5 ⟨agC,tv5,tr5,us5,C5,rfl,YJ,re,⟨xa5,xb5,xc5,rfl⟩,⟨t5,v5⟩,-⟩;have gY:=Z (iw.o.trans (re.mono zM.o.1));have HL5:=Z (bS YV.o re.size);have HV5:=Z (show∃t u,fA W5 C5 lo iM kN k2 t u from⟨_,_,v5⟩);have HM5:=Z YJ;clear YJ re v5 YW HM4;go_wp2_with fail;refine(yC HV5.o HL5.o bz HM5.o).mono ?_;rintro e W6 ⟨agD,tv6,Wr,us6,C6,rfl,hm6,xy,⟨Ws,Wu,Wv,rfl⟩,⟨t6,v6⟩,hx6⟩;obtain⟨e1,-,e3,-,-⟩:=hx6.o;rw[wH.2.2,aE rfl,wH.1]at e1;rw[wH.2.1]at e3;subst e1 e3;have jk:=Z (gY.o.trans (xy.mono zM.o.1));have HL6:=Z (bS HL5.o xy.size);have lL:=Z ((aZ W6.heap.size W6).alloc (aL _) (Xe #[.bool true,H Ws Wu Wv,Y Wr] 44));have ON:=Z (show∃t,fA (W6.alloc (Xe #[.bool true,H Ws Wu Wv,Y Wr] 44)) C6 lo iM kN k3 t (2:Nat)from⟨_,v6.later lL.o⟩);have HU6:=Z (show Calls prog 28 #[Oi mb] (W6.alloc (Xe #[.bool true,H Ws Wu Wv,Y Wr] 44)) (λe w'=>e=Xc (Y 2)/\w'=W6.alloc (Xe #[.bool true,H Ws Wu Wv,Y Wr] 44))by
  obtain⟨t,hv⟩:=ON.o;rw[<-hm6];exact Ly hv)
 have HC6:=Z (show∀b,b∈C6.l->b<W6.heap.size from λb X=>(v6.lt X).2);have K6:=Z (aH.new W6 44 #[.bool true,H Ws Wu Wv,Y Wr]);have D8:=Z hm6;have mZ:=Z (jk.o.trans (lL.o.mono jk.o.size));have HL7:=Z (show lo<=(W6.alloc (Xe #[.bool true,H Ws Wu Wv,Y Wr] 44)).heap.size by simp only[aO];have:=HL6.o;omega);clear hm6 xy v6 HV5 HM5 hx6;go_wp2_with fail;refine HU6.o.mono ?_;rintro e W7 ⟨rfl,rfl⟩;have Q6:=Z (show W6.heap.size<(W6.alloc (Xe #[.bool true,H Ws Wu Wv,Y Wr] 44)).heap.size by simp);generalize W6.alloc (Xe #[.bool true,H Ws Wu Wv,Y Wr] 44)=W7 at*;clear HU6;go_wp2_with fail;refine(yC (by obtain⟨t,h⟩:=ON.o;exact⟨_,_,h⟩) HL7.o bz D8.o).mono ?_;rintro e W8 ⟨agE,tv8,tr8,us8,acf,rfl,hm8,wm,-,⟨t8,v8⟩,hx8⟩;obtain⟨e1,-,e3,e4,k8⟩:=hx8.o;rw[oy.2.2.1,aE rfl,oy.1]at e1;rw[oy.2.1]at e3;rw[oy.2.2.1,aE rfl,oy.2.2.2]at e4;obtain⟨tb,ts,rfl,LN,htc⟩:=afi e4;subst e1 e3;have nH:=Z (mZ.o.trans (wm.mono zM.o.1));have HS8:=Z (show W6.heap.size<W8.heap.size from dC Q6.o wm.size);obtain⟨WX,hWX⟩:∃WX,WX=W8.alloc (Xe #[.bool false,H (O (I tb 0)) 1 1,Y tr8] 44):=⟨_,rfl⟩;have lL:=Z (show Below W8.heap.size W8 WX by rw[hWX];exact(aZ _ _).alloc (aL _) _);have ace:=Z (show aH WX W6.heap.size 44 #[.bool true,H Ws Wu Wv,Y Wr]by rw[hWX];exact(K6.o.aG k8.f λhc=>absurd (HC6.o _ hc) (Nat.lt_irrefl _)).alloc _);have K8:=Z (show aH WX W8.heap.size 44 #[.bool false,H (O (I tb 0)) 1 1,Y tr8]by rw[hWX];exact aH.new _ _ _);have K9:=Z (show aH WX tb 46 ts by rw[hWX];exact LN.alloc _);have HV9:=Z (show∃t,fA WX acf lo iM kN k4 t (7:Nat)from⟨_,v8.later lL.o⟩);have YX:=Z (show Calls prog 19 #[Oi mb] WX (vt WX iM k4 2)by
  obtain⟨t,hv⟩:=HV9.o;rw[<-hm8,<-aeu];exact JM hv)
 have qN:=Z (nH.o.trans (lL.o.mono nH.o.size));have HM8:=Z hm8;have HTC:=Z htc;clear hm8 wm v8 ON D8 hx8 e4 k8 LN htc K6;go_wp2_with fail;rw[<-hWX];clear hWX lL;refine YX.o.mono ?_;rintro e W9 ⟨L,a,b,c,d,h1,h2,lv,Hw,rfl,sV,hl⟩;rw[ach Hw,aci]at hl;have r0:Row W9 24 1 a 1 lv:=hl.ls.row;have r1:Row W9 3 1 b 0 (bd []):=hl.fr.row;have r2:Row W9 46 1 c 2 (ni [7,9]):=hl.ks.row;have r3:Row W9 3 1 d 2 (bd [0,1]):=hl.ns.row;have r4:Row W9 3 1 (lv 0) 2 (bd [1,0]):=(hl.ls.q 0 bz).row;obtain⟨xa,ya,rfl,-,-,-⟩:=r0.some bz;obtain⟨xb,yb,rfl,-,-⟩:=fW r1;obtain⟨xc,yc,rfl,-,-,-⟩:=r2.some bz;obtain⟨xd,yd,rfl,-,-,-⟩:=r3.some bz;obtain⟨xe,ye,ee,-,-,-⟩:=r4.some bz;rw[ee]at r4;obtain⟨WY,Ww⟩:∃WY,WY=W9.alloc (Xe #[H (O (I xa 0)) 1 ya,H xb 0 yb,H (O (I xc 0)) 2 yc,H (O (I xd 0)) 2 yd] 52):=⟨_,rfl⟩;have HBY:=Z (show Below WX.heap.size WX WY by rw[Ww];exact sV.alloc sV.size _);have f0:Xf WY (I W6.heap.size 0)=O (.bool true):=(ace.o.aG (aC.ai (S:=[]) HBY.o) az).cell 0;have f1:Xf WY (I W8.heap.size 0)=O (.bool false):=(K8.o.aG (aC.ai (S:=[]) HBY.o) az).cell 0;have f2:Xf WY (I W8.heap.size 1)=O (H (O (I tb 0)) 1 1):=(K8.o.aG (aC.ai (S:=[]) HBY.o) az).cell 1;have f3:Xf WY (I tb 0)=O (.int .u64 8):=((K9.o.aG (aC.ai (S:=[]) HBY.o) az).cell 0).trans HTC.o;have f4:Xf WY (I xa 0)=O (H (O (I xe 0)) 2 ye):=by rw[Ww,<-ee];exact(r0.alloc _).cell (o:=0) bz
 have f5:Xf WY (I xe 0)=O (Y 1):=by rw[Ww];exact(r4.alloc _).cell (o:=0) bz
 have f6:Xf WY (I xc 0)=O (.int .u64 7):=by rw[Ww];exact(r2.alloc _).cell (o:=0) bz
 have f7:Xf WY (I xc 1)=O (.int .u64 9):=by rw[Ww];exact(r2.alloc _).cell (o:=1) bz
 have f8:Xf WY (I xd 1)=O (Y 1):=by rw[Ww];exact(r3.alloc _).cell (o:=1) bz
 have S3:aH WY W9.heap.size 52 #[H (O (I xa 0)) 1 ya,H xb 0 yb,H (O (I xc 0)) 2 yc,H (O (I xd 0)) 2 yd]:=by rw[Ww];exact aH.new _ _ _
 obtain⟨g0,g1,g2,g3⟩:=S3.c4;have HU:=Z (show Calls prog 28 #[Oi mb] WY.drew (λe w'=>e=Xc (Y 7)/\w'=WY.drew)by
  obtain⟨t,hv⟩:=HV9.o;rw[<-HM8.o];exact Ly (hv.later (HBY.o.drew)))
 have HBZ:=Z (qN.o.trans (HBY.o.mono qN.o.size));clear S3 hl sV r0 r1 r2 r3 r4 ee HBY Hw;go_wp2_with fail;rw[<-Ww];clear Ww;refine wp_region_still_tail 82 bj bj ?_;simp only[List.append_eq,List.cons_append,List.nil_append];simp only[List.take_succ_cons,List.take_zero,List.drop_succ_cons,List.drop_zero]
 iterate 26 still_step
 still_call HU.o
 iterate 55 still_step
 refine wpStill_nil ?_;change wpList _ _ _ _ _ (WY.drewN 1);go_wp2;refine Vf.eF rfl ⟨rfl,HBZ.o.drew⟩
end
end Go.Ma
