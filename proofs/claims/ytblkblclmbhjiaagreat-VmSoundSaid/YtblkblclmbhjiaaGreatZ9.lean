import Derived.Test.YtblkblclmbhjiaaGreatZ8
import Derived.Deep.Slices
import Derived.Deep.Fields
import Derived.ChangeSame
import Derived.ChangeArms
import Derived.Great.BuildSlice
import Derived.Laws.StructEq
set_option linter.all false
set_option maxHeartbeats 40000000
set_option maxRecDepth 100000
open Go.Proofs.Tryz
open Option renaming some->O,none->Xb
open Go renaming Value->to,World->ek
open Go.Value renaming slice->H
open Go.Obj renaming cells->Xe
open Go.Ending renaming returned->Xc
open Go.World renaming cell?->Xf
namespace Go.Ma
open Go.RowKit al.Vm
open al hiding aS aw an
open Vf (Kp gM pV aY cV)
def jC.sl{w:ek}{v:to}{l:List Nat}(h:jC w v l):∃a cap,v=H a l.length cap:=by
 rcases h with⟨h1,h2⟩|⟨b,cs,h1,-⟩
 ·exact⟨Xb,0,by rw[h1,h2];rfl⟩
 ·exact⟨_,_,h1⟩
def jC.nil{w w':ek}{v:to}(h:jC w v []):aY w' 1 v 0 (Sj λ_=>0):=by
 rcases h with⟨h1,-⟩|⟨b,cs,h1,-⟩
 ·exact .inl ⟨h1,rfl⟩
 ·exact .inr ⟨_,_,h1,aL _,ck _,λo ho=>absurd ho G⟩
def jC.later{w w':ek}{v:to}{l:List Nat}(h:jC w v l)(b:Below w.heap.size w w'):jC w' v l:=by
 rcases h with h|⟨k,cs,h1,h2,h3⟩
 ·exact .inl h
 ·exact .inr ⟨k,cs,h1,h2.aG (aC.ai (S:=[]) b) az,h3⟩
section
variable {w w0:ek}{C:Co}{lo:Nat}{p:aU}{c:Cp}{s:St}{t:fG}{used:Int}{ga va ta oa ca za qa ua:Option Addr}{gc vc tc oc cc zc qc uc n1 n2 n3 n4 qn un:Nat}{ms:Int}{lv:Nat->to}{tv:Nat->Nat->to}{YT zC key mb:Nat}
def AcD(w:ek)(mb lo:Nat)(p:aU)(c:Cp)(s:St)(t:fG)(key:Nat)(e:Ending)(w':ek):Prop:=e=Xc (.bool true)/\Below lo w w'/\∃C' t' u',C'.mb=mb/\fA w' C' lo p c (fD p c s key) t' u'/\0<=t'.db/\t'.db<=t.db+1
def GY(a b:Int):IntKind.i64.wrap (wrap64 (a+1)+b)=IntKind.i64.wrap (IntKind.i64.wrap (a+b)+1)/\IntKind.i64.wrap (a+wrap64 (b+1))=IntKind.i64.wrap (IntKind.i64.wrap (a+b)+1):=by unfold IntKind.wrap wrap64;simp[IntKind.bits,IntKind.signed];omega
def GZ(a:Int):IntKind.i64.wrap a=wrap64 a:=by unfold IntKind.wrap wrap64;simp[IntKind.bits,IntKind.signed];omega
def afo(t:fG)(AS:Bool)(told:List Nat):IntKind.i64.wrap ((m_ t AS told).db+(m_ t AS told).bm)=IntKind.i64.wrap (IntKind.i64.wrap (t.db+t.bm)+1)/\IntKind.i64.wrap (t.fZ+(told.length:Int))=(m_ t AS told).fZ:=by
 unfold m_;cases AS with
 |true=>exact⟨(GY _ _).1,GZ _⟩
 |false=>exact⟨(GY _ _).2,GZ _⟩
def afn(t:fG)(AS:Bool)(told:List Nat)(h0:0<=t.db)(h1:t.db<=100000):decide (t.db<(m_ t AS told).db)=AS/\0<=(m_ t AS told).db/\(m_ t AS told).db<=t.db+1:=by
 unfold m_;cases AS with
 |true=>
  have e:wrap64 (t.db+1)=t.db+1:=by unfold wrap64;omega
  simp only[if_true];rw[e];exact⟨ti G,G,G⟩
 |false=>exact⟨decide_eq_false (by show¬t.db<t.db;omega),h0,by show t.db<=t.db+1;omega⟩
def abb(h:fA w C lo p c s t used)(hl:lo<=w.heap.size)(hk:key<18446744073709551616)(h0:eQ p c s key=0)(mO:C.mb=mb):Calls prog 17 #[Oi mb,.int .u64 key] w
 (λe w'=>∃ev C',e=Xc (.agg #[.bool (qY p c s key),ev,Y 0])/\bN w w' C C'/\(∃u,fA w' C' lo p c (fD p c s key) (m_ t (qY p c s key) (gu p c s key)) u)/\jC w' ev (gu p c s key)):=by
 subst mO;refine(Az h hl hk).mono ?_;rintro e w' ⟨ev,C',rfl,k,v,d,-⟩;simp only[aE h0]at d v ⊢;exact⟨ev,C',by rw[h0],k,⟨_,v⟩,d⟩
def G0(h:fA w C lo p c s t used)(hl:lo<=w.heap.size)(hk:key<18446744073709551616)(h0:¬eQ p c s key=0)(mO:C.mb=mb):Calls prog 17 #[Oi mb,.int .u64 key] w
 (λe w'=>∃ev C',e=Xc (.agg #[.bool false,ev,Y (eQ p c s key)])/\bN w w' C C'/\(∃u,fA w' C' lo p c s t u)/\jC w' ev []):=by
 subst mO;refine(Az h hl hk).mono ?_;rintro e w' ⟨ev,C',rfl,k,v,d,-⟩;have e1:fD p c s key=s:=by unfold fD;rw[ax h0]
 simp only[ax h0]at d v ⊢;rw[e1]at v;exact⟨ev,C',rfl,k,⟨_,v⟩,d⟩
def afm(A:Arg w0 (H ga p.ap.length gc) (H za c.aF.length zc) p c)(hw:Below w0.heap.size w0 w)(ZX:w0.heap.size<=lo)(h:fA w C lo p c s t used)(hl:lo<=w.heap.size)(hs:gS w YT zC (H qa qn qc) (H ua un uc) (cH p s) lv tv)(hap:∀b,b∈C.l->b<YT\/zC<=b)(hh1:zC<=w.heap.size)(hk:key<18446744073709551616)(UJ:0<=t.db)(Zu:t.db<=100000)(mO:C.mb=mb):
 Calls prog 31 #[Oi mb,.agg #[H ga p.ap.length gc,H va n1 vc,H ta n2 tc,H oa n3 oc,Y ms,H ca n4 cc],.agg #[Y c.size,H za c.aF.length zc],.int .u64 key,.agg #[H qa qn qc,H ua un uc],vD t] w (AcD w mb lo p c s t key):=by
 obtain⟨V,hV⟩:∃V,V=((((w.alloc (Xe #[H ga p.ap.length gc,H va n1 vc,H ta n2 tc,H oa n3 oc,Y ms,H ca n4 cc] 27)).alloc (Xe #[Y c.size,H za c.aF.length zc] 29)).alloc (Xe #[H qa qn qc,H ua un uc] 56)).alloc (Xe #[Y t.db,Y t.bm,Y t.fZ,Y t.gK] 74)):=⟨_,rfl⟩;have qt:V.heap.size=w.heap.size+4:=by rw[hV];simp
 have dG:Below w.heap.size w V:=by rw[hV];exact((((aZ _ _).alloc (aL _) _).alloc az _).alloc kZ _).alloc kZ _
 have HK:=Z (show aH V w.heap.size 27 #[H ga p.ap.length gc,H va n1 vc,H ta n2 tc,H oa n3 oc,Y ms,H ca n4 cc]/\aH V (w.heap.size+1) 29 #[Y c.size,H za c.aF.length zc]/\aH V (w.heap.size+2) 56 #[H qa qn qc,H ua un uc]/\aH V (w.heap.size+3) 74 #[Y t.db,Y t.bm,Y t.fZ,Y t.gK]from
  ⟨by rw[hV];exact(((aH.new _ _ _).alloc _).alloc _).alloc _,by rw[hV];exact((aH.bK az).alloc _).alloc _,by rw[hV];exact(aH.bK az).alloc _,by rw[hV];exact aH.bK az⟩)
 have sI:=Z (show∀b,b∈C.l->lo<=b/\b<w.heap.size from λb X=>h.lt X);have HV:=Z (h.later dG);have HS:=Z (hs.off (aC.ai (S:=[]) dG) (kD.nil _ _ _ _));have HB:=Z (show Below w.heap.size w V/\Below w0.heap.size w0 V/\V.heap.size=w.heap.size+4/\lo<=w.heap.size from⟨dG,hw.trans (dG.mono hw.size),qt,hl⟩);have HAP:=Z hap;have Al:=Z (show 0<=t.db/\t.db<=100000/\zC<=w.heap.size/\w0.heap.size<=lo from⟨UJ,Zu,hh1,ZX⟩);have HKY:=Z hk;have tE:=Z (h.told hk);have rY:=Z mO;have HA:=Z A;have WQ:=Z (show∀W1 C1,bN V W1 C C1->aH W1 w.heap.size 27 #[H ga p.ap.length gc,H va n1 vc,H ta n2 tc,H oa n3 oc,Y ms,H ca n4 cc]/\aH W1 (w.heap.size+1) 29 #[Y c.size,H za c.aF.length zc]/\aH W1 (w.heap.size+2) 56 #[H qa qn qc,H ua un uc]/\aH W1 (w.heap.size+3) 74 #[Y t.db,Y t.bm,Y t.fZ,Y t.gK]/\gS W1 YT zC (H qa qn qc) (H ua un uc) (cH p s) lv tv/\Below lo w W1/\Arg W1 (H ga p.ap.length gc) (H za c.aF.length zc) p c/\C1.mb=mb from λW1 C1 k1=>by
  have nb:∀i,i<4->w.heap.size+i∉C.l:=λi _ hc=>by have:=sI.o _ hc;omega
  refine⟨HK.o.1.aG k1.f (nb 0 G),HK.o.2.1.aG k1.f (nb 1 G),HK.o.2.2.1.aG k1.f (nb 2 G),HK.o.2.2.2.aG k1.f (nb 3 G),HS.o.off k1.f (kD.range HAP.o),?_,?_,k1.mb.trans rY.o⟩
  ·exact(HB.o.1.mono HB.o.2.2.2).trans (k1.low (λb X=>(sI.o b X).1) (by have:=HB.o;omega))
  ·exact HA.o.later (HB.o.2.1.trans (k1.low (lo:=w0.heap.size) (λb X=>bS Al.o.2.2.2 (sI.o b X).1) HB.o.2.1.size)))
 clear A hw ZX h hl hs hap hh1 hk UJ Zu dG qt mO;unfold vD;go_enter func31,ntmps31;go_wp2_with fail;rw[<-hV];clear hV;by_cases h0:eQ p c s key=0
 ·refine(abb HV.o (by have:=HB.o;omega) HKY.o h0 rY.o).mono ?_;rintro e W1 ⟨ev,C1,rfl,k1,⟨u1,v1⟩,d1⟩;obtain⟨g1,g2,g3,g4,g5,g6,g7,g8⟩:=WQ.o W1 C1 k1;have oE:=Z (show _/\_/\_/\_ from⟨g1,g2,g3,g4⟩);have sE:=Z g5;have Ci:=Z g6;have Ev:=Z g7;have xT:=Z g8;have We:=Z v1;obtain⟨ea,ec,rfl⟩:=d1.sl;have Bj:=Z d1;have HN:=Z (afo t (qY p c s key) (gu p c s key));have HH:=Z (afn t (qY p c s key) (gu p c s key) Al.o.1 Al.o.2.1);have KK:=Z (show sm (aB p c) s (fD p c s key) key (gu p c s key) false from by
   obtain⟨RO,K,T,-,-,E,hS,hI,-⟩:=HV.o;exact acQ E hS hI HKY.o h0)
  have HTL:=Z (show(gu p c s key).length<=maxLen/\(∀k,k∈gu p c s key->k<18446744073709551616)from⟨tE.o.1,tE.o.2.1⟩);have yj:=Z (show zC<=W1.heap.size from by have:=k1.f.size;have:=HB.o;have:=Al.o;omega);clear k1 v1 d1 g1 g2 g3 g4 g5 g6 g7 g8 HK HS HAP tE WQ h0;generalize gu p c s key=told at*;generalize qY p c s key=AS at*;generalize m_ t AS told=t9 at*;go_wp2_with fail;have Ed:=Z (show _/\_ from⟨aH.new W1 44 #[.bool AS,H ea told.length ec,Y 0],(aZ _ W1).alloc (aL _) (Xe #[.bool AS,H ea told.length ec,Y 0] 44)⟩);generalize W1.alloc (Xe #[.bool AS,H ea told.length ec,Y 0] 44)=W2 at*;have l_:=Z (show Calls prog 29 #[Oi mb] W2 (λe w'=>e=Xc (vD t9)/\Below W2.heap.size W2 w')from by rw[<-xT.o];exact yB (We.o.later Ed.o.2));refine l_.o.mono ?_;rintro e W3 ⟨rfl,b3⟩;unfold vD;obtain⟨h9,m9,e9,r9⟩:=t9;dsimp only at*;have mM:=Z (Ed.o.2.trans (b3.mono Ed.o.2.size));have wk:=Z (Ed.o.1.aG (aC.ai (S:=[]) b3) az);clear b3 l_;go_wp2_with fail;have N_:=Z (show _/\_ from⟨aH.new W3 74 #[Y h9,Y m9,Y e9,Y r9],(aZ _ W3).alloc (aL _) (Xe #[Y h9,Y m9,Y e9,Y r9] 74)⟩);generalize W3.alloc (Xe #[Y h9,Y m9,Y e9,Y r9] 74)=W4 at*;have iw:=Z (show Below W1.heap.size W1 W4.drew from(mM.o.trans (N_.o.2.mono mM.o.size)).trans (aA _ W4 1));have rn:=Z (show Below W3.heap.size W3 W4.drew from N_.o.2.trans (aA _ W4 1));have p0:Xf W4.drew (I w.heap.size 0)=O (H ga p.ap.length gc):=(oE.o.1.aG (aC.ai (S:=[]) iw.o) az).cell 0;have c0:Xf W4.drew (I (w.heap.size+1) 0)=O (Y c.size):=(oE.o.2.1.aG (aC.ai (S:=[]) iw.o) az).cell 0;have c1:Xf W4.drew (I (w.heap.size+1) 1)=O (H za c.aF.length zc):=(oE.o.2.1.aG (aC.ai (S:=[]) iw.o) az).cell 1;have s0:Xf W4.drew (I (w.heap.size+2) 0)=O (H qa qn qc):=(oE.o.2.2.1.aG (aC.ai (S:=[]) iw.o) az).cell 0;have s1:Xf W4.drew (I (w.heap.size+2) 1)=O (H ua un uc):=(oE.o.2.2.1.aG (aC.ai (S:=[]) iw.o) az).cell 1;have a0:Xf W4.drew (I W1.heap.size 0)=O (.bool AS):=(wk.o.aG (aC.ai (S:=[]) rn.o) az).cell 0;have a1:Xf W4.drew (I W1.heap.size 1)=O (H ea told.length ec):=(wk.o.aG (aC.ai (S:=[]) rn.o) az).cell 1;have a2:Xf W4.drew (I W1.heap.size 2)=O (Y 0):=(wk.o.aG (aC.ai (S:=[]) rn.o) az).cell 2;have w0:Xf W4.drew (I (w.heap.size+3) 0)=O (Y t.db):=(oE.o.2.2.2.aG (aC.ai (S:=[]) iw.o) az).cell 0;have w1:Xf W4.drew (I (w.heap.size+3) 1)=O (Y t.bm):=(oE.o.2.2.2.aG (aC.ai (S:=[]) iw.o) az).cell 1;have w2:Xf W4.drew (I (w.heap.size+3) 2)=O (Y t.fZ):=(oE.o.2.2.2.aG (aC.ai (S:=[]) iw.o) az).cell 2;have w3:Xf W4.drew (I (w.heap.size+3) 3)=O (Y t.gK):=(oE.o.2.2.2.aG (aC.ai (S:=[]) iw.o) az).cell 3;have n0:Xf W4.drew (I W3.heap.size 0)=O (Y h9):=(N_.o.1.aG (aC.ai (S:=[]) (aA _ W4 1)) az).cell 0;have n1:Xf W4.drew (I W3.heap.size 1)=O (Y m9):=(N_.o.1.aG (aC.ai (S:=[]) (aA _ W4 1)) az).cell 1;have n2:Xf W4.drew (I W3.heap.size 2)=O (Y e9):=(N_.o.1.aG (aC.ai (S:=[]) (aA _ W4 1)) az).cell 2;have n3:Xf W4.drew (I W3.heap.size 3)=O (Y r9):=(N_.o.1.aG (aC.ai (S:=[]) (aA _ W4 1)) az).cell 3;have RT:=Z (We.o.later iw.o);have N0:=Z (sE.o.off (aC.ai (S:=[]) iw.o) (kD.nil _ _ _ _));have HA4:=Z (Ev.o.later iw.o);have YU:=Z (Bj.o.later iw.o);have YV:=Z (Ci.o.trans (iw.o.mono (bS HB.o.2.2.2 Ci.o.size)));have af0:=Z (bS yj.o iw.o.size);clear Ed mM wk N_ rn oE sE Ev Bj Ci We yj;refine Mk.bq (S:=λwx=>Xf wx (I w.heap.size 0)=O (H ga p.ap.length gc)/\Xf wx (I (w.heap.size+1) 0)=O (Y c.size)/\Xf wx (I (w.heap.size+1) 1)=O (H za c.aF.length zc)/\Xf wx (I (w.heap.size+2) 0)=O (H qa qn qc)/\Xf wx (I (w.heap.size+2) 1)=O (H ua un uc)/\Xf wx (I W1.heap.size 0)=O (.bool AS)/\Xf wx (I W1.heap.size 1)=O (H ea told.length ec)/\Xf wx (I W1.heap.size 2)=O (Y 0)/\Xf wx (I (w.heap.size+3) 0)=O (Y t.db)/\Xf wx (I (w.heap.size+3) 1)=O (Y t.bm)/\Xf wx (I (w.heap.size+3) 2)=O (Y t.fZ)/\Xf wx (I (w.heap.size+3) 3)=O (Y t.gK)/\Xf wx (I W3.heap.size 0)=O (Y h9)/\Xf wx (I W3.heap.size 1)=O (Y m9)/\Xf wx (I W3.heap.size 2)=O (Y e9)/\Xf wx (I W3.heap.size 3)=O (Y r9)) bj ⟨p0,c0,c1,s0,s1,a0,a1,a2,w0,w1,w2,w3,n0,n1,n2,n3⟩ (λau=>?_);generalize W4.drew=V0 at*;have wM:=Z (show Calls prog 20 #[Oi mb] V0 (ku V0 (cH p (fD p c s key)))from by rw[<-xT.o];exact sO RT.o);have x1:=HN.o.1;have x2:=HN.o.2;have x3:=HH.o.1;generalize hY:IntKind.i64.wrap (t.db+t.bm)=a0a at*;generalize aco:IntKind.i64.wrap (a0a+1)=a0b at*;refine Mk.cD 0 ?_;refine Mk.cD 1 ?_;refine Mk.cD 3 ?_;refine Mk.cD 4 ?_;refine Mk.cD 5 ?_;refine Mk.cD 6 ?_;refine Mk.cD 7 ?_;refine Mk.oH (rs:=[2]) (bX rfl (λK9 hK=>?_) cz);refine fL ?_;go_simp;refine(wM.o).mono ?_;rintro e W5 ⟨qv5,uv5,lw5,tw5,rfl,re,hs5⟩;have gY:=Z re;have HS5:=Z hs5;clear re hs5;clear au;refine hK.out _ _ ⟨(aR (gY.o.block _ (ay p0))).trans p0,(aR (gY.o.block _ (ay c0))).trans c0,(aR (gY.o.block _ (ay c1))).trans c1,(aR (gY.o.block _ (ay s0))).trans s0,(aR (gY.o.block _ (ay s1))).trans s1,(aR (gY.o.block _ (ay a0))).trans a0,(aR (gY.o.block _ (ay a1))).trans a1,(aR (gY.o.block _ (ay a2))).trans a2,(aR (gY.o.block _ (ay w0))).trans w0,(aR (gY.o.block _ (ay w1))).trans w1,(aR (gY.o.block _ (ay w2))).trans w2,(aR (gY.o.block _ (ay w3))).trans w3,(aR (gY.o.block _ (ay n0))).trans n0,(aR (gY.o.block _ (ay n1))).trans n1,(aR (gY.o.block _ (ay n2))).trans n2,(aR (gY.o.block _ (ay n3))).trans n3⟩ (λau=>?_);clear hK K9;refine Mk.pt ?_;refine Mk.oH (rs:=[8]) (bX rfl (λK9 hK=>?_) cz);refine fL ?_;go_simp;refine(LM (HA4.o.later gY.o) HV.o RT.o (N0.o.off (aC.ai (S:=[]) gY.o) (kD.nil _ _ _ _)) HS5.o (bS af0.o gY.o.size) (aL _) HKY.o ((YU.o.later gY.o).afZ HTL.o.1) HTL.o.2 KK.o).mono ?_;rintro e W6 ⟨rfl,xy⟩;have jk:=Z (gY.o.trans (xy.mono gY.o.size));clear xy;clear au;refine hK.out _ _ ⟨(aR (jk.o.block _ (ay p0))).trans p0,(aR (jk.o.block _ (ay c0))).trans c0,(aR (jk.o.block _ (ay c1))).trans c1,(aR (jk.o.block _ (ay s0))).trans s0,(aR (jk.o.block _ (ay s1))).trans s1,(aR (jk.o.block _ (ay a0))).trans a0,(aR (jk.o.block _ (ay a1))).trans a1,(aR (jk.o.block _ (ay a2))).trans a2,(aR (jk.o.block _ (ay w0))).trans w0,(aR (jk.o.block _ (ay w1))).trans w1,(aR (jk.o.block _ (ay w2))).trans w2,(aR (jk.o.block _ (ay w3))).trans w3,(aR (jk.o.block _ (ay n0))).trans n0,(aR (jk.o.block _ (ay n1))).trans n1,(aR (jk.o.block _ (ay n2))).trans n2,(aR (jk.o.block _ (ay n3))).trans n3⟩ (λau=>?_);clear hK K9;refine Mk.pt ?_;refine Mk.cD 9 ?_;refine Mk.cD 10 ?_;refine Mk.cD 11 ?_;refine Mk.cD 12 ?_;refine Mk.cD 13 ?_;refine Mk.cD 14 ?_;refine Mk.cD 15 ?_;refine Mk.cD 16 ?_;refine Mk.cD 17 ?_;refine Mk.cD 18 ?_;refine Mk.cD 19 ?_;refine Mk.cD 20 ?_;refine Mk.cD 21 ?_;refine Mk.cD 22 ?_;refine Mk.cD 23 ?_;refine Mk.cD 24 ?_;refine Mk.cD 25 ?_;refine Mk.cD 26 ?_;refine Mk.cD 27 ?_;refine Mk.cD 28 ?_;refine Mk.cD 29 ?_;refine Mk.cD 30 ?_;refine Mk.cD 31 ?_;refine Mk.cD 32 ?_;refine Mk.cD 33 ?_;refine Mk.cD 34 ?_;refine Mk.cD 35 ?_;refine Mk.cD 36 ?_;refine Mk.cD 37 ?_;refine Mk.cD 38 ?_;refine Mk.cD 39 ?_;refine Mk.cD 40 ?_;refine Mk.cD 41 ?_;refine Mk.cD 42 ?_;refine Mk.cD 43 ?_;refine Mk.cD 44 ?_;refine eT bj ⟨rfl,?_⟩ _;clear au p0 c0 c1 s0 s1 a0 a1 a2 w0 w1 w2 w3 n0 n1 n2 n3 x1 x2 x3 hY aco;go_wp2
  first|refine Vf.eF (P:=prog) (fn:=Proofs.Tryz.f31) rfl ?_|(rw[jO];refine Vf.eF (P:=prog) (fn:=Proofs.Tryz.f31) rfl ?_)
  exact⟨rfl,YV.o.trans (jk.o.mono (bS HB.o.2.2.2 YV.o.size)),C1,_,_,xT.o,RT.o.later jk.o,HH.o.2.1,HH.o.2.2⟩
 ·refine(G0 HV.o (by have:=HB.o;omega) HKY.o h0 rY.o).mono ?_;rintro e W1 ⟨ev,C1,rfl,k1,⟨u1,v1⟩,d1⟩;obtain⟨g1,g2,g3,g4,g5,g6,g7,g8⟩:=WQ.o W1 C1 k1;have oE:=Z (show _/\_ from⟨g3,g4⟩);have sE:=Z g5;have Ci:=Z g6;have xT:=Z g8;have We:=Z v1;obtain⟨ea,ec,rfl⟩:∃a cap,ev=H a 0 cap:=d1.sl;have Bj:=Z d1;have AM:fD p c s key=s:=by unfold fD;rw[ax h0]
  have zq:=Z AM;have Yq:=Z (show∀b,b∈C1.l->(b∈C.l\/V.heap.size<=b)/\b<W1.heap.size from λb X=>⟨k1.c b X,(v1.lt X).2⟩);have yj:=Z (show V.heap.size<=W1.heap.size from k1.f.size);have U6:=Z (λW9 (hl9:lo<=W9.heap.size) (v9:fA W9 C1 lo p c s t u1)=>G0 v9 hl9 HKY.o h0 xT.o);have kU:=tE.o.2.2;have bt:(eQ p c s key !=0)=true:=by simpa using h0
  clear k1 v1 d1 g1 g2 g3 g4 g5 g6 g7 g8 HK HS tE WQ AM;generalize eQ p c s key=tr at*;have x1:decide (1<=tr)=true:=ti G;have x2:decide (tr<=3)=true:=ti kU.2;have Ju:(tr==0)=false:=by simpa using h0
  clear kU h0;go_wp2_with fail;have Ed:=Z (show _/\_ from⟨aH.new W1 44 #[.bool false,H ea 0 ec,Y tr],(aZ _ W1).alloc (aL _) (Xe #[.bool false,H ea 0 ec,Y tr] 44)⟩);generalize W1.alloc (Xe #[.bool false,H ea 0 ec,Y tr] 44)=W2 at*;refine(U6.o W2 (bS (bS HB.o.2.2.2 Ci.o.size) (by have:=Ed.o.2.size;have:=HB.o;have:=yj.o;omega)) (We.o.later Ed.o.2)).mono ?_;rintro e W3 ⟨fv,C2,rfl,k2,⟨u2,v2⟩,d2⟩;obtain⟨fa,fc,rfl⟩:∃a cap,fv=H a 0 cap:=d2.sl;have wk:=Z (Ed.o.1.aG k2.f (λhc=>by have:=(Yq.o _ hc).2;omega));have nb:∀i,i<4->w.heap.size+i∉C1.l:=λi _ hc=>by
   rcases(Yq.o _ hc).1 with h|h
   ·have:=sI.o _ h;omega
   ·have:=HB.o;omega
  have Be:=Z (show _/\_ from⟨(oE.o.1.aG (aC.ai (S:=[]) Ed.o.2) az).aG k2.f (nb 2 G),(oE.o.2.aG (aC.ai (S:=[]) Ed.o.2) az).aG k2.f (nb 3 G)⟩);have Nu:=Z ((sE.o.off (aC.ai (S:=[]) Ed.o.2) (kD.nil _ _ _ _)).off k2.f (kD.range λb X=>by
   rcases(Yq.o _ X).1 with h|h
   ·exact HAP.o b h
   ·have:=HB.o;have:=Al.o;right;omega))
  have NA:=Z (Ci.o.trans ((Ed.o.2.mono (by have:=HB.o;have:=yj.o;omega)).trans (k2.low (λb X=>by
   rcases(Yq.o _ X).1 with h|h
   ·exact(sI.o _ h).1
   ·have:=HB.o;omega) (by have:=Ed.o.2.size;have:=HB.o;have:=yj.o;omega))))
  have Bi:=Z (show C2.mb=mb from k2.mb.trans xT.o);have On:=Z v2;have Cg:=Z d2;have agA:=Z (show zC<=W3.heap.size from by have:=k2.f.size;have:=Ed.o.2.size;have:=HB.o;have:=Al.o;have:=yj.o;omega);clear k2 v2 d2 nb U6 oE sE Ci We Yq HAP;go_wp2_with fail;have N_:=Z (show _/\_ from⟨aH.new W3 44 #[.bool false,H fa 0 fc,Y tr],(aZ _ W3).alloc (aL _) (Xe #[.bool false,H fa 0 fc,Y tr] 44)⟩);generalize W3.alloc (Xe #[.bool false,H fa 0 fc,Y tr] 44)=W4 at*;have rn:=Z (show Below W3.heap.size W3 W4.drew from N_.o.2.trans (aA _ W4 1));have a0:Xf W4.drew (I W1.heap.size 0)=O (.bool false):=(wk.o.aG (aC.ai (S:=[]) rn.o) az).cell 0;have a1:Xf W4.drew (I W1.heap.size 1)=O (H ea 0 ec):=(wk.o.aG (aC.ai (S:=[]) rn.o) az).cell 1;have a2:Xf W4.drew (I W1.heap.size 2)=O (Y tr):=(wk.o.aG (aC.ai (S:=[]) rn.o) az).cell 2;have b0:Xf W4.drew (I W3.heap.size 0)=O (.bool false):=(N_.o.1.aG (aC.ai (S:=[]) (aA _ W4 1)) az).cell 0;have b1:Xf W4.drew (I W3.heap.size 1)=O (H fa 0 fc):=(N_.o.1.aG (aC.ai (S:=[]) (aA _ W4 1)) az).cell 1;have b2:Xf W4.drew (I W3.heap.size 2)=O (Y tr):=(N_.o.1.aG (aC.ai (S:=[]) (aA _ W4 1)) az).cell 2;have s0:Xf W4.drew (I (w.heap.size+2) 0)=O (H qa qn qc):=(Be.o.1.aG (aC.ai (S:=[]) rn.o) az).cell 0;have s1:Xf W4.drew (I (w.heap.size+2) 1)=O (H ua un uc):=(Be.o.1.aG (aC.ai (S:=[]) rn.o) az).cell 1;have w0:Xf W4.drew (I (w.heap.size+3) 0)=O (Y t.db):=(Be.o.2.aG (aC.ai (S:=[]) rn.o) az).cell 0;have w1:Xf W4.drew (I (w.heap.size+3) 1)=O (Y t.bm):=(Be.o.2.aG (aC.ai (S:=[]) rn.o) az).cell 1;have w2:Xf W4.drew (I (w.heap.size+3) 2)=O (Y t.fZ):=(Be.o.2.aG (aC.ai (S:=[]) rn.o) az).cell 2;have w3:Xf W4.drew (I (w.heap.size+3) 3)=O (Y t.gK):=(Be.o.2.aG (aC.ai (S:=[]) rn.o) az).cell 3;have RT:=Z (On.o.later rn.o);have N0:=Z (Nu.o.off (aC.ai (S:=[]) rn.o) (kD.nil _ _ _ _));have YV:=Z (NA.o.trans (rn.o.mono (bS HB.o.2.2.2 NA.o.size)));clear Ed wk N_ rn Be Nu NA On;refine Mk.bq (S:=λwx=>Xf wx (I W1.heap.size 0)=O (.bool false)/\Xf wx (I W1.heap.size 1)=O (H ea 0 ec)/\Xf wx (I W1.heap.size 2)=O (Y tr)/\Xf wx (I W3.heap.size 0)=O (.bool false)/\Xf wx (I W3.heap.size 1)=O (H fa 0 fc)/\Xf wx (I W3.heap.size 2)=O (Y tr)/\Xf wx (I (w.heap.size+2) 0)=O (H qa qn qc)/\Xf wx (I (w.heap.size+2) 1)=O (H ua un uc)/\Xf wx (I (w.heap.size+3) 0)=O (Y t.db)/\Xf wx (I (w.heap.size+3) 1)=O (Y t.bm)/\Xf wx (I (w.heap.size+3) 2)=O (Y t.fZ)/\Xf wx (I (w.heap.size+3) 3)=O (Y t.gK)) bj ⟨a0,a1,a2,b0,b1,b2,s0,s1,w0,w1,w2,w3⟩ (λau=>?_);generalize W4.drew=V0 at*;have wM:=Z (λW9 (X:Below V0.heap.size V0 W9)=>show Calls prog 20 #[Oi mb] W9 (ku W9 (cH p s))from by rw[<-Bi.o];exact sO (RT.o.later X));have wF:=Z (λW9 (X:Below V0.heap.size V0 W9)=>show Calls prog 29 #[Oi mb] W9 (λe w'=>e=Xc (vD t)/\Below W9.heap.size W9 w')from by rw[<-Bi.o];exact yB (RT.o.later X));refine Mk.cD 0 ?_;refine Mk.cD 1 ?_;refine Mk.cD 2 ?_;refine Mk.cD 3 ?_;refine Mk.cD 4 ?_;refine Mk.cD 5 ?_;refine Mk.cD 6 ?_;refine Mk.cD 7 ?_;refine Mk.cD 8 ?_;refine Mk.cD 9 ?_;refine Mk.cD 10 ?_;refine Mk.cD 11 ?_;refine Mk.oH (rs:=[12]) (bX rfl (λK9 hK=>?_) cz);refine fL ?_;go_simp;refine(afq Bj.o.nil Cg.o.nil).mono ?_;rintro e W5 ⟨rfl,re⟩;have gY:=Z re;clear re;clear au;refine hK.out _ _ ⟨(aR (gY.o.block _ (ay a0))).trans a0,(aR (gY.o.block _ (ay a1))).trans a1,(aR (gY.o.block _ (ay a2))).trans a2,(aR (gY.o.block _ (ay b0))).trans b0,(aR (gY.o.block _ (ay b1))).trans b1,(aR (gY.o.block _ (ay b2))).trans b2,(aR (gY.o.block _ (ay s0))).trans s0,(aR (gY.o.block _ (ay s1))).trans s1,(aR (gY.o.block _ (ay w0))).trans w0,(aR (gY.o.block _ (ay w1))).trans w1,(aR (gY.o.block _ (ay w2))).trans w2,(aR (gY.o.block _ (ay w3))).trans w3⟩ (λau=>?_);clear hK K9;refine Mk.pt ?_;refine Mk.cD 13 ?_;refine Mk.cD 14 ?_;refine Mk.cD 15 ?_;refine Mk.cD 16 ?_;refine Mk.oH (rs:=[17]) (bX rfl (λK9 hK=>?_) cz);refine fL ?_;go_simp;refine(wM.o _ gY.o).mono ?_;rintro e W6 ⟨qv6,uv6,lw6,tw6,rfl,xy,hs6⟩;have jk:=Z (gY.o.trans (xy.mono gY.o.size));have Q6:=Z hs6;clear xy hs6;clear au;refine hK.out _ _ ⟨(aR (jk.o.block _ (ay a0))).trans a0,(aR (jk.o.block _ (ay a1))).trans a1,(aR (jk.o.block _ (ay a2))).trans a2,(aR (jk.o.block _ (ay b0))).trans b0,(aR (jk.o.block _ (ay b1))).trans b1,(aR (jk.o.block _ (ay b2))).trans b2,(aR (jk.o.block _ (ay s0))).trans s0,(aR (jk.o.block _ (ay s1))).trans s1,(aR (jk.o.block _ (ay w0))).trans w0,(aR (jk.o.block _ (ay w1))).trans w1,(aR (jk.o.block _ (ay w2))).trans w2,(aR (jk.o.block _ (ay w3))).trans w3⟩ (λau=>?_);clear hK K9;refine Mk.pt ?_;refine Mk.oH (rs:=[18]) (bX rfl (λK9 hK=>?_) cz);refine fL ?_;go_simp;refine(aeg (N0.o.off (aC.ai (S:=[]) jk.o) (kD.nil _ _ _ _)) Q6.o).mono ?_;rintro e W7 ⟨rfl,Hx⟩;have mZ:=Z (jk.o.trans (Hx.mono jk.o.size));clear Hx;clear au;refine hK.out _ _ ⟨(aR (mZ.o.block _ (ay a0))).trans a0,(aR (mZ.o.block _ (ay a1))).trans a1,(aR (mZ.o.block _ (ay a2))).trans a2,(aR (mZ.o.block _ (ay b0))).trans b0,(aR (mZ.o.block _ (ay b1))).trans b1,(aR (mZ.o.block _ (ay b2))).trans b2,(aR (mZ.o.block _ (ay s0))).trans s0,(aR (mZ.o.block _ (ay s1))).trans s1,(aR (mZ.o.block _ (ay w0))).trans w0,(aR (mZ.o.block _ (ay w1))).trans w1,(aR (mZ.o.block _ (ay w2))).trans w2,(aR (mZ.o.block _ (ay w3))).trans w3⟩ (λau=>?_);clear hK K9;refine Mk.pt ?_;refine Mk.cD 19 ?_;refine Mk.cD 20 ?_;refine Mk.cD 21 ?_;refine Mk.cD 23 ?_;refine Mk.oH (rs:=[22]) (bX rfl (λK9 hK=>?_) cz);refine fL ?_;go_simp;refine(wF.o _ mZ.o).mono ?_;rintro e W8 ⟨rfl,wm⟩;have nH:=Z (mZ.o.trans (wm.mono mZ.o.size));clear wm;unfold vD;clear au;refine hK.out _ _ ⟨(aR (nH.o.block _ (ay a0))).trans a0,(aR (nH.o.block _ (ay a1))).trans a1,(aR (nH.o.block _ (ay a2))).trans a2,(aR (nH.o.block _ (ay b0))).trans b0,(aR (nH.o.block _ (ay b1))).trans b1,(aR (nH.o.block _ (ay b2))).trans b2,(aR (nH.o.block _ (ay s0))).trans s0,(aR (nH.o.block _ (ay s1))).trans s1,(aR (nH.o.block _ (ay w0))).trans w0,(aR (nH.o.block _ (ay w1))).trans w1,(aR (nH.o.block _ (ay w2))).trans w2,(aR (nH.o.block _ (ay w3))).trans w3⟩ (λau=>?_);clear hK K9;refine Mk.pt ?_;refine Mk.cD 24 ?_;refine Mk.cD 25 ?_;refine Mk.cD 26 ?_;refine Mk.cD 27 ?_;refine Mk.cD 28 ?_;refine Mk.cD 29 ?_;refine Mk.cD 30 ?_;refine Mk.cD 31 ?_;refine Mk.cD 32 ?_;refine Mk.cD 33 ?_;refine Mk.cD 34 ?_;refine Mk.cD 35 ?_;refine Mk.cD 36 ?_;refine eT bj ⟨rfl,?_⟩ _;clear au a0 a1 a2 b0 b1 b2 s0 s1 w0 w1 w2 w3 x1 x2 bt Ju;go_wp2
  first|refine Vf.eF (P:=prog) (fn:=Proofs.Tryz.f31) rfl ?_|(rw[jO];refine Vf.eF (P:=prog) (fn:=Proofs.Tryz.f31) rfl ?_)
  refine⟨rfl,YV.o.trans (nH.o.mono (bS HB.o.2.2.2 YV.o.size)),C2,t,u2,Bi.o,?_,Al.o.1,G⟩;rw[zq.o];exact RT.o.later nH.o
end
end Go.Ma
namespace Go.Ma
open Go.RowKit al.Vm Go.ChangeShapes Go.WideShapes Go.Deep
open al hiding aS aw an
open Vf (Kp gM pV aY)
section
variable {a0g:Type}{enc:TypeId×to->a0g}{P:Program}{w:ek}{base:Nat}{spare:Nat->Bool}{held:Bool}
def Rd(enc:TypeId×to->a0g)(P:Program)(w:ek)(base:Nat)(spare:Nat->Bool)(held:Bool)(t:TypeId)(cs:List to):Prop:=∃n y,DataW.trod enc P w base spare held n t cs=O y
def Rd.int{t:TypeId}{k:IntKind}{v:to}(ht:P.underlying t=O (.int k))(h:Rd enc P w base spare held t [v]):∃n,v= .int k n/\(Lit.int k n).wf=true:=by obtain⟨f,y,h⟩:=h;obtain⟨n,e,-,hw⟩:=DataW.trod_int ht h;simp at e;exact⟨n,e,hw⟩
def Rd.bool{t:TypeId}{v:to}(ht:P.underlying t=O .bool)(h:Rd enc P w base spare held t [v]):∃b,v= .bool b:=by obtain⟨f,y,h⟩:=h;obtain⟨n,e,-⟩:=DataW.trod_bool ht h;simp at e;exact⟨n,e⟩
def Rd.fields{t:TypeId}{fs:Array Field}{cs:List to}(ht:P.underlying t=O (.struct fs))(Rg:oneCellFields P fs=true)(hC:P.cellsOf t=fs.size)(h:Rd enc P w base spare held t cs):
 cs.length=fs.size/\∀(j:Nat) (f:Field),fs[j]? =O f->∃v,cs[j]? =O v/\Rd enc P w base spare held f.type [v]:=by
 obtain⟨fu,y,h⟩:=h;obtain⟨xs,n,-,-,hl,hx,hf⟩:=DataW.trod_struct ht h;rw[hC]at hl;refine⟨hl,λj f hj=>?_⟩;have be:j<fs.size:=(Array.getElem?_eq_some_iff.1 hj).1;obtain⟨ho,hk⟩:=hone_of Rg j f hj;have h1:=hf j f hj;rw[ho,hk,ft G]at h1;have:(cs.drop j).take 1=[cs[j]'G]:=by rw[uY G];rfl
 rw[this]at h1;exact⟨_,ft G,n,_,h1⟩
def Rd.rows{t e:TypeId}{v:to}(ht:P.underlying t=O (.slice e))(h:Rd enc P w base spare held t [v]):
 v=Xd\/∃a len cap,v=H (O a) len cap/\len<=cap/\cap<=maxLen/\∀i,i<len->∃cs,cs.length=P.cellsOf e/\(∀j,j<P.cellsOf e->Xf w (a.add (i*P.cellsOf e+j))=cs[j]?)/\Rd enc P w base spare held e cs:=by
 obtain⟨fu,y,h⟩:=h;rcases open_slice ht h with⟨h0,-⟩|⟨a,len,cap,m,n,D,a1q,nB,X,hl,hm,xN,hx,hi⟩
 ·simp at h0;exact .inl h0
 ·simp at nB;refine .inr ⟨a,len,cap,nB,hl,hm,λi jL=>?_⟩;obtain⟨cs',hc,ht'⟩:=hi i (by rw[xN];split<;>omega);obtain⟨-,hcl,Ep⟩:=World.cells?_some hc;exact⟨cs',hcl,λj hj=>by rw[<-Go.Deep.add_add];exact Ep j hj,n,_,ht'⟩
def at_plain{a:Addr}{n:Nat}{v:to}(h:Xf w (a.add n)=O v)(h0:∃u,Xf w (a.add 0)=O u):a.spot=Xb/\Xf w (I a.block (a.off+n))=O v:=by
 obtain⟨u,h0⟩:=h0;have hs:a.spot=Xb:=by simpa[Addr.add]using World.cell?_spot h0
 obtain⟨b,o,sp⟩:=a;dsimp only at hs;subst hs;rw[add_plain]at h;exact⟨rfl,h⟩
def cI(w:ek)(b o:Nat):Int:=match Xf w ⟨b,o,Xb⟩with|some (.int _ n)=>n|_=>0
def cB(w:ek)(b o:Nat):Bool:=match Xf w ⟨b,o,Xb⟩with|some (.bool n)=>n|_=>false
def Rd.ints{t e:TypeId}{v:to}{k:Nat}(ht:P.underlying t=O (.slice e))(hk:P.cellsOf e=k)(Jt:0<k)
 (he:∀cs,Rd enc P w base spare held e cs->∀j,j<k->∃n,cs[j]? =O (Y n)) (h:Rd enc P w base spare held t [v]):∃(n:Nat) (g:Nat->Int),aY w k v n (λo=> Y (g o)):=by
 rcases h.rows ht with rfl|⟨a,len,cap,rfl,h1,h2,h3⟩
 ·exact⟨0,λ_=>0,.inl ⟨rfl,rfl⟩⟩
 ·rw[hk]at h3;have at_:∀o,o<len*k->∃n,Xf w (a.add o)=O (Y n):=λo ho=>by have hi:o / k<len:=Nat.div_lt_of_lt_mul (by rw[Nat.mul_comm];exact ho);have hj:o % k<k:=Nat.mod_lt _ Jt;obtain⟨cs,hl,hc,hr⟩:=h3 (o / k) hi;obtain⟨n,hn⟩:=he cs hr _ hj;have:=hc _ hj;rw[show o / k*k+o % k=o from Nat.div_add_mod' o k]at this;exact⟨n,this.trans hn⟩
  refine⟨len,λo=>cI w a.block (a.off+o),.inr ⟨a,cap,rfl,h1,h2,λo ho=>?_⟩⟩;obtain⟨n,hn⟩:=at_ o ho;obtain⟨u,hu⟩:=at_ 0 G;obtain⟨e1,e2⟩:=at_plain hn ⟨_,hu⟩;refine⟨e1,?_⟩;unfold cI;dsimp only;rw[e2]
def Rd.aer{t e:TypeId}{v:to}(ht:P.underlying t=O (.slice e))(hk:P.cellsOf e=1)(he:P.underlying e=O .bool)(h:Rd enc P w base spare held t [v]):∃(n:Nat) (g:Nat->Bool),aY w 1 v n (λo=> .bool (g o)):=by
 rcases h.rows ht with rfl|⟨a,len,cap,rfl,h1,h2,h3⟩
 ·exact⟨0,λ_=>false,.inl ⟨rfl,rfl⟩⟩
 ·rw[hk]at h3;have at_:∀o,o<len->∃n,Xf w (a.add o)=O (.bool n):=λo ho=>by
   obtain⟨cs,hl,hc,hr⟩:=h3 o ho
   match cs,hl with
   |[x],_=>obtain⟨b,rfl⟩:=hr.bool he;have:=hc 0 G;rw[Nat.mul_one,Nat.add_zero]at this;exact⟨b,this⟩
  refine⟨len,λo=>cB w a.block (a.off+o),.inr ⟨a,cap,rfl,h1,h2,λo ho=>?_⟩⟩;obtain⟨n,hn⟩:=at_ o G;obtain⟨u,hu⟩:=at_ 0 G;obtain⟨e1,e2⟩:=at_plain hn ⟨_,hu⟩;refine⟨e1,?_⟩;unfold cB;dsimp only;rw[e2]
def qP{size n:Nat}{v:to}{g f:Nat->to}(h:aY w size v n g)(e:∀o,o<n*size->g o=f o):aY w size v n f:=by
 rcases h with h|⟨a,cap,h0,h1,h2,h3⟩
 ·exact .inl h
 ·exact .inr ⟨a,cap,h0,h1,h2,λo ho=>⟨(h3 o ho).1,by rw[<-e o ho];exact(h3 o ho).2⟩⟩
def qQ{α:Type}(g:Nat->α)(d:α){n i:Nat}(h:i<n):((List.range n).map g).getD i d=g i:=by simp[List.getD,h]
def AG{t:TypeId}{fs:Array Field}{k:Nat}(ht:prog.underlying t=O (.struct fs))(Rg:oneCellFields prog fs=true)(hC:prog.cellsOf t=k)(hk:fs.size=k)
 (hi:∀(j:Nat) f,fs[j]? =O f->prog.underlying f.type=O (.int .i64)) (cs:List to) (h:Rd enc prog w base spare held t cs) (j:Nat) (hj:j<k):∃n,cs[j]? =O (Y n):=by
 obtain⟨hl,hf⟩:=h.fields ht Rg (hC.trans hk.symm);obtain⟨v,h1,h2⟩:=hf j fs[j] (Ak G);obtain⟨n,rfl,-⟩:=h2.int (hi j _ (Ak G));exact⟨n,h1⟩
def Ee{v:to}(h:Rd enc prog w base spare held 24 [v]):∃l:List Int,aY w 1 v l.length (bd l):=by
 obtain⟨n,g,hr⟩:=h.ints (k:=1) underlying24 bj G (λcs hc j hj=>by
  have hl:cs.length=1:=by obtain⟨f,y,hc⟩:=hc;obtain⟨n,e,-⟩:=DataW.trod_int underlying3 hc;rw[e];rfl
  match cs,hl with
  |[x],_=>
   obtain⟨n,rfl,-⟩:=hc.int underlying3;obtain rfl:j=0:=G;exact⟨n,rfl⟩)
 refine⟨(List.range n).map g,?_⟩;rw[List.length_map,List.length_range];exact qP hr λo ho=>by unfold bd;rw[qQ g 0 G]
def afl{v:to}(h:Rd enc prog w base spare held 22 [v]):∃l:List Bool,aY w 1 v l.length (λi=> .bool (l.getD i false)):=by obtain⟨n,g,hr⟩:=h.aer underlying22 bj underlying4;refine⟨(List.range n).map g,?_⟩;rw[List.length_map,List.length_range];exact qP hr λo ho=>by rw[qQ g false G]
def afk{v:to}(h:Rd enc prog w base spare held 23 [v]):∃l:List Vr,aY w 3 v l.length (λo=>let x:=l.getD (o / 3) ⟨0,0,0⟩;if o % 3=0 then Y x.init else if o % 3=1 then Y x.lo else Y x.hi):=by
 obtain⟨n,g,hr⟩:=h.ints (k:=3) underlying23 bj G (AG underlying122 bj bj rfl (λj f hf=>by
  match j,hf with
  |0,hf=>cases hf;exact underlying3
  |1,hf=>cases hf;exact underlying3
  |2,hf=>cases hf;exact underlying3
  |n+3,hf=>cases hf))
 refine⟨(List.range n).map λi=>⟨g (i*3),g (i*3+1),g (i*3+2)⟩,?_⟩;rw[List.length_map,List.length_range];refine qP hr λo ho=>?_;dsimp only;rw[qQ _ _ G];dsimp only;split
 ·congr;omega
 split
 ·congr;omega
 ·congr;omega
def acn{v:to}(h:Rd enc prog w base spare held 25 [v]):∃l:List Ins,aY w 5 v l.length (λo=>let x:=l.getD (o / 5) ⟨0,0,0,0,0⟩;if o % 5=0 then Y x.op else if o % 5=1 then Y x.a else if o % 5=2 then Y x.b else if o % 5=3 then Y x.c else Y x.d):=by
 obtain⟨n,g,hr⟩:=h.ints (k:=5) underlying25 bj G (AG underlying40 bj bj rfl (λj f hf=>by
  match j,hf with
  |0,hf=>cases hf;exact underlying3
  |1,hf=>cases hf;exact underlying3
  |2,hf=>cases hf;exact underlying3
  |3,hf=>cases hf;exact underlying3
  |4,hf=>cases hf;exact underlying3
  |n+5,hf=>cases hf))
 refine⟨(List.range n).map λi=>⟨g (i*5),g (i*5+1),g (i*5+2),g (i*5+3),g (i*5+4)⟩,?_⟩;rw[List.length_map,List.length_range];refine qP hr λo ho=>?_;dsimp only;rw[qQ _ _ G];dsimp only;split
 ·congr;omega
 split
 ·congr;omega
 split
 ·congr;omega
 split
 ·congr;omega
 ·congr;omega
def acm{v:to}{cs:Array to}(e:v= .agg cs)(h:Rd enc prog w base spare held 27 cs.toList):∃(K:Kp) (p:aU),v=pV K p/\gM w K p:=by
 obtain⟨hl,hf⟩:=h.fields underlying27 bj bj;obtain⟨v0,e0,r0⟩:=hf 0 _ rfl;obtain⟨v1,e1,r1⟩:=hf 1 _ rfl;obtain⟨v2,e2,r2⟩:=hf 2 _ rfl;obtain⟨v3,e3,r3⟩:=hf 3 _ rfl;obtain⟨v4,e4,r4⟩:=hf 4 _ rfl;obtain⟨v5,e5,r5⟩:=hf 5 _ rfl;obtain⟨g,hg⟩:=afl r0;obtain⟨vs,hv⟩:=afk r1;obtain⟨ts,htg⟩:=Ee r2;obtain⟨on,ho⟩:=Ee r3;obtain⟨m,rfl,-⟩:=r4.int underlying3;obtain⟨c,hc⟩:=acn r5;refine⟨⟨v0,v1,v2,v3,v5⟩,⟨g,vs,ts,on,m,c⟩,?_,hg,hv,htg,ho,hc⟩;subst e;obtain⟨l⟩:=cs
 match l,hl with
 |[x0,x1,x2,x3,x4,x5],_=>simp only[List.getElem?_cons_zero,List.getElem?_cons_succ,iI]at e0 e1 e2 e3 e4 e5;subst e0 e1 e2 e3 e4 e5;rfl
def ack{v:to}{cs:Array to}(e:v= .agg cs)(h:Rd enc prog w base spare held 29 cs.toList):∃(c:Cp) (qv:to),v=Vf.cV c qv/\aY w 1 qv c.aF.length (bd c.aF):=by
 obtain⟨hl,hf⟩:=h.fields underlying29 bj bj;obtain⟨v0,e0,r0⟩:=hf 0 _ rfl;obtain⟨v1,e1,r1⟩:=hf 1 _ rfl;obtain⟨m,rfl,-⟩:=r0.int underlying3;obtain⟨q,hq⟩:=Ee r1;refine⟨⟨m,q⟩,v1,?_,hq⟩;subst e;obtain⟨l⟩:=cs
 match l,hl with
 |[x0,x1],_=>simp only[List.getElem?_cons_zero,List.getElem?_cons_succ,iI]at e0 e1;subst e0 e1;rfl
end
end Go.Ma
namespace Go.Ma
open Go.RowKit al.Vm
open al hiding aS aw an
open Vf (Kp gM pV aY cV)
def G_(J:Nat->to):Act:={tmps:=#[J 0,J 1,J 2,J 3,J 4,J 5,J 6,J 7,J 8,J 9,J 10,J 11,J 12,J 13,J 14,J 15,J 16,J 17,J 18,J 19,J 20,J 21,J 22,J 23,J 24,J 25,J 26,J 27,J 28,J 29,J 30,J 31,J 32,J 33,J 34,J 35,J 36,J 37,J 38,J 39,J 40,J 41,J 42,J 43,J 44,J 45,J 46,J 47,J 48,J 49,J 50,J 51,J 52,J 53,J 54,J 55,J 56,J 57,J 58,J 59,J 60,J 61,J 62,J 63,J 64,J 65,J 66,J 67,J 68,J 69,J 70,J 71,J 72,J 73,J 74,J 75,J 76,J 77,J 78,J 79,J 80,J 81,J 82,J 83,J 84,J 85,J 86,J 87,J 88,J 89,J 90,J 91,J 92,J 93,J 94,J 95,J 96,J 97,J 98,J 99,J 100,J 101,J 102,J 103,J 104,J 105,J 106,J 107,J 108,J 109,J 110,J 111],defers:=[]}
def G_.of(A:Array to)(h:A=(G_ λk=>A.getD k undef).tmps):({tmps:=A,defers:=[]}:Act)=G_ λk=>A.getD k undef:=by rw[h];rfl
noncomputable def vsL:Code:=Mk.gI Proofs.Tryz.f6.body 0
def VS(Vb:ek)(sv:to)(n pb mb:Nat)(p:aU)(c:Cp)(m:Nat)(a:Act)(W:ek):Prop:=∃(J:Nat->to) (i:Nat),a=G_ J/\J 2=sv/\J 3=Oi pb/\J 4=Oi (pb+1)/\J 7=Oi mb/\J 9=Y i/\i<=n/\m+i=n+1/\Hid (Below Vb.heap.size Vb W/\∃C s t u,C.mb=mb/\fA W C Vb.heap.size p c s t u/\0<=t.db/\t.db<=i)
def acd(t:fG)(x:Int):((if x=0 then t else{t with gK:=wrap64 (t.gK+1)}:fG).gK !=t.gK)=(x !=0)/\(if x=0 then t else{t with gK:=wrap64 (t.gK+1)}:fG).db=t.db:=by
 by_cases h:x=0
 ·rw[aE h];exact⟨by simp[h],rfl⟩
 ·rw[ax h];refine⟨?_,rfl⟩;have e1:(x !=0)=true:=by simpa using h
  rw[e1];have e2:wrap64 (t.gK+1)≠t.gK:=by unfold wrap64;omega
  simpa using e2
section
variable {Vb:ek}{sa:Option Addr}{sn sc mb pb:Nat}{p:aU}{c:Cp}{Q:Exit->Act->ek->Prop}{ga va ta oa ca za:Option Addr}{gc vc tc oc cc zc n1 n2 n3 n4:Nat}{ms:Int}
def Rb{p:Prop}(h:p:=by
 go_wp2;exact Eq.mpr (bo (λa=>Q (.exit 0) a W) (G_.of _ rfl)) (dD _ W Nz.o)):p:=h
def adU(HS:Hid (AH Vb sa sn))(HP:Hid (aH Vb pb 27 #[H ga p.ap.length gc,H va n1 vc,H ta n2 tc,H oa n3 oc,Y ms,H ca n4 cc]/\aH Vb (pb+1) 29 #[Y c.size,H za c.aF.length zc]))(HA:Hid (Arg Vb (H ga p.ap.length gc) (H za c.aF.length zc) p c))
 (dD:∀(J:Nat->to) W,Below Vb.heap.size Vb W->Q (.exit 0) (G_ J) W)
 {a0:Act} {W0:ek} (h:VS Vb (H sa sn sc) (min sn 300) pb mb p c (min sn 300+1) a0 W0):(Code.loop vsL).wp prog Q a0 W0:=by
 refine Mk.aM (λm a W=>VS Vb (H sa sn sc) (min sn 300) pb mb p c m a W) (min sn 300+1) h ?_ ?_
 ·exact AZ
 rintro m a9 W ⟨J,i,rfl,j2,j3,j4,j7,j9,hi,hm,HW⟩;unfold G_
 conv=>arg 2;whnf
 rw[j2,j3,j4,j7,j9];clear j2 j3 j4 j7 j9;by_cases be:i<sn/\i<300
 ·obtain⟨X6,Tj⟩:=be;have HNm:=Z hm;obtain⟨yw,C,s,t,u,mO,hv,UJ,Zu⟩:=HW.o;have w2:=mr i G;obtain⟨sb,a1r,e0,kind,key,pK,g0,g1⟩:=HS.o.2 i X6;subst e0;have c0:=(aR (yw.block _ (ay g0))).trans g0;have c1:=(aR (yw.block _ (ay g1))).trans g1;have ls:sb<W.heap.size:=ay c0;have Nz:=Z yw;have HV:=Z hv;have rY:=Z mO;have Jn:=Z pK;have OK:=Z (show 0<=t.db/\t.db<=(i:Int)/\i<300 from⟨UJ,Zu,Tj⟩);have sI:=Z (show∀b,b∈C.l->Vb.heap.size<=b/\b<W.heap.size from λb X=>hv.lt X);clear yw hv mO pK UJ Zu g0 g1 HW hm;go_wp2_with fail;have Tt:=Z (show Below W.heap.size W (W.alloc (Xe #[Y kind,.int .u64 key] 48))/\aH (W.alloc (Xe #[Y kind,.int .u64 key] 48)) W.heap.size 48 #[Y kind,.int .u64 key]/\(W.alloc (Xe #[Y kind,.int .u64 key] 48)).heap.size=W.heap.size+1 from⟨(aZ _ W).alloc (aL _) _,aH.new _ _ _,az⟩);generalize W.alloc (Xe #[Y kind,.int .u64 key] 48)=W1 at*;have wM:=Z (show Calls prog 20 #[Oi mb] W1 (ku W1 (cH p s))from by rw[<-rY.o];exact sO (HV.o.later Tt.o.1));refine wM.o.mono ?_;rintro e W2 ⟨qv,vv,lv,tv,rfl,b2,st2⟩;obtain⟨xq,yq,rfl,-,-⟩:=fW st2.qs.row;obtain⟨xv,yv,rfl,-,-⟩:=fW st2.vs.row;have fR:=Z (show Below W.heap.size W W2 from Tt.o.1.trans (b2.mono Tt.o.1.size));have Nt:=Z st2;have Cg:=Z (Tt.o.2.1.aG (aC.ai (S:=[]) b2) az);have HZ2:=Z (show W.heap.size+1<=W2.heap.size by have:=b2.size;have:=Tt.o.2.2;omega);have px:=Z Tt.o.2.2;clear b2 st2 wM Tt c0 c1 ls;go_wp2_with fail;have Qc:=Z (show Below W2.heap.size W2 (W2.alloc (Xe #[H xq (cH p s).aF.length yq,H xv (cH p s).vars.length yv] 56))/\aH (W2.alloc (Xe #[H xq (cH p s).aF.length yq,H xv (cH p s).vars.length yv] 56)) W2.heap.size 56 #[H xq (cH p s).aF.length yq,H xv (cH p s).vars.length yv]/\(W2.alloc (Xe #[H xq (cH p s).aF.length yq,H xv (cH p s).vars.length yv] 56)).heap.size=W2.heap.size+1 from⟨(aZ _ W2).alloc (aL _) _,aH.new _ _ _,az⟩);generalize W2.alloc (Xe #[H xq (cH p s).aF.length yq,H xv (cH p s).vars.length yv] 56)=W3 at*;have wF:=Z (show Calls prog 29 #[Oi mb] W3 (λe w'=>e=Xc (vD t)/\Below W3.heap.size W3 w')from by rw[<-rY.o];exact yB (HV.o.later (fR.o.trans (Qc.o.1.mono fR.o.size))));refine wF.o.mono ?_;rintro e W4 ⟨rfl,b4⟩;unfold vD;have Sp:=Z (show Below W2.heap.size W2 W4 from Qc.o.1.trans (b4.mono Qc.o.1.size));have N0:=Z (Qc.o.2.1.aG (aC.ai (S:=[]) b4) az);have YU:=Z (Cg.o.aG (aC.ai (S:=[]) Sp.o) az);have Wy:=Z (fR.o.trans (Sp.o.mono fR.o.size));have iw:=Z (Nz.o.trans (Wy.o.mono Nz.o.size));have Wz:=Z (Nt.o.off (aC.ai (S:=[]) Sp.o) (kD.nil _ _ _ _));have HZ4:=Z (show W2.heap.size+1<=W4.heap.size by have:=b4.size;have:=Qc.o.2.2;omega);have YW:=Z (HV.o.later Wy.o);clear b4 wF Qc Nt Cg fR Nz HV;have ldd:W.heap.size<W4.heap.size:=YU.o.lt;have lss:W2.heap.size<W4.heap.size:=N0.o.lt;have lpp:pb<W4.heap.size:=dC HP.o.1.lt iw.o.size;have lpq:pb+1<W4.heap.size:=dC HP.o.2.lt iw.o.size;by_cases k1:kind=1
  ·subst k1;obtain⟨d0,d1⟩:=YU.o.c2;go_wp2_with fail;have OL:=Z (show Below W4.heap.size W4 (W4.alloc (Xe #[Y t.db,Y t.bm,Y t.fZ,Y t.gK] 74))/\aH (W4.alloc (Xe #[Y t.db,Y t.bm,Y t.fZ,Y t.gK] 74)) W4.heap.size 74 #[Y t.db,Y t.bm,Y t.fZ,Y t.gK]/\(W4.alloc (Xe #[Y t.db,Y t.bm,Y t.fZ,Y t.gK] 74)).heap.size=W4.heap.size+1 from⟨(aZ _ W4).alloc (aL _) _,aH.new _ _ _,az⟩);generalize W4.alloc (Xe #[Y t.db,Y t.bm,Y t.fZ,Y t.gK] 74)=W5 at*;have HRM:=Z (show Calls prog 26 #[Oi mb,.int .u64 key] W5 (kd W5 C Vb.heap.size p c s t u key)from by rw[<-rY.o];exact aed (YW.o.later OL.o.1) (bS iw.o.size OL.o.1.size) key);refine HRM.o.mono ?_;rintro e W6 ⟨rfl,C',k6,v6⟩;have hr:=acd t (gV p c s key);have Of:=Z hr.2;have Bd:=hr.1;generalize(if gV p c s key=0 then t else{t with gK:=wrap64 (t.gK+1)})=t' at*;generalize hrx:gV p c s key=rx at*;clear hr hrx;have KK:=Z (show sm (aB p c) s (gR p c s key) key [] true from acP YW.o.inv key);have D8:=Z (show C'.mb=mb from k6.mb.trans rY.o);have ON:=Z v6;have gY:=Z (show Below Vb.heap.size Vb W5 from iw.o.trans (OL.o.1.mono iw.o.size));have jk:=Z (show Below Vb.heap.size Vb W6 from gY.o.trans (k6.low (λb X=>(sI.o b X).1) gY.o.size));have hn:∀b,W.heap.size<=b->b∉C.l:=λb X hc=>by have:=(sI.o b hc).2;omega
   have HDB:=Z ((((YU.o.aG (aC.ai (S:=[]) OL.o.1) az).aG k6.f (hn _ (aL _))).aG (aC.ai (S:=[]) (aA _ W6 1)) az));have HSB:=Z ((((N0.o.aG (aC.ai (S:=[]) OL.o.1) az).aG k6.f (hn _ (by have:=HZ2.o;omega))).aG (aC.ai (S:=[]) (aA _ W6 1)) az));have HWB:=Z (((OL.o.2.1.aG k6.f (hn _ G)).aG (aC.ai (S:=[]) (aA _ W6 1)) az));have Hn:=Z (show gS W6.drew _ _ _ _ _ _ _ from((Wz.o.off (aC.ai (S:=[]) OL.o.1) (kD.nil _ _ _ _)).off k6.f (kD.range λb X=> .inl (by have:=(sI.o b X).2;have:=px.o;omega))).off (aC.ai (S:=[]) (aA _ W6 1)) (kD.nil _ _ _ _));have HZ6:=Z (show W2.heap.size<=W6.heap.size by have:=k6.f.size;have:=OL.o.1.size;omega);clear k6 v6 HRM hn OL Wz gY d0 d1 YU N0 Wy Sp;go_wp2_with fail;have Sq:=Z (show fA W6.drew C' Vb.heap.size p c (gR p c s key) t' u from ON.o.later (aA _ W6 1));have Sr:=Z (show Below Vb.heap.size Vb W6.drew from jk.o.trans (aA _ W6 1));have Ra:=Z (show W2.heap.size<=W6.drew.heap.size from bS HZ6.o (aA (W6.heap.size) W6 1).size);have p0:Xf W6.drew (I pb 0)=O (H ga p.ap.length gc):=(HP.o.1.aG (aC.ai (S:=[]) (jk.o.trans (aA _ W6 1))) az).cell 0;have q0:Xf W6.drew (I (pb+1) 0)=O (Y c.size):=(HP.o.2.aG (aC.ai (S:=[]) (jk.o.trans (aA _ W6 1))) az).cell 0;have q1:Xf W6.drew (I (pb+1) 1)=O (H za c.aF.length zc):=(HP.o.2.aG (aC.ai (S:=[]) (jk.o.trans (aA _ W6 1))) az).cell 1;have d1:Xf W6.drew (I W.heap.size 1)=O (.int .u64 key):=HDB.o.cell 1;have s0:Xf W6.drew (I W2.heap.size 0)=O (H xq (cH p s).aF.length yq):=HSB.o.cell 0;have s1:Xf W6.drew (I W2.heap.size 1)=O (H xv (cH p s).vars.length yv):=HSB.o.cell 1;have w3:Xf W6.drew (I W4.heap.size 3)=O (Y t.gK):=HWB.o.cell 3;clear ON jk HDB HSB HWB HZ6;refine Mk.bq (S:=λwx=>Xf wx (I pb 0)=O (H ga p.ap.length gc)/\Xf wx (I (pb+1) 0)=O (Y c.size)/\Xf wx (I (pb+1) 1)=O (H za c.aF.length zc)/\Xf wx (I W.heap.size 1)=O (.int .u64 key)/\Xf wx (I W2.heap.size 0)=O (H xq (cH p s).aF.length yq)/\Xf wx (I W2.heap.size 1)=O (H xv (cH p s).vars.length yv)/\Xf wx (I W4.heap.size 3)=O (Y t.gK)) bj ⟨p0,q0,q1,d1,s0,s1,w3⟩ (λau=>?_);generalize W6.drew=V9 at*;have T4:∀V:ek,(Instr.field 74 (.agg #[Y t'.db,Y t'.bm,Y t'.fZ,Y t'.gK]) 3).run prog V= .ok (Y t'.gK) V:=λV=>by rfl
   have x1:(t'.gK !=t.gK)=(rx !=0):=Bd;clear Bd;generalize q_:(rx !=0)=bb at*;have wM:=Z (show Calls prog 20 #[Oi mb] V9 (ku V9 (cH p (gR p c s key)))from by rw[<-D8.o];exact sO Sq.o);have wF:=Z (λW9 (X:Below V9.heap.size V9 W9)=>show Calls prog 29 #[Oi mb] W9 (λe w'=>e=Xc (vD t')/\Below W9.heap.size W9 w')from by rw[<-D8.o];exact yB (Sq.o.later X));refine Mk.cD 0 ?_;refine Mk.cD 1 ?_;refine Mk.cD 3 ?_;refine Mk.cD 4 ?_;refine Mk.cD 5 ?_;refine Mk.cD 6 ?_;refine Mk.cD 7 ?_;refine Mk.cD 8 ?_;refine Mk.oH (rs:=[2]) (bX rfl (λK9 hK=>?_) cz);refine fL ?_;go_simp;refine(wM.o).mono ?_;rintro e W7 ⟨qv7,uv7,lw7,tw7,rfl,Hx,hs7⟩;have mZ:=Z Hx;have HS7:=Z hs7;clear Hx hs7;clear au;refine hK.out _ _ ⟨(aR (mZ.o.block _ (ay p0))).trans p0,(aR (mZ.o.block _ (ay q0))).trans q0,(aR (mZ.o.block _ (ay q1))).trans q1,(aR (mZ.o.block _ (ay d1))).trans d1,(aR (mZ.o.block _ (ay s0))).trans s0,(aR (mZ.o.block _ (ay s1))).trans s1,(aR (mZ.o.block _ (ay w3))).trans w3⟩ (λau=>?_);clear hK K9;refine Mk.pt ?_;refine Mk.oH (rs:=[9]) (bX rfl (λK9 hK=>?_) cz);refine fL ?_;go_simp;refine(LM (told:=[]) (HA.o.later (Sr.o.trans (mZ.o.mono Sr.o.size))) YW.o Sq.o (Hn.o.off (aC.ai (S:=[]) mZ.o) (kD.nil _ _ _ _)) HS7.o (bS Ra.o mZ.o.size) (aL _) Jn.o (.inl ⟨rfl,rfl⟩) (λk hk=>by simp at hk) KK.o).mono ?_;rintro e W8 ⟨rfl,wm⟩;have nH:=Z (mZ.o.trans (wm.mono mZ.o.size));clear wm;clear au;refine hK.out _ _ ⟨(aR (nH.o.block _ (ay p0))).trans p0,(aR (nH.o.block _ (ay q0))).trans q0,(aR (nH.o.block _ (ay q1))).trans q1,(aR (nH.o.block _ (ay d1))).trans d1,(aR (nH.o.block _ (ay s0))).trans s0,(aR (nH.o.block _ (ay s1))).trans s1,(aR (nH.o.block _ (ay w3))).trans w3⟩ (λau=>?_);clear hK K9;refine Mk.pt ?_;refine Mk.cD 10 ?_;refine Mk.cD 11 ?_;refine Mk.cD 12 ?_;refine Mk.cD 15 ?_;refine Mk.cD 16 ?_;refine Mk.cD 18 ?_;refine Mk.cD 19 ?_;refine Mk.oH (rs:=[13]) (bX rfl (λK9 hK=>?_) cz);refine fL ?_;go_simp;refine(wF.o _ nH.o).mono ?_;rintro e W9 ⟨rfl,sV⟩;have qN:=Z (nH.o.trans (sV.mono nH.o.size));clear sV;unfold vD;clear au;refine hK.out _ _ ⟨(aR (qN.o.block _ (ay p0))).trans p0,(aR (qN.o.block _ (ay q0))).trans q0,(aR (qN.o.block _ (ay q1))).trans q1,(aR (qN.o.block _ (ay d1))).trans d1,(aR (qN.o.block _ (ay s0))).trans s0,(aR (qN.o.block _ (ay s1))).trans s1,(aR (qN.o.block _ (ay w3))).trans w3⟩ (λau=>?_);clear hK K9;refine Mk.pt ?_;refine Mk.cD 14 ?_;refine Mk.cD 17 ?_;refine Mk.cD 20 ?_;refine Mk.cD 21 ?_;refine eT bj ⟨rfl,?_⟩ _;clear au p0 q0 q1 d1 s0 s1 w3 x1 q_ T4;go_wp2_with fail;have ON:=Z (Sq.o.later qN.o);have jk:=Z (Sr.o.trans (qN.o.mono Sr.o.size));have HH6:=Z (show 0<=t'.db/\t'.db<=(i:Int)+1 from by rw[Of.o];exact⟨OK.o.1,by have:=OK.o.2.1;omega⟩);clear Sq Sr wM wF mZ HS7 nH qN Hn Ra KK;generalize gR p c s key=s' at*;have p0:Xf W9.drew (I pb 0)=O (H ga p.ap.length gc):=(HP.o.1.aG (aC.ai (S:=[]) (jk.o.trans (aA _ W9 1))) az).cell 0;have q0:Xf W9.drew (I (pb+1) 0)=O (Y c.size):=(HP.o.2.aG (aC.ai (S:=[]) (jk.o.trans (aA _ W9 1))) az).cell 0;have q1:Xf W9.drew (I (pb+1) 1)=O (H za c.aF.length zc):=(HP.o.2.aG (aC.ai (S:=[]) (jk.o.trans (aA _ W9 1))) az).cell 1;have WA:=Z (show fA W9.drew C' Vb.heap.size p c s' t' u from ON.o.later (aA _ W9 1));have mZ:=Z (show Below Vb.heap.size Vb W9.drew from jk.o.trans (aA _ W9 1));clear ON jk;refine Mk.bq (S:=λwx=>Xf wx (I pb 0)=O (H ga p.ap.length gc)/\Xf wx (I (pb+1) 0)=O (Y c.size)/\Xf wx (I (pb+1) 1)=O (H za c.aF.length zc)) bj ⟨p0,q0,q1⟩ (λau=>?_);generalize W9.drew=V0 at*;have YX:=Z (show Calls prog 19 #[Oi mb] V0 (vt V0 p s' (dE (aB p c)))from by rw[<-D8.o];exact JM WA.o);have wM:=Z (λW9 (X:Below V0.heap.size V0 W9)=>show Calls prog 20 #[Oi mb] W9 (ku W9 (cH p s'))from by rw[<-D8.o];exact sO (WA.o.later X));refine Mk.cD 0 ?_;refine Mk.cD 2 ?_;refine Mk.cD 4 ?_;refine Mk.cD 5 ?_;refine Mk.cD 6 ?_;refine Mk.oH (rs:=[1]) (bX rfl (λK9 hK=>?_) cz);refine fL ?_;go_simp;refine(YX.o).mono ?_;rintro e W7 ⟨L,la,lb,lc,ld,h1,h2,lw7,Hw,rfl,Hx,hl7⟩;have nH:=Z Hx;have HL8:=Z (And.intro Hw hl7);clear Hx Hw hl7;clear au;refine hK.out _ _ ⟨(aR (nH.o.block _ (ay p0))).trans p0,(aR (nH.o.block _ (ay q0))).trans q0,(aR (nH.o.block _ (ay q1))).trans q1⟩ (λau=>?_);clear hK K9;refine Mk.pt ?_;refine Mk.oH (rs:=[3]) (bX rfl (λK9 hK=>?_) cz);refine fL ?_;go_simp;refine(wM.o _ nH.o).mono ?_;rintro e W8 ⟨qv8,uv8,lw8,tw8,rfl,wm,hs8⟩;have qN:=Z (nH.o.trans (wm.mono nH.o.size));have HL9:=Z (HL8.o.2.off (aC.ai (S:=[]) wm) (kD.nil _ _ _ _));have HZ9:=Z wm.size;have HS9:=Z hs8;clear wm hs8;clear au;refine hK.out _ _ ⟨(aR (qN.o.block _ (ay p0))).trans p0,(aR (qN.o.block _ (ay q0))).trans q0,(aR (qN.o.block _ (ay q1))).trans q1⟩ (λau=>?_);clear hK K9;refine Mk.pt ?_;refine Mk.oH (rs:=[7]) (bX rfl (λK9 hK=>?_) cz);refine fL ?_;go_simp;refine(Si (HA.o.later (mZ.o.trans (qN.o.mono mZ.o.size))) (WA.o.later qN.o) HL8.o.1 HL9.o HS9.o HZ9.o (aL _)).mono ?_;rintro e W9 ⟨rfl,sV⟩;have r_:=Z (qN.o.trans (sV.mono qN.o.size));clear sV;clear au;refine hK.out _ _ ⟨(aR (r_.o.block _ (ay p0))).trans p0,(aR (r_.o.block _ (ay q0))).trans q0,(aR (r_.o.block _ (ay q1))).trans q1⟩ (λau=>?_);clear hK K9;refine Mk.pt ?_;refine Mk.cD 8 ?_;refine eT bj ⟨rfl,?_⟩ _;clear au p0 q0 q1;go_wp2;refine⟨_,i+1,G_.of _ rfl,rfl,rfl,rfl,rfl,?_,G,by have:=HNm.o;omega,Z ⟨mZ.o.trans (r_.o.mono mZ.o.size),C',s',t',u,D8.o,WA.o.later r_.o,HH6.o.1,by have:=HH6.o.2;omega⟩⟩
   first|rfl|exact bo (Value.int .i64) (show(i:Int)+1=((i+1:Nat):Int)by omega)
  ·have k2:(kind==1)=false:=by simpa using k1
   obtain⟨d0,d1⟩:=YU.o.c2;have p0:Xf W4 (I pb 0)=O (H ga p.ap.length gc):=(HP.o.1.aG (aC.ai (S:=[]) iw.o) az).cell 0;have p1:Xf W4 (I pb 1)=O (H va n1 vc):=(HP.o.1.aG (aC.ai (S:=[]) iw.o) az).cell 1;have p2:Xf W4 (I pb 2)=O (H ta n2 tc):=(HP.o.1.aG (aC.ai (S:=[]) iw.o) az).cell 2;have p3:Xf W4 (I pb 3)=O (H oa n3 oc):=(HP.o.1.aG (aC.ai (S:=[]) iw.o) az).cell 3;have p4:Xf W4 (I pb 4)=O (Y ms):=(HP.o.1.aG (aC.ai (S:=[]) iw.o) az).cell 4;have p5:Xf W4 (I pb 5)=O (H ca n4 cc):=(HP.o.1.aG (aC.ai (S:=[]) iw.o) az).cell 5;have q0:Xf W4 (I (pb+1) 0)=O (Y c.size):=(HP.o.2.aG (aC.ai (S:=[]) iw.o) az).cell 0;have q1:Xf W4 (I (pb+1) 1)=O (H za c.aF.length zc):=(HP.o.2.aG (aC.ai (S:=[]) iw.o) az).cell 1;obtain⟨s0,s1⟩:=N0.o.c2;have HAC:=Z (λW5 (X:Below W4.heap.size W4 W5)=>afm (w0:=Vb) (w:=W5) (lo:=Vb.heap.size) (qa:=xq) (qc:=yq) (ua:=xv) (uc:=yv) (qn:=(cH p s).aF.length) (un:=(cH p s).vars.length) (va:=va) (ta:=ta) (oa:=oa) (ca:=ca) (vc:=vc) (tc:=tc) (oc:=oc) (cc:=cc) (n1:=n1) (n2:=n2) (n3:=n3) (n4:=n4) (ms:=ms) HA.o (iw.o.trans (X.mono iw.o.size)) (aL _) (YW.o.later X) (bS iw.o.size X.size) (Wz.o.off (aC.ai (S:=[]) X) (kD.nil _ _ _ _)) (λb lJ=> .inl (by have:=(sI.o b lJ).2;have:=px.o;omega)) (by have:=X.size;omega) Jn.o OK.o.1 (by have:=OK.o;omega) rY.o);unfold vD at HAC;generalize(cH p s).aF.length=nq at*;generalize(cH p s).vars.length=nv at*;clear k1;go_wp2_with fail;refine(HAC.o _ ((aZ _ W4).alloc (aL _) _)).mono ?_;rintro e W6 ⟨rfl,b6,C',t',u',m6,v6,h6a,h6b⟩;have D8:=Z m6;have ON:=Z v6;have jk:=Z (show Below Vb.heap.size Vb W6 from iw.o.trans (((aZ _ W4).alloc (aL _) _).mono iw.o.size |>.trans b6));have HH6:=Z (show 0<=t'.db/\t'.db<=(i:Int)+1 from⟨h6a,by have:=OK.o.2.1;omega⟩);clear b6 m6 v6 h6a h6b HAC d0 d1 p0 p1 p2 p3 p4 p5 q0 q1 s0 s1 Wz YW iw Wy Sp YU N0;generalize fD p c s key=s' at*;go_wp2_with fail;have p0:Xf W6.drew (I pb 0)=O (H ga p.ap.length gc):=(HP.o.1.aG (aC.ai (S:=[]) (jk.o.trans (aA _ W6 1))) az).cell 0;have q0:Xf W6.drew (I (pb+1) 0)=O (Y c.size):=(HP.o.2.aG (aC.ai (S:=[]) (jk.o.trans (aA _ W6 1))) az).cell 0;have q1:Xf W6.drew (I (pb+1) 1)=O (H za c.aF.length zc):=(HP.o.2.aG (aC.ai (S:=[]) (jk.o.trans (aA _ W6 1))) az).cell 1;have WA:=Z (show fA W6.drew C' Vb.heap.size p c s' t' u' from ON.o.later (aA _ W6 1));have mZ:=Z (show Below Vb.heap.size Vb W6.drew from jk.o.trans (aA _ W6 1));clear ON jk;refine Mk.bq (S:=λwx=>Xf wx (I pb 0)=O (H ga p.ap.length gc)/\Xf wx (I (pb+1) 0)=O (Y c.size)/\Xf wx (I (pb+1) 1)=O (H za c.aF.length zc)) bj ⟨p0,q0,q1⟩ (λau=>?_);generalize W6.drew=V0 at*;have YX:=Z (show Calls prog 19 #[Oi mb] V0 (vt V0 p s' (dE (aB p c)))from by rw[<-D8.o];exact JM WA.o);have wM:=Z (λW9 (X:Below V0.heap.size V0 W9)=>show Calls prog 20 #[Oi mb] W9 (ku W9 (cH p s'))from by rw[<-D8.o];exact sO (WA.o.later X));refine Mk.cD 0 ?_;refine Mk.cD 2 ?_;refine Mk.cD 4 ?_;refine Mk.cD 5 ?_;refine Mk.cD 6 ?_;refine Mk.oH (rs:=[1]) (bX rfl (λK9 hK=>?_) cz);refine fL ?_;go_simp;refine(YX.o).mono ?_;rintro e W7 ⟨L,la,lb,lc,ld,h1,h2,lw7,Hw,rfl,Hx,hl7⟩;have nH:=Z Hx;have HL8:=Z (And.intro Hw hl7);clear Hx Hw hl7;clear au;refine hK.out _ _ ⟨(aR (nH.o.block _ (ay p0))).trans p0,(aR (nH.o.block _ (ay q0))).trans q0,(aR (nH.o.block _ (ay q1))).trans q1⟩ (λau=>?_);clear hK K9;refine Mk.pt ?_;refine Mk.oH (rs:=[3]) (bX rfl (λK9 hK=>?_) cz);refine fL ?_;go_simp;refine(wM.o _ nH.o).mono ?_;rintro e W8 ⟨qv8,uv8,lw8,tw8,rfl,wm,hs8⟩;have qN:=Z (nH.o.trans (wm.mono nH.o.size));have HL9:=Z (HL8.o.2.off (aC.ai (S:=[]) wm) (kD.nil _ _ _ _));have HZ9:=Z wm.size;have HS9:=Z hs8;clear wm hs8;clear au;refine hK.out _ _ ⟨(aR (qN.o.block _ (ay p0))).trans p0,(aR (qN.o.block _ (ay q0))).trans q0,(aR (qN.o.block _ (ay q1))).trans q1⟩ (λau=>?_);clear hK K9;refine Mk.pt ?_;refine Mk.oH (rs:=[7]) (bX rfl (λK9 hK=>?_) cz);refine fL ?_;go_simp;refine(Si (HA.o.later (mZ.o.trans (qN.o.mono mZ.o.size))) (WA.o.later qN.o) HL8.o.1 HL9.o HS9.o HZ9.o (aL _)).mono ?_;rintro e W9 ⟨rfl,sV⟩;have r_:=Z (qN.o.trans (sV.mono qN.o.size));clear sV;clear au;refine hK.out _ _ ⟨(aR (r_.o.block _ (ay p0))).trans p0,(aR (r_.o.block _ (ay q0))).trans q0,(aR (r_.o.block _ (ay q1))).trans q1⟩ (λau=>?_);clear hK K9;refine Mk.pt ?_;refine Mk.cD 8 ?_;refine eT bj ⟨rfl,?_⟩ _;clear au p0 q0 q1;go_wp2;refine⟨_,i+1,G_.of _ rfl,rfl,rfl,rfl,rfl,?_,G,by have:=HNm.o;omega,Z ⟨mZ.o.trans (r_.o.mono mZ.o.size),C',s',t',u',D8.o,WA.o.later r_.o,HH6.o.1,by have:=HH6.o.2;omega⟩⟩
   first|rfl|exact bo (Value.int .i64) (show(i:Int)+1=((i+1:Nat):Int)by omega)
 ·have h9:i=min sn 300:=G;have Nz:=Z HW.o.1;clear HW hm;by_cases e1:i<sn
  ·have e2:¬i<300:=G;exact Rb
  ·exact Rb
end
end Go.Ma
namespace Go.Rv
open Go.RowKit al.Vm
open al hiding aS aw an
def Cz(t:Nat):UInt8:=if t=1 then 110 else if t=2 then 98 else 63
def f_(ty:List Nat):ByteArray:=⟨(ty.reverse.map Cz).toArray⟩
def oB(ty:List Nat):(f_ ty).size=ty.length:=by simp[f_,ByteArray.size]
def afh(ty:List Nat)(k:Nat):(f_ ty).extract 0 (ty.length-k)=f_ (ty.drop k):=by apply ByteArray.ext;simp only[f_,ByteArray.data_extract,List.extract_toArray,List.extract_eq_take_drop,List.drop_zero,Nat.sub_zero];congr 1;rw[List.reverse_drop,List.map_take]
def aca(ty:List Nat){k:Nat}(h:k<=ty.length):(f_ ty).extract (ty.length-k) ty.length=f_ (ty.take k):=by apply ByteArray.ext;simp only[f_,ByteArray.data_extract,List.extract_toArray,List.extract_eq_take_drop];congr 1;rw[List.reverse_take,List.map_drop];exact List.take_of_length_le az
def afg(a b:List Nat):f_ a++f_ b=f_ (b++a):=by apply ByteArray.ext;simp[f_,ByteArray.data_append]
def LO{a b:Nat}(ha:a=1\/a=2)(X:b=1\/b=2):Cz a=Cz b↔a=b:=by rcases ha with rfl|rfl<;>rcases X with rfl|rfl<;>decide
def aff{a b:List Nat}(ha:fy a)(X:fy b)(h:f_ a=f_ b):a=b:=by
 have e:a.reverse.map Cz=b.reverse.map Cz:=by have:=bo ByteArray.data h;simpa[f_]using this
 have key:∀(l m:List Nat),fy l->fy m->l.map Cz=m.map Cz->l=m:=by
  intro l
  induction l with
  |nil=>intro m _ _ h;cases m with
   |nil=>rfl
   |cons _ _=>simp at h
  |cons x l ih=>
   intro m hl hm h;cases m with
   |nil=>simp at h
   |cons y m=>simp only[List.map_cons,List.cons.injEq]at h;rw[(LO (hl x az) (hm y az)).1 h.1,ih m (λt ht=>hl t (by simp[ht])) (λt ht=>hm t (by simp[ht])) h.2]
 have:=key a.reverse b.reverse (λt ht=>ha t (by simpa using ht)) (λt ht=>X t (by simpa using ht)) e;exact List.reverse_inj.1 this
def JT{a b:List Nat}(ha:fy a)(X:fy b):((f_ a).toList=(f_ b).toList)=(a=b):=propext ⟨λh=>aff ha X (by
 rw[ByteArray.toList_eq,ByteArray.toList_eq]at h;exact ByteArray.ext (Array.toList_inj.1 h)),λh=>by rw[h]⟩
def DB(w:ek){op:Int}(h0:0<=op)(h1:op<42):Calls prog 317 #[Y op] w (λe w'=>e=Xc (.string (f_ (cm op.toNat)))/\w'=w):=by
 obtain⟨n,rfl⟩:=eS h0;have e:n=0\/n=1\/n=2\/n=3\/n=4\/n=5\/n=6\/n=7\/n=8\/n=9\/n=10\/n=11\/n=12\/n=13\/n=14\/n=15\/n=16\/n=17\/n=18\/n=19\/n=20\/n=21\/n=22\/n=23\/n=24\/n=25\/n=26\/n=27\/n=28\/n=29\/n=30\/n=31\/n=32\/n=33\/n=34\/n=35\/n=36\/n=37\/n=38\/n=39\/n=40\/n=41:=G;clear h0 h1;rcases e with rfl|rfl|rfl|rfl|rfl|rfl|rfl|rfl|rfl|rfl|rfl|rfl|rfl|rfl|rfl|rfl|rfl|rfl|rfl|rfl|rfl|rfl|rfl|rfl|rfl|rfl|rfl|rfl|rfl|rfl|rfl|rfl|rfl|rfl|rfl|rfl|rfl|rfl|rfl|rfl|rfl|rfl
 all_goals
  go_enter func317,ntmps317;go_wp2;exact G7
def fB(op:Nat):List Nat:=if cP op=0 then[]else[cP op]
def vg(w:ek){op:Int}(h0:0<=op)(h1:op<42):Calls prog 318 #[Y op] w (λe w'=>e=Xc (.string (f_ (fB op.toNat)))/\w'=w):=by
 obtain⟨n,rfl⟩:=eS h0;have e:n=0\/n=1\/n=2\/n=3\/n=4\/n=5\/n=6\/n=7\/n=8\/n=9\/n=10\/n=11\/n=12\/n=13\/n=14\/n=15\/n=16\/n=17\/n=18\/n=19\/n=20\/n=21\/n=22\/n=23\/n=24\/n=25\/n=26\/n=27\/n=28\/n=29\/n=30\/n=31\/n=32\/n=33\/n=34\/n=35\/n=36\/n=37\/n=38\/n=39\/n=40\/n=41:=G;clear h0 h1;rcases e with rfl|rfl|rfl|rfl|rfl|rfl|rfl|rfl|rfl|rfl|rfl|rfl|rfl|rfl|rfl|rfl|rfl|rfl|rfl|rfl|rfl|rfl|rfl|rfl|rfl|rfl|rfl|rfl|rfl|rfl|rfl|rfl|rfl|rfl|rfl|rfl|rfl|rfl|rfl|rfl|rfl|rfl
 all_goals
  go_enter func318,ntmps318;go_wp2;exact G7
def KR(w:ek)(a b:Nat)(ha:a<=MS)(X:b<=MS):Calls prog 233 #[Y a,Y b] w λe w'=>e=Xc (Y (bM a b))/\w'=w:=by
 unfold MS at ha X;have w1:IntKind.i64.wrap (4611686018427387904 - (b:Int))=4611686018427387904 - (b:Int):=bJ _ kS;by_cases h:4611686018427387904-b<a
 ·have e:bM a b=4611686018427387904:=by unfold bM MS;rw[aE h]
  have h2:((4611686018427387904:Int) - b<a)=True:=by simp;omega
  rw[e];clear e h;go_enter func233,ntmps233;go_wp2;exact G7
 ·have e:bM a b=a+b:=by unfold bM MS;rw[ax h]
  have h2:((4611686018427387904:Int) - b<a)=False:=by simp;omega
  have w2:IntKind.i64.wrap ((a:Int)+(b:Int))=((a+b:Nat):Int):=by rw[bJ _ kS];omega
  rw[e];clear e h;go_enter func233,ntmps233;go_wp2;go_ret;exact⟨az,rfl⟩
def ab9{a b:Nat}(ha:0<a):MS / a<b↔¬a*b<=MS:=by rw[Nat.div_lt_iff_lt_mul ha,Nat.not_le,Nat.mul_comm]
def N8{p:Prop}(h:p:=by
 go_enter func234,ntmps234;go_wp2;go_ret;exact⟨az,rfl⟩):p:=h
def aez(w:ek)(a b:Nat)(ha:a<=MS)(X:b<=MS):Calls prog 234 #[Y a,Y b] w λe w'=>e=Xc (Y (eX a b))/\w'=w:=by
 by_cases h0:a=0
 ·subst h0;have e:eX 0 b=0:=by unfold eX;rw[Nat.zero_mul];rfl
  have w2:IntKind.i64.wrap ((0:Int)*(b:Int))=0:=by rw[Int.zero_mul];rfl
  unfold MS at X;rw[e];clear e ha;exact N8
 ·have Dx:0<a:=G;have ht:=ab9 (a:=a) (b:=b) Dx;have hp2:(0:Int)<a:=G;have hd:(4611686018427387904:Int) / (a:Int)=((4611686018427387904 / a:Nat):Int):=by simp
  have hle:4611686018427387904 / a<=4611686018427387904:=Nat.div_le_self _ _;unfold MS at ha X ht;generalize 4611686018427387904 / a=q at*;by_cases h:a*b<=4611686018427387904
  ·have e:eX a b=a*b:=by unfold eX MS;rw[aE h]
   have h2:¬q<b:=λh'=>ht.1 h' h;have w2:IntKind.i64.wrap ((a:Int)*(b:Int))=((a*b:Nat):Int):=by rw[<-Int.natCast_mul,bJ _ kS]
   rw[e];have h3:(q<b)=False:=by simpa using h2
   generalize a*b=x at*;clear e ht h h2;exact N8
  ·have e:eX a b=4611686018427387904:=by unfold eX MS;rw[ax h]
   have h2:q<b:=ht.2 h;have h3:(q<b)=True:=by simpa using h2
   rw[e];clear e ht h h2;exact N8
open Ma (dW cy bd vb aK a_)
open Vf (Kp gM pV tC bT aY)
def JV(K:Kp)(p:aU)(jN mF lQ:to):Array to:=#[K.g,K.v,K.t,K.o,Y p.aV,K.c,jN,mF,lQ]
section
variable {w:ek}{K:Kp}{p:aU}{jN mF lQ:to}{lb:Nat}{x:Ins}{ha:Nat}
def Q7{p:Prop}(h:p:=by
 rcases hh with rfl|rfl|rfl|rfl
 all_goals
  go_enter func291,ntmps291;go_wp2;go_ret2;exact⟨by simp[fe],HB.o _ _⟩):p:=h
def DK{p:Prop}(h:p:=by
 go_enter func291,ntmps291;go_wp2;go_quiet (fail);go_wp2;go_quiet (fail);go_wp2;go_ret2;exact⟨by rw[H16.o];rfl,by first|exact HC.o _ _ _|exact(HC.o _ _ _).trans (aA _ _ _)⟩):p:=h
def abf(h:gM w K p)(hl:aH w lb 260 (JV K p jN mF lQ))(hq:x.op=35\/x.op=34->tC p x.a)(h3:ha<=3):
 Calls prog 291 #[Oi lb,a_ x,Y ha] w (λe w'=>e=Xc (.tuple #[.bool (fe p x ha).1,Y (fe p x ha).2])/\Below w.heap.size w w'):=by
 obtain⟨op,xa,xb,xc,xd⟩:=x;unfold a_ aK;dsimp only at hq ⊢;have hB:=rH w;have hC:∀cs T k,Below w.heap.size w ((w.alloc (Xe cs T)).drewN k):=λcs T k=>(hB cs T).trans (aA _ _ k);have ll:=hl.lt;have v0:=hl.c1;have hh:ha=0\/ha=1\/ha=2\/ha=3:=G;have HB:=Z hB;have HC:=Z hC;clear hB hC h3 hl;by_cases o1:op=36
 ·subst o1;clear hq v0 ll;exact Q7
 by_cases o2:op=37
 ·subst o2;clear hq v0 ll;exact Q7
 by_cases o3:op=35\/op=34
 ·obtain⟨m,gb,off,cap,rfl,hm,hk,zm,gc⟩:=bT h (hq o3);rw[hk]at v0;clear hk h hq;generalize hg:bw p m=g at*;have HG:=Z hg;clear hg;rcases o3 with rfl|rfl
  ·have e35:((35:Int)==34)=false:=rfl;cases g
   all_goals
    rcases hh with rfl|rfl|rfl|rfl
    all_goals
     go_enter func291,ntmps291;go_wp2;go_quiet (fail);go_wp2;go_ret2;exact⟨by simp[fe,HG.o],HC.o _ _ _⟩
  ·have e35:((34:Int)==35)=false:=rfl;cases g
   all_goals
    rcases hh with rfl|rfl|rfl|rfl
    all_goals
     go_enter func291,ntmps291;go_wp2;go_quiet (fail);go_wp2;go_quiet (fail);go_wp2;go_ret2;exact⟨by simp[fe,HG.o],by first|exact HC.o _ _ _|exact(HC.o _ _ _).trans (aA _ _ _)⟩
 clear h hq v0 ll;have e36:(op==36)=false:=by simpa using o1
 have e37:(op==37)=false:=by simpa using o2
 have e35:(op==35)=false:=by simp;exact λh=>o3 (.inl h)
 have e34:(op==34)=false:=by simp;exact λh=>o3 (.inr h)
 have AT:∀n:Int,fe p ⟨op,xa,xb,xc,xd⟩ n=if(1<=op/\op<=21)\/op=28\/op=29\/op=30 then(true,n)else(decide (n=0),0):=by intro n;unfold fe;dsimp only;rw[ax o1,ax o2,ax (λh=>o3 (.inl h)),ax (λh=>o3 (.inr h))]
 clear o1 o2 o3;by_cases r:(1<=op/\op<=21)\/op=28\/op=29\/op=30
 ·simp only[aE r]at AT;have H16:=Z AT;clear AT hh;rcases r with⟨r1,r2⟩|rfl|rfl|rfl
  all_goals
   exact DK
 ·simp only[ax r]at AT;have H16:=Z AT;simp only[not_or]at r;obtain⟨r1,r2,r3,r4⟩:=r;have r5:op<1\/21<op:=G;have e28:(op==28)=false:=by simpa using r2
  have e29:(op==29)=false:=by simpa using r3
  have e30:(op==30)=false:=by simpa using r4
  clear AT r1 r2 r3 r4;rcases hh with rfl|rfl|rfl|rfl
  all_goals
   rcases r5 with r5|r5
   all_goals
    exact DK
variable {vb:Nat}
def JQ{p:Prop}(h:p:=by
 go_enter func293,ntmps293;go_wp2;go_ret;exact⟨rfl,hB _ _⟩):p:=h
def V_{p:Prop}(h:p:=by
 obtain⟨m,gb,off,cap,rfl,hm,hk,zm,gc⟩:=bT h hq;have v0:=hv.c1;rw[hk]at v0;rw[hf];clear hf hk h hv hq og;generalize bw p m=g1 at*;cases g1
 all_goals
  exact JQ):p:=h
def afe(h:gM w K p)(hv:aH w vb 260 (JV K p jN mF lQ))(hq:x.op=32\/x.op=40\/x.op=41\/x.op=38\/x.op=39->tC p x.a)(og:x.op=38\/x.op=39->tC p x.c):Calls prog 293 #[Oi vb,a_ x] w (λe w'=>e=Xc (.bool (cK p x))/\Below w.heap.size w w'):=by
 obtain⟨op,xa,xb,xc,xd⟩:=x;unfold a_ aK;dsimp only;have hB:=rH w;have hC:∀cs T k,Below w.heap.size w ((w.alloc (Xe cs T)).drewN k):=λcs T k=>(hB cs T).trans (aA _ _ k);have lv:=hv.lt;dsimp only at hq og;by_cases o1:op=32
 ·subst o1;have hf:∀n:Int,cK p ⟨32,n,xb,xc,xd⟩= !bw p n:=λn=>by simp[cK]
  replace hq:=hq az;exact V_
 by_cases o2:op=40
 ·subst o2;have hf:∀n:Int,cK p ⟨40,n,xb,xc,xd⟩= !bw p n:=λn=>by simp[cK]
  replace hq:=hq az;exact V_
 by_cases o3:op=41
 ·subst o3;have hf:∀n:Int,cK p ⟨41,n,xb,xc,xd⟩=bw p n:=λn=>by simp[cK]
  replace hq:=hq az;exact V_
 by_cases o4:op=38
 ·subst o4;have hf:∀n n2:Int,cK p ⟨38,n,xb,n2,xd⟩=(bw p n==bw p n2):=λn n2=>by simp[cK]
  replace hq:=hq az;replace og:=og az;obtain⟨m,gb,off,cap,rfl,hm,hk,zm,gc⟩:=bT h hq;obtain⟨m2,gb2,Jp,DN,rfl,ul,mL,K7,gc2⟩:=bT h og;have v0:=hv.c1;rw[hk]at v0 mL;simp only[cL,iI,Addr.mk.injEq]at mL;obtain⟨⟨rfl,rfl,-⟩,-,rfl⟩:=mL;rw[hf];clear hf hk h hv hq og;generalize bw p m=g1 at*;generalize bw p m2=g2 at*;cases g1
  all_goals
   cases g2
   all_goals
    go_enter func293,ntmps293;go_wp2;go_quiet (fail);go_wp2;go_ret;exact⟨rfl,hC _ _ _⟩
 by_cases o5:op=39
 ·subst o5;have hf:∀n n2:Int,cK p ⟨39,n,xb,n2,xd⟩=(!bw p n&&bw p n2):=λn n2=>by simp[cK]
  replace hq:=hq az;replace og:=og az;obtain⟨m,gb,off,cap,rfl,hm,hk,zm,gc⟩:=bT h hq;obtain⟨m2,gb2,Jp,DN,rfl,ul,mL,K7,gc2⟩:=bT h og;have v0:=hv.c1;rw[hk]at v0 mL;simp only[cL,iI,Addr.mk.injEq]at mL;obtain⟨⟨rfl,rfl,-⟩,-,rfl⟩:=mL;rw[hf];clear hf hk h hv hq og;generalize bw p m=g1 at*;generalize bw p m2=g2 at*;cases g1
  all_goals
   cases g2
   all_goals
    exact JQ
 ·have hf:cK p ⟨op,xa,xb,xc,xd⟩=true:=by simp[cK,o1,o2,o3,o4,o5]
  obtain⟨ga,gcp,hk,-,-⟩:=h.g.val;have v0:=hv.c1;rw[hk]at v0;rw[hf];clear hf hk h hv hq og;exact JQ
def Sd{p:Prop}(h:p:=by
 go_enter func319,ntmps319;go_wp2;go_ret;exact⟨rfl,rfl⟩):p:=h
def I_(h:gM w K p)(hv:aH w vb 260 (JV K p jN mF lQ))(n:Int):Calls prog 319 #[Oi vb,Y n] w (λe w'=>e=Xc (.bool (iQ p n))/\w'=w):=by
 have v5:Xf w (I vb 5)=O K.c:=hv.cell 5;have lv:=hv.lt;obtain⟨ca,cc,kc,q1,q2⟩:=aY.val h.cd;rw[kc]at v5;by_cases h0:0<=n
 ·obtain⟨m,rfl⟩:=eS h0;by_cases h1:m<p.code.length
  ·obtain⟨b,off,cap,e,q3,q4,c0,-⟩:=h.ins h1;rw[kc]at e;simp only[cL]at e;obtain⟨rfl,-,rfl⟩:=e;have ht:iQ p m=decide ((ak p m).op=25):=by unfold iQ;simp[h1]
   rw[ht];have lb:=ay c0;generalize(ak p m).op=op at*;clear ht kc hv h;by_cases o:op=25
   ·subst o;exact Sd
   ·have hd:decide (op=25)=false:=by simpa using o
    rw[hd];go_enter func319,ntmps319;go_wp2;go_ret;exact⟨by simp[o],rfl⟩
  ·have ht:iQ p m=false:=by unfold iQ;simp[h1]
   rw[ht];clear ht kc hv h;exact Sd
 ·have ht:iQ p n=false:=by unfold iQ;simp[h0]
  rw[ht];clear ht kc hv h;exact Sd
def l6{p:Prop}(h:p:=by
 have HF:=Z (show bF p 7 n=false by unfold bF aP kw kz;simp;omega);exact qp):p:=h
def mm{p:Prop}(h:p:=by
 have HF:=Z (show bF p 5 n=false by unfold bF aP kw kz;simp;omega);exact qp):p:=h
def QZ{p:Prop}(h:p:=by
 have HF:=Z (show bF p 8 n=false by unfold bF aP kw kz;simp;omega);exact qp):p:=h
def sy{p:Prop}(h:p:=by
 have HF:=Z (show bF p 3 n=false by unfold bF aP kw kz;simp;omega);exact qp):p:=h
def Ns{p:Prop}(h:p:=by
 have HF:=Z (show bF p 2 n=false by unfold bF aP kw kz;simp;omega);exact qp):p:=h
def Nr{p:Prop}(h:p:=by
 have HF:=Z (show bF p 1 n=false by unfold bF aP kw kz;simp;omega);exact qp):p:=h
def qp{p:Prop}(h:p:=by
 go_enter func290,ntmps290;go_wp2;go_ret;exact⟨by rw[HF.o];rfl,HB.o _ _⟩):p:=h
def JH(h:gM w K p)(kind:Nat)(n:Int)(hk:kind<=8):Calls prog 290 #[pV K p,Y kind,Y n] w (λe w'=>e=Xc (.bool (bF p kind n))/\Below w.heap.size w w'):=by
 obtain⟨⟨ga,gc,g1,g2,g3⟩,⟨va,vc,v1,v2,v3⟩,⟨ta,tc,t1,t2,t3⟩,⟨oa,oc,o1,o2,o3⟩,⟨ca,cc,c1,c2,c3⟩⟩:=h.sl;unfold pV;rw[g1,v1,t1,o1,c1];have hB:=rH w;have HB:=Z hB;clear g1 g2 g3 v1 v2 v3 t1 t2 t3 o1 o2 o3 c1 c2 c3 h hB;have e:kind=0\/(kind=1\/kind=2\/kind=3\/kind=8)\/(kind=4\/kind=6)\/kind=5\/kind=7:=G;clear hk;rcases e with rfl|(rfl|rfl|rfl|rfl)|(rfl|rfl)|rfl|rfl
 ·by_cases h0:n=0
  ·subst h0;have HF:=Z (show bF p 0 0=true by unfold bF aP kw kz;simp);exact qp
  ·have e0:(n==0)=false:=by simpa using h0
   have HF:=Z (show bF p 0 n=false by unfold bF aP kw kz;simp;omega);clear h0;exact qp
 ·by_cases h0:0<=n
  ·by_cases h1:n<p.ap.length
   ·have HF:=Z (show bF p 1 n=true by unfold bF aP kw kz;simp;omega);exact qp
   ·exact Nr
  ·exact Nr
 ·by_cases h0:0<=n
  ·by_cases h1:n<p.vars.length
   ·have HF:=Z (show bF p 2 n=true by unfold bF aP kw kz;simp;omega);exact qp
   ·exact Ns
  ·exact Ns
 ·by_cases h0:0<=n
  ·by_cases h1:n<p.aW.length
   ·have HF:=Z (show bF p 3 n=true by unfold bF aP kw kz;simp;omega);exact qp
   ·exact sy
  ·exact sy
 ·by_cases h0:0<=n
  ·by_cases h1:n<p.code.length
   ·have HF:=Z (show bF p 8 n=true by unfold bF aP kw kz;simp;omega);exact qp
   ·exact QZ
  ·exact QZ
 ·by_cases h0:n=0
  ·subst h0;have HF:=Z (show bF p 4 0=true by unfold bF aP kw kz;simp);exact qp
  ·have e0:(n==0)=false:=by simpa using h0
   by_cases h1:n=1
   ·subst h1;have HF:=Z (show bF p 4 1=true by unfold bF aP kw kz;simp);exact qp
   ·have e1:(n==1)=false:=by simpa using h1
    have HF:=Z (show bF p 4 n=false by unfold bF aP kw kz;simp;omega);clear h0 h1;exact qp
 ·by_cases h0:n=0
  ·subst h0;have HF:=Z (show bF p 6 0=true by unfold bF aP kw kz;simp);exact qp
  ·have e0:(n==0)=false:=by simpa using h0
   by_cases h1:n=1
   ·subst h1;have HF:=Z (show bF p 6 1=true by unfold bF aP kw kz;simp);exact qp
   ·have e1:(n==1)=false:=by simpa using h1
    have HF:=Z (show bF p 6 n=false by unfold bF aP kw kz;simp;omega);clear h0 h1;exact qp
 ·by_cases h0: -1073741824<=n
  ·by_cases h1:n<=1073741824
   ·have HF:=Z (show bF p 5 n=true by unfold bF aP kw kz;simp;omega);exact qp
   ·exact mm
  ·exact mm
 ·by_cases h0:0<=n
  ·by_cases h1:n<=4194304
   ·have HF:=Z (show bF p 7 n=true by unfold bF aP kw kz;simp;omega);exact qp
   ·exact l6
  ·exact l6
def FrV(v:to)(i:Nat)(a:Act):Prop:=∃J:Nat->to,a={tmps:=#[v,J 1,J 2,Y i,J 4,J 5,J 6,J 7,J 8,J 9,J 10,J 11,J 12,J 13,J 14,J 15,J 16,J 17,J 18,J 19,J 20,J 21,J 22,J 23,J 24,J 25,J 26,J 27,J 28,J 29,J 30,J 31,J 32,J 33,J 34,J 35,J 36,J 37,J 38,J 39,J 40,J 41,J 42,J 43,J 44,J 45,J 46,J 47,J 48,J 49],defers:=[]}
def Q8(w:ek)(p:aU)(v:to)(m:Nat)(a:Act)(W:ek):Prop:=∃i,i<=p.vars.length/\m+i=p.vars.length+1/\FrV v i a/\Hid (∃k,W=w.drewN k)/\Hid (∀j,j<i->oT (p.vars.getD j ⟨0,0,0⟩)=true)
def WK{p:Prop}(h:p:=by
 go_wp2;go_quiet (fail);go_wp2;go_ret;exact⟨by rw[HF.o];rfl,⟨_,by rw[wZ]⟩⟩):p:=h
def abp(h:gM w K p)(hl:p.vars.length<=16):Calls prog 286 #[K.v] w (λe w'=>e=Xc (.bool (p.vars.all oT))/\∃k,w'=w.drewN k):=by
 obtain⟨va,vc,v1,-,-⟩:=aY.val h.v;have a0g:=Z h;have HV:=Z v1;rw[v1];clear h v1;go_enter func286,ntmps286;go_wp2;refine Mk.aM (Q8 w p (H va p.vars.length vc)) (p.vars.length+1) ⟨0,ck _,G,rp rfl,Z ⟨0,rfl⟩,Z (λj hj=>absurd hj G)⟩ (λa W hh=>by obtain⟨i,h1,h2,-⟩:=hh;omega) ?_;rintro m a W ⟨i,hi,hm,⟨J,rfl⟩,HW,HA⟩;obtain⟨k0,rfl⟩:=HW.o;have w2:=mr i G;by_cases be:i<p.vars.length
 ·obtain⟨b,off,cap,hv,q1,q2,xO,c0,c1,c2⟩:=a0g.o.vr be;rw[HV.o]at hv;simp only[cL]at hv;obtain⟨rfl,-,rfl⟩:=hv;have dm:=Z be;have bad:∀r,oT (p.vars.getD i ⟨0,0,0⟩)=r->(r=false->p.vars.all oT=false):=λr e hr=>by subst hr;rw[xi];intro gJ;rw[rB]at gJ;have:=gJ (p.vars.getD i ⟨0,0,0⟩) (by rw[dQ,ft be];exact il be);rw[this]at e;cases e
  have Eg:=Z bad;generalize hx:p.vars.getD i ⟨0,0,0⟩=x at*;have HX:=Z hx;have OF:oT x=(decide (x.lo<=x.init)&&decide (x.init<=x.hi)&&decide (-1073741824<=x.lo)&&decide (x.hi<=1073741824)):=rfl;have Bq:=Z OF;clear bad hx OF;by_cases k1:x.lo<=x.init
  case neg=>have HF:=Z (Eg.o false (by rw[Bq.o];simp[k1]) rfl);exact WK
  by_cases k2:x.init<=x.hi
  case neg=>have HF:=Z (Eg.o false (by rw[Bq.o];simp[k2]) rfl);exact WK
  by_cases k3: -1073741824<=x.lo
  case neg=>have HF:=Z (Eg.o false (by rw[Bq.o];simp[k3]) rfl);exact WK
  by_cases k4:x.hi<=1073741824
  case neg=>have HF:=Z (Eg.o false (by rw[Bq.o];simp[k4]) rfl);exact WK
  go_wp2;go_quiet (fail);go_wp2;refine⟨i+1,dm.o,G,rp rfl,Z ⟨_,by first|rfl|rw[wZ]⟩,Z λj hj=>?_⟩;by_cases e:j=i
  ·subst e;rw[HX.o,Bq.o];simp[k1,k2,k3,k4]
  ·exact HA.o j G
 ·obtain rfl:i=p.vars.length:=G;have HF:=Z (show p.vars.all oT=true from by
   rw[rB];intro v hv;obtain⟨j,hj,e⟩:=rZ hv;have:=HA.o j hj;rw[dQ,ft hj]at this;simpa[e]using this)
  clear be;go_wp2;go_ret;exact⟨by rw[HF.o];rfl,⟨_,rfl⟩⟩
def ab0(w:ek)(x:Ins):Calls prog 289 #[a_ x] w (λe w'=>e=Xc (.agg #[Y x.a,Y x.b,Y x.c,Y x.d])/\Below w.heap.size w w'):=by unfold a_ aK;go_enter func289,ntmps289;go_wp2;exact bR (v:= .agg #[Y x.a,Y x.b,Y x.c,Y x.d]) (by simp[results,results289,go_sem]) rfl ⟨rfl,((aZ _ _).alloc (aL _) _).alloc az _⟩
def FW(J:Nat->to):Act:={tmps:=#[J 0,J 1,J 2,J 3,J 4,J 5,J 6,J 7,J 8,J 9,J 10,J 11,J 12,J 13,J 14,J 15,J 16,J 17,J 18,J 19,J 20,J 21,J 22],defers:=[]}
def FW.of(A:Array to)(h:A=(FW λk=>A.getD k undef).tmps):({tmps:=A,defers:=[]}:Act)=FW λk=>A.getD k undef:=by rw[h];rfl
def kC(g:Nat->Int)(i j:Nat):to:=Y (if j<i then g j else 0)
def Eh(nm:ByteArray)(g:Nat->Int)(i:Nat):Array to:=#[.string nm,kC g i 0,kC g i 1,kC g i 2,kC g i 3]
def afc(nm:ByteArray)(g:Nat->Int){i:Nat}(h:i<4):(Eh nm g i).setIfInBounds (1+i) (Y (g i))=Eh nm g (i+1):=by have:i=0\/i=1\/i=2\/i=3:=G;rcases this with rfl|rfl|rfl|rfl<;>simp[Eh,kC]
def aeT(w:ek)(nm:ByteArray)(v:to)(n:Nat)(g:Nat->Int)(m:Nat)(a:Act)(W:ek):Prop:=∃(J:Nat->to) (i:Nat),a=FW J/\J 1=v/\J 4=Oi w.heap.size/\J 5=Oi (w.heap.size+1)/\J 6=Y i/\i<=n/\m+i=n+1/\Hid (Below w.heap.size w W)/\
 Hid (aH W (w.heap.size+1) 306 (Eh nm g i))/\Hid (aH W w.heap.size 306 #[.string ⟨#[]⟩,Y 0,Y 0,Y 0,Y 0])
def G5{w:ek}(nm:ByteArray){v:to}{n:Nat}{g:Nat->Int}(h:aY w 1 v n (λi=> Y (g i)))(hn:n<=4):
 Calls prog 316 #[.string nm,v] w (λe w'=>e=Xc (.agg (Eh nm g n))/\Below w.heap.size w w'):=by
 have HR:=Z h;obtain⟨va,vc,rfl,-,-⟩:=aY.val h;have k0:aH ((w.alloc (Xe #[.string ⟨#[]⟩,Y 0,Y 0,Y 0,Y 0] 306)).alloc (Xe #[.string nm,Y 0,Y 0,Y 0,Y 0] 306)) w.heap.size 306 #[.string ⟨#[]⟩,Y 0,Y 0,Y 0,Y 0]:=(aH.new w _ _).alloc _;have k1:aH ((w.alloc (Xe #[.string ⟨#[]⟩,Y 0,Y 0,Y 0,Y 0] 306)).alloc (Xe #[.string nm,Y 0,Y 0,Y 0,Y 0] 306)) (w.heap.size+1) 306 (Eh nm g 0):=aH.bK az;have K0:=Z k0;have K1:=Z k1;clear h k0 k1;go_enter func316,ntmps316;go_wp2;refine Mk.aM (aeT w nm (H va n vc) n g) (n+1) ⟨_,0,FW.of _ rfl,rfl,rfl,rfl,rfl,ck _,G,Z (((aZ _ _).alloc (aL _) _).alloc az _),K1,K0⟩ (λa W hh=>by obtain⟨J,i,-,-,-,-,-,h1,h2,-⟩:=hh;omega) ?_;rintro m a W ⟨J,i,rfl,j1,j4,j5,j6,hi,hm,HB,HK,HZ⟩;have w2:=mr i G;unfold FW;rw[j1,j4,j5,j6];clear j1 j4 j5 j6 K0 K1;by_cases be:i<n
 ·obtain⟨b,off,cap,hv,-,-,X,hc⟩:=aY.some (HR.o.aG (aC.ai HB.o)) G G;simp only[cL]at hv;obtain⟨rfl,-,rfl⟩:=hv;have c0:Xf W (I b (off+i))=O (Y (g i)):=hc i G;have lb:=ay c0;have ho:∃u,Xf W (I (w.heap.size+1) (1+i))=O u:=by have hz:(Eh nm g i).size=5:=rfl;exact⟨_,(HK.o.cell (1+i)).trans (Ak (show 1+i<(Eh nm g i).size by omega))⟩
  obtain⟨u,hu⟩:=ho;have fz:=HK.o.frozen;have lx:=HK.o.lt;have HS:=Z (HK.o.set (1+i) (Y (g i)));have dm:=Z be;have S_:(i:Int)<4:=G;clear hc;go_wp2;refine⟨_,i+1,FW.of _ rfl,rfl,rfl,rfl,rfl,dm.o,G,Z (HB.o.setCell (p:=(I (w.heap.size+1) (1+i))) az _),Z ?_,Z (HZ.o.other G _ _)⟩;rw[<-afc nm g G];exact HS.o
 ·obtain rfl:i=n:=G;have HF:=Z (show Eh nm g i=#[.string nm,Y (if 0<i then g 0 else 0),Y (if 1<i then g 1 else 0),Y (if 2<i then g 2 else 0),Y (if 3<i then g 3 else 0)]from rfl);have hk:=HK.o;rw[HF.o]at hk;generalize(if 0<i then g 0 else 0)=g0 at*;generalize(if 1<i then g 1 else 0)=g1 at*;generalize(if 2<i then g 2 else 0)=g2 at*;generalize(if 3<i then g 3 else 0)=g3 at*;obtain⟨c0,c1,c2,c3,c4⟩:=hk.c5;obtain⟨z0,z1,z2,z3,z4⟩:=HZ.o.c5;have fz:=HZ.o.frozen;have lz:=HZ.o.lt;clear be hk;go_wp2_with fail;refine bR (v:= .agg #[.string nm,Y g0,Y g1,Y g2,Y g3]) ?_ rfl ⟨by rw[HF.o],((((HB.o.setCell (p:=(I w.heap.size 0)) (aL _) _).setCell (p:=(I w.heap.size 1)) (aL _) _).setCell (p:=(I w.heap.size 2)) (aL _) _).setCell (p:=(I w.heap.size 3)) (aL _) _).setCell (p:=(I w.heap.size 4)) (aL _) _⟩;simp[results,results316,go_sem,c0,c1,c2,c3,c4,z0,z1,z2,z3,z4]
def abq(W:ek)(nm:ByteArray):Calls prog 316 #[.string nm,Xd] W (λe w'=>e=Xc (.agg #[.string nm,Y 0,Y 0,Y 0,Y 0])/\Below W.heap.size W w'):=
 G5 nm (g:=λ_=>0) (.inl ⟨rfl,rfl⟩) G
def fw{W:ek}{l:List Int}{cs:Array to}(hc:cs=(l.map (Value.int .i64)).toArray)(hl:l.length<=4):aY (W.alloc (Xe cs 3)) 1 (H (O (I W.heap.size 0)) l.length l.length) l.length (λi=> Y (l.getD i 0)):=by refine .inr ⟨_,_,rfl,aL _,by unfold maxLen;omega,λo ho=>⟨rfl,?_⟩⟩;have h1:aH (W.alloc (Xe cs 3)) W.heap.size 3 cs:=aH.new _ _ _;have h2:=h1.cell (0+o);rw[h2,hc,Nat.zero_add];have:o<l.length:=G;simp[dQ,this]
def sP{W w':ek}{x:Obj}(h:Below (W.alloc x).heap.size (W.alloc x) w'):Below W.heap.size W w':=((aZ _ _).alloc (aL _) _).trans (h.mono az)
def abr(W:ek)(nm:ByteArray)(a:Int):Calls prog 316 #[.string nm,H (O (I W.heap.size 0)) 1 1] (W.alloc (Xe #[Y a] 3)) (λe w'=>e=Xc (.agg #[.string nm,Y a,Y 0,Y 0,Y 0])/\Below W.heap.size W w'):=
 (G5 nm (fw (l:=[a]) rfl az) az).mono λe w' h=>⟨h.1,sP h.2⟩
def abt(W:ek)(nm:ByteArray)(a b:Int):Calls prog 316 #[.string nm,H (O (I W.heap.size 0)) 2 2] (W.alloc (Xe #[Y a,Y b] 3)) (λe w'=>e=Xc (.agg #[.string nm,Y a,Y b,Y 0,Y 0])/\Below W.heap.size W w'):=
 (G5 nm (fw (l:=[a,b]) rfl az) az).mono λe w' h=>⟨h.1,sP h.2⟩
def abu(W:ek)(nm:ByteArray)(a b c:Int):Calls prog 316 #[.string nm,H (O (I W.heap.size 0)) 3 3] (W.alloc (Xe #[Y a,Y b,Y c] 3)) (λe w'=>e=Xc (.agg #[.string nm,Y a,Y b,Y c,Y 0])/\Below W.heap.size W w'):=
 (G5 nm (fw (l:=[a,b,c]) rfl az) az).mono λe w' h=>⟨h.1,sP h.2⟩
def abv(W:ek)(nm:ByteArray)(a b c d:Int):Calls prog 316 #[.string nm,H (O (I W.heap.size 0)) 4 4] (W.alloc (Xe #[Y a,Y b,Y c,Y d] 3)) (λe w'=>e=Xc (.agg #[.string nm,Y a,Y b,Y c,Y d])/\Below W.heap.size W w'):=
 (G5 nm (fw (l:=[a,b,c,d]) rfl az) az).mono λe w' h=>⟨h.1,sP h.2⟩
def nmB:List ByteArray:=[⟨#[101,110,100]⟩,⟨#[110,117,109]⟩,⟨#[98,111,111,108]⟩,⟨#[118,97,114]⟩,⟨#[108,101,110]⟩,⟨#[99,97,112]⟩,⟨#[115,105,122,101]⟩,⟨#[116,111,116,97,108]⟩,⟨#[97,116]⟩,⟨#[116,97,103,120]⟩,⟨#[116,97,103,101,110,100]⟩,⟨#[109,105,110]⟩,⟨#[109,97,120]⟩,⟨#[110,101,103]⟩,⟨#[110,111,116]⟩,⟨#[109,117,108]⟩,⟨#[100,105,118]⟩,⟨#[97,100,100]⟩,⟨#[115,117,98]⟩,⟨#[101,113]⟩,⟨#[108,116]⟩,⟨#[108,101]⟩,⟨#[106,117,109,112]⟩,⟨#[101,108,115,101]⟩,⟨#[108,111,111,112]⟩,⟨#[116,117,114,110]⟩,⟨#[113,117,105,116]⟩,⟨#[97,103,97,105,110]⟩,⟨#[115,101,116]⟩,⟨#[109,97,114,107,120]⟩,⟨#[109,97,114,107,101,110,100]⟩,⟨#[105,110,115,101,114,116]⟩,⟨#[109,111,118,101]⟩,⟨#[102,111,114,103,101,116]⟩,⟨#[116,97,107,101]⟩,⟨#[103,105,118,101]⟩,⟨#[116,101,108,108]⟩,⟨#[108,111,111,115,101]⟩,⟨#[115,104,105,102,116]⟩,⟨#[115,112,105,108,108]⟩,⟨#[101,118,105,99,116]⟩,⟨#[100,114,111,112]⟩]
def ixL:List Nat:=[1,3,5,7,9,11,12,13,15,17,19,20,21,22,23,24,25,26,27,28,29,30,32,34,36,38,40,42,44,46,48,50,52,53,55,57,58,59,61,63,65,67]
def VY(i:Nat):to:= .agg #[.string (nmB.getD i ⟨#[]⟩),Y ((cM i).getD 0 0:Nat),Y ((cM i).getD 1 0:Nat),Y ((cM i).getD 2 0:Nat),Y ((cM i).getD 3 0:Nat)]
def pj:List to:=(List.range 42).map VY
def G6(o:Nat):to:=if o % 5=0 then .string (nmB.getD (o / 5) ⟨#[]⟩)else Y ((cM (o / 5)).getD (o % 5-1) 0:Nat)
def afb:pj.length=42:=by simp[pj]
def CB:∀v∈pj,v.cells.size=5:=by intro v hv;obtain⟨i,-,rfl⟩:=List.mem_map.1 hv;rfl
def afa{o:Nat}(ho:o<42*5):(pj.flatMap λv=>v.cells.toList).toArray[o]? =O (G6 o):=by
 have h:=Great.flat_get (s:=5) G pj CB o;have h1:pj[o / 5]? =O (VY (o / 5)):=by have:o / 5<42:=G;simp[pj,this]
 have e:(pj.flatMap λv=>v.cells.toList).toArray[o]? =(pj.flatMap λv=>v.cells.toList)[o]? :=by simp
 rw[e,h,h1];have:o % 5=0\/o % 5=1\/o % 5=2\/o % 5=3\/o % 5=4:=G;rcases this with h|h|h|h|h<;>simp[G6,VY,h,Value.cells]
def abZ(w:ek)(e:Ending)(w':ek):Prop:=∃b,e=Xc (H (O (I b 0)) 42 42)/\aY w' 5 (H (O (I b 0)) 42 42) 42 G6/\Below w.heap.size w w'
def uR:(prog.info? 306).map (·.size)=O 5:=by kernel_rfl
def abY:((prog.info? 306).bind (·.zero)).isSome=true:=by kernel_rfl
def abX:prog.underlying 301=O (.slice 306):=by kernel_rfl
def abW{o:Oper}{a:Act}{w0 w:ek}{K:Act->ek->Prop}{Q:Exit->Act->ek->Prop}(parts:Array (Nat×Operand))(ho:o.op= .buildSlice 301 42 parts)(hB:Below w0.heap.size w0 w)
 (abx:parts.toList=(List.range 42).map λi=>(i,Operand.tmp (ixL.getD i 0))) (t_:(List.range 42).map (λi=>a.eval (.tmp (ixL.getD i 0)))=pj)
 (h:∀W' b,aY W' 5 (H (O (I b 0)) 42 42) 42 G6->Below w0.heap.size w0 W'->K (a.put o.dst (H (O (I b 0)) 42 42)) W'):o.wp prog a w K Q:=by
 cases hie:prog.info? 306 with
 |none=>have:=uR;simp[hie]at this
 |some ie=>
  have nO:=uR;have hz:=abY;simp only[hie,Option.map_some,iI,Option.bind_some]at nO hz;obtain⟨z,hzz⟩:=Option.isSome_iff_exists.1 hz;refine wp_buildSlice 301 306 42 parts ho (pj.flatMap λv=>v.cells.toList).toArray ie z abX hie hzz (by rw[nO];omega) (by rw[nO];omega) ?_ ?_
  ·have e1:(parts.map λ(i,x)=>(i,a.eval x)).toList=(pj.zipIdx 0).map λx=>(x.2,x.1):=by
    rw[Array.toList_map,abx,List.map_map,<-t_];apply List.ext_getElem
    ·simp
    ·intro i h1 h2;simp
   rw[e1,nO];exact Great.fill_whole G pj _ CB (by rw[afb];simp)
  refine h _ _ (.inr ⟨_,_,rfl,aL _,by unfold maxLen;omega,λo ho=>⟨rfl,?_⟩⟩) (hB.alloc hB.size _);have h1:=(aH.new w 306 (pj.flatMap λv=>v.cells.toList).toArray).cell (0+o);rw[h1,Nat.zero_add];exact afa ho
def D6(w:ek):Calls prog 288 #[] w (abZ w):=by have hB:=aZ w.heap.size w;go_enter func288,ntmps288;go_wp2_with (first|(with_reducible refine(abq _ _).mono ?_;rintro e W9 ⟨rfl,X⟩;replace hB:=hB.trans (X.mono hB.size);clear X)|(with_reducible refine(abr _ _ _).mono ?_;rintro e W9 ⟨rfl,X⟩;replace hB:=hB.trans (X.mono hB.size);clear X)|(with_reducible refine(abt _ _ _ _).mono ?_;rintro e W9 ⟨rfl,X⟩;replace hB:=hB.trans (X.mono hB.size);clear X)|(with_reducible refine(abu _ _ _ _ _).mono ?_;rintro e W9 ⟨rfl,X⟩;replace hB:=hB.trans (X.mono hB.size);clear X)|(with_reducible refine(abv _ _ _ _ _ _).mono ?_;rintro e W9 ⟨rfl,X⟩;replace hB:=hB.trans (X.mono hB.size);clear X));refine abW (w0:=w) _ rfl hB bj bj ?_;intro W' b hR hB';have HB:=Z hB';have HR:=Z hR;clear hB' hR hB;go_wp2;go_ret;exact⟨_,rfl,HR.o,HB.o⟩
def QV{p:Prop}(h:p:=by
 have HF:=Z (show aP n 1 255=false by unfold aP;simp;omega);go_enter func315,ntmps315;exact WW):p:=h
def WW{p:Prop}(h:p:=by
 go_wp2;go_ret;exact⟨by rw[HF.o];rfl,rfl⟩):p:=h
def af2(w:ek)(n:Int):Calls prog 315 #[Y n,Y 1,Y 255] w (λe w'=>e=Xc (.bool (aP n 1 255))/\w'=w):=by
 by_cases h1:1<=n
 ·by_cases h2:n<=255
  ·have HF:=Z (show aP n 1 255=true by unfold aP;simp;omega);go_enter func315,ntmps315;exact WW
  ·exact QV
 ·exact QV
def FT(J:Nat->to):Act:={tmps:=#[J 0,J 1,J 2,J 3,J 4,J 5,J 6,J 7,J 8,J 9,J 10,J 11,J 12,J 13,J 14,J 15],defers:=[]}
def FT.of(A:Array to)(h:A=(FT λk=>A.getD k undef).tmps):({tmps:=A,defers:=[]}:Act)=FT λk=>A.getD k undef:=by rw[h];rfl
def Q9(w:ek)(p:aU)(v:to)(m:Nat)(a:Act)(W:ek):Prop:=∃(J:Nat->to) (i:Nat),a=FT J/\J 0=v/\J 3=Y i/\i<=p.aW.length/\m+i=p.aW.length+1/\W=w/\Hid (∀j,j<i->aP (p.aW.getD j 0) 1 255=true)
def abF(h:gM w K p)(hl:p.aW.length<=4):Calls prog 287 #[K.t] w (λe w'=>e=Xc (.bool (p.aW.all λt=>aP t 1 255))/\w'=w):=by
 have HT:=Z h.t;obtain⟨ta,tc,t1,-,-⟩:=aY.val h.t;have HV:=Z t1;rw[t1]at HT ⊢;clear h t1;go_enter func287,ntmps287;go_wp2;refine Mk.aM (Q9 w p (H ta p.aW.length tc)) (p.aW.length+1) ⟨_,0,FT.of _ rfl,rfl,rfl,ck _,G,rfl,Z (λj hj=>absurd hj G)⟩ (λa W hh=>by obtain⟨J,i,-,-,-,h1,h2,-⟩:=hh;omega) ?_;rintro m a W ⟨J,i,rfl,j0,j3,hi,hm,rfl,HA⟩;have w2:=mr i G;unfold FT;rw[j0,j3];clear j0 j3;by_cases be:i<p.aW.length
 ·obtain⟨b,off,cap,hv,-,-,X,hc⟩:=aY.some HT.o G G;simp only[cL]at hv;obtain⟨rfl,-,rfl⟩:=hv;have c0:Xf W (I b (off+i))=O (Y (p.aW.getD i 0)):=hc i G;clear hc;have dm:=Z be;obtain⟨x,hx⟩:∃x,p.aW.getD i 0=x:=⟨_,rfl⟩;rw[hx]at c0;have HX:=Z hx;clear hx;obtain⟨r,hr⟩:∃r,aP x 1 255=r:=⟨_,rfl⟩;have Yz:=Z (λV=>hr▸af2 V x);have HR:=Z hr;clear hr;go_wp2_with fail;refine(Yz.o _).mono ?_;rintro e W1 ⟨rfl,rfl⟩;cases r with
  |false=>
   have HF:=Z (show(p.aW.all λt=>aP t 1 255)=false from by
    rw[xi];intro gJ;rw[rB]at gJ;have:=gJ (p.aW.getD i 0) (by rw[dQ,ft dm.o];exact il dm.o);rw[HX.o,HR.o]at this;cases this)
   exact WW
  |true=>
   go_wp2;refine⟨_,i+1,FT.of _ rfl,rfl,rfl,dm.o,G,rfl,Z λj hj=>?_⟩;by_cases e:j=i
   ·subst e;rw[HX.o];exact HR.o
   ·exact HA.o j G
 ·obtain rfl:i=p.aW.length:=G;have HF:=Z (show(p.aW.all λt=>aP t 1 255)=true from by
   rw[rB];intro v hv;obtain⟨j,hj,e⟩:=rZ hv;have:=HA.o j hj;rw[dQ,ft hj]at this;simpa[e]using this)
  clear be;exact WW
end
end Go.Rv
namespace Go.Rv
open Go.RowKit al.Vm
open al hiding aS aw an
open Ma (aK a_)
def ab8(ty:List Nat)(w:ek){k j:Nat}(hj:j<k)(hk:k<=ty.length)(ht:fy ty):(Instr.index 9 (.string (f_ (ty.take k))) (Y ((k-1-j:Nat):Int))).run prog w= .ok (.int .u8 ((Cz (ty.getD j 0)).toNat:Nat)) w:=by
 have hs:(f_ (ty.take k)).size=k:=by rw[oB,List.length_take];omega
 have hi:0<=((k-1-j:Nat):Int)/\((k-1-j:Nat):Int)<((f_ (ty.take k)).size:Int):=G;rw[run_index_string w _ _ _ _ underlying9,dif_pos hi];simp only[Int.toNat_natCast];have e:(f_ (ty.take k))[k-1-j]'G=Cz (ty.getD j 0):=by
  show(f_ (ty.take k)).data[k-1-j]'_=_;have h2:((ty.take k).reverse.map Cz)[k-1-j]? =O (Cz (ty.getD j 0)):=by rw[List.getElem?_map,List.getElem?_reverse (by rw[List.length_take];omega)];rw[show(ty.take k).length-1 - (k-1-j)=j by rw[List.length_take];omega,List.getElem?_take_of_lt hj,ft G,dQ,ft (show j<ty.length by omega)];rfl
  have h3:(f_ (ty.take k)).data[k-1-j]? =O (Cz (ty.getD j 0)):=by show((ty.take k).reverse.map Cz).toArray[k-1-j]? =_;rw[List.getElem?_toArray];exact h2
  exact(Array.getElem?_eq_some_iff.1 h3).2
 rw[e]
def JW(w:ek)(x:Ins)(ty:List Nat)(e:Ending)(w':ek):Prop:=e=Xc (.tuple #[.string (f_ (cX x ty).2),Y (cX x ty).1])/\Below w.heap.size w w'
def DJ{p:Prop}(h:p:=by
 go_enter func292,ntmps292;go_wp2_with fail;refine(HT.o _).mono ?_;rintro e w' ⟨rfl,rfl⟩;go_wp2;go_ret2;exact⟨rfl,HB.o _ _⟩):p:=h
def ab7(w:ek){x:Ins}{ty:List Nat}(h0:0<=x.op)(h1:x.op<42)(hl:ty.length<=256)(ht:fy ty):
 Calls prog 292 #[a_ x,.string (f_ ty)] w (JW w x ty):=by
 have HO:=Z (rfl:cX x ty=cX x ty);obtain⟨op,xa,xb,xc,xd⟩:=x;dsimp only at h0 h1;have HT:=Z (λV=>DB V h0 h1);have HG:=Z (λV=>vg V h0 h1);have HS:=Z (oB ty);have hB:=rH w;have hC:∀cs T k,Below w.heap.size w ((w.alloc (Xe cs T)).drewN k):=λcs T k=>(hB cs T).trans (aA _ _ k);have HB:=Z hB;have HC:=Z hC;have Ln:=Z ht;have hz:op=0->cm op.toNat=[]:=λh=>by rw[h];rfl
 have vS:op=19↔op.toNat=19:=G;have LN:=v_ op.toNat;clear hB hC ht h0 h1;unfold a_ aK JW;dsimp only;generalize hk:cm op.toNat=tk at*;have Hw:(f_ tk).size=tk.length:=oB tk;have hkl:tk.length<=2:=by rcases LN with rfl|rfl|rfl|rfl|⟨-,rfl⟩<;>simp
 have hu:cX ⟨op,xa,xb,xc,xd⟩ ty=(if ty.length<tk.length\/(op=0/\tk.length<ty.length)then(93,[])else if 256<(fB op.toNat++ty.drop tk.length).length then(93,[])else if op=19 then(if ty.getD 0 0≠ty.getD 1 0 then(94,[])else(0,fB op.toNat++ty.drop tk.length))else if ty.take tk.length≠tk then(94,[])else(0,fB op.toNat++ty.drop tk.length)):=by unfold cX;dsimp only;rw[hk];rfl
 have HU:=Z hu;have HK:=Z hk;clear hu hk;have e2:(f_ ty).size=ty.length:=HS.o;by_cases c1:ty.length<tk.length
 ·have NK:=Z (show cX ⟨op,xa,xb,xc,xd⟩ ty=(93,[])by rw[HU.o,aE (.inl c1)]);have w1:IntKind.i64.wrap ((ty.length:Int) - (tk.length:Int))=(ty.length:Int) - (tk.length:Int):=bJ _ kS;rw[NK.o];generalize f_ ty=tb at*;generalize f_ tk=tkb at*;generalize ty.length=n at*;generalize tk.length=k at*;clear LN vS hz HG HO;exact DJ
 by_cases c2:op=0/\tk.length<ty.length
 ·obtain⟨rfl,c2⟩:=c2;have NK:=Z (show cX ⟨0,xa,xb,xc,xd⟩ ty=(93,[])by rw[HU.o,aE (.inr ⟨rfl,c2⟩)]);have w1:IntKind.i64.wrap ((ty.length:Int) - (tk.length:Int))=((ty.length-tk.length:Nat):Int):=by rw[bJ _ kS];omega
  rw[NK.o];have c3:0<ty.length-tk.length:=G;generalize f_ ty=tb at*;generalize f_ tk=tkb at*;generalize ty.length-tk.length=nk at*;generalize ty.length=n at*;generalize tk.length=k at*;clear LN vS hz HG HO;exact DJ
 have zg:cX ⟨op,xa,xb,xc,xd⟩ ty=(if 256<(fB op.toNat++ty.drop tk.length).length then(93,[])else if op=19 then(if ty.getD 0 0≠ty.getD 1 0 then(94,[])else(0,fB op.toNat++ty.drop tk.length))else if ty.take tk.length≠tk then(94,[])else(0,fB op.toNat++ty.drop tk.length)):=by rw[HU.o,ax (by simp only[not_or];exact⟨c1,c2⟩)]
 have w1:IntKind.i64.wrap ((ty.length:Int) - (tk.length:Int))=((ty.length-tk.length:Nat):Int):=by rw[bJ _ kS];omega
 have Zs:=aca ty (k:=tk.length) G;have hX:=afh ty tk.length;have hxs:(f_ (ty.drop tk.length)).size=ty.length-tk.length:=by rw[oB,List.length_drop]
 have hgs:(f_ (fB op.toNat)).size=(fB op.toNat).length:=oB _;have agF:(fB op.toNat).length<=1:=by unfold fB;split<;>simp
 have hXG:f_ (ty.drop tk.length)++f_ (fB op.toNat)=f_ (fB op.toNat++ty.drop tk.length):=afg _ _;have hlz:=oB (fB op.toNat++ty.drop tk.length);have htz:=oB (ty.take tk.length);have HR:=Z (λ(w:ek) (j:Nat) (hj:j<tk.length)=>ab8 ty w hj G Ln.o);have Tk:=Z (λ(h:fy tk)=>JT (Ln.o.take tk.length) h);have BV:(fB op.toNat++ty.drop tk.length).length<=257:=by rw[mT,List.length_drop];unfold fB;split<;>simp<;>omega
 have c4:op=0/\ty.length=tk.length\/op≠0:=by
  by_cases o:op=0
  ·exact .inl ⟨o,by have:¬tk.length<ty.length:=λh=>c2 ⟨o,h⟩;omega⟩
  ·exact .inr o
 have NK:=Z zg;have hnk:ty.length-tk.length<=ty.length:=G;clear zg c2 HU HO;have KL:=Z LN;have HZ:=Z hz;clear LN hz;generalize hLb:f_ (fB op.toNat++ty.drop tk.length)=lb at*;generalize hTb:f_ (ty.take tk.length)=tpb at*;generalize hGb:f_ (fB op.toNat)=gb at*;generalize hXb:f_ (ty.drop tk.length)=xb9 at*;generalize hGl:(fB op.toNat).length=gl at*;have YY:=Z hGl;have HXB:=Z hXb;have HLB:=Z hLb;have xG:=Z hTb;have HGB:=Z hGb;clear hLb hTb hGb hXb hGl;generalize xF:f_ ty=tb at*;generalize LN:f_ tk=tkb at*;have y6:=Z xF;have agG:=Z LN;clear xF LN;generalize wE:ty.length-tk.length=nk at*;have HNK:=Z wE;clear wE;generalize hn9:ty.length=n at*;have HN:=Z hn9;clear hn9;generalize hk9:tk.length=k at*;have HK9:=Z hk9;clear hk9;have qC:k<=n:=G;generalize Mt:(fB op.toNat++ty.drop k).length=ll at*;have HLL:=Z Mt;clear Mt c1;have c6:((op==0)=true/\decide (0<nk)=false)\/(op==0)=false:=by
  rcases c4 with⟨h,h2⟩|h
  ·exact .inl ⟨by simpa using h,by have:=HNK.o;simp;omega⟩
  ·exact .inr (by simpa using h)
 clear c4;rcases c6 with⟨c4,c7⟩|c4
 all_goals
  go_enter func292,ntmps292;go_wp2_with fail;refine(HT.o _).mono ?_;rintro e w' ⟨rfl,rfl⟩;go_wp2;go_quiet ((go_at_call 318;exact Calls.quiet_of_same (HG.o _)));by_cases c5:256<ll
  ·have HE:=Z (show cX _ ty=(93,[])from by rw[NK.o,aE c5]);clear vS;go_wp2;go_ret2;exact⟨by rw[HE.o];rfl,HC.o _ _ _⟩
  by_cases o19:op=19
  ·subst o19
   try (exact absurd c4 bz)
   all_goals
    have e2:tk=[3,3]:=HK.o.symm;have k2:k=2:=by rw[<-HK9.o,e2];rfl
    have r0:∀V:ek,(Instr.index 9 (.string tpb) (Y 1)).run prog V= .ok (.int .u8 ((Cz (ty.getD 0 0)).toNat:Nat)) V:=λV=>by have:=HR.o V 0 G;rw[k2]at this;exact this
    have r1:∀V:ek,(Instr.index 9 (.string tpb) (Y 0)).run prog V= .ok (.int .u8 ((Cz (ty.getD 1 0)).toNat:Nat)) V:=λV=>by have:=HR.o V 1 G;rw[k2]at this;exact this
    have h0:=Ln.o.at (j:=0) (by have:=HN.o;omega);have h1:=Ln.o.at (j:=1) (by have:=HN.o;omega);have hch:=LO h1 h0;have HE:=Z (show cX ⟨19,xa,xb,xc,xd⟩ ty=if ty.getD 0 0≠ty.getD 1 0 then(94,[])else(0,fB (Int.toNat 19)++ty.drop k)by rw[NK.o,ax c5,aE rfl]);generalize ty.getD 0 0=t0 at*;generalize ty.getD 1 0=t1 at*;clear vS e2 k2 h0 h1;by_cases hq:t0=t1
    ·subst hq;have px:=Z (show cX ⟨19,xa,xb,xc,xd⟩ ty=(0,fB (Int.toNat 19)++ty.drop k)by rw[HE.o,ax az]);clear hch;generalize(Cz t0).toNat=u0 at*;go_wp2;go_quiet (fail);go_wp2;go_ret2;exact⟨by rw[px.o,<-HLB.o];rfl,(HC.o _ _ _).trans (aA _ _ _)⟩
    ·have px:=Z (show cX ⟨19,xa,xb,xc,xd⟩ ty=(94,[])by rw[HE.o,aE hq]);have bt:¬(Cz t1).toNat=(Cz t0).toNat:=λh=>hq (hch.1 (UInt8.toNat_inj.1 h)).symm;clear hch hq;generalize(Cz t0).toNat=u0 at*;generalize(Cz t1).toNat=u1 at*;go_wp2;go_quiet (fail);go_wp2;go_ret2;exact⟨by rw[px.o];rfl,(HC.o _ _ _).trans (aA _ _ _)⟩
  ·have ho:(op==19)=false:=by simpa using o19
   have LN:fy tk:=by
    have hh:tk=[]\/tk=[1]\/tk=[2]\/tk=[1,1]:=by
     rcases KL.o with h|h|h|h|⟨h,-⟩
     ·exact .inl h
     ·exact .inr (.inl h)
     ·exact .inr (.inr (.inl h))
     ·exact .inr (.inr (.inr h))
     ·exact absurd (vS.2 h) o19
    rcases hh with rfl|rfl|rfl|rfl<;>intro t ht<;>simp at ht<;>simp[ht]
   have yT:=Tk.o LN;have HE:=Z (show cX ⟨op,xa,xb,xc,xd⟩ ty=if ty.take k≠tk then(94,[])else(0,fB (Int.toNat op)++ty.drop k)by rw[NK.o,ax c5,ax o19]);clear LN vS o19;by_cases hq:ty.take k=tk
   ·have px:=Z (show cX ⟨op,xa,xb,xc,xd⟩ ty=(0,fB (Int.toNat op)++ty.drop k)by rw[HE.o,ax (by simp[hq])]);have X:(tpb.toList==tkb.toList)=true:=by rw[beq_iff_eq,yT];exact hq
    clear yT hq;go_wp2;go_ret2;exact⟨by rw[px.o,<-HLB.o];rfl,HC.o _ _ _⟩
   ·have px:=Z (show cX ⟨op,xa,xb,xc,xd⟩ ty=(94,[])by rw[HE.o,aE hq]);have X:(tpb.toList==tkb.toList)=false:=by rw[beq_eq_false_iff_ne,ne_eq,yT];exact hq
    clear yT hq;go_wp2;go_ret2;exact⟨by rw[px.o];rfl,HC.o _ _ _⟩
open Ma (dW cy bd vb)
open Vf (Kp gM pV tC bT aY)
def pD(s:mW):to:= .agg #[.string (f_ s.ty),Y s.loop,Y s.hand,.bool s.lZ]
def G3(f:Nat->mW)(o:Nat):to:=(#[.string (f_ (f (o / 4)).ty),Y (f (o / 4)).loop,Y (f (o / 4)).hand,.bool (f (o / 4)).lZ]:Array to).getD (o % 4) undef
structure tF(w:ek)(K:Kp)(p:aU)(lb:Nat)(jN mF lQ:to)(L:mw):Prop where
 dY:aH w lb 260 (JV K p jN mF lQ)
 at_:Row w 262 4 jN p.code.length (G3 L.at_)
 up:Row w 3 1 mF p.code.length (λi=> Y (L.up i))
 st:Row w 4 1 lQ p.code.length (λi=> .bool (gA p i))
section
variable {w w':ek}{K:Kp}{p:aU}{jN mF lQ:to}{lb:Nat}{L:mw}{x:Ins}
def tF.aG(h:tF w K p lb jN mF lQ L)(f:aC [] w w'):tF w' K p lb jN mF lQ L:=⟨h.dY.aG f az,h.at_.aG f az,h.up.aG f az,h.st.aG f az⟩
def tF.Yr(h:tF w K p lb jN mF lQ L){i:Nat}(hi:i<p.code.length):∃b cap,jN=H (O (I b 0)) p.code.length cap/\p.code.length<=cap/\cap<=maxLen/\b<w.heap.size/\
 Xf w (I b (i*4))=O (.string (f_ (L.at_ i).ty))/\Xf w (I b (i*4+1))=O (Y (L.at_ i).loop)/\Xf w (I b (i*4+2))=O (Y (L.at_ i).hand)/\Xf w (I b (i*4+3))=O (.bool (L.at_ i).lZ):=by
 obtain⟨b,cap,e,h1,h2,h3⟩:=h.at_.some G;have hr:=h.at_;rw[e]at hr;have key:∀k,k<4->Xf w (I b (i*4+k))=O ((#[.string (f_ (L.at_ i).ty),Y (L.at_ i).loop,Y (L.at_ i).hand,.bool (L.at_ i).lZ]:Array to).getD k undef):=λk hk=>by have e:=hr.cell (o:=i*4+k) G;rw[e];unfold G3;rw[show(i*4+k) / 4=i by omega,show(i*4+k) % 4=k by omega]
 exact⟨b,cap,e,h1,h2,h3,key 0 G,key 1 G,key 2 G,key 3 G⟩
def tF.start(h:tF w K p lb jN mF lQ L){i:Nat}(hi:i<p.code.length):∃b cap,lQ=H (O (I b 0)) p.code.length cap/\p.code.length<=cap/\b<w.heap.size/\Xf w (I b i)=O (.bool (gA p i)):=by obtain⟨b,cap,e,h1,h2,h3⟩:=h.st.some G;have hr:=h.st;rw[e]at hr;exact⟨b,cap,e,h1,h3,hr.cell G⟩
def tF.upc(h:tF w K p lb jN mF lQ L){i:Nat}(hi:i<p.code.length):∃b cap,mF=H (O (I b 0)) p.code.length cap/\p.code.length<=cap/\b<w.heap.size/\Xf w (I b i)=O (Y (L.up i)):=by obtain⟨b,cap,e,h1,h2,h3⟩:=h.up.some G;have hr:=h.up;rw[e]at hr;exact⟨b,cap,e,h1,h3,hr.cell G⟩
structure JOk(p:aU)(L:mw)(pc:Nat)(x:Ins)(ty:List Nat)(loop:Int):Prop where
 pc:pc<p.code.length
 len:p.code.length<=262144
 lp:loop<p.code.length
 ty:fy ty
 lt:∀n,fy (L.at_ n).ty
def Sw(w:ek)(b:Bool)(e:Ending)(w':ek):Prop:=e=Xc (.bool b)/\Below w.heap.size w w'
def WE{p:Prop}(h:p:=by
 go_enter func294,ntmps294;exact UZ):p:=h
def V5{p:Prop}(h:p:=by
 go_enter func294,ntmps294;go_wp2;go_ret;exact⟨by rw[HJ.o];rfl,HB.o _ _ _ _⟩):p:=h
def V4{p:Prop}(h:p:=by
 go_enter func294,ntmps294;go_wp2_with fail;refine(IG.o _ _ _ _).mono ?_;rintro e w' ⟨rfl,rfl⟩;exact UZ):p:=h
def UZ{p:Prop}(h:p:=by
 go_wp2;go_quiet (fail);go_wp2;go_ret;exact⟨by rw[HJ.o];rfl,HC.o _ _ _ _ _⟩):p:=h
def JY{p:Prop}(h:p:=by
 go_enter func294,ntmps294;go_wp2_with fail;refine(IG.o _ _ _ _).mono ?_;rintro e w' ⟨rfl,rfl⟩;go_wp2;go_ret;exact⟨by rw[HJ.o];rfl,HB.o _ _ _ _⟩):p:=h
def DQ{pc:Nat}{ty:List Nat}{loop:Int}(h:gM w K p)(hl:tF w K p lb jN mF lQ L)(hx:ak p pc=x)(J:JOk p L pc x ty loop):
 Calls prog 294 #[Oi lb,Y pc,.agg #[.string (f_ ty),Y loop,Y 0,.bool false]] w (Sw w (eH p L pc x ty loop)):=by
 obtain⟨jpc,agH,jlp,jty,jlt⟩:=J;obtain⟨cb,An,Du,kc,q1,q2,c0,c1,c2,c3,c4⟩:=h.ins jpc;rw[hx]at c0 c1 c2 c3 c4;have lc:=ay c0;obtain⟨-,-,-,-,-,v5,v6,-,v8⟩:=hl.dY.c9;have ll:=hl.dY.lt;rw[kc]at v5;have hB:=Mi w;have hC:∀cs T w_ T2 k,Below w.heap.size w (((w.alloc (Xe cs T)).alloc (Xe w_ T2)).drewN k):=λcs T w_ T2 k=>(hB cs T w_ T2).trans (aA _ _ k);have HB:=Z hB;have HC:=Z hC;have HT:=Z (λcs T w_ T2 n=>I_ (h.aG (aC.ai (hB cs T w_ T2))) (hl.dY.of ((hB cs T w_ T2).block _ ll)) n);have a0g:=Z h;have HL:=Z hl;have Dq:=Z kc;clear h hl hB hC kc;obtain⟨op,xa,xb,xc,xd⟩:=x;have HX:=Z hx;clear hx;unfold Sw;dsimp only at*;have hj:∀a0c,a0c=eH p L pc ⟨op,xa,xb,xc,xd⟩ ty loop->a0c=eH p L pc ⟨op,xa,xb,xc,xd⟩ ty loop:=λ_ h=>h;clear hj;by_cases o1:op=22\/op=23\/op=25\/op=26
 ·by_cases o2:xa<=pc
  ·have HJ:=Z (show eH p L pc ⟨op,xa,xb,xc,xd⟩ ty loop=false from by unfold eH;rw[aE ⟨o1,.inl o2⟩]);rcases o1 with rfl|rfl|rfl|rfl
   all_goals
    exact V5
  have o3:(pc:Int)<xa:=G;clear o2;cases o4:iQ p xa with
  |true=>
   have HJ:=Z (show eH p L pc ⟨op,xa,xb,xc,xd⟩ ty loop=false from by unfold eH;rw[aE ⟨o1,.inr o4⟩]);have IG:=Z (λcs T w_ T2=>o4▸HT.o cs T w_ T2 xa);clear o4;rcases o1 with rfl|rfl|rfl|rfl
   all_goals
    exact JY
  |false=>
   have IG:=Z (λcs T w_ T2=>o4▸HT.o cs T w_ T2 xa);have Ua:¬((op=22\/op=23\/op=25\/op=26)/\(xa<=pc\/iQ p xa=true)):=by rintro⟨-,h|h⟩;omega;rw[o4]at h;cases h
   have nI:eH p L pc ⟨op,xa,xb,xc,xd⟩ ty loop=(if op=25 then decide (0<pc)&&decide ((ak p (pc-1)).op=24)&& !gA p pc else if op=24 then iQ p ((pc:Int)+1)else if op=26 then decide (0<=loop)&&decide (xa=(ak p loop.toNat).a)else if op=27 then decide (0<=loop)&&decide (xa=loop)&&decide (ty=(L.at_ loop.toNat).ty)else if op=0 then decide (loop<0)else true):=by unfold eH;rw[ax Ua]
   have JB:=Z nI;clear o4 Ua nI;rcases o1 with rfl|rfl|rfl|rfl
   ·have HJ:=Z (show eH p L pc ⟨22,xa,xb,xc,xd⟩ ty loop=true from by rw[JB.o];rfl);exact JY
   ·have HJ:=Z (show eH p L pc ⟨23,xa,xb,xc,xd⟩ ty loop=true from by rw[JB.o];rfl);exact JY
   ·have nI:=JB.o;rw[aE rfl]at nI;by_cases p0:0<pc
    ·obtain⟨m,rfl⟩:∃m,pc=m+1:=⟨pc-1,G⟩;have w1:IntKind.i64.wrap (((m+1:Nat):Int) - 1)=(m:Int):=by rw[bJ _ kS];omega
     obtain⟨cb2,aeF,aeG,Gz,-,-,e0,-⟩:=a0g.o.ins (i:=m) G;rw[Dq.o]at Gz;simp only[cL,iI,Addr.mk.injEq]at Gz;obtain⟨⟨rfl,rfl,-⟩,-,rfl⟩:=Gz;simp only[Nat.add_sub_cancel]at nI;rw[show decide (0<m+1)=true by simp,Bool.true_and]at nI;generalize(ak p m).op=op2 at*;by_cases p1:op2=24
     ·subst p1;obtain⟨sb,agI,es,s1,s2,s3⟩:=HL.o.start jpc;rw[es]at v8;simp only[decide_true,Bool.true_and]at nI;cases hs:gA p (m+1)with
      |true=>rw[hs]at s3 nI;have HJ:=Z nI;clear nI hs;exact JY
      |false=>rw[hs]at s3 nI;have HJ:=Z nI;clear nI hs;exact JY
     ·have p2:(op2==24)=false:=by simpa using p1
      rw[show decide (op2=24)=false by simpa using p1,Bool.false_and]at nI;have HJ:=Z nI;clear nI p1;exact JY
    ·obtain rfl:pc=0:=G;simp only[Nat.zero_mul,Nat.add_zero]at c0 c1 c2 c3 c4;have HJ:=Z (show _=false from nI.trans az);clear nI;exact JY
   ·have nI:=JB.o;rw[ax bz,ax bz,aE rfl]at nI;by_cases p0:0<=loop
    ·obtain⟨m,rfl⟩:=eS p0;obtain⟨cb2,aeF,aeG,Gz,-,-,-,e1,-⟩:=a0g.o.ins (i:=m) G;rw[Dq.o]at Gz;simp only[cL,iI,Addr.mk.injEq]at Gz;obtain⟨⟨rfl,rfl,-⟩,-,rfl⟩:=Gz;obtain⟨a2,Lk⟩:∃z,(ak p m).a=z:=⟨_,rfl⟩;rw[Lk]at e1;replace nI:=nI.trans (show _=decide (xa=a2)by simp[Lk]);clear Lk JB;by_cases p1:xa=a2
     ·subst p1;have HJ:=Z (show _=true from nI.trans az);clear nI;exact V4
     ·have HJ:=Z (show _=false from nI.trans (by simpa using p1));have p2:(xa==a2)=false:=by simpa using p1
      clear nI p1;exact V4
    ·have HJ:=Z (show _=false from nI.trans (by simp[p0]));have p1:decide (0<=loop)=false:=by simpa using p0
     clear nI p0;exact V4
 have Ua:¬((op=22\/op=23\/op=25\/op=26)/\(xa<=pc\/iQ p xa=true)):=λh=>o1 h.1;have nI:eH p L pc ⟨op,xa,xb,xc,xd⟩ ty loop=(if op=25 then decide (0<pc)&&decide ((ak p (pc-1)).op=24)&& !gA p pc else if op=24 then iQ p ((pc:Int)+1)else if op=26 then decide (0<=loop)&&decide (xa=(ak p loop.toNat).a)else if op=27 then decide (0<=loop)&&decide (xa=loop)&&decide (ty=(L.at_ loop.toNat).ty)else if op=0 then decide (loop<0)else true):=by unfold eH;rw[ax Ua]
 simp only[not_or]at o1;obtain⟨n22,n23,n25,n26⟩:=o1;have e22:(op==22)=false:=by simpa using n22
 have e23:(op==23)=false:=by simpa using n23
 have e25:(op==25)=false:=by simpa using n25
 have e26:(op==26)=false:=by simpa using n26
 rw[ax n25,ax n26]at nI;clear Ua;by_cases YE:op=24
 ·subst YE;have HJ:=Z (nI.trans (aE rfl));have w1:IntKind.i64.wrap ((pc:Int)+1)=(pc:Int)+1:=bJ _ kS;clear nI n22 n23 n25 n26;rw[HJ.o];have HT3:=Z (λcs T w_ T2=>HT.o cs T w_ T2 ((pc:Int)+1));clear HJ HT;generalize iQ p ((pc:Int)+1)=tb9 at*;go_enter func294,ntmps294;go_wp2_with fail;refine(HT3.o _ _ _ _).mono ?_;rintro e w' ⟨rfl,rfl⟩;go_wp2;go_ret;exact⟨rfl,HB.o _ _ _ _⟩
 rw[ax YE]at nI;have e24:(op==24)=false:=by simpa using YE
 by_cases o27:op=27
 ·subst o27;rw[aE rfl]at nI;clear n22 n23 n25 n26 YE;by_cases p0:0<=loop
  ·obtain⟨m,rfl⟩:=eS p0;simp only[Int.toNat_natCast,p0,decide_true,Bool.true_and]at nI;obtain⟨ab,r8,ea,a1,a2,a3,s0,-⟩:=HL.o.Yr (i:=m) G;rw[ea]at v6;have yT:=JT jty (jlt m);clear ea;by_cases p1:xa=(m:Int)
   ·subst p1;simp only[decide_true,Bool.true_and]at nI;by_cases p2:ty=(L.at_ m).ty
    ·have HJ:=Z (show _=true from nI.trans (by simpa using p2));have e9:((f_ ty).toList==(f_ (L.at_ m).ty).toList)=true:=by rw[beq_iff_eq,yT];exact p2
     clear nI p2 yT jty jlt;generalize f_ (L.at_ m).ty=t2 at*;generalize f_ ty=t1 at*;exact WE
    ·have HJ:=Z (show _=false from nI.trans (by simpa using p2));have e9:((f_ ty).toList==(f_ (L.at_ m).ty).toList)=false:=by rw[beq_eq_false_iff_ne,ne_eq,yT];exact p2
     clear nI p2 yT jty jlt;generalize f_ (L.at_ m).ty=t2 at*;generalize f_ ty=t1 at*;exact WE
   ·have HJ:=Z (show _=false from nI.trans (by simp[p1]));have p2:(xa==(m:Int))=false:=by simpa using p1
    clear nI p1 yT;exact WE
  ·have HJ:=Z (show _=false from nI.trans (by simp[p0]));have p1:decide (0<=loop)=false:=by simpa using p0
   clear nI p0;exact WE
 rw[ax o27]at nI;have e27:(op==27)=false:=by simpa using o27
 by_cases o0:op=0
 ·subst o0;have HJ:=Z (nI.trans (aE rfl));clear nI n22 n23 n25 n26 YE o27;exact V5
 have HJ:=Z (nI.trans (ax o0));have e0:(op==0)=false:=by simpa using o0
 clear nI n22 n23 n25 n26 YE o27 o0;exact V5
end
end Go.Rv
section
def qX6{p:Prop}(h:p:=by
 rcases h1 with h1|h1
 ·cases h1
 ·simp;intro e;subst e;exact h1 (by rw[X];rfl)):p:=h
namespace Go.Rv
open Go.RowKit al.Vm
open al hiding aS aw an
open Ma (dW cy bd vb aK a_)
open Vf (Kp gM pV tC bT aY)
def G4{W:ek}{E:TypeId}{A cap n z:Nat}{g:Nat->to}(h:Row W E 4 (H (O (I A 0)) n cap) n g)(hz:z<n)(v0 v1 v2 v3:to):
 Row ((((W.setCell (I A (z*4)) v0).setCell (I A (z*4+1)) v1).setCell (I A (z*4+2)) v2).setCell (I A (z*4+3)) v3) E 4 (H (O (I A 0)) n cap) n (λo=>if o / 4=z then(#[v0,v1,v2,v3]:Array to).getD (o % 4) undef else g o):=by
 refine Row.congr ((((h.set (o:=z*4) G v0).set (o:=z*4+1) G v1).set (o:=z*4+2) G v2).set (o:=z*4+3) G v3) ?_;intro o ho;by_cases e:o / 4=z
 ·rw[aE e];obtain⟨k,hk,rfl⟩:∃k,k<4/\o=z*4+k:=⟨o % 4,G,G⟩;rw[show(z*4+k) % 4=k by omega];have:k=0\/k=1\/k=2\/k=3:=G;rcases this with rfl|rfl|rfl|rfl<;>simp
 ·rw[ax e]
  repeat rw[ax G]
section
variable {w w':ek}{K:Kp}{p:aU}{mF lQ:to}{lb A cap:Nat}{L:mw}
def tF.put(h:tF w K p lb (H (O (I A 0)) p.code.length cap) mF lQ L){z:Nat}(hz:z<p.code.length)(s:mW){W':ek}
 (e:W'=((((w.setCell (I A (z*4)) (.string (f_ s.ty))).setCell (I A (z*4+1)) (Y s.loop)).setCell (I A (z*4+2)) (Y s.hand)).setCell (I A (z*4+3)) (.bool s.lZ))):
 tF W' K p lb (H (O (I A 0)) p.code.length cap) mF lQ {L with at_:=aS L.at_ z s}/\aC [A] w W':=by
 subst e;have f:aC [A] w ((((w.setCell (I A (z*4)) (.string (f_ s.ty))).setCell (I A (z*4+1)) (Y s.loop)).setCell (I A (z*4+2)) (Y s.hand)).setCell (I A (z*4+3)) (.bool s.lZ)):=
  ((((aC.refl [A] w).setCell (p:=(I A (z*4))) az _).setCell (p:=(I A (z*4+1))) az _).setCell (p:=(I A (z*4+2))) az _).setCell (p:=(I A (z*4+3))) az _
 have nb:lb∉[A]:=by have:=h.at_.fx h.dY bz;simp;intro e;exact this (by rw[e];rfl)
 have ab6:∀b,mF.ownBlock=O b->b∉[A]:=λb X=>by have h1:=h.at_.ne h.up bz;exact qX6
 have ns:∀b,lQ.ownBlock=O b->b∉[A]:=λb X=>by have h1:=h.at_.ne h.st bz;exact qX6
 refine⟨⟨h.dY.aG f nb,(G4 h.at_ hz _ _ _ _).congr λo ho=>?_,h.up.aG f ab6,h.st.aG f ns⟩,f⟩;unfold G3;by_cases e:o / 4=z
 ·rw[aE e,e];dsimp only;rw[aw]
 ·rw[ax e];dsimp only;rw[an _ _ e]
end
end Go.Rv
end
namespace Go.Rv
open Go.RowKit al.Vm
open al hiding aS aw an
open Ma (dW cy bd vb aK a_)
open Vf (Kp gM pV tC bT aY)
def eqS(s t:mW)(hs:fy s.ty)(ht:fy t.ty)(w:ek):(binOp .eql 262 (pD s) (pD t)).run prog w= .ok (.bool (decide (s=t))) w:=by
 obtain⟨a,b,c,d⟩:=s;obtain⟨a',b',c',d'⟩:=t;have hq:=JT hs ht;dsimp only at hq;have og:(((f_ a).toList==(f_ a').toList):Bool)=decide (a=a'):=by rw[jH,beq_iff_eq,hq,fj]
 unfold pD;dsimp only;have u3:=underlying3;have q3:=isAgg3;have z3:=sizeOf3;have u4:=underlying4;have q4:=isAgg4;have z4:=sizeOf4;have u9:=underlying9;have a1s:=isAgg9;have z9:=sizeOf9;rw[run_eql_struct];have hu:prog.underlying 262=O (.struct (prog.fieldsOf 262)):=by kernel_rfl
 have fY:prog.stoodInHeld 262=false:=by kernel_rfl
 have hf:=hu.symm.trans underlying262;simp only[iI,TypeDesc.struct.injEq]at hf;rw[run_equalIn_agg _ _ _ _ _ hu fY,hf];clear hf hu fY;simp only[Op.eqFields];go_simp;by_cases h1:a=a'
 ·subst h1;by_cases h2:b=b'
  ·subst h2;by_cases h3:c=c'
   ·subst h3;cases d<;>cases d'<;>simp
   ·simp[h3]
  ·simp[h2]
 ·simp[h1]
section
variable {w:ek}{K:Kp}{p:aU}{mF lQ:to}{lb A cap:Nat}{L:mw}
def vG(L:mw)(z:Nat)(s:mW):Bool×mw:=if(L.at_ z).lZ then(decide (L.at_ z=s),L)else(true,{L with at_:=aS L.at_ z s})
def LP(w:ek)(K:Kp)(p:aU)(lb A cap:Nat)(mF lQ:to)(L:mw)(z:Nat)(s:mW)(e:Ending)(w':ek):Prop:=
 e=Xc (.bool (vG L z s).1)/\(∃W,Below w.heap.size w W/\aC [A] W w')/\tF w' K p lb (H (O (I A 0)) p.code.length cap) mF lQ (vG L z s).2
def BP(hl:tF w K p lb (H (O (I A 0)) p.code.length cap) mF lQ L){z:Nat}(hz:z<p.code.length){s:mW}(hs:fy s.ty)(ht:fy (L.at_ z).ty):
 Calls prog 296 #[Oi lb,Y z,pD s] w (LP w K p lb A cap mF lQ L z s):=by
 have hq:=eqS (L.at_ z) s ht hs;have v6:Xf w (I lb 6)=O (H (O (I A 0)) p.code.length cap):=hl.dY.cell 6;have ll:=hl.dY.lt;obtain⟨b,pq,e,h1,h2,h3,c0,c1,c2,c3⟩:=hl.Yr hz;simp only[cL,iI,Addr.mk.injEq]at e;obtain⟨⟨rfl,-,-⟩,-,rfl⟩:=e;have HL:=Z hl;have HZ:=Z hz;have HB:=Z (λcs T=>(aZ w.heap.size w).alloc (aL _) (Xe cs T));have xz:∀o,w.frozen? (I A o)=false:=λo=>hl.at_.frozen o;cases hg:(L.at_ z).lZ with
 |true=>rw[hg]at c3;have HG:=Z (show vG L z s=(decide (L.at_ z=s),L)by unfold vG;rw[hg];rfl);unfold pD at hq ⊢;obtain⟨dd,Ao⟩:∃d,decide (L.at_ z=s)=d:=⟨_,rfl⟩;rw[Ao]at hq HG;rw[hg]at hq;clear hg hl Ao xz;generalize f_ (L.at_ z).ty=t1 at*;generalize(L.at_ z).loop=l1 at*;generalize(L.at_ z).hand=h1' at*;generalize f_ s.ty=t2 at*;generalize s.loop=l2 at*;generalize s.hand=h2' at*;generalize s.lZ=g2 at*;go_enter func296,ntmps296;go_wp2;go_quiet (fail);go_wp2;go_ret;exact⟨by rw[HG.o];rfl,⟨_,(HB.o _ _).trans (aA _ _ _),aC.refl _ _⟩,by rw[HG.o];exact(HL.o.aG ((aC.refl [] w).alloc _)).aG (aC.ai (aA _ _ _))⟩
 |false=>
  rw[hg]at c3;have HG:=Z (show vG L z s=(true,{L with at_:=aS L.at_ z s})by unfold vG;rw[hg];rfl);have NG:=Z (λ(V:ek) (X:Below w.heap.size w V)=>tF.put (hl.aG (aC.ai X)) hz s rfl);have fS:=HB.o #[.string (f_ s.ty),Y s.loop,Y s.hand,.bool s.lZ] 262;have kx:aH (w.alloc (Xe #[.string (f_ s.ty),Y s.loop,Y s.hand,.bool s.lZ] 262)) w.heap.size 262 #[.string (f_ s.ty),Y s.loop,Y s.hand,.bool s.lZ]:=aH.new _ _ _;clear hg hl hq;unfold pD;generalize f_ (L.at_ z).ty=t1 at*;generalize(L.at_ z).loop=l1 at*;generalize(L.at_ z).hand=h1' at*;generalize f_ s.ty=t2 at*;generalize s.loop=l2 at*;generalize s.hand=h2' at*;generalize s.lZ=g2 at*;go_enter func296,ntmps296;go_wp2_with fail;obtain⟨W1,DX⟩:∃W1,W1=w.alloc (Xe #[.string t2,Y l2,Y h2',.bool g2] 262):=⟨_,rfl⟩;rw[<-DX]at fS kx ⊢;have key:∀b o v,Xf w (I b o)=O v->Xf W1 (I b o)=O v:=λb o v h=>(aR (fS.block _ (ay h))).trans h;replace c0:=key _ _ _ c0;replace c1:=key _ _ _ c1;replace c2:=key _ _ _ c2;replace c3:=key _ _ _ c3;replace v6:=key _ _ _ v6;obtain⟨d0,d1,d2,d3⟩:=kx.c4;have dS:=Z fS;clear DX kx key fS xz;generalize gP:w.heap.size=bx at*;have lL:=Z gP;clear gP
  go_still_tail 7,bj
  change wpList _ _ _ _ _ (W1.drewN 1);have dR:=dS.o.trans (aA _ W1 1);have xz:∀o,(W1.drewN 1).frozen? (I A o)=false:=λo=>(World.frozen?_of_block (dR.block _ h3)).trans (HL.o.at_.frozen o);have HP:=Z (NG.o (W1.drewN 1) dR);have fR:=Z dR;have o0:(W1.drewN 1).cell? (I A (z*4))=O (.string t1):=c0;have o1:(W1.drewN 1).cell? (I A (z*4+1))=O (Y l1):=c1;have o2:(W1.drewN 1).cell? (I A (z*4+2))=O (Y h1'):=c2;have o3:(W1.drewN 1).cell? (I A (z*4+3))=O (.bool false):=c3;clear dR c0 c1 c2 c3 d0 d1 d2 d3 v6;generalize W1.drewN 1=V0 at*;go_wp2;go_ret;exact⟨by rw[HG.o];rfl,⟨V0,by rw[lL.o];exact fR.o,HP.o.2⟩,by rw[HG.o];exact HP.o.1⟩
def FG(J:Nat->to):Act:={tmps:=#[J 0,J 1,J 2,J 3,J 4,J 5,J 6,J 7,J 8,J 9,J 10,J 11,J 12,J 13,J 14,J 15,J 16,J 17,J 18,J 19,J 20,J 21,J 22,J 23,J 24,J 25,J 26,J 27,J 28,J 29,J 30,J 31,J 32,J 33,J 34,J 35,J 36,J 37,J 38,J 39,J 40,J 41,J 42,J 43,J 44,J 45,J 46,J 47,J 48,J 49,J 50,J 51,J 52,J 53,J 54,J 55,J 56,J 57,J 58,J 59,J 60,J 61,J 62,J 63,J 64,J 65,J 66,J 67,J 68,J 69,J 70,J 71,J 72,J 73,J 74,J 75,J 76,J 77,J 78,J 79,J 80,J 81,J 82,J 83,J 84,J 85,J 86],defers:=[]}
def FG.of(A:Array to)(h:A=(FG λk=>A.getD k undef).tmps):({tmps:=A,defers:=[]}:Act)=FG λk=>A.getD k undef:=by rw[h];rfl
def zW:Nat×mW:=(0,s0)
structure kY(W:ek)(lo:Nat)(nv wv:to)(l:List (Nat×mW)):Prop where
 n:Row W 3 1 nv l.length (λi=> Y ((l.getD i zW).1:Nat))
 s:Row W 262 4 wv l.length (G3 λi=>(l.getD i zW).2)
 nl:∀b,nv.ownBlock=O b->lo<=b
 wl:∀b,wv.ownBlock=O b->lo<=b
def kY.one{W:ek}{lo bn bs:Nat}{a:Nat}{s:mW}{cn cs:Array to}(kn:aH W bn 3 cn)(ks:aH W bs 262 cs)(h1:lo<=bn)(h2:lo<=bs)(en:cn=#[Y a])(es:cs=#[.string (f_ s.ty),Y s.loop,Y s.hand,.bool s.lZ]):
 kY W lo (H (O (I bn 0)) 1 1) (H (O (I bs 0)) 1 1) [(a,s)]:=by
 subst en es;refine⟨Row.made kn rfl bz (λi hi=>?_),Row.made ks rfl bz (λo ho=>?_),λb X=>by cases X;exact h1,λb X=>by cases X;exact h2⟩
 ·obtain rfl:i=0:=G;rfl
 ·have:o=0\/o=1\/o=2\/o=3:=G;rcases this with rfl|rfl|rfl|rfl<;>rfl
def kY.two{W:ek}{lo bn bs:Nat}{a b:Nat}{s t:mW}{cn cs:Array to}(kn:aH W bn 3 cn)(ks:aH W bs 262 cs)(h1:lo<=bn)(h2:lo<=bs)(en:cn=#[Y a,Y b])(es:cs=#[.string (f_ s.ty),Y s.loop,Y s.hand,.bool s.lZ,.string (f_ t.ty),Y t.loop,Y t.hand,.bool t.lZ]):
 kY W lo (H (O (I bn 0)) 2 2) (H (O (I bs 0)) 2 2) [(a,s),(b,t)]:=by
 subst en es;refine⟨Row.made kn rfl bz (λi hi=>?_),Row.made ks rfl bz (λo ho=>?_),λb X=>by cases X;exact h1,λb X=>by cases X;exact h2⟩
 ·have:i=0\/i=1:=G;rcases this with rfl|rfl<;>rfl
 ·have:o=0\/o=1\/o=2\/o=3\/o=4\/o=5\/o=6\/o=7:=G;rcases this with rfl|rfl|rfl|rfl|rfl|rfl|rfl|rfl<;>rfl
def kY.nil(W:ek)(lo:Nat):kY W lo Xd Xd []:=⟨Row.nil _ _ _ _,Row.nil _ _ _ _,λb X=>(by cases X),λb X=>(by cases X)⟩
def kY.low{W:ek}{lo vq:Nat}{nv wv:to}{l:List (Nat×mW)}(h:kY W lo nv wv l)(hh:vq<=lo):kY W vq nv wv l:=⟨h.n,h.s,λb X=>bS hh (h.nl b X),λb X=>bS hh (h.wl b X)⟩
def RG(V:ek)(l:List (Nat×mW))(a:Act)(W:ek):Prop:=∃(J:Nat->to) (nv wv:to),a=FG J/\J 6=nv/\J 7=wv/\Hid (Below V.heap.size V W)/\Hid (kY W V.heap.size nv wv l)
def AI(w:ek)(K:Kp)(p:aU)(lb:Nat)(jN mF lQ:to)(L:mw)(pc:Nat)(x:Ins)(s:mW)(e:Ending)(w':ek):Prop:=∃nv wv,e=Xc (.tuple #[nv,wv])/\aC mF.ownBlock.toList w w'/\tF w' K p lb jN mF lQ (ij L pc x s.loop)/\kY w' w.heap.size nv wv (eP (ij L pc x s.loop) pc x s)
def LR{P:Program}{fn:Func}{R:Ending->ek->Prop}{A:Array to}{w:ek}{t u:Tmp}(h:fn.results=#[.tmp t,.tmp u])(hR:R (Xc (.tuple #[A.getD t undef,A.getD u undef])) w):Exit.noGoto (bodyPost P fn R) .ret {tmps:=A,defers:=[]} w:=by rw[Exit.noGoto_ret];exact Vf.Vg h hR
def tF.aeH{w:ek}{K:Kp}{p:aU}{lb U cap:Nat}{jN lQ:to}{L:mw}(h:tF w K p lb jN (H (O (I U 0)) p.code.length cap) lQ L){z:Nat}(hz:z<p.code.length)(n:Int):
 tF (w.setCell (I U z) (Y n)) K p lb jN (H (O (I U 0)) p.code.length cap) lQ {L with up:=aS L.up z n}/\aC [U] w (w.setCell (I U z) (Y n)):=by
 have f:aC [U] w (w.setCell (I U z) (Y n)):=(aC.refl [U] w).setCell (p:=(I U z)) az _;have nb:lb∉[U]:=by have:=h.up.fx h.dY bz;simp;intro e;exact this (by rw[e];rfl)
 have na:∀b,jN.ownBlock=O b->b∉[U]:=λb X=>by have h1:=h.up.ne h.at_ bz;exact qX6
 have ns:∀b,lQ.ownBlock=O b->b∉[U]:=λb X=>by have h1:=h.up.ne h.st bz;exact qX6
 refine⟨⟨h.dY.aG f nb,h.at_.aG f na,(h.up.set (o:=z) G (Y n)).congr λo ho=>?_,h.st.aG f ns⟩,f⟩;show _=Y (aS L.up z n o);rw[dw];by_cases e:o=z
 ·rw[aE e,aE e]
 ·rw[ax e,ax e]
variable {jN:to}{x:Ins}
def L8{p:Prop}(h:p:=by
 have y0:=key _ _ _ YZ;have y1:=key _ _ _ EA;have y2:=key _ _ _ Y5;have y3:=key _ _ _ Y6;exact qZ):p:=h
def S9{p:Prop}(h:p:=by
 have key:∀b i v,Xf V2 (I b i)=O v->Xf wz (I b i)=O v:=λb i v hc=>(aR (fF.block _ (ay hc))).trans hc;exact L8):p:=h
def L9{p:Prop}(h:p:=by
 have key:∀b i v,Xf V2 (I b i)=O v->Xf wz (I b i)=O v:=λb i v hc=>(aR (fF.block _ (ay hc))).trans hc;have y0:=key _ _ _ t0';have y1:=key _ _ _ t1';have y2:=key _ _ _ t2';have y3:=key _ _ _ t3';exact qZ):p:=h
def Sc{p:Prop}(h:p:=by
 rintro e a W ⟨rfl,J,nv,wv,rfl,j6,j7,qN,HW9⟩;unfold FG;rw[j6,j7];clear j6 j7;go_wp2_with fail;refine LR rfl ?_;exact SB.o _ _ _ _ HW.o HU.o qN.o HW9.o):p:=h
def zo{p:Prop}(h:p:=by
 have key:∀b i v,Xf V (I b i)=O v->Xf wz (I b i)=O v:=λb i v hc=>(aR (fF.block _ (ay hc))).trans hc;exact L8):p:=h
def sf{p:Prop}(h:p:=by
 refine Mk.tk 3 (v:=?_) rfl (λwz fF=>?_) au ?_;rotate_left
 ·exact zo
 refine Mk.pt ?_;refine Mk.oH (rs:=[2,4]) (bX rfl (λK9 hK=>?_) (bX rfl (λK9 hK=>?_) cz))
 ·refine fL ?_;go_simp;refine hK.out _ _ (au.alloc au.size _) (λau=>?_);clear hK K9;refine Mk.pt ?_;refine Mk.cD 5 ?_;refine Mk.oH (rs:=[4]) (bX rfl (λK9 hK=>?_) cz);refine fL ?_;go_simp;refine hK.out _ _ (au.alloc au.size _) (λau=>?_);clear hK K9;refine Mk.pt ?_;refine Mk.cD 6 ?_;refine eT bj ⟨rfl,rfl,_,_,_,FG.of _ rfl,rfl,rfl,Z au,Z ?_⟩ _;exact kY.one ((aH.new _ _ _).alloc _) (aH.bK az) az az rfl rfl
 ·refine fL ?_;go_simp;refine hK.out _ _ (au.alloc au.size _) (λau=>?_);clear hK K9;refine Mk.pt ?_;refine Mk.oH (rs:=[2]) (bX rfl (λK9 hK=>?_) cz);refine fL ?_;go_simp;refine hK.out _ _ (au.alloc au.size _) (λau=>?_);clear hK K9;refine Mk.pt ?_;refine Mk.cD 5 ?_;refine Mk.cD 6 ?_;refine eT bj ⟨rfl,rfl,_,_,_,FG.of _ rfl,rfl,rfl,Z au,Z ?_⟩ _;exact kY.one (aH.bK az) ((aH.new _ _ _).alloc _) az az rfl rfl):p:=h
def VZ{p:Prop}(h:p:=by
 refine Mk.pt ?_;refine Mk.oH (rs:=[4,7]) (bX rfl (λK9 hK=>?_) (bX rfl (λK9 hK=>?_) cz))
 ·refine fL ?_;go_simp;refine hK.out _ _ (au.alloc au.size _) (λau=>?_);clear hK K9;refine Mk.pt ?_;refine Mk.cD 8 ?_;refine Mk.oH (rs:=[7]) (bX rfl (λK9 hK=>?_) cz);refine fL ?_;go_simp;refine hK.out _ _ (au.alloc au.size _) (λau=>?_);clear hK K9;refine Mk.pt ?_;refine Mk.cD 9 ?_;refine eT bj ⟨rfl,rfl,_,_,_,FG.of _ rfl,rfl,rfl,Z au,Z ?_⟩ _;exact kY.two ((aH.new _ _ _).alloc _) (aH.bK az) az az rfl rfl
 ·refine fL ?_;go_simp;refine hK.out _ _ (au.alloc au.size _) (λau=>?_);clear hK K9;refine Mk.pt ?_;refine Mk.oH (rs:=[4]) (bX rfl (λK9 hK=>?_) cz);refine fL ?_;go_simp;refine hK.out _ _ (au.alloc au.size _) (λau=>?_);clear hK K9;refine Mk.pt ?_;refine Mk.cD 8 ?_;refine Mk.cD 9 ?_;refine eT bj ⟨rfl,rfl,_,_,_,FG.of _ rfl,rfl,rfl,Z au,Z ?_⟩ _;exact kY.two (aH.bK az) ((aH.new _ _ _).alloc _) az az rfl rfl):p:=h
def abo{pc:Nat}{s:mW}(h:gM w K p)(hl:tF w K p lb jN mF lQ L)(hx:ak p pc=x)(pN:pc<p.code.length)(hlen:p.code.length<=262144)(AW:(x.op=22\/x.op=23\/x.op=25\/x.op=26)->0<=x.a/\x.a<p.code.length)(EQ:x.op=26->0<=s.loop/\s.loop<p.code.length):
 Calls prog 295 #[Oi lb,Y pc,pD s] w (AI w K p lb jN mF lQ L pc x s):=by
 obtain⟨cb,An,Du,kc,q1,q2,c0,c1,c2,c3,c4⟩:=h.ins pN;rw[hx]at c0 c1 c2 c3 c4;have lc:=ay c0;obtain⟨-,-,-,-,-,v5,-,v7⟩:=hl.dY.c8;have ll:=hl.dY.lt;rw[kc]at v5;have HL:=Z hl;clear h hl kc hx;obtain⟨op,xa,xb,xc,xd⟩:=x;dsimp only at c0 c1 c2 c3 c4 AW EQ;obtain⟨V,hV⟩:∃V,V=(w.alloc (Xe #[.string (f_ s.ty),Y s.loop,Y s.hand,.bool s.lZ] 262)).alloc (Xe #[Y op,Y xa,Y xb,Y xc,Y xd] 40):=⟨_,rfl⟩;have ks:aH V w.heap.size 262 #[.string (f_ s.ty),Y s.loop,Y s.hand,.bool s.lZ]:=by rw[hV];exact(aH.new _ _ _).alloc _
 have kx:aH V (w.heap.size+1) 40 #[Y op,Y xa,Y xb,Y xc,Y xd]:=by rw[hV];exact aH.bK az
 have X:Below w.heap.size w V:=by rw[hV];exact((aZ _ _).alloc (aL _) _).alloc az _
 have HB:=Z X;have HKS:=Z ks;have Mt:=Z (HL.o.aG (aC.ai X));obtain⟨YZ,EA,Y5,Y6⟩:=ks.c4;obtain⟨x0',SC⟩:=kx.c2;have v7':Xf V (I lb 7)=O mF:=(aR (X.block _ ll)).trans v7;have ll':lb<V.heap.size:=dC ll X.size;have lS:=ks.lt;have lX:=kx.lt;have w1:IntKind.i64.wrap ((pc:Int)+1)=((pc+1:Nat):Int):=by rw[bJ _ kS];omega
 have hE:=Z X;have HP:=Z (rfl:pc=pc);have SB:=Z (λW (nv wv:to) (l:List (Nat×mW)) (hw:eP (ij L pc ⟨op,xa,xb,xc,xd⟩ s.loop) pc ⟨op,xa,xb,xc,xd⟩ s=l) (hu:ij L pc ⟨op,xa,xb,xc,xd⟩ s.loop=L) (X:Below V.heap.size V W) (h:kY W V.heap.size nv wv l)=>show AI w K p lb jN mF lQ L pc ⟨op,xa,xb,xc,xd⟩ s (Xc (.tuple #[nv,wv])) W from
  ⟨nv,wv,rfl,((aC.ai (S:=[]) HB.o).trans (aC.ai X)).mono az,by rw[hu];exact Mt.o.aG (aC.ai X),by rw[hu]at hw ⊢;rw[hw];exact⟨h.n,h.s,λb e=>bS HB.o.size (h.nl b e),λb e=>bS HB.o.size (h.wl b e)⟩⟩)
 by_cases o1:op=0\/op=27
 ·have HW:=Z (show eP (ij L pc ⟨op,xa,xb,xc,xd⟩ s.loop) pc ⟨op,xa,xb,xc,xd⟩ s=[]by unfold eP;rw[aE o1]);have HU:=Z (show ij L pc ⟨op,xa,xb,xc,xd⟩ s.loop=L by unfold ij;rw[ax (by dsimp only;omega)]);rcases o1 with rfl|rfl
  all_goals
   unfold pD;go_enter func295,ntmps295;go_wp2_with fail;rw[<-hV];refine LR rfl ?_;exact SB.o _ _ _ _ HW.o HU.o (aZ _ _) (kY.nil _ _)
 have e0:(op==0)=false:=by simp;omega
 have e27:(op==27)=false:=by simp;omega
 by_cases o2:op=22
 ·subst o2;obtain⟨xm,rfl⟩:=eS (AW az).1;have HW:=Z (show eP (ij L pc ⟨22,xm,xb,xc,xd⟩ s.loop) pc ⟨22,xm,xb,xc,xd⟩ s=[(xm,s)]by unfold eP;simp);have HU:=Z (show ij L pc ⟨22,xm,xb,xc,xd⟩ s.loop=L by unfold ij;simp);unfold pD;go_enter func295,ntmps295;go_wp2_with fail;rw[<-hV];clear hV c0 c1 c2 c3 c4 lc v5 v7 ll ks kx X hlen pN q1 q2;generalize w.heap.size=bx at*;refine wp_mono (Q:=λe a W=>e=Exit.normal/\RG V [(xm,s)] a W) ?_ ?_
  ·refine Mk.bq (S:=λwx=>Below V.heap.size V wx) bj (aA _ V 1) (λau=>?_);refine Mk.cD 0 ?_;refine Mk.tkL 1 SC ?_;exact sf
  ·exact Sc
 have e22:(op==22)=false:=by simp;omega
 by_cases o3:op=23
 ·subst o3;obtain⟨xm,rfl⟩:=eS (AW az).1;have HW:=Z (show eP (ij L pc ⟨23,xm,xb,xc,xd⟩ s.loop) pc ⟨23,xm,xb,xc,xd⟩ s=[(pc+1,s),(xm,s)]by unfold eP;simp);have HU:=Z (show ij L pc ⟨23,xm,xb,xc,xd⟩ s.loop=L by unfold ij;simp);unfold pD;go_enter func295,ntmps295;go_wp2_with fail;rw[<-hV];clear hV c0 c1 c2 c3 c4 lc v5 v7 ll ks kx X hlen pN q1 q2;generalize w.heap.size=bx at*;refine wp_mono (Q:=λe a W=>e=Exit.normal/\RG V [(pc+1,s),(xm,s)] a W) ?_ ?_
  ·refine Mk.bq (S:=λwx=>Below V.heap.size V wx) bj (aA _ V 1) (λau=>?_);refine Mk.cD 0 ?_;refine Mk.cD 1 ?_;refine Mk.cD 2 ?_;refine Mk.tkL 3 SC ?_;refine Mk.tk 5 (v:=?_) rfl (λwz fF=>?_) au ?_;rotate_left
   ·exact zo
   refine Mk.pt ?_;refine Mk.tk 6 (v:=?_) rfl (λwz fF=>?_) au ?_;rotate_left
   ·exact zo
   exact VZ
  ·exact Sc
 have e23:(op==23)=false:=by simp;omega
 by_cases o4:op=25
 ·subst o4;obtain⟨xm,rfl⟩:=eS (AW az).1;have HU:=Z (show ij L pc ⟨25,xm,xb,xc,xd⟩ s.loop={L with up:=aS L.up pc s.loop}by unfold ij;simp);have HW:=Z (show eP (ij L pc ⟨25,xm,xb,xc,xd⟩ s.loop) pc ⟨25,xm,xb,xc,xd⟩ s=[(pc+1,{s with loop:=(pc:Int)}),(xm,s)]by unfold eP;simp);obtain⟨U,WI,hu,u1,u2,u3⟩:=HL.o.upc pN;have u0':Xf V (I U pc)=O (Y (L.up pc)):=(aR (X.block _ u2)).trans u3;have Ht:=Z pN;rw[hu]at v7';have HUV:=Z hu;have ab1:U<V.heap.size:=dC u2 X.size;have hUX:Hid (U<w.heap.size):=Z u2;have NG:=Z (λ(a0b:ek) (hz:Below V.heap.size V a0b)=>(show tF a0b K p lb jN (H (O (I U 0)) p.code.length WI) lQ L by rw[<-hu];exact Mt.o.aG (aC.ai hz)).aeH pN s.loop);have aeM:=Z (λa0b W (nv wv:to) (l:List (Nat×mW)) (hw:eP (ij L pc ⟨25,xm,xb,xc,xd⟩ s.loop) pc ⟨25,xm,xb,xc,xd⟩ s=l) (f:aC [U] V a0b) (hz:tF a0b K p lb jN (H (O (I U 0)) p.code.length WI) lQ {L with up:=aS L.up pc s.loop}) (X:Below a0b.heap.size a0b W) (h:kY W a0b.heap.size nv wv l)=>show AI w K p lb jN mF lQ L pc ⟨25,xm,xb,xc,xd⟩ s (Xc (.tuple #[nv,wv])) W from
   ⟨nv,wv,rfl,by rw[HUV.o];exact((aC.ai HB.o).trans f).trans (aC.ai X),by rw[HU.o,HUV.o];exact hz.aG (aC.ai X),by rw[hw];exact h.low (bS HB.o.size f.size)⟩)
  clear u2 u3 hu;unfold pD;go_enter func295,ntmps295;go_wp2_with fail;rw[<-hV];clear hV c0 c1 c2 c3 c4 lc v5 v7 ll ks kx X hlen pN q1 q2;generalize w.heap.size=bx at*;have pN:=Ht.o
  go_still_tail 8,bj
  change wpList _ _ _ _ _ (V.drewN 1);have dR:=aA V.heap.size V 1;have hP:=NG.o _ dR;have GD:=Z hP.1;have OC:=Z hP.2;have xz:∀o,(V.drewN 1).frozen? (I U o)=false:=λo=>by have h9:=(Mt.o.aG (aC.ai dR)).up;rw[HUV.o]at h9;exact h9.frozen o
  replace u0':(V.drewN 1).cell? (I U pc)=O (Y (L.up pc)):=u0';replace YZ:(V.drewN 1).cell? (I bx 0)=O (.string (f_ s.ty)):=YZ;replace EA:(V.drewN 1).cell? (I bx 1)=O (Y s.loop):=EA;replace Y5:(V.drewN 1).cell? (I bx 2)=O (Y s.hand):=Y5;replace Y6:(V.drewN 1).cell? (I bx 3)=O (.bool s.lZ):=Y6;replace SC:(V.drewN 1).cell? (I (bx+1) 1)=O (Y xm):=SC;have fR:=Z dR;have zq:=Z (And.intro lS lX);clear dR hP x0' v7' ab1 lS lX ll';replace lS:bx<(V.drewN 1).heap.size:=zq.o.1;replace lX:bx+1<(V.drewN 1).heap.size:=zq.o.2;have uy:bx≠U:=by have:=hUX.o;omega
  have tB:bx+1≠U:=by have:=hUX.o;omega
  generalize V.drewN 1=V0 at*;go_wp2_with fail;obtain⟨V2,E5⟩:∃V2,V2=(V0.setCell (I U pc) (Y s.loop)).alloc (Xe #[.string (f_ s.ty),Y pc,Y s.hand,.bool s.lZ] 262):=⟨_,rfl⟩;rw[<-E5];have k9:aH V2 V0.heap.size 262 #[.string (f_ s.ty),Y pc,Y s.hand,.bool s.lZ]:=by rw[E5];exact aH.bK az
  have f9:aC [U] V0 V2:=by rw[E5];exact OC.o.alloc _
  have HF9:=Z ((aC.ai (S:=[U]) fR.o).trans f9);have HL9:=Z (show tF V2 K p lb jN (H (O (I U 0)) p.code.length WI) lQ {L with up:=aS L.up pc s.loop}by rw[E5];exact GD.o.aG ((aC.refl [] _).alloc _));have vH:∀b o v,b≠U->Xf V0 (I b o)=O v->Xf V2 (I b o)=O v:=λb o v hn hc=>(aR (f9.block _ (ay hc) (by simpa using hn))).trans hc;replace YZ:=vH _ _ _ uy YZ;replace EA:=vH _ _ _ uy EA;replace Y5:=vH _ _ _ uy Y5;replace Y6:=vH _ _ _ uy Y6;replace SC:=vH _ _ _ tB SC;obtain⟨t0',t1',t2',t3'⟩:=k9.c4;clear E5 k9 f9 vH GD OC xz u0' lS lX;generalize V0.heap.size=b9 at*;refine wp_mono (Q:=λe a W=>e=Exit.normal/\RG V2 [(pc+1,{s with loop:=(pc:Int)}),(xm,s)] a W) ?_ ?_
  ·refine Mk.bq (S:=λwx=>Below V2.heap.size V2 wx) bj (aA _ V2 1) (λau=>?_);refine Mk.cD 0 ?_;refine Mk.cD 1 ?_;refine Mk.cD 2 ?_;refine Mk.tkL 3 SC ?_;refine Mk.tk 5 (v:=?_) rfl (λwz fF=>?_) au ?_;rotate_left
   ·exact L9
   refine Mk.pt ?_;refine Mk.tk 6 (v:=?_) rfl (λwz fF=>?_) au ?_;rotate_left
   ·exact S9
   exact VZ
  ·rintro e a W ⟨rfl,J,nv,wv,rfl,j6,j7,qN,HW9⟩;unfold FG;rw[j6,j7];clear j6 j7;go_wp2_with fail;refine LR rfl ?_;exact aeM.o _ _ _ _ _ HW.o HF9.o HL9.o qN.o HW9.o
 have e25:(op==25)=false:=by simp;omega
 by_cases o5:op=26
 ·subst o5;obtain⟨xm,rfl⟩:=eS (AW az).1;obtain⟨lm,Ex⟩:=eS (EQ rfl).1;have be:lm<p.code.length:=by have:=(EQ rfl).2;omega
  have HU:=Z (show ij L pc ⟨26,xm,xb,xc,xd⟩ s.loop=L by unfold ij;simp);have HW:=Z (show eP (ij L pc ⟨26,xm,xb,xc,xd⟩ s.loop) pc ⟨26,xm,xb,xc,xd⟩ s=[(pc+1,s),(xm,{s with loop:=L.up lm})]by rw[HU.o];unfold eP;simp[Ex]);obtain⟨U,WI,hu,u1,u2,u3⟩:=HL.o.upc be;have u0':Xf V (I U lm)=O (Y (L.up lm)):=(aR (X.block _ u2)).trans u3;rw[hu]at v7';rw[Ex]at EA;have HLM:=Z Ex;have Qi:=Z (show V.heap.size=w.heap.size+1+1 by rw[hV];simp);clear u2 u3 hu EQ AW Ex;unfold pD;go_enter func295,ntmps295;go_wp2_with fail;rw[<-hV];clear hV c0 c1 c2 c3 c4 lc v5 v7 ll ks kx X hlen pN q1 q2;generalize w.heap.size=bx at*;obtain⟨V1,LF⟩:∃V1,V1=V.alloc (Xe #[.string (f_ s.ty),Y s.loop,Y s.hand,.bool s.lZ] 262):=⟨_,rfl⟩;rw[<-LF];have k9:aH V1 (bx+1+1) 262 #[.string (f_ s.ty),Y s.loop,Y s.hand,.bool s.lZ]:=by rw[LF,<-Qi.o];exact aH.new _ _ _
  have fS:Below V.heap.size V V1:=by rw[LF];exact(aZ _ _).alloc (aL _) _
  have vH:∀b o v,Xf V (I b o)=O v->(V1.drewN 1).cell? (I b o)=O v:=λb o v hc=>(aR (fS.block _ (ay hc))).trans hc;have WJ:∀b o v,Xf V (I b o)=O v->Xf V1 (I b o)=O v:=vH;have HK9:=Z k9;have dS:=Z fS;have S8:=Z (And.intro (vH _ _ _ YZ) (And.intro (vH _ _ _ EA) (And.intro (vH _ _ _ Y5) (And.intro (vH _ _ _ Y6) (vH _ _ _ SC)))));replace v7':=WJ _ _ _ v7';replace u0':=WJ _ _ _ u0';replace EA:=WJ _ _ _ EA;replace ll':lb<V1.heap.size:=dC ll' fS.size;have lS2:bx<V1.heap.size:=dC lS fS.size;have HN9:=Z (And.intro lS lX);have l9:=k9.lt;clear LF vH WJ YZ Y5 Y6 x0' SC lS lX fS k9
  go_still_tail 9,bj
  change wpList _ _ _ _ _ (V1.drewN 1);have k8:aH (V1.drewN 1) (bx+1+1) 262 #[.string (f_ s.ty),Y s.loop,Y s.hand,.bool s.lZ]:=HK9.o.drewN 1;obtain⟨t0',t1',t2',t3'⟩:=k8.c4;have xz:=k8.frozen;have fR:=Z (dS.o.trans ((aA _ V1 1).mono dS.o.size));have HK8:=Z k8;replace l9:=k8.lt;clear k8 v7' u0' ll' lS2 EA;generalize V1.drewN 1=V0 at*;go_wp2_with fail;obtain⟨V2,E5⟩:∃V2,V2=V0.setCell (I (bx+1+1) 1) (Y (L.up lm)):=⟨_,rfl⟩;rw[<-E5];have k7:aH V2 (bx+1+1) 262 #[.string (f_ s.ty),Y (L.up lm),Y s.hand,.bool s.lZ]:=by rw[E5];exact HK8.o.set 1 _
  have mM:=Z (show Below V.heap.size V V2 by rw[E5];exact fR.o.setCell (p:=(I (bx+1+1) 1)) (by show V.heap.size<=bx+1+1;rw[Qi.o];exact aL _) _);have f9:aC [bx+1+1] V0 V2:=by rw[E5];exact(aC.refl _ _).setCell (p:=(I (bx+1+1) 1)) az _
  have Od:∀b o v,b<V.heap.size->Xf V0 (I b o)=O v->Xf V2 (I b o)=O v:=λb o v hn hc=>(aR (f9.block _ (ay hc) (by have:=Qi.o;simp;omega))).trans hc;have YZ:=Od _ _ _ HN9.o.1 S8.o.1;have EA:=Od _ _ _ HN9.o.1 S8.o.2.1;have Y5:=Od _ _ _ HN9.o.1 S8.o.2.2.1;have Y6:=Od _ _ _ HN9.o.1 S8.o.2.2.2.1;have SC:=Od _ _ _ HN9.o.2 S8.o.2.2.2.2;rw[<-HLM.o]at EA;replace t0':Xf V2 (I (bx+1+1) 0)=O (.string (f_ s.ty)):=k7.cell 0;replace t1':Xf V2 (I (bx+1+1) 1)=O (Y (L.up lm)):=k7.cell 1;replace t2':Xf V2 (I (bx+1+1) 2)=O (Y s.hand):=k7.cell 2;replace t3':Xf V2 (I (bx+1+1) 3)=O (.bool s.lZ):=k7.cell 3;clear E5 k7 f9 Od xz l9 HK8 HK9 S8;refine wp_mono (Q:=λe a W=>e=Exit.normal/\RG V2 [(pc+1,s),(xm,{s with loop:=L.up lm})] a W) ?_ ?_
  ·refine Mk.bq (S:=λwx=>Below V2.heap.size V2 wx) bj (aA _ V2 1) (λau=>?_);refine Mk.cD 0 ?_;refine Mk.cD 1 ?_;refine Mk.cD 2 ?_;refine Mk.tkL 3 SC ?_;refine Mk.tk 5 (v:=?_) rfl (λwz fF=>?_) au ?_;rotate_left
   ·exact S9
   refine Mk.pt ?_;refine Mk.tk 6 (v:=?_) rfl (λwz fF=>?_) au ?_;rotate_left
   ·exact L9
   exact VZ
  ·rintro e a W ⟨rfl,J,nv,wv,rfl,j6,j7,qN,HW9⟩;unfold FG;rw[j6,j7];clear j6 j7;go_wp2_with fail;refine LR rfl ?_;exact SB.o _ _ _ _ HW.o HU.o (mM.o.trans (qN.o.mono mM.o.size)) (HW9.o.low mM.o.size)
 have e26:(op==26)=false:=by simp;omega
 have HW:=Z (show eP (ij L pc ⟨op,xa,xb,xc,xd⟩ s.loop) pc ⟨op,xa,xb,xc,xd⟩ s=[(pc+1,s)]by unfold eP;dsimp only;rw[ax o1,ax o2,ax o3,ax o4,ax o5]);have HU:=Z (show ij L pc ⟨op,xa,xb,xc,xd⟩ s.loop=L by unfold ij;dsimp only;rw[ax o4]);clear o1 o2 o3 o4 o5 AW EQ;unfold pD;go_enter func295,ntmps295;go_wp2_with fail;rw[<-hV];clear hV c0 c1 c2 c3 c4 lc v5 v7 ll ks kx X hlen pN q1 q2;generalize w.heap.size=bx at*;refine wp_mono (Q:=λe a W=>e=Exit.normal/\RG V [(pc+1,s)] a W) ?_ ?_
 ·refine Mk.bq (S:=λwx=>Below V.heap.size V wx) bj (aA _ V 1) (λau=>?_);refine Mk.cD 0 ?_;refine Mk.cD 1 ?_;exact sf
 ·exact Sc
end
open Vf (i_ oL dN vw qj nE)
def FC(J:Nat->to):Act:={tmps:=#[J 0,J 1,J 2,J 3,J 4,J 5,J 6,J 7,J 8,J 9,J 10,J 11,J 12,J 13,J 14,J 15,J 16,J 17,J 18,J 19,J 20,J 21,J 22,J 23,J 24,J 25,J 26,J 27,J 28,J 29,J 30,J 31,J 32,J 33,J 34,J 35,J 36,J 37,J 38,J 39,J 40,J 41,J 42,J 43,J 44,J 45,J 46,J 47,J 48,J 49,J 50,J 51,J 52,J 53,J 54,J 55,J 56,J 57,J 58,J 59,J 60,J 61,J 62,J 63,J 64,J 65,J 66,J 67,J 68,J 69,J 70,J 71,J 72,J 73,J 74,J 75,J 76,J 77,J 78,J 79,J 80,J 81,J 82,J 83,J 84,J 85,J 86,J 87,J 88,J 89,J 90,J 91,J 92,J 93,J 94,J 95,J 96,J 97,J 98,J 99,J 100,J 101,J 102,J 103,J 104,J 105,J 106,J 107,J 108,J 109,J 110,J 111,J 112,J 113,J 114,J 115,J 116,J 117,J 118,J 119,J 120,J 121,J 122,J 123,J 124,J 125,J 126,J 127,J 128,J 129,J 130,J 131],defers:=[]}
def FC.of(A:Array to)(h:A=(FC λk=>A.getD k undef).tmps):({tmps:=A,defers:=[]}:Act)=FC λk=>A.getD k undef:=by rw[h];rfl
noncomputable def ckL(k:Nat):Code:=Mk.gI Proofs.Tryz.f231.body k
noncomputable def ckI:Code:=Mk.gI (O (match ckL 1 with| .loop c=>c|c=>c)) 0
def xI{P:Program}{fn:Func}{R:Ending->ek->Prop}{A:Array to}{w:ek}{t:Tmp}(h:fn.results=#[.tmp t])(hR:R (Xc (A.getD t undef)) w):Exit.noGoto (bodyPost P fn R) .ret {tmps:=A,defers:=[]} w:=by rw[Exit.noGoto_ret];exact Vf.eF h hR
def AJ{α:Type}(d:α){f:α->Bool}{l:List α}:l.all f=true↔∀i,i<l.length->f (l.getD i d)=true:=by
 rw[rB];constructor
 ·intro h i hi;rw[dQ,ft hi];exact h _ (il hi)
 ·intro h x hx;obtain⟨i,hi,rfl⟩:=rZ hx;have:=h i hi;rwa[dQ,ft hi]at this
section
variable {w:ek}{K:Kp}{p:aU}{Q:Exit->Act->ek->Prop}{oa ca:Option Addr}{oc cc no:Nat}
def C1(w:ek)(K:Kp)(p:aU)(m:Nat)(a:Act)(W:ek):Prop:=∃(J:Nat->to) (i:Nat),a=FC J/\J 1=Oi w.heap.size/\J 3=Y i/\i<=p.on.length/\m+i=p.on.length+1/\Hid (Below w.heap.size w W)/\Hid (aH W w.heap.size 27 (i_ K p))/\Hid (∀j,j<i->aP (p.on.getD j 0) (-1) ((p.code.length:Int) - 1)=true)
def Y7{p:Prop}(h:p:=by
 have HG:=Z (show aP z (-1) ((p.code.length:Int) - 1)=false by unfold aP;simp;omega);go_wp2;go_quiet (fail);go_wp2;exact jD _ _ rfl (HB.o.trans (aA _ _ _)) ⟨i,dm.o,by rw[HZ.o];exact HG.o⟩):p:=h
def ck1(a0g:Hid (gM w K p))(hko:K.o=H oa no oc)(hkc:K.c=H ca p.code.length cc)(Ua:no=p.on.length)(hn:p.on.length<=16)(hc:p.code.length<=262144)
 (jD:∀(A:Array to) W,A.getD 2 undef=Y 85->Below w.heap.size w W->(∃j,j<p.on.length/\aP (p.on.getD j 0) (-1) ((p.code.length:Int) - 1)=false)->Q .ret {tmps:=A,defers:=[]} W)
 (dD:∀(J:Nat->to) W,J 1=Oi w.heap.size->Below w.heap.size w W->aH W w.heap.size 27 (i_ K p)->(∀j,j<p.on.length->aP (p.on.getD j 0) (-1) ((p.code.length:Int) - 1)=true)->Q (.exit 0) (FC J) W)
 {a:Act} {W:ek} (h:C1 w K p (p.on.length+1) a W):(Code.loop (ckL 0)).wp prog Q a W:=by
 subst Ua;refine Mk.aM (λm a W=>C1 w K p m a W) (p.on.length+1) h ?_ ?_
 ·rintro a W ⟨J,i,-,-,-,h1,h2,-⟩;omega
 rintro m a0 W ⟨J,i,rfl,j1,j3,hi,hm,HB,HK,HA⟩;unfold FC
 conv=>arg 2;whnf
 have w2:=mr i G;rw[j1,j3];clear j1 j3;obtain⟨-,-,-,f3,-,f5⟩:=HK.o.c6;have lw:=HK.o.lt;rw[hkc]at f5;by_cases be:i<p.on.length
 ·obtain⟨b,off,cap,ho,q1,q2,lb,c⟩:=(a0g.o.o.aG (aC.ai HB.o)).some G G;rw[ho]at f3;have c0:Xf W (I b (off+i))=O (Y (p.on.getD i 0)):=c i G;have dm:=Z be;clear c ho;obtain⟨z,hz⟩:∃z,p.on.getD i 0=z:=⟨_,rfl⟩;rw[hz]at c0;have HZ:=Z hz;clear hz;by_cases h1: -1<=z
  ·by_cases h2:z<p.code.length
   ·have HG:=Z (show aP z (-1) ((p.code.length:Int) - 1)=true by unfold aP;simp;omega);go_wp2;go_quiet (fail);go_wp2;refine⟨_,i+1,FC.of _ rfl,rfl,rfl,dm.o,G,Z (HB.o.trans (aA _ _ _)),Z (HK.o.drewN _),Z λj hj=>?_⟩;by_cases e:j=i
    ·subst e;rw[HZ.o];exact HG.o
    ·exact HA.o j G
   ·exact Y7
  ·exact Y7
 ·obtain rfl:i=p.on.length:=G;clear be;rw[hko]at f3;go_wp2;exact Eq.mpr (bo (λa=>Q (.exit 0) a W) (FC.of _ rfl)) (dD _ _ rfl HB.o HK.o HA.o)
def C3(w:ek)(K:Kp)(p:aU)(i:Nat)(x:Ins)(tb ib nb:Nat)(m:Nat)(a:Act)(W:ek):Prop:=∃(J:Nat->to) (k:Nat),a=FC J/\J 1=Oi w.heap.size/\J 4=H (O (I tb 0)) 42 42/\J 5=Y i/\J 6=Oi ib/\J 7=Oi nb/\J 8=Y k/\k<=4/\m+k=5/\
 Hid (Below w.heap.size w W)/\Hid (aH W w.heap.size 27 (i_ K p))/\Hid (aY W 5 (H (O (I tb 0)) 42 42) 42 G6)/\Hid (aH W ib 40 #[Y x.op,Y x.a,Y x.b,Y x.c,Y x.d])/\Hid (aH W nb 116 #[Y x.a,Y x.b,Y x.c,Y x.d])/\Hid (∀k',k'<k->bF p (dN x k') (oL x k')=true)
def abV:∀n,n<42->∀k,k<4->(cM n).getD k 0<=8:=by decide
def ck3(a0g:Hid (gM w K p)){x:Ins}{i tb ib nb:Nat}(dO:0<=x.op/\x.op<42)
 (jD:∀(A:Array to) W,A.getD 2 undef=Y 92->Below w.heap.size w W->iU p x=false->Q .ret {tmps:=A,defers:=[]} W)
 (dD:∀(J:Nat->to) W,J 1=Oi w.heap.size->J 4=H (O (I tb 0)) 42 42->J 5=Y i->Below w.heap.size w W->aH W w.heap.size 27 (i_ K p)->aY W 5 (H (O (I tb 0)) 42 42) 42 G6->iU p x=true->Q (.exit 4) (FC J) W)
 {a:Act} {W:ek} (h:C3 w K p i x tb ib nb 5 a W):(Code.loop ckI).wp prog Q a W:=by
 obtain⟨n,hn⟩:=eS dO.1;have Gx:n<42:=G;have HN:=Z (show x.op.toNat=n by omega);refine Mk.aM (λm a W=>C3 w K p i x tb ib nb m a W) 5 h ?_ ?_
 ·rintro a W ⟨J,k,-,-,-,-,-,-,-,h1,h2,-⟩;omega
 rintro m a0 W ⟨J,k,rfl,j1,j4,j5,j6,j7,j8,hk,hm,HB,HK,HT,HX,HO,HA⟩;unfold FC
 conv=>arg 2;whnf
 have w2:IntKind.i64.wrap ((k:Int)+1)=((k+1:Nat):Int):=by rw[bJ _ kS];omega
 rw[j1,j4,j5,j6,j7,j8];clear j1 j4 j5 j6 j7 j8;by_cases be:k<4
 ·obtain⟨⟨ga,gc,g1,g2,g3⟩,⟨va,vc,v1,v2,v3⟩,⟨ta,tc,t1,t2,t3⟩,⟨oa,oc,o1,o2,o3⟩,⟨ca,cc,c1,c2,c3⟩⟩:=a0g.o.sl;obtain⟨f0,f1,f2,f3,f4,f5⟩:=HK.o.c6;have lw:=HK.o.lt;have d0:Xf W (I ib 0)=O (Y n):=by have h:=HX.o.cell 0;rw[hn]at h;exact h
  have lx:=HX.o.lt;have n0:Xf W (I nb k)=O (Y (oL x k)):=by rw[HO.o.cell];have e:k=0\/k=1\/k=2\/k=3:=G;rcases e with rfl|rfl|rfl|rfl<;>rfl
  have ln:=HO.o.lt;obtain⟨b',Ef,pq,et,-,-,lt,ec⟩:=HT.o.some G G;simp only[cL,iI,Addr.mk.injEq]at et;obtain⟨⟨rfl,rfl,-⟩,-,-⟩:=et;have Rc:dN x k=(cM n).getD k 0:=by unfold dN;rw[HN.o]
  have e0:Xf W (I tb (n*5+1+k))=O (Y (dN x k:Nat)):=by have h:=ec (n*5+1+k) G;rw[Nat.zero_add]at h;rw[h,Rc];unfold G6;rw[ax G,show(n*5+1+k) / 5=n by omega,show(n*5+1+k) % 5-1=k by omega]
  have agJ:(n:Int)<42:=G;have Er:(k:Int)<4:=G;have hk8:dN x k<=8:=by rw[Rc];exact abV n Gx k be
  have HF:=Z (λV (X:Below w.heap.size w V)=>JH (w:=V) (a0g.o.aG (aC.ai X)) (dN x k) (oL x k) hk8);have Eg:=Z (λe=>qj (p:=p) (x:=x) (j:=k) be e);unfold pV at HF;rw[g1,v1,t1,o1,c1]at HF;rw[g1]at f0;rw[v1]at f1;rw[t1]at f2;rw[o1]at f3;rw[c1]at f5;obtain⟨dd,Ao⟩:∃d,bF p (dN x k) (oL x k)=d:=⟨_,rfl⟩;rw[Ao]at HF Eg;have HDD:=Z (show∀k',k'=k->bF p (dN x k') (oL x k')=dd from λk' e=>by rw[e];exact Ao);have dm:=Z be;clear Ao Rc ec hk8 g1 g2 g3 v1 v2 v3 t1 t2 t3 o1 o2 o3 c1 c2 c3;generalize dN x k=aef at*;generalize oL x k=od at*;go_wp2;refine Mk.bq (S:=λwx=>Below W.heap.size W wx) bj (aA _ W 1) (λau=>?_);refine Mk.tk 0 (v:=?_) rfl (λwz fF=>?_) au ?_;rotate_left
  ·have key:∀b i v,b<W.heap.size->Xf W (I b i)=O v->Xf wz (I b i)=O v:=λb i v X hc=>(aR (fF.block _ X)).trans hc;have y0:=key _ _ _ lw f0;have y1:=key _ _ _ lw f1;have y2:=key _ _ _ lw f2;have y3:=key _ _ _ lw f3;have y4:=key _ _ _ lw f4;have y5:=key _ _ _ lw f5;exact qZ
  refine Mk.pt ?_;refine Mk.cD 1 ?_;refine Mk.cD 2 ?_;refine Mk.tk 3 (v:=?_) rfl (λwz fF=>?_) au ?_;rotate_left
  ·have key:∀b i v,b<W.heap.size->Xf W (I b i)=O v->Xf wz (I b i)=O v:=λb i v X hc=>(aR (fF.block _ X)).trans hc;have y0:=key _ _ _ lx d0;exact qZ
  refine Mk.pt ?_;refine Mk.cD 4 ?_;refine Mk.cD 5 ?_;refine Mk.cD 6 ?_;refine Mk.cD 7 ?_;refine Mk.tk 8 (v:=?_) rfl (λwz fF=>?_) au ?_;rotate_left
  ·have key:∀b i v,b<W.heap.size->Xf W (I b i)=O v->Xf wz (I b i)=O v:=λb i v X hc=>(aR (fF.block _ X)).trans hc;have y0:=key _ _ _ lt e0;exact qZ
  refine Mk.pt ?_;refine Mk.cD 9 ?_;refine Mk.cD 10 ?_;refine Mk.tk 11 (v:=?_) rfl (λwz fF=>?_) au ?_;rotate_left
  ·have key:∀b i v,b<W.heap.size->Xf W (I b i)=O v->Xf wz (I b i)=O v:=λb i v X hc=>(aR (fF.block _ X)).trans hc;have y0:=key _ _ _ ln n0;exact qZ
  refine Mk.pt ?_;refine Mk.oH (rs:=[12]) (bX rfl (λK9 hK=>?_) cz);refine fL ?_;go_simp
  with_reducible refine(HF.o _ (HB.o.trans (au.mono HB.o.size))).mono ?_
  rintro e W1 ⟨rfl,fS⟩;have dR:=au.trans (fS.mono au.size);clear au;refine hK.out _ _ dR (λau=>?_);clear hK K9;refine Mk.pt ?_;refine Mk.cD 13 ?_;refine eT bj ⟨rfl,?_⟩ _;clear au f0 f1 f2 f3 f4 f5 d0 n0 e0 lw lx ln lt HF;have dS:=Z (HB.o.trans (dR.mono HB.o.size));have oE:=Z (HK.o.of (dR.block _ HK.o.lt));have AN:=Z (HX.o.of (dR.block _ HX.o.lt));have Hi:=Z (HO.o.of (dR.block _ HO.o.lt));have Ou:=Z (HT.o.aG (aC.ai dR));clear fS dR;cases dd with
  |false=>have HG:=Z (Eg.o rfl);clear Eg;go_wp2;exact jD _ _ rfl dS.o HG.o
  |true=>
   clear Eg;go_wp2;refine⟨_,k+1,FC.of _ rfl,rfl,rfl,rfl,rfl,rfl,rfl,dm.o,G,dS,oE,Ou,AN,Hi,Z λk' qW=>?_⟩;by_cases e:k'=k
   ·exact HDD.o k' e
   ·exact HA.o k' G
 ·obtain rfl:k=4:=G;clear be;have HG:=Z (vw (p:=p) (x:=x) HA.o);go_wp2;exact Eq.mpr (bo (λa=>Q (.exit 4) a W) (FC.of _ rfl)) (dD _ _ rfl rfl rfl HB.o HK.o HT.o HG.o)
def C2(w:ek)(K:Kp)(p:aU)(tb:Nat)(m:Nat)(a:Act)(W:ek):Prop:=∃(J:Nat->to) (i:Nat),a=FC J/\J 1=Oi w.heap.size/\J 4=H (O (I tb 0)) 42 42/\J 5=Y i/\i<=p.code.length/\m+i=p.code.length+1/\Hid (Below w.heap.size w W)/\Hid (aH W w.heap.size 27 (i_ K p))/\Hid (aY W 5 (H (O (I tb 0)) 42 42) 42 G6)/\Hid (dP p p.code=dP p (p.code.drop i))
def ck2(a0g:Hid (gM w K p)){tb:Nat}(hc:p.code.length<=262144)
 (jD:∀(A:Array to) W (e:Int),A.getD 2 undef=Y e->Below w.heap.size w W->dP p p.code=e->Q .ret {tmps:=A,defers:=[]} W)
 (dD:∀(J:Nat->to) W,Below w.heap.size w W->dP p p.code=0->Q (.exit 2) (FC J) W)
 {a:Act} {W:ek} (h:C2 w K p tb (p.code.length+1) a W):(Code.loop (ckL 1)).wp prog Q a W:=by
 refine Mk.aM (λm a W=>C2 w K p tb m a W) (p.code.length+1) h ?_ ?_
 ·rintro a W ⟨J,i,-,-,-,-,h1,h2,-⟩;omega
 rintro m a0 W ⟨J,i,rfl,j1,j4,j5,hi,hm,HB,HK,HT,HE⟩;unfold FC
 conv=>arg 2;whnf
 have w2:=mr i G;rw[j1,j4,j5];clear j1 j4 j5;have f5:Xf W (I w.heap.size 5)=O K.c:=HK.o.cell 5;have lw:=HK.o.lt;by_cases be:i<p.code.length
 ·obtain⟨b,off,cap,ho,q1,q2,c0,c1,c2,c3,c4⟩:=(a0g.o.aG (aC.ai HB.o)).ins be;rw[ho]at f5;have l_:=Z (nE be);have dm:=Z be;have Te:=Z (λV=>ab0 V (ak p i));unfold a_ aK at Te;have HOO:=Z (show∀x,ak p i=x->x=ak p i from λx h=>h.symm);generalize hx:ak p i=x at*;have HX:=Z hx;clear hx ho q1 q2 HOO;have HAL:=Z ((HB.o.alloc HB.o.size (Xe #[Y x.op,Y x.a,Y x.b,Y x.c,Y x.d] 40)));by_cases o0:0<=x.op
  ·have e0:decide (x.op<0)=false:=by simpa using o0
   by_cases o1:x.op<42
   ·have Bq:=Z (And.intro o0 o1);have zX:=Z (show dP p (p.code.drop i)=if iU p x then dP p (p.code.drop (i+1))else 92 by rw[l_.o,show jX x=true by unfold jX aP;simp;omega];rfl);have e1:decide (42<=x.op)=false:=by simp;omega
    clear l_;go_wp2_with fail;refine(Te.o _).mono ?_;rintro e W1 ⟨rfl,X⟩;have fS:Below W.heap.size W W1:=((aZ _ W).alloc (aL _) _).trans (X.mono az);have dS:=Z (HB.o.trans (fS.mono HB.o.size));have oE:=Z (HK.o.of (fS.block _ HK.o.lt));have Ou:=Z (HT.o.aG (aC.ai fS));have KX:=Z (show aH W1 W.heap.size 40 #[Y x.op,Y x.a,Y x.b,Y x.c,Y x.d]from(aH.new W _ _).of (X.block _ az));clear X fS c0 c1 c2 c3 c4 f5 lw HAL e0 e1 o0 o1;go_wp2_with fail;have yj:=Z dS.o.size;refine ck3 (tb:=tb) (ib:=W.heap.size) (nb:=W1.heap.size) a0g Bq.o (λA W3 Bl Ap hex=>?_) (λJ3 W3 j1 j4 j5 Ap hK3 hT3 nX=>?_) ⟨_,0,FC.of _ rfl,rfl,rfl,rfl,rfl,rfl,rfl,ck _,rfl,Z (dS.o.alloc dS.o.size _),Z (oE.o.alloc _),Z (Ou.o.aG ((aC.refl [] _).alloc _)),Z (KX.o.alloc _),Z (aH.new _ _ _),Z (λk hk=>absurd hk G)⟩
    ·exact jD A W3 92 Bl Ap (by rw[HE.o,zX.o,hex];rfl)
    ·unfold FC;rw[j1,j4,j5];clear j1 j4 j5;have mM:=Z Ap;have Be:=Z hK3;have HT3:=Z hT3;have HG:=Z (show dP p p.code=dP p (p.code.drop (i+1))by rw[HE.o,zX.o,nX];rfl);clear Ap hK3 hT3 nX;go_wp2;exact⟨_,i+1,FC.of _ rfl,rfl,rfl,rfl,dm.o,G,mM,Be,HT3,HG⟩
   ·have zX:=Z (show dP p (p.code.drop i)=91 by rw[l_.o,show jX x=false by unfold jX aP;simp;omega];rfl);have e1:decide (42<=x.op)=true:=by simp;omega
    clear l_;go_wp2;exact jD _ _ 91 rfl HAL.o (by rw[HE.o,zX.o])
  ·have zX:=Z (show dP p (p.code.drop i)=91 by rw[l_.o,show jX x=false by unfold jX aP;simp;omega];rfl);have e0:decide (x.op<0)=true:=by simp;omega
   clear l_;go_wp2;exact jD _ _ 91 rfl HAL.o (by rw[HE.o,zX.o])
 ·obtain rfl:i=p.code.length:=G;clear be;obtain⟨ca,cc,ec,-,-⟩:=aY.val a0g.o.cd;rw[ec]at f5;have HG:=Z (show dP p p.code=0 by have h:=HE.o;rw[List.drop_length]at h;rw[h];rfl);go_wp2;exact Eq.mpr (bo (λa=>Q (.exit 2) a W) (FC.of _ rfl)) (dD _ _ HB.o HG.o)
end
end Go.Rv
