import Derived.Test.YtblkblclmbhjiaaGreatZ3
import Derived.WalkMore
import Derived.ScopeJumps
import Derived.Defers
set_option linter.all false
set_option maxHeartbeats 40000000
set_option maxRecDepth 100000
open Go.Proofs.Tryz
open Option renaming some->O,none->Xb
open Go renaming Value->to,World->ek
open Go.Value renaming slice->H
open Go.Obj renaming cells->Xe
open Go.Ending renaming returned->Xc
open Go.World renaming cell?->Xf
abbrev bX:=@Go.AllReadyH.cons
abbrev cz:=@Go.AllReadyH.nil
abbrev eT:=@Go.wpAnyH_done
abbrev Cm:=@List.length_singleton
abbrev xB:=@Go.Lib.run_eql_slice_nil
abbrev Gn:=@Go.World.ownsRow_made
namespace Go.Ma
open Go.RowKit al.Vm
open al hiding aS aw an
open eO (cw bP eY)
open Ix (dp)
section
variable {w w':ek}{C C':Co}{U U':Ru}{RO RO':List Nat}{K:Kc}{p:aU}{c:Cp}{t:fG}{used:Int}{hv hv':to}{jv lM:Nat->to}{s s':St}{r r':Rn}{rv:to}{mb rb:Nat}
def Qt(h:dh w C U RO K p c t used hv jv s r)(E:jB K p c s){q d:Nat}(hq:q<p.ap.length)(he:d<=1)(x:eW)(hx:s.f x.key=Xb)(hj:r.bI.length<1000000):
 Calls prog 218 #[Oi C.mb,Y q,Y d,bP x] w (cQ w C.mb U.rb RO K p c t used (.bool (iP (aB p c) (s,r) q d x).2) (iP (aB p c) (s,r) q d x).1):=by
 have vW:=E.ii.q1 q hq;have zQ:=E.ii.s1;have Ha:(aB p c).cq q=(c.aF.getD q 0).toNat:=rfl;have nO:(aB p c).sz=c.size.toNat:=rfl;have xx:(aB p c).gh q=p.ap.getD q false:=rfl;have hlen:=E.inv.len q hq;unfold iP;dsimp only;by_cases h1:((s.a.ls q).length:Int)=c.aF.getD q 0
 ·rw[aE (.inl (by rw[Ha];omega))];exact M0 h E hq he x h1
 ·have be:(s.a.ls q).length<(aB p c).cq q:=G;by_cases h2:p.ap.getD q false=true
  ·rw[ax (by
    rintro(h3|h3)
    ·omega
    ·rw[xx,h2]at h3;simp at h3)]
   exact Us h E hq he x h1 h2 hx (E.room hq be (.inl (by rw[xx];exact h2))) hj
  ·have h2':p.ap.getD q false=false:=by simpa using h2
   by_cases h3:s.total=c.size
   ·rw[aE (.inr ⟨by rw[xx];exact h2',by rw[nO];omega⟩)];exact M6 h E hq he x h1 h2' h3
   ·have h4:s.total<(aB p c).sz:=by have:=E.inv.Ki;have:=E.inv.O5;omega
    rw[ax (by
     rintro(h5|h5)
     ·omega
     ·omega)]
    exact Ut h E hq he x h1 h2' h3 hx (E.room hq be (.inr h4)) hj
def iO(w:ek)(C:Co)(q d:Nat):ek:=
 ((w.alloc (Xe #[Oi C.mb] 35)).alloc (Xe #[Y q] 3)).alloc (Xe #[Y d] 3)
def dh.XU(h:dh w C U RO K p c t used hv jv s r)(q d:Nat):dh (iO w C q d) C U ((w.heap.size+1+1)::(w.heap.size+1)::w.heap.size::RO) K p c t used hv jv s r/\
 aH (iO w C q d) w.heap.size 35 #[Oi C.mb]/\aH (iO w C q d) (w.heap.size+1) 3 #[Y q]/\aH (iO w C q d) (w.heap.size+1+1) 3 #[Y d]/\
 Below w.heap.size w (iO w C q d):=by
 unfold iO;have h1:=h.box (Xe #[Oi C.mb] 35);have h2:=h1.box (Xe #[Y q] 3);have h3:=h2.box (Xe #[Y d] 3);have s1:(w.alloc (Xe #[Oi C.mb] 35)).heap.size=w.heap.size+1:=by simp
 have s2:((w.alloc (Xe #[Oi C.mb] 35)).alloc (Xe #[Y q] 3)).heap.size=w.heap.size+1+1:=by simp
 have n1:=aH.new w 35 #[Oi C.mb];have n2:=aH.new (w.alloc (Xe #[Oi C.mb] 35)) 3 #[Y q];have n3:=aH.new ((w.alloc (Xe #[Oi C.mb] 35)).alloc (Xe #[Y q] 3)) 3 #[Y d];rw[s1]at h2 h3 n2;rw[s2]at h3 n3;exact⟨h3,(n1.alloc _).alloc _,n2.alloc _,n3,(((aZ _ w).alloc (aL _) _).alloc az _).alloc kZ _⟩
def mB(h:dh w C U RO K p c t used hv jv s r){q d:Nat}(hq:q<p.ap.length)(bt:s.a.ls q=[]):
 Calls prog 220 #[Oi C.mb,Y q,Y d] w (cQ w C.mb U.rb RO K p c t used (.bool false) (s,r.gE 2)):=by
 obtain⟨h4,n1,n2,n3,B4⟩:=h.XU q d;have uX:=Z (λk=>eO.zn (h4.m.ar.drewN k) hq);rw[bt]at uX;have m9:(iO w C q d).cell? (I C.mb 9)=O (Oi C.ab):=h4.mx.reads.1;have e1:=n1.c1;have e2:=n2.c1;have dm:=Z h.sep.dZ;have iw:=Z B4;have H4:=Z h4;clear h h4 n1 n2 n3 B4 bt;unfold iO at*;go_enter func220,ntmps220;go_wp2_with fail;generalize((w.alloc (Xe #[Oi C.mb] 35)).alloc (Xe #[Y q] 3)).alloc (Xe #[Y d] 3)=w4 at*;generalize gP:w.heap.size=bx at*;go_quiet ((go_at_call 204;exact Dt (uX.o _)));have HK:=Z ((Kept.ai (RO:=RO) (by rw[gP];exact iw.o) (by rw[gP];exact dm.o)).trans (Kept.ai (aA w4.heap.size w4 nq) (λb X=>H4.o.sep.dZ b (by simp[X]))) (λb X=>X));have H5:=Z (H4.o.drewN nq);have rU:(w4.drewN nq).cell? (I C.mb 60)=O (Oi U.rb):=H5.o.m.aT.cell 60;have r6:(w4.drewN nq).cell? (I U.rb 6)=O (Y r.bG):=H5.o.r.dY.cell 6;have rf:∀o,(w4.drewN nq).frozen? (I U.rb o)=false:=H5.o.r.dY.frozen;have i1:(w4.drewN nq).cell? (I bx 0)=O (Oi C.mb):=e1;have pZ:=Z (Kept.du (RO:=RO) (S:=U.l) ((aC.refl _ (w4.drewN nq)).setCell (p:=(I U.rb 6)) (by simp[Ru.l]) (Y 2)) (λb X=>H5.o.sep.ur (by simp[X])) (λb X=>H5.o.sep.dZ b (by simp[X])));clear e1 e2 m9;generalize w4.drewN nq=w5 at*;go_wp2;go_ret;exact⟨rfl,_,λb X=>by simp[X],(H5.o.kT 6 (Y 2) (r':=r.gE 2) rfl rfl rfl rfl rfl rfl H5.o.r.iE).jJ,HK.o.trans pZ.o (λb X=>X)⟩
def rX(h:dh w C U RO K p c t used hv jv s r)(E:jB K p c s){q d:Nat}(hq:q<p.ap.length)(he:d<=1)(bt:s.a.ls q≠[])(hj:r.bI.length<1000000):
 Calls prog 220 #[Oi C.mb,Y q,Y d] w (cQ w C.mb U.rb RO K p c t used (.bool true) (lE (aB p c) s q d,{r.note (.put q d (s.a.val (cS s.a q d)))with hand:=O (s.a.val (cS s.a q d))})):=by
 obtain⟨h4,n1,n2,n3,B4⟩:=h.XU q d;have uX:=Z (λk=>eO.zn (h4.m.ar.drewN k) hq);have Dx:0<(s.a.ls q).length:=List.length_pos_iff.2 bt;have hz:(((s.a.ls q).length:Int)==0)=false:=by simp;omega
 have m9:(iO w C q d).cell? (I C.mb 9)=O (Oi C.ab):=h4.mx.reads.1;have e1:=n1.c1;have e2:=n2.c1;have e3:=n3.c1;have uZ:=E.g16;have WH:=Z (λk=>XM (h4.mx.drewN k) E.inv E.FJ G hq he bt E.total);have dm:=Z h.sep.dZ;have iw:=Z B4;have H4:=Z h4;have N1:=Z n1;have N2:=Z n2;have N3:=Z n3;have HJ:=Z hj;clear h h4 n1 n2 n3 B4 bt hj uZ E Dx;unfold iO at*;generalize s.a.val (cS s.a q d)=y at*;unfold bP at WH;generalize(s.a.ls q).length=ln at*;go_enter func220,ntmps220;go_wp2_with fail;generalize((w.alloc (Xe #[Oi C.mb] 35)).alloc (Xe #[Y q] 3)).alloc (Xe #[Y d] 3)=w4 at*;generalize gP:w.heap.size=bx at*;go_quiet ((go_at_call 204;exact Dt (uX.o _)));have HK:=Z ((Kept.ai (RO:=RO) (by rw[gP];exact iw.o) (by rw[gP];exact dm.o)).trans (Kept.ai (aA w4.heap.size w4 nq) (λb X=>H4.o.sep.dZ b (by simp[X]))) (λb X=>X));have H5:=Z (H4.o.drewN nq);have HC5:=Z (WH.o nq);have i1:(w4.drewN nq).cell? (I bx 0)=O (Oi C.mb):=e1;have i2:(w4.drewN nq).cell? (I (bx+1) 0)=O (Y q):=e2;have i3:(w4.drewN nq).cell? (I (bx+1+1) 0)=O (Y d):=e3;have M1:=Z (N1.o.drewN nq);have M2:=Z (N2.o.drewN nq);have M3:=Z (N3.o.drewN nq);clear e1 e2 e3 m9 WH uX hz N1 N2 N3;generalize w4.drewN nq=w5 at*;go_wp2_with fail;refine HC5.o.mono ?_;rintro e w6 ⟨rfl,C6,k1,k2⟩;have h6:=H5.o.q8 k1 k2;have x1:bx∈(bx+1+1)::(bx+1)::bx::RO:=by simp
 have x2:bx+1∈(bx+1+1)::(bx+1)::bx::RO:=by simp
 have x3:bx+1+1∈(bx+1+1)::(bx+1)::bx::RO:=by simp
 have p1:=(M1.o.aG k1.f (H5.o.sep.cr x1)).alloc (Xe (aQ y) 118);have p2:=(M2.o.aG k1.f (H5.o.sep.cr x2)).alloc (Xe (aQ y) 118);have p3:=(M3.o.aG k1.f (H5.o.sep.cr x3)).alloc (Xe (aQ y) 118);have mO:=k1.mb;have h7:=h6.box (Xe (aQ y) 118);have py:=aH.new w6 118 (aQ y);have hu:iD (w6.alloc (Xe (aQ y) 118)) C6.mb (w6.heap.size::(bx+1+1)::(bx+1)::bx::RO) (.func (.func 275) #[] #[Oi bx,Oi (bx+1),Oi (bx+1+1),Oi w6.heap.size]) (.put q d y):=by rw[mO];exact⟨_,_,_,_,rfl,p1,p2,p3,py,az,az,az,az⟩
 have hc:=zO h7 hu HJ.o;rw[mO]at hc;have HC:=Z hc;have XP:=Z (HK.o.trans (RO':=RO) ((H5.o.kept k1).less (λb X=>by simp[X])) (λb X=>X));have Qu:=Z (Kept.ai (RO:=RO) ((aZ w6.heap.size w6).alloc (aL _) (Xe (aQ y) 118)) (λb X=>h6.sep.dZ b (by simp[X])));have H7:=Z h7;have P1:=Z p1;have PY:=Z py;have rY:=Z mO;have j1:=p1.c1;clear k1 k2 h6 hu p1 p2 p3 x1 x2 x3 HC5 mO hc i1 i2 i3 h7 py M1 M2 M3;unfold aQ at*;go_wp2_with fail;generalize w6.alloc (Xe #[.int .u64 y.key,Y (y.tg 0),Y (y.tg 1),Y (y.tg 2),Y (y.tg 3)] 118)=w7 at*;generalize w6.heap.size=yb at*;refine HC.o.mono ?_;rintro e w8 ⟨rfl,a1b,jv8,M_,A8,f8,g8⟩;have d1:Xf w8 (I bx 0)=O (Oi C.mb):=(P1.o.aG f8 (H7.o.sep.ur az)).cell 0;have d60:Xf w8 (I C.mb 60)=O (Oi U.rb):=by rw[<-rY.o,<-M_];exact A8.m.aT.cell 60
 have d4:Xf w8 (I U.rb 4)=O hv:=by rw[<-M_];exact A8.r.dY.cell 4
 have a1c:∀o,w8.frozen? (I U.rb o)=false:=by rw[<-M_];exact A8.r.dY.frozen
 obtain⟨y0,y1,y2,y3,y4,-⟩:=kV (PY.o.aG f8 (H7.o.sep.ur az));have l1:bx<w8.heap.size:=A8.sep.dZ bx az;have l2:C.mb<w8.heap.size:=by rw[<-rY.o];exact A8.m.aT.lt
 have l3:yb<w8.heap.size:=A8.sep.dZ yb az;have l4:U.rb<w8.heap.size:=by rw[<-M_];exact A8.r.dY.lt
 have I3:=Z M_;have HA8:=Z A8;have HK8:=Z (Kept.du (RO:=RO) f8 (λb X=>H7.o.sep.ur (by simp[X])) (λb X=>H7.o.sep.dZ b (by simp[X])));clear HC A8 f8 g8 M_ j1;go_wp2;go_region;go_wp2;go_ret;have Kg:=aH.new w8 118 (aQ y);have A9:=(HA8.o.box (Xe (aQ y) 118)).kT 4 (H (O (I w8.heap.size 0)) 1 1) (r':={r.note (.put q d y)with hand:=O y}) (hv':=H (O (I w8.heap.size 0)) 1 1) rfl rfl rfl rfl rfl rfl ⟨_,_,rfl,Kg,az⟩;rw[I3.o]at A9;have HKA:Kept RO w8 ((w8.alloc (Xe (aQ y) 118)).setCell (I U.rb 4) (H (O (I w8.heap.size 0)) 1 1)):=Kept.du (S:=[U.rb]) (((aC.refl _ w8).alloc _).setCell az _) (λb X hc=>by
  simp at hc;subst hc;exact HA8.o.sep.ur (b:=U.rb) (by simp[X]) (by rw[<-I3.o];simp[Ru.l])) (λb X=>HA8.o.sep.dZ b (by simp[X]))
 rw[World.setCell_alloc_past _ _ _ _ l4]at A9 HKA;refine⟨rfl,_,λb X=>?_,(A9.drewN 1).uW rY.o I3.o,(((XP.o.trans Qu.o (λb X=>X)).trans HK8.o (λb X=>X)).trans HKA (λb X=>X)).trans (Kept.ai (RO:=RO) (aA _ _ 1) (λb X=>A9.sep.dZ b (by simp[X]))) (λb X=>X)⟩;simp[X]
def Qv:(prog.info? 46).map (λi=>(i.zero,i.size,i.bytes))=O (O (.int .u64 0),1,8):=by kernel_rfl
def Na{α:Type}(x d:α)(l:List α):(∀i,i<l.length->(l++[x]).getD i d=l.getD i d)/\(l++[x]).getD l.length d=x:=by
 constructor
 ·intro i hi;simp[List.getD,Cb,hi]
 ·simp[List.getD]
def oI{p:Prop}(h:p:=by
 intro wz fF
 (try dsimp only at fF)
 exact qZ):p:=h
def J1{p:Prop}(h:p:=by
 refine Mk.pt ?_;refine dM (rs:=[22]) bj az ?_;refine bX rfl (λK hK=>?_) cz;refine BZ _ rfl (.tmp 13) (.tmp 24) 41 rfl 0 46 i0 (.int .u64 0) 1 8 underlying41 hi je mU sT rfl bz U.oh _ _ (by simp[Act.eval,Act.put]) (HD.o.r.oh.alloc _) (I w.heap.size 0) 1 1 [.int .u64 key] (by simp[Act.eval,Act.put]) rfl (jf.ji _ [.int .u64 key] _ _ az) (by simp[Value.oneCell']) bz C3.o C4.o az _ rfl ?_;intro g cap w4 gT gX rP BV;obtain⟨AO,AP⟩:=P7 (w:=w) (n:=r.told.length+1) (cap:=cap) ((aA w.heap.size w 1).alloc (aL _) _) gX rP rfl;obtain⟨XV,c5,f5,Hd⟩:=HSV.o g cap w4 AO;have HO:=Z gT;have HF:=Z AO;have HS:=Z AP;clear gT gX rP BV AO AP;clear au;refine hK.out _ _ XV (λau=>?_);clear hK K;refine Mk.pt ?_;refine iY (i:=23) (v:=?_) rfl bj bj bj (λ_ _ _ h=>h) (Or.inl ⟨by rfl,?_⟩) cJ ?_;rotate_left
 ·exact oI
 refine Mk.pt ?_;refine iY (i:=24) (v:=?_) rfl bj bj bj (λ_ _ _ h=>h) (Or.inl ⟨by rfl,?_⟩) cJ ?_;rotate_left
 ·exact oI
 refine Mk.pt ?_;refine dM (rs:=[25]) bj az ?_;refine bX rfl (λK hK=>?_) cz;refine fL ?_;go_simp;refine hK.out _ _ Hd (λau=>?_);clear hK K;refine Mk.pt ?_;refine eT bj ?_ _;clear au XV Hd;go_wp2;go_ret;obtain⟨q1,q2⟩:=Na key 0 r.told;have bC:=pY (f':=λi=> .int .u64 ((r.told++[key]).getD i 0:Nat)) HO.o (λi hi=>by show Value.int _ _=Value.int _ _;rw[q1 i hi]) (by show Value.int _ _=Value.int _ _;rw[q2]);have A:=a0g.o.oh HF.o (l:=r.told++[key]) (by rw[mT];exact bC) HS.o;exact⟨rfl,RO,λb X=>X,A.jJ,Kept.du (S:=U.l) ((HF.o.mono (by intro k hk;simp[Ru.l,hk])).setCell (by simp[Ru.l]) _) (λb X=>a0g.o.sep.ur X) a0g.o.sep.dZ⟩):p:=h
def Dy(h:dh w C U RO K p c t used hv jv s r){y:eW}(hh:r.hand=O y)(hl:r.told.length<1000000):
 Calls prog 222 #[Oi C.mb] w (cQ w C.mb U.rb RO K p c t used (.bool true) (s,{r with told:=r.told++[y.key]})):=by
 obtain⟨i0,hi,je,mU,sT⟩:=rN Qv;have iG:=h.r.iE;rw[hh]at iG;obtain⟨X,vW,hhv,Oy,SO⟩:=iG;have rU:=wj h.m.aT;have r4:Xf w (I U.rb 4)=O hv:=h.r.dY.cell 4;rw[hhv]at r4;have r5:Xf w (I U.rb 5)=O U.oh:=h.r.dY.cell 5;have rf:∀o,w.frozen? (I U.rb o)=false:=h.r.dY.frozen;have k0:=Oy.c1;have lm:=h.m.aT.lt;have lr:=h.r.dY.lt;have lh:=Oy.lt;have nh:X≠U.rb:=λe=>h.sep.ur SO (by simp[e,Ru.l]);have nm:C.mb≠U.rb:=λe=>h.sep.cu (b:=C.mb) (by simp[Co.l]) (by rw[e];simp[Ru.l]);have HD:=Z (h.drewN 1);have C3:=Z (show r.told.length+1<=maxLen by unfold maxLen;omega);have C4:=Z (show(r.told.length+1)*8<=140737488355328 by omega);have HBK:=Z Oy;have HBR:=Z SO;have a0g:=Z h;clear h hhv hh Oy SO;generalize y.key=key at*;have hSv:∀(g cap:Nat) (w4:ek),aC (vb U.oh) w w4->(Xf w4 (I C.mb 60)=O (Oi U.rb)/\Xf w4 (I U.rb 4)=O (H (O (I X 0)) 1 vW)/\Xf w4 (I X 0)=O (.int .u64 key))/\Xf w4 (I U.rb 5)=O U.oh/\(∀o,w4.frozen? (I U.rb o)=false)/\
  ((w4.setCell (I U.rb 5) (H (O (I g 0)) (r.told.length+1) cap)).cell? (I C.mb 60)=O (Oi U.rb)/\(w4.setCell (I U.rb 5) (H (O (I g 0)) (r.told.length+1) cap)).cell? (I U.rb 4)=O (H (O (I X 0)) 1 vW)/\(w4.setCell (I U.rb 5) (H (O (I g 0)) (r.told.length+1) cap)).cell? (I X 0)=O (.int .u64 key)):=by
  intro g cap w4 f;obtain⟨c5,cf,c60⟩:=a0g.o.MV f;have b4:=a0g.o.r.dY.aG f a0g.o.sep.u.t;have c4:Xf w4 (I U.rb 4)=Xf w (I U.rb 4):=(b4.cell 4).trans (a0g.o.r.dY.cell 4).symm;have ch:Xf w4 (I X 0)=Xf w (I X 0):=((HBK.o.aG f (λhc=>a0g.o.sep.ur HBR.o (by simp[Ru.l,hc]))).cell 0).trans (HBK.o.cell 0).symm;refine⟨⟨c60,c4.trans r4,ch.trans k0⟩,c5,cf,?_,?_,?_⟩
  ·rw[iu nm];exact c60
  ·rw[World.cell?_setCell_other _ _ _ _ (by intro e;have:=bo Addr.off e;simp at this)];exact c4.trans r4
  ·rw[iu nh];exact ch.trans k0
 have HSV:=Z hSv;clear hSv;go_enter func222,ntmps222;go_wp2_with fail;refine wp_region_held_drew (S:=(λwx=>Xf wx (I C.mb 60)=O (Oi U.rb)/\Xf wx (I U.rb 4)=O (H (O (I X 0)) 1 vW)/\Xf wx (I X 0)=O (.int .u64 key))) bj ⟨rU,r4,k0⟩ (λau=>?_);refine iY (i:=0) (v:=?_) rfl bj bj bj (λ_ _ _ h=>h) (Or.inl ⟨by rfl,?_⟩) cJ ?_;rotate_left
 ·exact oI
 refine Mk.pt ?_;refine iY (i:=1) (v:=?_) rfl bj bj bj (λ_ _ _ h=>h) (Or.inl ⟨by rfl,?_⟩) cJ ?_;rotate_left
 ·exact oI
 refine Mk.pt ?_;refine iY (i:=2) (v:=?_) rfl bj bj bj (λ_ _ _ h=>h) (Or.inl ⟨by rfl,?_⟩) cJ ?_;rotate_left
 ·exact oI
 refine Mk.pt ?_;refine iY (i:=3) (v:=?_) rfl bj bj bj (λ_ _ _ h=>h) (Or.inl ⟨by rfl,?_⟩) cJ ?_;rotate_left
 ·exact oI
 refine Mk.pt ?_;refine iY (i:=4) (v:=?_) rfl bj bj bj (λ_ _ _ h=>h) (Or.inl ⟨by rfl,?_⟩) cJ ?_;rotate_left
 ·exact oI
 refine Mk.pt ?_;refine iY (i:=5) (v:=?_) rfl bj bj bj (λ_ _ _ h=>h) (Or.inl ⟨by rfl,?_⟩) cJ ?_;rotate_left
 ·exact oI
 refine Mk.pt ?_;refine iY (i:=6) (v:=?_) rfl bj bj bj (λ_ _ _ h=>h) (Or.inl ⟨by rfl,?_⟩) cJ ?_;rotate_left
 ·exact oI
 refine Mk.pt ?_;refine iY (i:=7) (v:=?_) rfl bj bj bj (λ_ _ _ h=>h) (Or.inl ⟨by rfl,?_⟩) cJ ?_;rotate_left
 ·exact oI
 refine Mk.pt ?_;refine iY (i:=8) (v:=?_) rfl bj bj bj (λ_ _ _ h=>h) (Or.inl ⟨by rfl,?_⟩) cJ ?_;rotate_left
 ·exact oI
 refine Mk.pt ?_;refine iY (i:=9) (v:=?_) rfl bj bj bj (λ_ _ _ h=>h) (Or.inl ⟨by rfl,?_⟩) cJ ?_;rotate_left
 ·exact oI
 refine Mk.pt ?_;refine iY (i:=11) (v:=?_) rfl bj bj bj (λ_ _ _ h=>h) (Or.inl ⟨by rfl,?_⟩) cJ ?_;rotate_left
 ·exact oI
 refine Mk.pt ?_;refine iY (i:=12) (v:=?_) rfl bj bj bj (λ_ _ _ h=>h) (Or.inl ⟨by rfl,?_⟩) cJ ?_;rotate_left
 ·exact oI
 refine Mk.pt ?_;refine iY (i:=13) (v:=?_) rfl bj bj bj (λ_ _ _ h=>h) (Or.inl ⟨by rfl,?_⟩) cJ ?_;rotate_left
 ·exact oI
 refine Mk.pt ?_;refine iY (i:=14) (v:=?_) rfl bj bj bj (λ_ _ _ h=>h) (Or.inl ⟨by rfl,?_⟩) cJ ?_;rotate_left
 ·exact oI
 refine Mk.pt ?_;refine iY (i:=15) (v:=?_) rfl bj bj bj (λ_ _ _ h=>h) (Or.inl ⟨by rfl,?_⟩) cJ ?_;rotate_left
 ·exact oI
 refine Mk.pt ?_;refine iY (i:=16) (v:=?_) rfl bj bj bj (λ_ _ _ h=>h) (Or.inl ⟨by rfl,?_⟩) cJ ?_;rotate_left
 ·exact oI
 refine Mk.pt ?_;refine iY (i:=17) (v:=?_) rfl bj bj bj (λ_ _ _ h=>h) (Or.inl ⟨by rfl,?_⟩) cJ ?_;rotate_left
 ·exact oI
 refine Mk.pt ?_;refine iY (i:=18) (v:=?_) rfl bj bj bj (λ_ _ _ h=>h) (Or.inl ⟨by rfl,?_⟩) cJ ?_;rotate_left
 ·exact oI
 refine Mk.pt ?_;refine iY (i:=19) (v:=?_) rfl bj bj bj (λ_ _ _ h=>h) (Or.inl ⟨by rfl,?_⟩) cJ ?_;rotate_left
 ·exact oI
 refine Mk.pt ?_;refine iY (i:=20) (v:=?_) rfl bj bj bj (λ_ _ _ h=>h) (Or.inl ⟨by rfl,?_⟩) cJ ?_;rotate_left
 ·exact oI
 refine Mk.pt ?_;refine dM (rs:=[10,21]) bj az ?_;refine bX rfl (λK hK=>?_) (bX rfl (λK hK=>?_) cz)
 ·refine fL ?_;go_simp;refine hK.out _ _ au (λau=>?_);clear hK K;refine Mk.pt ?_;refine dM (rs:=[21]) bj az ?_;refine bX rfl (λK hK=>?_) cz;refine fL ?_;go_simp;refine hK.out _ _ (by have:=au;exact⟨by go_simp,by go_simp,by go_simp⟩) (λau=>?_);clear hK K;exact J1
 ·refine fL ?_;go_simp;refine hK.out _ _ (by have:=au;exact⟨by go_simp,by go_simp,by go_simp⟩) (λau=>?_);clear hK K;refine Mk.pt ?_;refine dM (rs:=[10]) bj az ?_;refine bX rfl (λK hK=>?_) cz;refine fL ?_;go_simp;refine hK.out _ _ au (λau=>?_);clear hK K;exact J1
def vg(h:dh w C U RO K p c t used hv jv s r)(E:jB K p c s){q d:Nat}(hq:q<p.ap.length)(he:d<=1){x:eW}(hh:r.hand=O x)(hx:s.f x.key=Xb)(hj:r.bI.length<1000000):
 Calls prog 221 #[Oi C.mb,Y q,Y d] w (cQ w C.mb U.rb RO K p c t used (.bool (dK (aB p c) (s,r) q d).2) (dK (aB p c) (s,r) q d).1):=by
 have iG:=h.r.iE;rw[hh]at iG;obtain⟨X,vW,hhv,Oy,SO⟩:=iG;have rU:=wj h.m.aT;have r4:Xf w (I U.rb 4)=O hv:=h.r.dY.cell 4;rw[hhv]at r4;have rf:∀o,w.frozen? (I U.rb o)=false:=h.r.dY.frozen;have lm:=h.m.aT.lt;have lr:=h.r.dY.lt;have lh:=Oy.lt;have Sx:=Oy;unfold aQ at Sx;obtain⟨e0,e1,e2,e3,e4,-⟩:=kV Sx;have hA:=(h.box (Xe (aQ x) 118)).kT 4 Xd (r':={r with hand:=Xb}) (hv':=Xd) rfl rfl rfl rfl rfl rfl rfl;have hk:Kept RO w ((w.alloc (Xe (aQ x) 118)).setCell (I U.rb 4) Xd):=Kept.du (S:=[U.rb]) (((aC.refl _ w).alloc _).setCell az _) (λb X hc=>by
  simp at hc;subst hc;exact h.sep.ur X (by simp[Ru.l])) h.sep.dZ
 have MP:=((aH.new w 118 (aQ x)).other (c:=U.rb) G 4 Xd);rw[World.setCell_alloc_past _ _ _ _ lr]at hA hk MP;unfold aQ at MP;obtain⟨g0,g1,g2,g3,g4,-⟩:=kV MP;have HL:=Z (Qt hA E hq he x hx hj);have HK:=Z hk;have HE:=Z (show dK (aB p c) (s,r) q d=iP (aB p c) (s,{r with hand:=Xb}) q d x by unfold dK nV;rw[hh];rfl);clear h hA hk MP Oy Sx hh hx hj hhv E SO;unfold aQ at HL HK;unfold bP at HL;rw[HE.o];generalize iP (aB p c) (s,{r with hand:=Xb}) q d x=z at*;go_enter func221,ntmps221;go_wp2_with fail;refine HL.o.mono ?_;intro e w5 hd;have uq:=hd.pre (RO:=RO) HK.o (λb X=>by simp[X]);obtain⟨rfl,nJ⟩:=uq;have Cg:=Z nJ;clear hd nJ HL;go_wp2;go_ret;exact⟨rfl,Cg.o⟩
def FY(h:dh w C U RO K p c t used hv jv s r)(E:jB K p c s)(i:Ins){q d:Nat}(ha:i.a=q)(jq:i.b=d)(hq:q<p.ap.length)(he:d<=1)(hf:s.f r.key=Xb)(hj:r.bI.length<1000000):
 Calls prog 121 #[Oi C.mb,a_ i] w (cQ w C.mb U.rb RO K p c t used (.tuple #[]) (iP (aB p c) (s,r) q d ⟨r.key,λ_=>0⟩).1):=by
 have h1:=h.box (Xe (aK i) 40);have n1:=aH.new w 40 (aK i);have HN:=Z (p_ h1 hf);have HB:=Z ((aZ w.heap.size w).alloc (aL _) (Xe (aK i) 40));have dm:=Z h.sep.dZ;have HL:=Z (λm=>Qt ((h1.drewN m).drewN 1) E hq he ⟨r.key,λ_=>0⟩ hf hj);have H1:=Z h1;obtain⟨c0,c1,c2,c3,c4⟩:=cN n1;rw[ha]at c1;rw[jq]at c2;have k60:(w.alloc (Xe (aK i) 40)).cell? (I C.mb 60)=O (Oi U.rb):=h1.m.aT.cell 60;have r0:=h1.r.dY.c1;clear h h1 n1 ha jq hf hj E;unfold bP at HL;generalize iP (aB p c) (s,r) q d ⟨r.key,λ_=>0⟩=z at*;generalize r.key=key at*;unfold a_;unfold aK at*;go_enter func121,ntmps121;go_wp2_with fail;generalize w.alloc (Xe #[Y i.op,Y i.a,Y i.b,Y i.c,Y i.d] 40)=w1 at*;generalize gP:w.heap.size=bx at*;refine HN.o.mono ?_;rintro e w' ⟨rfl,m,rfl⟩;have Tc:=Z (HL.o m);have HK:=Z (Kept.ai (RO:=RO) (w:=w) (w':=(w1.drewN m).drewN 1) (by rw[gP];exact(HB.o.trans (aA bx w1 m)).trans (aA bx (w1.drewN m) 1)) (by rw[gP];exact dm.o));have d1:(w1.drewN m).cell? (I bx 1)=O (Y q):=c1;have d2:(w1.drewN m).cell? (I bx 2)=O (Y d):=c2;have d60:(w1.drewN m).cell? (I C.mb 60)=O (Oi U.rb):=k60;have d0:(w1.drewN m).cell? (I U.rb 0)=O (.int .u64 key):=r0;clear HN HL c0 c1 c2 c3 c4 k60 r0;generalize w1.drewN m=w2 at*;go_wp2_with fail
 go_still_tail 13,bj
 change wpList _ _ _ _ _ (w2.drewN 1);generalize w2.drewN 1=w3 at*;go_wp2_with fail;refine Tc.o.mono ?_;intro e w5 hd;have uq:=hd.pre (RO:=RO) HK.o (λb X=>by simp[X]);obtain⟨rfl,RO',ho,fi,hk⟩:=uq;have Cg:=Z (show cQ w C.mb U.rb RO K p c t used (.tuple #[]) z.1 (Xc (.tuple #[])) w5 from⟨rfl,RO',ho,fi,hk⟩);clear hd fi hk ho Tc;go_wp2;exact bR (ei rfl _ _ _) rfl Cg.o
def Yd{p:Prop}(h:p:=by
 go_wp2;exact bR (ei rfl _ _ _) rfl ⟨rfl,_,λb X=>by simp[X],(HH.o.kT 6 (Y 3) (r':=r.gE 3) rfl rfl rfl rfl rfl rfl HH.o.r.iE).jJ,HK.o⟩):p:=h
def q9{p:Prop}(h:p:=by
 go_wp2_with fail;generalize w.alloc (Xe #[Y i.op,Y i.a,Y i.b,Y i.c,Y i.d] 40)=w1 at*;generalize gP:w.heap.size=bx at*;refine HN.o.mono ?_;rintro e w' ⟨rfl,m,rfl⟩;have HH:=Z (H1.o.drewN m);have rU:(w1.drewN m).cell? (I C.mb 60)=O (Oi U.rb):=HH.o.m.aT.cell 60;have r6:(w1.drewN m).cell? (I U.rb 6)=O (Y r.bG):=HH.o.r.dY.cell 6;have rf:∀o,(w1.drewN m).frozen? (I U.rb o)=false:=HH.o.r.dY.frozen;have HK:=Z ((Kept.ai (RO:=RO) (w:=w) (w':=w1.drewN m) (by rw[gP];exact HB.o.trans (aA bx w1 m)) (by rw[gP];exact dm.o)).trans (Kept.du (RO:=RO) (S:=U.l) ((aC.refl _ (w1.drewN m)).setCell (p:=(I U.rb 6)) (by simp[Ru.l]) (Y 3)) (λb X=>HH.o.sep.ur (by simp[X])) (λb X=>HH.o.sep.dZ b (by simp[X]))) (λb X=>X));clear HN;generalize w1.drewN m=w2 at*;exact Yd):p:=h
def F_(h:dh w C U RO K p c t used hv jv s r)(i:Ins){n q:Nat}(hf:s.f r.key=O n)(hq:q<p.ap.length)(hn:n∈s.a.ls q):
 Calls prog 121 #[Oi C.mb,a_ i] w (cQ w C.mb U.rb RO K p c t used (.tuple #[]) (s,r.gE 3)):=by
 have h1:=h.box (Xe (aK i) 40);have HN:=Z (nP h1 hf hq hn);have HB:=Z ((aZ w.heap.size w).alloc (aL _) (Xe (aK i) 40));have dm:=Z h.sep.dZ;have H1:=Z h1;clear h h1 hf hn;unfold a_;unfold aK at*;go_enter func121,ntmps121;exact q9
def Nb(h:dh w C U RO K p c t used hv jv s r)(i:Ins)(hf:s.f r.key=Xb):
 Calls prog 122 #[Oi C.mb,a_ i] w (cQ w C.mb U.rb RO K p c t used (.tuple #[]) (s,r.gE 3)):=by
 have h1:=h.box (Xe (aK i) 40);have HN:=Z (p_ h1 hf);have HB:=Z ((aZ w.heap.size w).alloc (aL _) (Xe (aK i) 40));have dm:=Z h.sep.dZ;have H1:=Z h1;clear h h1 hf;unfold a_;unfold aK at*;go_enter func122,ntmps122;exact q9
def Ga(h:dh w C U RO K p c t used hv jv s r)(i:Ins)(hf:s.f r.key=Xb):
 Calls prog 123 #[Oi C.mb,a_ i] w (cQ w C.mb U.rb RO K p c t used (.tuple #[]) (s,r.gE 3)):=by
 have h1:=h.box (Xe (aK i) 40);have HN:=Z (p_ h1 hf);have HB:=Z ((aZ w.heap.size w).alloc (aL _) (Xe (aK i) 40));have dm:=Z h.sep.dZ;have H1:=Z h1;clear h h1 hf;unfold a_;unfold aK at*;go_enter func123,ntmps123;exact q9
def Gb(h:dh w C U RO K p c t used hv jv s r)(i:Ins){n q:Nat}(hf:s.f r.key=O n)(hq:q<p.ap.length)(hn:n∈s.a.ls q)(hg:p.ap.getD q false=false):
 Calls prog 123 #[Oi C.mb,a_ i] w (cQ w C.mb U.rb RO K p c t used (.tuple #[]) (s,r.gE 3)):=by
 have h1:=h.box (Xe (aK i) 40);have HN:=Z (nP h1 hf hq hn);have HB:=Z ((aZ w.heap.size w).alloc (aL _) (Xe (aK i) 40));have dm:=Z h.sep.dZ;have H1:=Z h1;obtain⟨gb,mP,kX,zJ,AQ⟩:=h1.mx.ap hq;have k0:(w.alloc (Xe (aK i) 40)).cell? (I C.mb 0)=O K.g:=h1.m.aT.cell 0;rw[kX]at k0;rw[hg]at AQ;clear h h1 hf hn kX zJ hg;generalize p.ap.length=ng at*;unfold a_;unfold aK at*;go_enter func123,ntmps123;go_wp2_with fail;generalize w.alloc (Xe #[Y i.op,Y i.a,Y i.b,Y i.c,Y i.d] 40)=w1 at*;generalize gP:w.heap.size=bx at*;refine HN.o.mono ?_;rintro e w' ⟨rfl,m,rfl⟩;have HH:=Z (H1.o.drewN m);have rU:(w1.drewN m).cell? (I C.mb 60)=O (Oi U.rb):=HH.o.m.aT.cell 60;have r6:(w1.drewN m).cell? (I U.rb 6)=O (Y r.bG):=HH.o.r.dY.cell 6;have rf:∀o,(w1.drewN m).frozen? (I U.rb o)=false:=HH.o.r.dY.frozen;have d0:(w1.drewN m).cell? (I C.mb 0)=O (H (O (I gb 0)) ng mP):=k0;have dg:(w1.drewN m).cell? (I gb q)=O (.bool false):=AQ;have HK:=Z ((Kept.ai (RO:=RO) (w:=w) (w':=w1.drewN m) (by rw[gP];exact HB.o.trans (aA bx w1 m)) (by rw[gP];exact dm.o)).trans (Kept.du (RO:=RO) (S:=U.l) ((aC.refl _ (w1.drewN m)).setCell (p:=(I U.rb 6)) (by simp[Ru.l]) (Y 3)) (λb X=>HH.o.sep.ur (by simp[X])) (λb X=>HH.o.sep.dZ b (by simp[X]))) (λb X=>X));clear HN k0 AQ;generalize w1.drewN m=w2 at*;exact Yd
def Gc(h:dh w C U RO K p c t used hv jv s r)(E:jB K p c s)(i:Ins){n q:Nat}(hf:s.f r.key=O n)(hq:q<p.ap.length)(hn:n∈s.a.ls q)(hg:p.ap.getD q false=true)(hj:r.bI.length<1000000):
 Calls prog 123 #[Oi C.mb,a_ i] w (cQ w C.mb U.rb RO K p c t used (.tuple #[]) (ru (aB p c) (s,r) n q)):=by
 have h1:=h.box (Xe (aK i) 40);have HN:=Z (nP h1 hf hq hn);have HB:=Z ((aZ w.heap.size w).alloc (aL _) (Xe (aK i) 40));have dm:=Z h.sep.dZ;have I7:=Z (λm=>XR (h1.drewN m) E hq hn hj);obtain⟨gb,mP,kX,zJ,AQ⟩:=h1.mx.ap hq;have k0:(w.alloc (Xe (aK i) 40)).cell? (I C.mb 0)=O K.g:=h1.m.aT.cell 0;rw[kX]at k0;rw[hg]at AQ;clear h h1 hf hn kX zJ hg E;generalize ru (aB p c) (s,r) n q=z at*;generalize p.ap.length=ng at*;unfold a_;unfold aK at*;go_enter func123,ntmps123;go_wp2_with fail;generalize w.alloc (Xe #[Y i.op,Y i.a,Y i.b,Y i.c,Y i.d] 40)=w1 at*;generalize gP:w.heap.size=bx at*;refine HN.o.mono ?_;rintro e w' ⟨rfl,m,rfl⟩;have zU:=Z (I7.o m);have d0:(w1.drewN m).cell? (I C.mb 0)=O (H (O (I gb 0)) ng mP):=k0;have dg:(w1.drewN m).cell? (I gb q)=O (.bool true):=AQ;have HK:=Z (Kept.ai (RO:=RO) (w:=w) (w':=w1.drewN m) (by rw[gP];exact HB.o.trans (aA bx w1 m)) (by rw[gP];exact dm.o));clear HN k0 AQ I7;generalize w1.drewN m=w2 at*;go_wp2_with fail;refine zU.o.mono ?_;intro e w5 hd;have uq:=hd.pre (RO:=RO) HK.o (λb X=>by simp[X]);obtain⟨rfl,RO',ho,fi,hk⟩:=uq;have Cg:=Z (show cQ w C.mb U.rb RO K p c t used (.tuple #[]) z (Xc (.tuple #[])) w5 from⟨rfl,RO',ho,fi,hk⟩);clear hd fi hk ho zU;go_wp2;exact bR (ei rfl _ _ _) rfl Cg.o
def DB(h:dh w C U RO K p c t used hv jv s r)(E:jB K p c s){q d:Nat}(hq:q<p.ap.length)(he:d<=1)(hj:r.bI.length<1000000):
 Calls prog 220 #[Oi C.mb,Y q,Y d] w (cQ w C.mb U.rb RO K p c t used (.bool (bh (aB p c) (s,r) q d).2) (bh (aB p c) (s,r) q d).1):=by
 unfold bh;dsimp only;by_cases bt:s.a.ls q=[]
 ·rw[aE bt];exact mB h hq bt
 ·rw[ax bt];exact rX h E hq he bt hj
def DC{p:Prop}(h:p:=by
 go_wp2;exact bR (ei rfl _ _ _) rfl Cg.o):p:=h
def nf(h:dh w C U RO K p c t used hv jv s r)(i:Ins)(E:jB K p c s){q d:Nat}(ha:i.a=q)(jq:i.b=d)(hq:q<p.ap.length)(he:d<=1)(hj:r.bI.length<1000000):
 Calls prog 124 #[Oi C.mb,a_ i] w (cQ w C.mb U.rb RO K p c t used (.tuple #[]) (bh (aB p c) (s,r) q d).1):=by
 have h1:=h.box (Xe (aK i) 40);have n1:=aH.new w 40 (aK i);have HB:=Z (Kept.ai (RO:=RO) ((aZ w.heap.size w).alloc (aL _) (Xe (aK i) 40)) h.sep.dZ);obtain⟨c0,c1,c2,c3,c4⟩:=cN n1;rw[ha]at c1;rw[jq]at c2;have HC:=Z (DB h1 E hq he hj);have N1:=Z n1;clear h h1 n1 ha jq hj E;unfold a_;unfold aK at*;go_enter func124,ntmps124;go_wp2_with fail;refine HC.o.mono ?_;intro e w5 hd;obtain⟨rfl,RO',ho,fi,hk⟩:=hd.pre (RO:=RO) HB.o (λb X=>by simp[X]);have Cg:=Z (show cQ w C.mb U.rb RO K p c t used (.tuple #[]) (bh (aB p c) (s,r) q d).1 (Xc (.tuple #[])) w5 from⟨rfl,RO',ho,fi,hk⟩);clear hd fi hk ho HC c0 c1 c2 c3 c4;exact DC
def l'(h:dh w C U RO K p c t used hv jv s r)(i:Ins)(E:jB K p c s){q d:Nat}(ha:i.a=q)(jq:i.b=d)(hq:q<p.ap.length)(he:d<=1){x:eW}(hh:r.hand=O x)(hx:s.f x.key=Xb)(hj:r.bI.length<1000000):
 Calls prog 125 #[Oi C.mb,a_ i] w (cQ w C.mb U.rb RO K p c t used (.tuple #[]) (dK (aB p c) (s,r) q d).1):=by
 have h1:=h.box (Xe (aK i) 40);have n1:=aH.new w 40 (aK i);have HB:=Z (Kept.ai (RO:=RO) ((aZ w.heap.size w).alloc (aL _) (Xe (aK i) 40)) h.sep.dZ);obtain⟨c0,c1,c2,c3,c4⟩:=cN n1;rw[ha]at c1;rw[jq]at c2;have HC:=Z (vg h1 E hq he hh hx hj);have N1:=Z n1;clear h h1 n1 ha jq hj E hh hx;unfold a_;unfold aK at*;go_enter func125,ntmps125;go_wp2_with fail;refine HC.o.mono ?_;intro e w5 hd;obtain⟨rfl,RO',ho,fi,hk⟩:=hd.pre (RO:=RO) HB.o (λb X=>by simp[X]);have Cg:=Z (show cQ w C.mb U.rb RO K p c t used (.tuple #[]) (dK (aB p c) (s,r) q d).1 (Xc (.tuple #[])) w5 from⟨rfl,RO',ho,fi,hk⟩);clear hd fi hk ho HC c0 c1 c2 c3 c4;exact DC
def vf(h:dh w C U RO K p c t used hv jv s r)(i:Ins){y:eW}(hh:r.hand=O y)(hl:r.told.length<1000000):
 Calls prog 126 #[Oi C.mb,a_ i] w (cQ w C.mb U.rb RO K p c t used (.tuple #[]) (fU (s,r))):=by
 have h1:=h.box (Xe (aK i) 40);have n1:=aH.new w 40 (aK i);have HB:=Z (Kept.ai (RO:=RO) ((aZ w.heap.size w).alloc (aL _) (Xe (aK i) 40)) h.sep.dZ);obtain⟨c0,c1,c2,c3,c4⟩:=cN n1;have e0:fU (s,r)=(s,{r with told:=r.told++[y.key]}):=by show(s,{r with told:=r.told++[(r.hand.getD eB).key]})=_;rw[show r.hand.getD eB=y by rw[hh];rfl]
 rw[e0];have HC:=Z (Dy h1 hh hl);have N1:=Z n1;clear h h1 n1 hh hl e0;unfold a_;unfold aK at*;go_enter func126,ntmps126;go_wp2_with fail;refine HC.o.mono ?_;intro e w5 hd;obtain⟨rfl,RO',ho,fi,hk⟩:=hd.pre (RO:=RO) HB.o (λb X=>by simp[X]);have Cg:=Z (show cQ w C.mb U.rb RO K p c t used (.tuple #[]) (s,{r with told:=r.told++[y.key]}) (Xc (.tuple #[])) w5 from⟨rfl,RO',ho,fi,hk⟩);clear hd fi hk ho HC c0 c1 c2 c3 c4;exact DC
def Uw(h:dh w C U RO K p c t used hv jv s r)(i:Ins):
 Calls prog 127 #[Oi C.mb,a_ i] w (cQ w C.mb U.rb RO K p c t used (.tuple #[]) (gm (s,r))):=by
 have h1:=h.box (Xe (aK i) 40);have n1:=aH.new w 40 (aK i);have HB:=Z (Kept.ai (RO:=RO) ((aZ w.heap.size w).alloc (aL _) (Xe (aK i) 40)) h.sep.dZ);obtain⟨c0,c1,c2,c3,c4⟩:=cN n1;have HC:=Z (zT h1);have N1:=Z n1;clear h h1 n1;unfold a_;unfold aK at*;go_enter func127,ntmps127;go_wp2_with fail;refine HC.o.mono ?_;intro e w5 hd;obtain⟨rfl,RO',ho,fi,hk⟩:=hd.pre (RO:=RO) HB.o (λb X=>by simp[X]);have Cg:=Z (show cQ w C.mb U.rb RO K p c t used (.tuple #[]) (gm (s,r)) (Xc (.tuple #[])) w5 from⟨rfl,RO',ho,fi,hk⟩);clear hd fi hk ho HC c0 c1 c2 c3 c4;exact DC
def Ux{p:Prop}(h:p:=by
 go_wp2_with fail;refine HC.o.mono ?_;intro e w5 hd;obtain⟨rfl,RO',ho,fi,hk⟩:=hd.pre (RO:=RO) HB.o (λb X=>by simp[X]);have Cg:=Z (show cQ w C.mb U.rb RO K p c t used (.tuple #[]) (s,r.gE 2) (Xc (.tuple #[])) w5 from⟨rfl,RO',ho,fi,hk⟩);clear hd fi hk ho HC c0 c1 c2 c3 c4;exact DC):p:=h
def I8(h:dh w C U RO K p c t used hv jv s r)(i:Ins){q d:Nat}(ha:i.a=q)(jq:i.b=d)(hq:q<p.ap.length)(he:d<=1)(bt:s.a.ls q=[]):
 Calls prog 131 #[Oi C.mb,a_ i] w (cQ w C.mb U.rb RO K p c t used (.tuple #[]) (s,r.gE 2)):=by
 have h1:=h.box (Xe (aK i) 40);have n1:=aH.new w 40 (aK i);have HB:=Z (Kept.ai (RO:=RO) ((aZ w.heap.size w).alloc (aL _) (Xe (aK i) 40)) h.sep.dZ);obtain⟨c0,c1,c2,c3,c4⟩:=cN n1;rw[ha]at c1;rw[jq]at c2;have HC:=Z (mB (d:=d) h1 hq bt);have N1:=Z n1;clear h h1 n1 ha jq bt;unfold a_;unfold aK at*;go_enter func131,ntmps131;exact Ux
def Uy(h:dh w C U RO K p c t used hv jv s r)(i:Ins)(E:jB K p c s){q d:Nat}(ha:i.a=q)(jq:i.b=d)(hq:q<p.ap.length)(he:d<=1)(hj:r.bI.length<999990)(bt:s.a.ls q≠[]):
 Calls prog 131 #[Oi C.mb,a_ i] w (cQ w C.mb U.rb RO K p c t used (.tuple #[]) (gm (lE (aB p c) s q d,{r.note (.put q d (s.a.val (cS s.a q d)))with hand:=O (s.a.val (cS s.a q d))}))):=by
 have h1:=h.box (Xe (aK i) 40);have n1:=aH.new w 40 (aK i);have HB:=Z (Kept.ai (RO:=RO) ((aZ w.heap.size w).alloc (aL _) (Xe (aK i) 40)) h.sep.dZ);obtain⟨c0,c1,c2,c3,c4⟩:=cN n1;rw[ha]at c1;rw[jq]at c2;have HC:=Z (rX h1 E hq he bt G);have E2:jB K p c (lE (aB p c) s q d):=⟨jF E.inv hq (fX bt),E.ii,E.nd,E.FJ,E.g16,E.t4⟩;have wo:(lE (aB p c) s q d).f (s.a.val (cS s.a q d)).key=Xb:=aw _ _ _;have px:=Z E2;have nN:=Z wo;have HJ:=Z hj;have N1:=Z n1;clear h h1 n1 ha jq hj E bt E2 wo;unfold a_;unfold aK at*;go_enter func131,ntmps131;go_wp2_with fail;generalize hy:s.a.val (cS s.a q d)=y at*;generalize hz:lE (aB p c) s q d=z at*;have HYZ:=Z (And.intro hy hz);clear hy hz;generalize gP:w.heap.size=bx at*;refine HC.o.mono ?_;rintro e w3 ⟨rfl,Hg,Ge,⟨C3,U3,P8,jv3,wq,wu,A3⟩,mV⟩;obtain⟨i0,i1,i2,i3,i4⟩:=cN (i:=i) (aH.mA N1.o mV az);have hn:=zT A3;rw[wq,wu]at hn;have HN:=Z hn;have K3:=Z (HB.o.trans mV (λb X=>by simp[X]));have Qw:=Z (show∀b,b∈bx::RO->b∈Hg from Ge);clear HC A3 hn mV Ge wq wu c0 c1 c2 c3 c4 i0 i1 i2 i3 i4;go_wp2_with fail;refine HN.o.mono ?_;intro e w5 hd;obtain⟨rfl,RO',ho,fi,hk⟩:=hd.pre (RO:=RO) K3.o (λb X=>Qw.o b (by simp[X]));have Cg:=Z (show cQ w C.mb U.rb RO K p c t used (.tuple #[]) (gm (z,{r.note (.put q d (y))with hand:=O (y)})) (Xc (.tuple #[])) w5 from⟨rfl,RO',ho,fi,hk⟩);clear hd fi hk ho;exact DC
def ae(h:dh w C U RO K p c t used hv jv s r)(i:Ins)(E:jB K p c s){q d:Nat}(ha:i.a=q)(jq:i.b=d)(hq:q<p.ap.length)(he:d<=1)(hj:r.bI.length<999990):
 Calls prog 131 #[Oi C.mb,a_ i] w (cQ w C.mb U.rb RO K p c t used (.tuple #[]) (uE (aB p c) i (s,r))):=by
 have L_:N i.a=q:=by unfold N;rw[ha];rfl
 have J0:N i.b=d:=by unfold N;rw[jq];rfl
 unfold uE bh;dsimp only;rw[L_,J0];by_cases bt:s.a.ls q=[]
 ·rw[aE bt];exact I8 h i ha jq hq he bt
 ·rw[ax bt];exact Uy h i E ha jq hq he hj bt
def Gf(h:dh w C U RO K p c t used hv jv s r)(i:Ins){q d:Nat}(ha:i.a=q)(jq:i.b=d)(hq:q<p.ap.length)(he:d<=1)(bt:s.a.ls q=[]):
 Calls prog 128 #[Oi C.mb,a_ i] w (cQ w C.mb U.rb RO K p c t used (.tuple #[]) (s,r.gE 2)):=by
 have h1:=h.box (Xe (aK i) 40);have n1:=aH.new w 40 (aK i);have HB:=Z (Kept.ai (RO:=RO) ((aZ w.heap.size w).alloc (aL _) (Xe (aK i) 40)) h.sep.dZ);obtain⟨c0,c1,c2,c3,c4⟩:=cN n1;rw[ha]at c1;rw[jq]at c2;have HC:=Z (mB (d:=d) h1 hq bt);have N1:=Z n1;clear h h1 n1 ha jq bt;unfold a_;unfold aK at*;go_enter func128,ntmps128;exact Ux
def Qx(h:dh w C U RO K p c t used hv jv s r)(i:Ins)(E:jB K p c s){q d:Nat}(ha:i.a=q)(jq:i.b=d)(hq:q<p.ap.length)(he:d<=1){q2 d2:Nat}(ow:i.c=q2)(nJ:i.d=d2)(og:q2<p.ap.length)(Oz:d2<=1)(hj:r.bI.length<999990)(bt:s.a.ls q≠[]):
 Calls prog 128 #[Oi C.mb,a_ i] w (cQ w C.mb U.rb RO K p c t used (.tuple #[]) (dK (aB p c) (lE (aB p c) s q d,{r.note (.put q d (s.a.val (cS s.a q d)))with hand:=O (s.a.val (cS s.a q d))}) q2 d2).1):=by
 have h1:=h.box (Xe (aK i) 40);have n1:=aH.new w 40 (aK i);have HB:=Z (Kept.ai (RO:=RO) ((aZ w.heap.size w).alloc (aL _) (Xe (aK i) 40)) h.sep.dZ);obtain⟨c0,c1,c2,c3,c4⟩:=cN n1;rw[ha]at c1;rw[jq]at c2;rw[ow]at c3;rw[nJ]at c4;have HC:=Z (rX h1 E hq he bt G);have E2:jB K p c (lE (aB p c) s q d):=⟨jF E.inv hq (fX bt),E.ii,E.nd,E.FJ,E.g16,E.t4⟩;have wo:(lE (aB p c) s q d).f (s.a.val (cS s.a q d)).key=Xb:=aw _ _ _;have px:=Z E2;have nN:=Z wo;have HJ:=Z hj;have N1:=Z n1;have Uz:=Z ow;have UA:=Z nJ;clear h h1 n1 ha jq hj E bt E2 wo ow nJ;unfold a_;unfold aK at*;go_enter func128,ntmps128;go_wp2_with fail;generalize hy:s.a.val (cS s.a q d)=y at*;generalize hz:lE (aB p c) s q d=z at*;have HYZ:=Z (And.intro hy hz);clear hy hz;generalize gP:w.heap.size=bx at*;refine HC.o.mono ?_;rintro e w3 ⟨rfl,Hg,Ge,⟨C3,U3,P8,jv3,wq,wu,A3⟩,mV⟩;obtain⟨i0,i1,i2,i3,i4⟩:=cN (i:=i) (aH.mA N1.o mV az);rw[Uz.o]at i3;rw[UA.o]at i4;have hn:=vg A3 px.o og Oz (x:=y) rfl nN.o (by have:=HJ.o;simp[Rn.note];omega);rw[wq,wu]at hn;have HN:=Z hn;have K3:=Z (HB.o.trans mV (λb X=>by simp[X]));have Qw:=Z (show∀b,b∈bx::RO->b∈Hg from Ge);clear HC A3 hn mV Ge wq wu c0 c1 c2 c3 c4 i0 i1 i2;go_wp2_with fail;refine HN.o.mono ?_;intro e w5 hd;obtain⟨rfl,RO',ho,fi,hk⟩:=hd.pre (RO:=RO) K3.o (λb X=>Qw.o b (by simp[X]));have Cg:=Z (show cQ w C.mb U.rb RO K p c t used (.tuple #[]) (dK (aB p c) (z,{r.note (.put q d (y))with hand:=O (y)}) q2 d2).1 (Xc (.tuple #[])) w5 from⟨rfl,RO',ho,fi,hk⟩);clear hd fi hk ho;exact DC
def UB(h:dh w C U RO K p c t used hv jv s r)(i:Ins)(E:jB K p c s){q d:Nat}(ha:i.a=q)(jq:i.b=d)(hq:q<p.ap.length)(he:d<=1){q2 d2:Nat}(ow:i.c=q2)(nJ:i.d=d2)(og:q2<p.ap.length)(Oz:d2<=1)(hj:r.bI.length<999990):
 Calls prog 128 #[Oi C.mb,a_ i] w (cQ w C.mb U.rb RO K p c t used (.tuple #[]) (qu (aB p c) i (s,r))):=by
 have L_:N i.a=q:=by unfold N;rw[ha];rfl
 have J0:N i.b=d:=by unfold N;rw[jq];rfl
 have hNc:N i.c=q2:=by unfold N;rw[ow];rfl
 have hNd:N i.d=d2:=by unfold N;rw[nJ];rfl
 unfold qu bh;dsimp only;rw[L_,J0,hNc,hNd];by_cases bt:s.a.ls q=[]
 ·rw[aE bt];exact Gf h i ha jq hq he bt
 ·rw[ax bt];exact Qx h i E ha jq hq he ow nJ og Oz hj bt
def Gg(h:dh w C U RO K p c t used hv jv s r)(i:Ins){q d:Nat}(ha:i.a=q)(jq:i.b=d)(hq:q<p.ap.length)(he:d<=1)(bt:s.a.ls q=[]):
 Calls prog 130 #[Oi C.mb,a_ i] w (cQ w C.mb U.rb RO K p c t used (.tuple #[]) (s,r.gE 2)):=by
 have h1:=h.box (Xe (aK i) 40);have n1:=aH.new w 40 (aK i);have HB:=Z (Kept.ai (RO:=RO) ((aZ w.heap.size w).alloc (aL _) (Xe (aK i) 40)) h.sep.dZ);obtain⟨c0,c1,c2,c3,c4⟩:=cN n1;rw[ha]at c1;rw[jq]at c2;have HC:=Z (mB (d:=d) h1 hq bt);have N1:=Z n1;clear h h1 n1 ha jq bt;unfold a_;unfold aK at*;go_enter func130,ntmps130;exact Ux
def Qy(h:dh w C U RO K p c t used hv jv s r)(i:Ins)(E:jB K p c s){q d:Nat}(ha:i.a=q)(jq:i.b=d)(hq:q<p.ap.length)(he:d<=1)(hj:r.bI.length<999990)(hl:r.told.length<1000000)(bt:s.a.ls q≠[]):
 Calls prog 130 #[Oi C.mb,a_ i] w (cQ w C.mb U.rb RO K p c t used (.tuple #[]) (gm (fU (lE (aB p c) s q d,{r.note (.put q d (s.a.val (cS s.a q d)))with hand:=O (s.a.val (cS s.a q d))})))):=by
 have h1:=h.box (Xe (aK i) 40);have n1:=aH.new w 40 (aK i);have HB:=Z (Kept.ai (RO:=RO) ((aZ w.heap.size w).alloc (aL _) (Xe (aK i) 40)) h.sep.dZ);obtain⟨c0,c1,c2,c3,c4⟩:=cN n1;rw[ha]at c1;rw[jq]at c2;have HC:=Z (rX h1 E hq he bt G);have E2:jB K p c (lE (aB p c) s q d):=⟨jF E.inv hq (fX bt),E.ii,E.nd,E.FJ,E.g16,E.t4⟩;have wo:(lE (aB p c) s q d).f (s.a.val (cS s.a q d)).key=Xb:=aw _ _ _;have px:=Z E2;have nN:=Z wo;have HJ:=Z hj;have HL:=Z hl;have N1:=Z n1;clear h h1 n1 ha jq hj E bt E2 wo hl;unfold a_;unfold aK at*;go_enter func130,ntmps130;go_wp2_with fail;generalize hy:s.a.val (cS s.a q d)=y at*;generalize hz:lE (aB p c) s q d=z at*;have HYZ:=Z (And.intro hy hz);clear hy hz;generalize gP:w.heap.size=bx at*;refine HC.o.mono ?_;rintro e w3 ⟨rfl,Hg,Ge,⟨C3,U3,P8,jv3,wq,wu,A3⟩,mV⟩;obtain⟨i0,i1,i2,i3,i4⟩:=cN (i:=i) (aH.mA N1.o mV az);have hn:=Dy A3 (y:=y) rfl HL.o;rw[wq,wu]at hn;have Be:=Z mV;have HN:=Z hn;have K3:=Z (HB.o.trans mV (λb X=>by simp[X]));have Qw:=Z (show∀b,b∈bx::RO->b∈Hg from Ge);clear HC A3 hn mV Ge wq wu c0 c1 c2 c3 c4;go_wp2_with fail;refine HN.o.mono ?_;rintro e w4 ⟨rfl,Qf,Ow,⟨C4,U4,hv4,jv4,xU,Dn,A4⟩,Er⟩;have b4:=aH.mA (aH.mA N1.o (show Kept (bx::RO) _ w3 from Be.o) az) Er (Qw.o bx az);obtain⟨g0,g1,g2,g3,g4⟩:=cN (i:=i) b4;have tB:=zT A4;rw[xU,Dn]at tB;have OA:=Z tB;have K4:=Z (K3.o.trans Er (λb X=>Qw.o b (by simp[X])));have WZ:=Z (show∀b,b∈RO->b∈Qf from λb X=>Ow b (Qw.o b (by simp[X])));clear HN A4 tB Er Ow xU Dn b4 i0 i1 i2 i3 i4 g0 g1 g2;go_wp2_with fail;refine OA.o.mono ?_;intro e w5 hd;obtain⟨rfl,RO',ho,fi,hk⟩:=hd.pre (RO:=RO) K4.o WZ.o;have Cg:=Z (show cQ w C.mb U.rb RO K p c t used (.tuple #[]) (gm (fU (z,{r.note (.put q d (y))with hand:=O (y)}))) (Xc (.tuple #[])) w5 from⟨rfl,RO',ho,fi,hk⟩);clear hd fi hk ho;exact DC
def UC(h:dh w C U RO K p c t used hv jv s r)(i:Ins)(E:jB K p c s){q d:Nat}(ha:i.a=q)(jq:i.b=d)(hq:q<p.ap.length)(he:d<=1)(hj:r.bI.length<999990)(hl:r.told.length<1000000):
 Calls prog 130 #[Oi C.mb,a_ i] w (cQ w C.mb U.rb RO K p c t used (.tuple #[]) (qx (aB p c) i (s,r))):=by
 have L_:N i.a=q:=by unfold N;rw[ha];rfl
 have J0:N i.b=d:=by unfold N;rw[jq];rfl
 unfold qx bh;dsimp only;rw[L_,J0];by_cases bt:s.a.ls q=[]
 ·rw[aE bt];exact Gg h i ha jq hq he bt
 ·rw[ax bt];exact Qy h i E ha jq hq he hj hl bt
def Gh(h:dh w C U RO K p c t used hv jv s r)(i:Ins){q d:Nat}(ha:i.a=q)(jq:i.b=d)(hq:q<p.ap.length)(he:d<=1)(bt:s.a.ls q=[]):
 Calls prog 129 #[Oi C.mb,a_ i] w (cQ w C.mb U.rb RO K p c t used (.tuple #[]) (s,r.gE 2)):=by
 have h1:=h.box (Xe (aK i) 40);have n1:=aH.new w 40 (aK i);have HB:=Z (Kept.ai (RO:=RO) ((aZ w.heap.size w).alloc (aL _) (Xe (aK i) 40)) h.sep.dZ);obtain⟨c0,c1,c2,c3,c4⟩:=cN n1;rw[ha]at c1;rw[jq]at c2;have HC:=Z (mB (d:=d) h1 hq bt);have N1:=Z n1;clear h h1 n1 ha jq bt;unfold a_;unfold aK at*;go_enter func129,ntmps129;exact Ux
def Qz(h:dh w C U RO K p c t used hv jv s r)(i:Ins)(E:jB K p c s){q d:Nat}(ha:i.a=q)(jq:i.b=d)(hq:q<p.ap.length)(he:d<=1){q2 d2:Nat}(ow:i.c=q2)(nJ:i.d=d2)(og:q2<p.ap.length)(Oz:d2<=1)(hj:r.bI.length<999990)(hl:r.told.length<1000000)(bt:s.a.ls q≠[]):
 Calls prog 129 #[Oi C.mb,a_ i] w (cQ w C.mb U.rb RO K p c t used (.tuple #[]) (dK (aB p c) (fU (lE (aB p c) s q d,{r.note (.put q d (s.a.val (cS s.a q d)))with hand:=O (s.a.val (cS s.a q d))})) q2 d2).1):=by
 have h1:=h.box (Xe (aK i) 40);have n1:=aH.new w 40 (aK i);have HB:=Z (Kept.ai (RO:=RO) ((aZ w.heap.size w).alloc (aL _) (Xe (aK i) 40)) h.sep.dZ);obtain⟨c0,c1,c2,c3,c4⟩:=cN n1;rw[ha]at c1;rw[jq]at c2;rw[ow]at c3;rw[nJ]at c4;have HC:=Z (rX h1 E hq he bt G);have E2:jB K p c (lE (aB p c) s q d):=⟨jF E.inv hq (fX bt),E.ii,E.nd,E.FJ,E.g16,E.t4⟩;have wo:(lE (aB p c) s q d).f (s.a.val (cS s.a q d)).key=Xb:=aw _ _ _;have px:=Z E2;have nN:=Z wo;have HJ:=Z hj;have HL:=Z hl;have N1:=Z n1;have Uz:=Z ow;have UA:=Z nJ;clear h h1 n1 ha jq hj E bt E2 wo ow nJ hl;unfold a_;unfold aK at*;go_enter func129,ntmps129;go_wp2_with fail;generalize hy:s.a.val (cS s.a q d)=y at*;generalize hz:lE (aB p c) s q d=z at*;have HYZ:=Z (And.intro hy hz);clear hy hz;generalize gP:w.heap.size=bx at*;refine HC.o.mono ?_;rintro e w3 ⟨rfl,Hg,Ge,⟨C3,U3,P8,jv3,wq,wu,A3⟩,mV⟩;obtain⟨i0,i1,i2,i3,i4⟩:=cN (i:=i) (aH.mA N1.o mV az);rw[Uz.o]at i3;rw[UA.o]at i4;have hn:=Dy A3 (y:=y) rfl HL.o;rw[wq,wu]at hn;have Be:=Z mV;have HN:=Z hn;have K3:=Z (HB.o.trans mV (λb X=>by simp[X]));have Qw:=Z (show∀b,b∈bx::RO->b∈Hg from Ge);clear HC A3 hn mV Ge wq wu c0 c1 c2 c3 c4;go_wp2_with fail;refine HN.o.mono ?_;rintro e w4 ⟨rfl,Qf,Ow,⟨C4,U4,hv4,jv4,xU,Dn,A4⟩,Er⟩;have b4:=aH.mA (aH.mA N1.o (show Kept (bx::RO) _ w3 from Be.o) az) Er (Qw.o bx az);obtain⟨g0,g1,g2,g3,g4⟩:=cN (i:=i) b4;rw[Uz.o]at g3;rw[UA.o]at g4;have tB:=vg A4 px.o og Oz (x:=y) rfl nN.o (by have:=HJ.o;simp[Rn.note];omega);rw[xU,Dn]at tB;have OA:=Z tB;have K4:=Z (K3.o.trans Er (λb X=>Qw.o b (by simp[X])));have WZ:=Z (show∀b,b∈RO->b∈Qf from λb X=>Ow b (Qw.o b (by simp[X])));clear HN A4 tB Er Ow xU Dn b4 i0 i1 i2 i3 i4 g0 g1 g2;go_wp2_with fail;refine OA.o.mono ?_;intro e w5 hd;obtain⟨rfl,RO',ho,fi,hk⟩:=hd.pre (RO:=RO) K4.o WZ.o;have Cg:=Z (show cQ w C.mb U.rb RO K p c t used (.tuple #[]) (dK (aB p c) (fU (z,{r.note (.put q d (y))with hand:=O (y)})) q2 d2).1 (Xc (.tuple #[])) w5 from⟨rfl,RO',ho,fi,hk⟩);clear hd fi hk ho;exact DC
def UD(h:dh w C U RO K p c t used hv jv s r)(i:Ins)(E:jB K p c s){q d:Nat}(ha:i.a=q)(jq:i.b=d)(hq:q<p.ap.length)(he:d<=1){q2 d2:Nat}(ow:i.c=q2)(nJ:i.d=d2)(og:q2<p.ap.length)(Oz:d2<=1)(hj:r.bI.length<999990)(hl:r.told.length<1000000):
 Calls prog 129 #[Oi C.mb,a_ i] w (cQ w C.mb U.rb RO K p c t used (.tuple #[]) (qw (aB p c) i (s,r))):=by
 have L_:N i.a=q:=by unfold N;rw[ha];rfl
 have J0:N i.b=d:=by unfold N;rw[jq];rfl
 have hNc:N i.c=q2:=by unfold N;rw[ow];rfl
 have hNd:N i.d=d2:=by unfold N;rw[nJ];rfl
 unfold qw bh;dsimp only;rw[L_,J0,hNc,hNd];by_cases bt:s.a.ls q=[]
 ·rw[aE bt];exact Gh h i ha jq hq he bt
 ·rw[ax bt];exact Qz h i E ha jq hq he ow nJ og Oz hj hl bt
def Nc(h:dh w C U RO K p c t used hv jv s r)(E:jB K p c s)(i:Ins){n q q2 d:Nat}(ha:i.a=q2)(jq:i.b=d)(og:q2<p.ap.length)(he:d<=1)(hf:s.f r.key=O n)(hq:q<p.ap.length)(hn:n∈s.a.ls q)(hj:r.bI.length<999990):
 Calls prog 122 #[Oi C.mb,a_ i] w (cQ w C.mb U.rb RO K p c t used (.tuple #[]) (iP (aB p c) (ru (aB p c) (s,r) n q) q2 d (s.a.val n)).1):=by
 have h1:=h.box (Xe (aK i) 40);have n1:=aH.new w 40 (aK i);have HN:=Z (nP h1 hf hq hn);have HB:=Z ((aZ w.heap.size w).alloc (aL _) (Xe (aK i) 40));have dm:=Z h.sep.dZ;have I7:=Z (λm=>XR ((h1.drewN m).drewN 1) E hq hn G);obtain⟨c0,c1,c2,c3,c4⟩:=cN n1;rw[ha]at c1;rw[jq]at c2;have E2:jB K p c (fH (aB p c) s q n):=⟨jF E.inv hq hn,E.ii,E.nd,E.FJ,E.g16,E.t4⟩;have wo:(fH (aB p c) s q n).f (s.a.val n).key=Xb:=aw _ _ _;have px:=Z E2;have nN:=Z wo;have HJ:=Z hj;have N1:=Z n1;have HX:=Z (And.intro ha jq);have hO:ru (aB p c) (s,r) n q=(fH (aB p c) s q n,r.note (.out q (s.a.val n) (cE (s.a.ls q) n))):=rfl;rw[hO]at I7;rw[hO];clear h h1 n1 hf hn E E2 wo hj ha jq hO;generalize hy:s.a.val n=y at*;generalize hz:fH (aB p c) s q n=z at*;generalize hu:r.note (.out q y (cE (s.a.ls q) n))=r2 at*;have HYZ:=Z (And.intro hy (And.intro hz hu));clear hy hz hu;unfold a_;unfold aK at*;unfold bP at I7;go_enter func122,ntmps122;go_wp2_with fail;generalize w.alloc (Xe #[Y i.op,Y i.a,Y i.b,Y i.c,Y i.d] 40)=w1 at*;generalize gP:w.heap.size=bx at*;refine HN.o.mono ?_;rintro e w' ⟨rfl,m,rfl⟩;have zU:=Z (I7.o m);have d1:(w1.drewN m).cell? (I bx 1)=O (Y q2):=c1;have d2:(w1.drewN m).cell? (I bx 2)=O (Y d):=c2;have M1:=Z ((N1.o.drewN m).drewN 1);have HK:=Z (Kept.ai (RO:=RO) (w:=w) (w':=(w1.drewN m).drewN 1) (by rw[gP];exact(HB.o.trans (aA bx w1 m)).trans (aA bx (w1.drewN m) 1)) (by rw[gP];exact dm.o));clear HN c0 c1 c2 c3 c4 I7 N1;generalize w1.drewN m=w2 at*;have C1:Hid (Calls prog 219 #[Oi C.mb,Y n,Y q] (w2.drewN 1) λe w3=>e=Xc (.agg #[.int .u64 y.key,Y (y.tg 0),Y (y.tg 1),Y (y.tg 2),Y (y.tg 3)])/\(Xf w3 (I bx 1)=O (Y q2)/\Xf w3 (I bx 2)=O (Y d))/\
  Hid (∃Hg,(∀b,b∈bx::RO->b∈Hg)/\In w3 C.mb U.rb Hg K p c t used (z,r2)/\Kept (bx::RO) (w2.drewN 1) w3)):=by
  refine Z (zU.o.mono ?_);rintro e w3 ⟨rfl,Hg,Ge,Xh,mV⟩;have b3:=aH.mA M1.o mV az;have hHX:=HX.o;exact⟨rfl,⟨(b3.cell 1).trans (by rw[<-hHX.1];rfl),(b3.cell 2).trans (by rw[<-hHX.2];rfl)⟩,Z ⟨Hg,Ge,Xh,mV⟩⟩
 have C2:Hid (∀w3,(∃Hg,(∀b,b∈bx::RO->b∈Hg)/\In w3 C.mb U.rb Hg K p c t used (z,r2)/\Kept (bx::RO) (w2.drewN 1) w3)->Calls prog 218 #[Oi C.mb,Y q2,Y d,.agg #[.int .u64 y.key,Y (y.tg 0),Y (y.tg 1),Y (y.tg 2),Y (y.tg 3)]] w3 λe w4=>(∃b,e=Xc (.bool b))/\(Xf w4 (I bx 1)=O (Y q2)/\Xf w4 (I bx 2)=O (Y d))/\
  Hid (cQ w C.mb U.rb RO K p c t used (.tuple #[]) (iP (aB p c) (z,r2) q2 d y).1 (Xc (.tuple #[])) w4)):=by
  refine Z ?_;rintro w3 ⟨Hg,Ge,⟨C3,U3,P8,jv3,wq,wu,A3⟩,mV⟩;have hn:=Qt A3 px.o og he y nN.o (by have:=HJ.o;have e:=HYZ.o.2.2;rw[<-e];simp[Rn.note];omega);rw[wq,wu]at hn;refine hn.mono ?_;rintro e w4 ⟨rfl,Qf,Ow,hb,Er⟩;have b4:=aH.mA (aH.mA M1.o mV az) Er (Ge bx az);have hHX:=HX.o;exact⟨⟨_,rfl⟩,⟨(b4.cell 1).trans (by rw[<-hHX.1];rfl),(b4.cell 2).trans (by rw[<-hHX.2];rfl)⟩,Z ⟨rfl,Qf,λb X=>Ow b (Ge b (by simp[X])),hb,(HK.o.trans mV (λb X=>by simp[X])).trans Er (λb X=>Ge b (by simp[X]))⟩⟩
 clear zU;go_wp2
 go_region_held3 (λwx=>Xf wx (I bx 1)=O (Y q2)/\Xf wx (I bx 2)=O (Y d)) (first|exact⟨d1,d2⟩|assumption) (first|(go_at_call 219;refine C1.o.mono ?_;rintro e w3 ⟨rfl,Gi,Td⟩)|(go_at_call 218;refine(C2.o _ Td.o).mono ?_;rintro e w4 ⟨⟨b,rfl⟩,XV,hQ4⟩))
 clear Gi XV;go_wp2;exact bR (ei rfl _ _ _) rfl hQ4.o
end
end Go.Ma
section
def qX1{p:Prop}(h:p:=by
 have b2:bx<w3.heap.size:=HE3.o.lt;have XX:=Z (λv=>ov (wk.o.box (Xe #[.int .u64 x.key,Y (x.tg 0),Y (x.tg 1),Y (x.tg 2),Y (x.tg 3)] 118)) v hl);have Nf:=mM.o.trans ((aZ w2.heap.size w3).alloc mM.o.size (Xe #[.int .u64 x.key,Y (x.tg 0),Y (x.tg 1),Y (x.tg 2),Y (x.tg 3)] 118));have HK5:=Z (HK.o.trans (Kept.ai Nf HA.o.sep.dZ) (λb X=>by simp[X]));clear wk mM HE3 Nf HA Ng HK Bb;obtain rfl|rfl|rfl|rfl:k=0\/k=1\/k=2\/k=3:=G
 all_goals
  go_wp2_with fail;refine(XX.o _).mono ?_;intro e w' hd;obtain⟨rfl,nJ⟩:=hd.pre (RO:=RO) HK5.o (λb X=>by simp[X]);go_wp2;exact bR (ei rfl _ _ _) rfl ⟨rfl,nJ⟩):p:=h
namespace Go.Ma
open Go.RowKit al.Vm
open al hiding aS aw an
open eO (cw bP)
open Ix (dp)
section
variable {w w':ek}{C:Co}{U U':Ru}{RO RO':List Nat}{K:Kc}{p:aU}{c:Cp}{t:fG}{used:Int}{hv hv':to}{jv lM:Nat->to}{s:St}{r r':Rn}{mb rb:Nat}
def ae2(h:dh w C U RO K p c t used hv jv s r)(i:Ins){n q:Nat}(hf:s.f r.key=O n)(hq:q<p.ap.length)(hn:n∈s.a.ls q){k:Nat}(hk:i.a=k)(Er:k<4)(hl:r.stack.length<1000000):
 Calls prog 109 #[Oi C.mb,a_ i] w (cQ w C.mb U.rb RO K p c t used (.tuple #[]) (s,r.push ((s.a.val n).tg k))):=by
 have H0:=h.box (Xe (aK i) 40);have HB:=Z ((aZ w.heap.size w).alloc (aL _) (Xe (aK i) 40));have HN:=Z (zR H0 hf hq hn);have lL:=Z (aH.new w 40 (aK i));have HH:=Z (λm=>H0.drewN m);have Bb:=Z hk;have dm:=Z h.sep.dZ;have vh:=Z hn;clear h H0 hk hf hn;unfold a_;unfold aK at*;go_enter func109,ntmps109;go_wp2_with fail;refine HN.o.mono ?_;rintro e w' ⟨rfl,m,rfl⟩;have e1:aH ((w.alloc (Xe #[Y i.op,Y i.a,Y i.b,Y i.c,Y i.d] 40)).drewN m) w.heap.size 40 #[Y i.op,Y k,Y i.b,Y i.c,Y i.d]:=by rw[<-Bb.o];exact lL.o
 have Ng:=Z e1;have HA:=Z (HH.o m);have HK:=Z (Kept.ai (RO:=RO) (HB.o.trans (aA _ _ m)) dm.o);clear HN HB lL HH e1;generalize(w.alloc (Xe #[Y i.op,Y i.a,Y i.b,Y i.c,Y i.d] 40)).drewN m=w2 at*;generalize w.heap.size=bx at*;have m9:Xf w2 (I C.mb 9)=O (Oi C.ab):=HA.o.m.aT.cell 9;have HGT:=Z (eO.PJ HA.o.m.ar hq vh.o);go_wp2_with fail;refine HGT.o.mono ?_;rintro e w3 ⟨rfl,X⟩;have wk:=Z (HA.o.later X);have mM:=Z X;have HE3:=Z (Ng.o.aG (aC.ai (S:=[]) X) az);clear m9 HGT X;generalize s.a.val n=x at*;unfold bP;have b1:Xf w3 (I bx 1)=O (Y k):=HE3.o.cell 1;exact qX1
end
end Go.Ma
end
namespace Go.Ma
open Go.RowKit al.Vm
open al hiding aS aw an
open eO (cw bP)
open Ix (dp)
section
variable {w w':ek}{C:Co}{U U':Ru}{RO RO':List Nat}{K:Kc}{p:aU}{c:Cp}{t:fG}{used:Int}{hv hv':to}{jv lM:Nat->to}{s:St}{r r':Rn}{mb rb:Nat}
def abH(h:dh w C U RO K p c t used hv jv s r)(i:Ins){q d:Nat}(ha:i.a=q)(jq:i.b=d)(hq:q<p.ap.length)(he:d<=1)(bt:s.a.ls q≠[]){k:Nat}(hk:i.c=k)(Er:k<4)(hl:r.stack.length<1000000):
 Calls prog 110 #[Oi C.mb,a_ i] w (cQ w C.mb U.rb RO K p c t used (.tuple #[]) (s,r.push ((s.a.val (cS s.a q d)).tg k))):=by
 have H0:=h.box (Xe (aK i) 40);have HB:=Z ((aZ w.heap.size w).alloc (aL _) (Xe (aK i) 40));have HN:=Z (u_ H0 hq he bt);have lL:=Z (aH.new w 40 (aK i));have HH:=Z (λm=>H0.drewN m);have Bb:=Z hk;have dm:=Z h.sep.dZ;have vh:=Z (fX (e:=d) bt);have g1:(w.alloc (Xe (aK i) 40)).cell? (I w.heap.size 1)=O (Y q):=by rw[<-ha];exact(aH.new w 40 (aK i)).cell 1
 have g2:(w.alloc (Xe (aK i) 40)).cell? (I w.heap.size 2)=O (Y d):=by rw[<-jq];exact(aH.new w 40 (aK i)).cell 2
 clear h H0 hk ha jq bt;unfold a_;unfold aK at*;generalize OS:cS s.a q d=n at*;go_enter func110,ntmps110;go_wp2_with fail;refine HN.o.mono ?_;rintro e w' ⟨rfl,m,rfl⟩;have e1:aH ((w.alloc (Xe #[Y i.op,Y i.a,Y i.b,Y i.c,Y i.d] 40)).drewN m) w.heap.size 40 #[Y i.op,Y i.a,Y i.b,Y k,Y i.d]:=by rw[<-Bb.o];exact lL.o
 have Ng:=Z e1;have HA:=Z (HH.o m);have HK:=Z (Kept.ai (RO:=RO) (HB.o.trans (aA _ _ m)) dm.o);clear HN HB lL HH e1 g1 g2;generalize(w.alloc (Xe #[Y i.op,Y i.a,Y i.b,Y i.c,Y i.d] 40)).drewN m=w2 at*;generalize w.heap.size=bx at*;have m9:Xf w2 (I C.mb 9)=O (Oi C.ab):=HA.o.m.aT.cell 9;have HGT:=Z (eO.PJ HA.o.m.ar hq vh.o);go_wp2_with fail;refine HGT.o.mono ?_;rintro e w3 ⟨rfl,X⟩;have wk:=Z (HA.o.later X);have mM:=Z X;have HE3:=Z (Ng.o.aG (aC.ai (S:=[]) X) az);clear m9 HGT X;generalize s.a.val n=x at*;unfold bP;have b1:Xf w3 (I bx 3)=O (Y k):=HE3.o.cell 3;exact qX1
end
open eO (eY)
def Gl:Nat->FuncId
 |0=>101
 |1=>102
 |2=>102
 |3=>103
 |4=>104
 |5=>105
 |6=>106
 |7=>107
 |8=>108
 |9=>109
 |10=>110
 |11=>111
 |12=>111
 |13=>112
 |14=>112
 |15=>111
 |16=>111
 |17=>111
 |18=>111
 |19=>111
 |20=>111
 |21=>111
 |22=>113
 |23=>114
 |24=>115
 |25=>116
 |26=>117
 |27=>113
 |28=>118
 |29=>119
 |30=>120
 |31=>121
 |32=>122
 |33=>123
 |34=>124
 |35=>125
 |36=>126
 |37=>127
 |38=>128
 |39=>129
 |40=>130
 |_=>131
section
variable {w w':ek}{C C':Co}{U U':Ru}{RO RO':List Nat}{K:Kc}{p:aU}{c:Cp}{t:fG}{used:Int}{hv hv':to}{jv lM:Nat->to}{s s' s0:St}{r r':Rn}{rv:to}{mb rb:Nat}{T:Map}{st:Std}
def afw(a0e:fJ p T r st){x:Nat}(h1:cm (ak p r.at_).op.toNat=[x]):∃n rest,r.stack=n::rest/\-1073741824<=n/\n<=1073741824:=by obtain⟨_,_,hf,_⟩:=mj a0e.jG.taken;rw[h1]at hf;obtain⟨n,st',t',Zr,e1,e2,hv,qq,_,_⟩:=a0e.stack.yK hf;exact⟨n,st',e1,hv.in.1,hv.in.2⟩
def afx(a0e:fJ p T r st){x y:Nat}(h1:cm (ak p r.at_).op.toNat=[x,y]):∃b a rest,r.stack=b::a::rest/\(-1073741824<=a/\a<=1073741824)/\(-1073741824<=b/\b<=1073741824):=by obtain⟨_,_,hf,_⟩:=mj a0e.jG.taken;rw[h1]at hf;obtain⟨n,st1,t1,ty1,e1,e2,hv,qq,Oj,_⟩:=a0e.stack.yK hf;obtain⟨m,st2,t2,Zt,e3,e4,SU,Eb,_,_⟩:=qq.yK Oj;exact⟨n,m,st2,by rw[e1,e3],SU.in,hv.in⟩
def aeZ(V:Env p c T)(a0e:fJ p T r st)(h:(ak p r.at_).op=25\/(ak p r.at_).op=26):∃m rest,r.loops=m::rest/\-1073741824<=m/\m<=1073741824:=by
 have Dx:0<r.loops.length:=by
  rw[a0e.loops];rcases h with h|h
  ·rw[aE h];omega
  ·have hj:=a0e.jG.jumps;rw[ax G];cases jE:st.lo with
   |nil=>exfalso;rw[jE]at hj;unfold cZ at hj;simp[h]at hj
   |cons a l=>simp
 cases hr:r.loops with
 |nil=>rw[hr]at Dx;simp at Dx
 |cons m rest=>have:=a0e.lin m (by rw[hr];simp);exact⟨m,rest,rfl,G,G⟩
def acM(a0e:fJ p T r st)(h:eL p (ak p r.at_) st.ha=true->st.ha≠0):∃x,r.hand=O x:=by
 have h1:=h a0e.jG.lA;cases hr:r.hand with
 |none=>exact absurd (a0e.hand.2 hr) h1
 |some x=>exact⟨x,rfl⟩
structure KU(r:Rn):Prop where
 stack:r.stack.length<900000
 loops:r.loops.length<900000
 told:r.told.length<900000
 bI:r.bI.length<900000
def DE{p:Prop}(h:p:=by
 obtain⟨b,a,rest,e1,ha,X⟩:=TX _ _ (by rw[dO];rfl);have hl:rest.length<999999:=by rw[e1]at q1;simp at q1;omega
 have:=acH h i G (a:=a) (b:=b) (rest:=rest) e1 hl ha X;rw[show(s,bQ r).2.jx=b by show r.stack.headD 0=b;rw[e1];rfl,show(s,bQ r).2.pop.jx=a by show r.stack.tail.headD 0=a;rw[e1];rfl];exact this):p:=h
def aeY(h:dh w C U RO K p c t used hv jv s (bQ r))(E:jB K p c s)(V:Env p c T)(a0e:fJ p T r st)(a0g:fI (aB p c) p.vars.length s0 (s,r))(Q:KU r):
 Calls prog (Gl (ak p r.at_).op.toNat) #[Oi C.mb,a_ (ak p r.at_)] w (cQ w C.mb U.rb RO K p c t used (.tuple #[]) (aJ p c (ak p r.at_) (s,bQ r))):=by
 have ho:=(pP V a0e).1;unfold jX aP at ho;simp only[fh,fj]at ho;obtain⟨WS,OB⟩:=ho;have hF:=λk hk=>eZ V a0e (k:=k) hk;have q1:=Q.stack;have q2:=Q.loops;have q3:=Q.told;have q4:=Q.bI;have ht:=(cO V.check).1;have Je:=λx hx=>afw a0e (x:=x) hx;have TX:=λx y hx=>afx a0e (x:=x) (y:=y) hx;have EQ:=λhx=>aeZ V a0e hx;have hhd:=λhx=>acM a0e hx;generalize ak p r.at_=i at*;obtain⟨z,dO⟩:∃z,i.op=z:=⟨_,rfl⟩;rw[dO]at WS OB;have hc:z=0\/z=1\/z=2\/z=3\/z=4\/z=5\/z=6\/z=7\/z=8\/z=9\/z=10\/z=11\/z=12\/z=13\/z=14\/z=15\/z=16\/z=17\/z=18\/z=19\/z=20\/z=21\/z=22\/z=23\/z=24\/z=25\/z=26\/z=27\/z=28\/z=29\/z=30\/z=31\/z=32\/z=33\/z=34\/z=35\/z=36\/z=37\/z=38\/z=39\/z=40\/z=41:=G;clear WS OB;rcases hc with rfl|rfl|rfl|rfl|rfl|rfl|rfl|rfl|rfl|rfl|rfl|rfl|rfl|rfl|rfl|rfl|rfl|rfl|rfl|rfl|rfl|rfl|rfl|rfl|rfl|rfl|rfl|rfl|rfl|rfl|rfl|rfl|rfl|rfl|rfl|rfl|rfl|rfl|rfl|rfl|rfl|rfl
 ·have e:∀x,aJ p c i x=(x.1,{x.2 with done:=true}):=λx=>by unfold aJ;rw[dO];rfl
  rw[show i.op.toNat=0 by omega,e];exact acE h i
 ·have e:∀x,aJ p c i x=(x.1,x.2.push i.a):=λx=>by unfold aJ;rw[dO];rfl
  rw[show i.op.toNat=1 by omega,e];exact zE h i (by show r.stack.length<_;omega)
 ·have e:∀x,aJ p c i x=(x.1,x.2.push i.a):=λx=>by unfold aJ;rw[dO];rfl
  rw[show i.op.toNat=2 by omega,e];exact zE h i (by show r.stack.length<_;omega)
 ·have e:∀x,aJ p c i x=(x.1,x.2.push (x.1.vars (N i.a))):=λx=>by unfold aJ;rw[dO];rfl
  rw[show i.op.toNat=3 by omega,e];have hf:=hF 3 dO;obtain⟨a1,a2,a3⟩:=Ic hf.1;exact IS h i (show i.a=(N i.a:Nat)by unfold N;omega) a3 (by show r.stack.length<_;omega)
 ·have e:∀x,aJ p c i x=(x.1,x.2.push (x.1.a.ls (N i.a)).length):=λx=>by unfold aJ;rw[dO];rfl
  rw[show i.op.toNat=4 by omega,e];have hf:=hF 4 dO;obtain⟨a1,a2,a3⟩:=dx hf.1;exact QB h i (show i.a=(N i.a:Nat)by unfold N;omega) a3 (by show r.stack.length<_;omega)
 ·have e:∀x,aJ p c i x=(x.1,x.2.push (c.aF.getD (N i.a) 0)):=λx=>by unfold aJ;rw[dO];rfl
  rw[show i.op.toNat=5 by omega,e];have hf:=hF 5 dO;obtain⟨a1,a2,a3⟩:=dx hf.1;exact I9 h i (show i.a=(N i.a:Nat)by unfold N;omega) (by rw[E.ii.len];exact a3) (by show r.stack.length<_;omega)
 ·have e:∀x,aJ p c i x=(x.1,x.2.push c.size):=λx=>by unfold aJ;rw[dO];rfl
  rw[show i.op.toNat=6 by omega,e];exact aj h i (by show r.stack.length<_;omega)
 ·have e:∀x,aJ p c i x=(x.1,x.2.push x.1.total):=λx=>by unfold aJ;rw[dO];rfl
  rw[show i.op.toNat=7 by omega,e];exact KR h i (by show r.stack.length<_;omega)
 ·have e:∀x,aJ p c i x=vO (aB p c) i x:=λx=>by unfold aJ;rw[dO];rfl
  rw[show i.op.toNat=8 by omega,e];have hf:=hF 8 dO;obtain⟨a1,a2,a3⟩:=dx hf.1;unfold vO;dsimp only;rw[show(bQ r).key=r.key from rfl];cases hk:s.f r.key with
  |none=>exact ae3 h i hk (by show r.stack.length<_;omega)
  |some n=>obtain⟨q,hq,hn,-⟩:=(E.inv.idx r.key n).1 hk;dsimp only;rw[jy E.inv.wf hq hn];have:=ae4 h i (show i.a=(N i.a:Nat)by unfold N;omega) hk hq hn (by show r.stack.length<_;omega);rw[show((q:Int)==((N i.a:Nat):Int))=decide ((q:Int)=i.a)by rw[<-(show i.a=(N i.a:Nat)by unfold N;omega)];rfl]at this;exact this
 ·have e:∀x,aJ p c i x=wV i x:=λx=>by unfold aJ;rw[dO];rfl
  rw[show i.op.toNat=9 by omega,e];have hf:=hF 9 dO;obtain⟨a1,a2,a3⟩:=vR hf.1;unfold wV;dsimp only;rw[show(bQ r).key=r.key from rfl];cases hk:s.f r.key with
  |none=>exact abI h i hk
  |some n=>obtain⟨q,hq,hn,-⟩:=(E.inv.idx r.key n).1 hk;exact ae2 h i hk hq hn (show i.a=(N i.a:Nat)by unfold N;omega) (by have:=ht.t;omega) (by show r.stack.length<_;omega)
 ·have e:∀x,aJ p c i x=oR i x:=λx=>by unfold aJ;rw[dO];rfl
  rw[show i.op.toNat=10 by omega,e];have hf:=hF 10 dO;obtain⟨a1,a2,a3⟩:=dx hf.1;obtain⟨b1,b2,b3⟩:=iz hf.2.1;obtain⟨d1,d2,d3⟩:=vR hf.2.2.1;unfold oR;dsimp only;by_cases bt:s.a.ls (N i.a)=[]
  ·rw[aE bt];exact ae0 h i (show i.a=(N i.a:Nat)by unfold N;omega) (show i.b=(N i.b:Nat)by unfold N;omega) a3 b3 bt
  ·rw[ax bt];exact abH h i (show i.a=(N i.a:Nat)by unfold N;omega) (show i.b=(N i.b:Nat)by unfold N;omega) a3 b3 bt (show i.c=(N i.c:Nat)by unfold N;omega) (by have:=ht.t;omega) (by show r.stack.length<_;omega)
 ·have e:∀x,aJ p c i x=(x.1,x.2.pop.pop.push (pk i.op x.2.pop.jx x.2.jx)):=λx=>by unfold aJ;rw[dO];rfl
  rw[show i.op.toNat=11 by omega,e];exact DE
 ·have e:∀x,aJ p c i x=(x.1,x.2.pop.pop.push (pk i.op x.2.pop.jx x.2.jx)):=λx=>by unfold aJ;rw[dO];rfl
  rw[show i.op.toNat=12 by omega,e];exact DE
 ·have e:∀x,aJ p c i x=(x.1,x.2.pop.push (-x.2.jx)):=λx=>by unfold aJ;rw[dO];rfl
  rw[show i.op.toNat=13 by omega,e];obtain⟨n,rest,e1,n0,n1⟩:=Je _ (by rw[dO];rfl);have hl:rest.length<1000000:=by rw[e1]at q1;simp at q1;omega
  have:=XW h i (n:=n) (rest:=rest) e1 hl n0 n1;unfold Jb at this;rw[ax G]at this;rw[show(s,bQ r).2.jx=n by show r.stack.headD 0=n;rw[e1];rfl];exact this
 ·have e:∀x,aJ p c i x=(x.1,x.2.pop.push (1-x.2.jx)):=λx=>by unfold aJ;rw[dO];rfl
  rw[show i.op.toNat=14 by omega,e];obtain⟨n,rest,e1,n0,n1⟩:=Je _ (by rw[dO];rfl);have hl:rest.length<1000000:=by rw[e1]at q1;simp at q1;omega
  have:=XW h i (n:=n) (rest:=rest) e1 hl n0 n1;unfold Jb at this;rw[aE dO]at this;rw[show(s,bQ r).2.jx=n by show r.stack.headD 0=n;rw[e1];rfl];exact this
 ·have e:∀x,aJ p c i x=(x.1,x.2.pop.pop.push (pk i.op x.2.pop.jx x.2.jx)):=λx=>by unfold aJ;rw[dO];rfl
  rw[show i.op.toNat=15 by omega,e];exact DE
 ·have e:∀x,aJ p c i x=(x.1,x.2.pop.pop.push (pk i.op x.2.pop.jx x.2.jx)):=λx=>by unfold aJ;rw[dO];rfl
  rw[show i.op.toNat=16 by omega,e];exact DE
 ·have e:∀x,aJ p c i x=(x.1,x.2.pop.pop.push (pk i.op x.2.pop.jx x.2.jx)):=λx=>by unfold aJ;rw[dO];rfl
  rw[show i.op.toNat=17 by omega,e];exact DE
 ·have e:∀x,aJ p c i x=(x.1,x.2.pop.pop.push (pk i.op x.2.pop.jx x.2.jx)):=λx=>by unfold aJ;rw[dO];rfl
  rw[show i.op.toNat=18 by omega,e];exact DE
 ·have e:∀x,aJ p c i x=(x.1,x.2.pop.pop.push (pk i.op x.2.pop.jx x.2.jx)):=λx=>by unfold aJ;rw[dO];rfl
  rw[show i.op.toNat=19 by omega,e];exact DE
 ·have e:∀x,aJ p c i x=(x.1,x.2.pop.pop.push (pk i.op x.2.pop.jx x.2.jx)):=λx=>by unfold aJ;rw[dO];rfl
  rw[show i.op.toNat=20 by omega,e];exact DE
 ·have e:∀x,aJ p c i x=(x.1,x.2.pop.pop.push (pk i.op x.2.pop.jx x.2.jx)):=λx=>by unfold aJ;rw[dO];rfl
  rw[show i.op.toNat=21 by omega,e];exact DE
 ·have e:∀x,aJ p c i x=(x.1,{x.2 with at_:=N i.a}):=λx=>by unfold aJ;rw[dO];rfl
  rw[show i.op.toNat=22 by omega,e];have hf:=hF 22 dO;obtain⟨a1,a2⟩:=lG hf.1;exact QC h i (show i.a=(N i.a:Nat)by unfold N;omega)
 ·have e:∀x,aJ p c i x=(x.1,sH x.2 (N i.a)):=λx=>by unfold aJ;rw[dO];rfl
  rw[show i.op.toNat=23 by omega,e];have hf:=hF 23 dO;obtain⟨a1,a2⟩:=lG hf.1;obtain⟨n,rest,e1,n0,n1⟩:=Je _ (by rw[dO];rfl);exact P_ h i (show i.a=(N i.a:Nat)by unfold N;omega) (n:=n) (rest:=rest) e1 (by rw[e1]at q1;simp at q1;omega)
 ·have e:∀x,aJ p c i x=(x.1,{x.2 with loops:=i.a::x.2.loops}):=λx=>by unfold aJ;rw[dO];rfl
  rw[show i.op.toNat=24 by omega,e];exact ae7 h i rfl (by show r.loops.length<_;omega)
 ·have e:∀x,aJ p c i x=qR i x:=λx=>by unfold aJ;rw[dO];rfl
  rw[show i.op.toNat=25 by omega,e];have hf:=hF 25 dO;rw[show qR i (s,bQ r)=(s,zG (bQ r) (N i.a))by unfold qR zG;dsimp only;split<;>rfl];obtain⟨a1,a2⟩:=lG hf.1;obtain⟨m,rest,e1,m0,m1⟩:=EQ (.inl dO);exact I_ h i (show i.a=(N i.a:Nat)by unfold N;omega) (m:=m) (rest:=rest) e1 (by rw[e1]at q2;simp at q2;omega) m0 m1
 ·have e:∀x,aJ p c i x=qS i x:=λx=>by unfold aJ;rw[dO];rfl
  rw[show i.op.toNat=26 by omega,e];have hf:=hF 26 dO;rw[show qS i (s,bQ r)=(s,zF (bQ r) (N i.a))by unfold qS zF;dsimp only;split<;>rfl];obtain⟨a1,a2⟩:=lG hf.1;obtain⟨n,rest,e1,n0,n1⟩:=Je _ (by rw[dO];rfl);obtain⟨m,lrest,e2,m0,m1⟩:=EQ (.inr dO);exact Z7 h i (show i.a=(N i.a:Nat)by unfold N;omega) (n:=n) (rest:=rest) e1 (by rw[e1]at q1;simp at q1;omega) (m:=m) (lrest:=lrest) e2 (by rw[e2]at q2;simp at q2;omega)
 ·have e:∀x,aJ p c i x=(x.1,{x.2 with at_:=N i.a}):=λx=>by unfold aJ;rw[dO];rfl
  rw[show i.op.toNat=27 by omega,e];have hf:=hF 27 dO;obtain⟨a1,a2⟩:=lG hf.1;exact QC h i (show i.a=(N i.a:Nat)by unfold N;omega)
 ·have e:∀x,aJ p c i x=CI p i x:=λx=>by unfold aJ;rw[dO];rfl
  rw[show i.op.toNat=28 by omega,e];have hf:=hF 28 dO;obtain⟨a1,a2,a3⟩:=Ic hf.1;obtain⟨n,rest,e1,n0,n1⟩:=Je _ (by rw[dO];rfl);exact Pr h i (show i.a=(N i.a:Nat)by unfold N;omega) a3 (n:=n) (rest:=rest) e1 (by rw[e1]at q1;simp at q1;omega) (by show r.bI.length<_;omega)
 ·have e:∀x,aJ p c i x=rz p i x:=λx=>by unfold aJ;rw[dO];rfl
  rw[show i.op.toNat=29 by omega,e];have hf:=hF 29 dO;obtain⟨a1,a2,a3⟩:=vR hf.1;obtain⟨v,rest,e1,n0,n1⟩:=Je _ (by rw[dO];rfl);have hl:rest.length<1000000:=by rw[e1]at q1;simp at q1;omega
  unfold rz;dsimp only;rw[show(bQ r).key=r.key from rfl,show(bQ r).jx=v by show r.stack.headD 0=v;rw[e1];rfl];cases hk:s.f r.key with
  |none=>exact I6 h i hk (v:=v) (rest:=rest) e1 hl
  |some n=>obtain⟨q,hq,hn,-⟩:=(E.inv.idx r.key n).1 hk;exact I4 h i (show i.a=(N i.a:Nat)by unfold N;omega) hk hq hn a3 E.t4 (by show r.bI.length<_;omega) (v:=v) (rest:=rest) e1 hl
 ·have e:∀x,aJ p c i x=mh p i x:=λx=>by unfold aJ;rw[dO];rfl
  rw[show i.op.toNat=30 by omega,e];have hf:=hF 30 dO;obtain⟨a1,a2,a3⟩:=dx hf.1;obtain⟨b1,b2,b3⟩:=iz hf.2.1;obtain⟨d1,d2,d3⟩:=vR hf.2.2.1;obtain⟨v,rest,e1,n0,n1⟩:=Je _ (by rw[dO];rfl);have hl:rest.length<1000000:=by rw[e1]at q1;simp at q1;omega
  unfold mh;dsimp only;rw[show(bQ r).jx=v by show r.stack.headD 0=v;rw[e1];rfl];by_cases bt:s.a.ls (N i.a)=[]
  ·rw[aE bt];exact DA h i (show i.a=(N i.a:Nat)by unfold N;omega) (show i.b=(N i.b:Nat)by unfold N;omega) a3 b3 bt (v:=v) (rest:=rest) e1 hl
  ·rw[ax bt];exact Dz h i (show i.a=(N i.a:Nat)by unfold N;omega) (show i.b=(N i.b:Nat)by unfold N;omega) (show i.c=(N i.c:Nat)by unfold N;omega) a3 b3 bt d3 E.t4 (by show r.bI.length<_;omega) (v:=v) (rest:=rest) e1 hl
 ·have e:∀x,aJ p c i x=oP (aB p c) i x:=λx=>by unfold aJ;rw[dO];rfl
  rw[show i.op.toNat=31 by omega,e];have hf:=hF 31 dO;obtain⟨a1,a2,a3⟩:=dx hf.1;obtain⟨b1,b2,b3⟩:=iz hf.2.1;unfold oP;dsimp only;rw[show(bQ r).key=r.key from rfl];cases hk:s.f r.key with
  |none=>exact FY h E i (show i.a=(N i.a:Nat)by unfold N;omega) (show i.b=(N i.b:Nat)by unfold N;omega) a3 b3 hk (by show r.bI.length<_;omega)
  |some n=>obtain⟨q,hq,hn,-⟩:=(E.inv.idx r.key n).1 hk;exact F_ h i hk hq hn
 ·have e:∀x,aJ p c i x=wU (aB p c) i x:=λx=>by unfold aJ;rw[dO];rfl
  rw[show i.op.toNat=32 by omega,e];have hf:=hF 32 dO;obtain⟨a1,a2,a3⟩:=dx hf.1;obtain⟨b1,b2,b3⟩:=iz hf.2.1;unfold wU;dsimp only;rw[show(bQ r).key=r.key from rfl];cases hk:s.f r.key with
  |none=>exact Nb h i hk
  |some n=>obtain⟨q,hq,hn,-⟩:=(E.inv.idx r.key n).1 hk;dsimp only;rw[jy E.inv.wf hq hn];exact Nc h E i (show i.a=(N i.a:Nat)by unfold N;omega) (show i.b=(N i.b:Nat)by unfold N;omega) a3 b3 hk hq hn (by show r.bI.length<_;omega)
 ·have e:∀x,aJ p c i x=oQ (aB p c) x:=λx=>by unfold aJ;rw[dO];rfl
  rw[show i.op.toNat=33 by omega,e];unfold oQ;dsimp only;rw[show(bQ r).key=r.key from rfl];cases hk:s.f r.key with
  |none=>exact Ga h i hk
  |some n=>
   obtain⟨q,hq,hn,-⟩:=(E.inv.idx r.key n).1 hk;dsimp only;rw[jy E.inv.wf hq hn];by_cases hg:p.ap.getD q false=true
   ·rw[aE (show(aB p c).gh q=true from hg)];exact Gc h E i hk hq hn hg (by show r.bI.length<_;omega)
   ·rw[ax (show¬(aB p c).gh q=true from hg)];exact Gb h i hk hq hn (by simpa using hg)
 ·have e:∀x,aJ p c i x=(bh (aB p c) x (N i.a) (N i.b)).1:=λx=>by unfold aJ;rw[dO];rfl
  rw[show i.op.toNat=34 by omega,e];have hf:=hF 34 dO;obtain⟨a1,a2,a3⟩:=dx hf.1;obtain⟨b1,b2,b3⟩:=iz hf.2.1;exact nf h i E (show i.a=(N i.a:Nat)by unfold N;omega) (show i.b=(N i.b:Nat)by unfold N;omega) a3 b3 (by show r.bI.length<_;omega)
 ·have e:∀x,aJ p c i x=(dK (aB p c) x (N i.a) (N i.b)).1:=λx=>by unfold aJ;rw[dO];rfl
  rw[show i.op.toNat=35 by omega,e];have hf:=hF 35 dO;obtain⟨a1,a2,a3⟩:=dx hf.1;obtain⟨b1,b2,b3⟩:=iz hf.2.1;obtain⟨x,hx⟩:=hhd (λhh=>by
   unfold eL at hh;intro h0;rw[h0]at hh;simp[dO]at hh)
  exact l' h i E (show i.a=(N i.a:Nat)by unfold N;omega) (show i.b=(N i.b:Nat)by unfold N;omega) a3 b3 hx (a0g.hand x hx).1 (by show r.bI.length<_;omega)
 ·have e:∀x,aJ p c i x=fU x:=λx=>by unfold aJ;rw[dO];rfl
  rw[show i.op.toNat=36 by omega,e];obtain⟨x,hx⟩:=hhd (λhh=>by
   unfold eL at hh;intro h0;rw[h0]at hh;simp[dO]at hh)
  exact vf h i hx (by show r.told.length<_;omega)
 ·have e:∀x,aJ p c i x=gm x:=λx=>by unfold aJ;rw[dO];rfl
  rw[show i.op.toNat=37 by omega,e];exact Uw h i
 ·have e:∀x,aJ p c i x=qu (aB p c) i x:=λx=>by unfold aJ;rw[dO];rfl
  rw[show i.op.toNat=38 by omega,e];have hf:=hF 38 dO;obtain⟨a1,a2,a3⟩:=dx hf.1;obtain⟨b1,b2,b3⟩:=iz hf.2.1;obtain⟨d1,d2,d3⟩:=dx hf.2.2.1;obtain⟨f1,f2,f3⟩:=iz hf.2.2.2;exact UB h i E (show i.a=(N i.a:Nat)by unfold N;omega) (show i.b=(N i.b:Nat)by unfold N;omega) a3 b3 (show i.c=(N i.c:Nat)by unfold N;omega) (show i.d=(N i.d:Nat)by unfold N;omega) d3 f3 (by show r.bI.length<_;omega)
 ·have e:∀x,aJ p c i x=qw (aB p c) i x:=λx=>by unfold aJ;rw[dO];rfl
  rw[show i.op.toNat=39 by omega,e];have hf:=hF 39 dO;obtain⟨a1,a2,a3⟩:=dx hf.1;obtain⟨b1,b2,b3⟩:=iz hf.2.1;obtain⟨d1,d2,d3⟩:=dx hf.2.2.1;obtain⟨f1,f2,f3⟩:=iz hf.2.2.2;exact UD h i E (show i.a=(N i.a:Nat)by unfold N;omega) (show i.b=(N i.b:Nat)by unfold N;omega) a3 b3 (show i.c=(N i.c:Nat)by unfold N;omega) (show i.d=(N i.d:Nat)by unfold N;omega) d3 f3 (by show r.bI.length<_;omega) (by show r.told.length<_;omega)
 ·have e:∀x,aJ p c i x=qx (aB p c) i x:=λx=>by unfold aJ;rw[dO];rfl
  rw[show i.op.toNat=40 by omega,e];have hf:=hF 40 dO;obtain⟨a1,a2,a3⟩:=dx hf.1;obtain⟨b1,b2,b3⟩:=iz hf.2.1;exact UC h i E (show i.a=(N i.a:Nat)by unfold N;omega) (show i.b=(N i.b:Nat)by unfold N;omega) a3 b3 (by show r.bI.length<_;omega) (by show r.told.length<_;omega)
 ·have e:∀x,aJ p c i x=uE (aB p c) i x:=λx=>by unfold aJ;rw[dO];rfl
  rw[show i.op.toNat=41 by omega,e];have hf:=hF 41 dO;obtain⟨a1,a2,a3⟩:=dx hf.1;obtain⟨b1,b2,b3⟩:=iz hf.2.1;exact ae h i E (show i.a=(N i.a:Nat)by unfold N;omega) (show i.b=(N i.b:Nat)by unfold N;omega) a3 b3 (by show r.bI.length<_;omega)
def enters(n:Nat)(hn:n<42)(args:Array to)(w:ek):(callFunc (Gl n) args).run prog w= .ok (.enter (Gl n) args) w:=by
 have hc:n=0\/n=1\/n=2\/n=3\/n=4\/n=5\/n=6\/n=7\/n=8\/n=9\/n=10\/n=11\/n=12\/n=13\/n=14\/n=15\/n=16\/n=17\/n=18\/n=19\/n=20\/n=21\/n=22\/n=23\/n=24\/n=25\/n=26\/n=27\/n=28\/n=29\/n=30\/n=31\/n=32\/n=33\/n=34\/n=35\/n=36\/n=37\/n=38\/n=39\/n=40\/n=41:=G;rcases hc with rfl|rfl|rfl|rfl|rfl|rfl|rfl|rfl|rfl|rfl|rfl|rfl|rfl|rfl|rfl|rfl|rfl|rfl|rfl|rfl|rfl|rfl|rfl|rfl|rfl|rfl|rfl|rfl|rfl|rfl|rfl|rfl|rfl|rfl|rfl|rfl|rfl|rfl|rfl|rfl|rfl|rfl
 all_goals (unfold Gl;go_simp)
def aeX(K:Kc)(C:Co)(p:aU)(c:Cp)(total:Int)(t:fG)(used:Int)(rv:to)(n:Nat)(hn:n<42):(tp K C p c total t used rv)[18+n]? =O (K.steps n):=by
 have hc:n=0\/n=1\/n=2\/n=3\/n=4\/n=5\/n=6\/n=7\/n=8\/n=9\/n=10\/n=11\/n=12\/n=13\/n=14\/n=15\/n=16\/n=17\/n=18\/n=19\/n=20\/n=21\/n=22\/n=23\/n=24\/n=25\/n=26\/n=27\/n=28\/n=29\/n=30\/n=31\/n=32\/n=33\/n=34\/n=35\/n=36\/n=37\/n=38\/n=39\/n=40\/n=41:=G;rcases hc with rfl|rfl|rfl|rfl|rfl|rfl|rfl|rfl|rfl|rfl|rfl|rfl|rfl|rfl|rfl|rfl|rfl|rfl|rfl|rfl|rfl|rfl|rfl|rfl|rfl|rfl|rfl|rfl|rfl|rfl|rfl|rfl|rfl|rfl|rfl|rfl|rfl|rfl|rfl|rfl|rfl|rfl
 all_goals rfl
variable {t':fG}{used':Int}{rv':to}
def Mx.kK(h:Mx w C RO K p c s t used rv)(o:Nat)(v:to)(X:(tp K C p c s.total t used rv).setIfInBounds o v=tp K C p c s.total t' used' rv'):bN w (w.setCell (I C.mb o) v) C C/\Mx (w.setCell (I C.mb o) v) C RO K p c s t' used' rv':=by
 have R:=h.rel;have F:aC [C.mb] w (w.setCell (I C.mb o) v):=(aC.refl _ w).setCell az _;refine⟨⟨rfl,F.mono (by intro k hk;simp at hk;subst hk;simp[Co.l]),λ_ X=> .inl X⟩,⟨⟨?_,?_,?_,?_,?_⟩,h.sep.nd,λb X=>dC (h.sep.lt b X) F.size,h.sep.ro,λb X=>dC (h.sep.dZ b X) F.size⟩⟩
 ·rw[<-X];exact h.m.aT.set o v
 ·exact h.m.prog.aG F λb X hc=>by simp at hc;subst hc;exact h.cr X (by simp[Co.l])
 ·exact h.m.ar.aG F λb X hc=>by simp at hc;subst hc;exact R.ma X
 ·exact h.m.ix.aG F ⟨by simp;exact λe=>R.mx e.symm,by simp;exact λe=>R.ms e.symm⟩
 ·exact h.m.vs.aG F λb X hc=>by simp at hc;subst hc;exact R.mv (aX.2 X)
def dh.kK(h:dh w C U RO K p c t used hv jv s r)(o:Nat)(v:to)(X:(tp K C p c s.total t used (Oi U.rb)).setIfInBounds o v=tp K C p c s.total t' used' (Oi U.rb)):dh (w.setCell (I C.mb o) v) C U RO K p c t' used' hv jv s r:=by obtain⟨k1,k2⟩:=h.mx.kK o v X;exact h.q8 k1 k2
def abE{b cap:Nat}(h3:Row w 40 5 (H (O (I b 0)) p.code.length cap) p.code.length (cy p)){i:Nat}(hi:i<p.code.length):
 Xf w (I b (i*5))=O (Y (ak p i).op)/\Xf w (I b (i*5+1))=O (Y (ak p i).a)/\Xf w (I b (i*5+2))=O (Y (ak p i).b)/\Xf w (I b (i*5+3))=O (Y (ak p i).c)/\Xf w (I b (i*5+4))=O (Y (ak p i).d):=by
 have key:∀k,k<5->Xf w (I b (i*5+k))=O (cy p (i*5+k)):=λk hk=>h3.cell (o:=i*5+k) G;have hd:∀k,k<5->(i*5+k) / 5=i:=λk hk=>G;have hm:∀k,k<5->(i*5+k) % 5=k:=λk hk=>G;refine⟨(key 0 G).trans ?_,(key 1 G).trans ?_,(key 2 G).trans ?_,(key 3 G).trans ?_,(key 4 G).trans ?_⟩
 ·unfold cy;rw[hd 0 G,hm 0 G];rfl
 ·unfold cy;rw[hd 1 G,hm 1 G];rfl
 ·unfold cy;rw[hd 2 G,hm 2 G];rfl
 ·unfold cy;rw[hd 3 G,hm 3 G];rfl
 ·unfold cy;rw[hd 4 G,hm 4 G];rfl
def dh.acN(h:dh w C U RO K p c t used hv jv s r)(hp:0<p.code.length):∃b cap,K.c=H (O (I b 0)) p.code.length cap/\Row w 40 5 (H (O (I b 0)) p.code.length cap) p.code.length (cy p)/\b∈RO:=by obtain⟨b,cap,gz,qC,ow,X⟩:=h.m.prog.cd.some hp;have h3:=h.m.prog.cd;rw[gz]at h3;exact⟨b,cap,gz,h3,h.m.prog.ro b (.inr (.inr (.inr (.inr (.inl (aX.2 (by rw[gz];rfl)))))))⟩
def ox{P:Program}{a:Act}{w:ek}{Q:Exit->Act->ek->Prop}{c rest:Code}(l:Nat)(J:Act->ek->Prop)(μ:Act->ek->Nat)(hf:findLabel c l=O (Code.seq Code.skip rest))
 (pass:∀a w,J a w->rest.wp P (Exit.jump l (λa' w'=>J a' w'/\μ a' w'<μ a w) Q) a w) (first:(∀a w,J a w->rest.wp P (Exit.jump l J Q) a w)->c.wp P (Exit.jump l J Q) a w):(Code.scope c).wp P Q a w:=
 wp_scope_jumps l J μ hf (first λa w h=>Code.wp_mono (λe a' w' h'=>by
  cases e<;>first|exact h'|exact⟨h'.1,h'.2.1⟩) (pass a w h)) (λa w h=>wp_seq (wp_skip (pass a w h)))
structure Tf(K:Kc)(mb:Nat)(p:aU)(c:Cp):Prop where
 ii:pn p c
 nd:K.nd=dE (aB p c)
 FJ:K.nd<=4194304
 check:bE p=0
 steps:∀n,n<42->K.steps n= .func (.func (Gl n)) #[Oi mb] #[]
def Tf.ev{K:Kc}{mb:Nat}{p:aU}{c:Cp}{s:St}(h:Tf K mb p c)(hI:Inv (aB p c) s):jB K p c s:=
 ⟨hI,h.ii,h.nd,h.FJ,(cO h.check).1.g,(cO h.check).1.t⟩
def vj(w wr:ek)(mb rb:Nat)(RO:List Nat)(K:Kc)(p:aU)(c:Cp)(t:fG)(T:Map)(s0:St)(x0:SR)(f:Nat):Prop:=
 ∃(n:Nat) (x:SR) (st:Std) (RO':List Nat),(∀b,b∈RO->b∈RO')/\In wr mb rb RO' K p c t n x/\Kept RO w wr/\fJ p T x.2 st/\fI (aB p c) p.vars.length s0 x/\Small n x.2/\left p x.2 st<=f/\
  kB p c iZ x0=(n+(kB p c f x).1,(kB p c f x).2)/\n+f<=iZ
def Ran(w:ek)(mb rb:Nat)(RO:List Nat)(K:Kc)(p:aU)(c:Cp)(t:fG)(z:Nat×SR)(e:Ending)(w':ek):Prop:=
 e=Xc (.tuple #[])/\∃RO',(∀b,b∈RO->b∈RO')/\In w' mb rb RO' K p c t z.1 z.2/\Kept RO w w'
def vj.left{w wr:ek}{x0:SR}{f:Nat}(V:Env p c T)(h:vj w wr mb rb RO K p c t T s0 x0 f):0<f:=by obtain⟨n,x,st,RO',-,-,-,C,-,-,hl,-⟩:=h;have:=yW V C;omega
def KU.abD{n:Nat}{r:Rn}(h:Small n r)(hn:n<=iZ):KU r:=by unfold iZ at hn;exact⟨by have:=h.stack;omega,by have:=h.loops;omega,by have:=h.told;omega,by have:=h.bI;omega⟩
def FrS(mb rb:Nat)(a:Act):Prop:=∃J:Nat->to,a={tmps:=#[Oi mb,J 1,Oi rb,J 3,J 4,J 5,J 6,J 7,J 8,J 9,J 10,J 11,J 12,J 13,J 14,J 15,J 16,J 17,J 18,J 19,J 20,J 21,J 22,J 23,J 24,J 25,J 26,J 27,J 28,J 29,J 30,J 31,J 32,J 33,J 34,J 35,J 36,J 37,J 38,J 39,J 40,J 41,J 42,J 43,J 44,J 45,J 46,J 47,J 48,J 49,J 50,J 51,J 52,J 53],defers:=[]}
def tZ(mb:Nat)(w:ek):Nat:=match Xf w ⟨mb,17,Xb⟩with|some (.int _ u)=>u.toNat|_=>0
def Ch{w:ek}{n:Nat}{x:SR}(h:In w mb rb RO K p c t (n:Nat) x):tZ mb w=n:=by
 obtain⟨C,U,hv,jv,h1,h2,h3⟩:=h;have h4:Xf w (I mb 17)=O (Y n):=by rw[<-h1];exact h3.m.aT.cell 17
 unfold tZ;rw[h4];rfl
def abC(M:Tf K mb p c)(V:Env p c T){x0:SR}(hg:vj w w mb rb RO K p c t T s0 x0 iZ):
 Calls prog 62 #[Oi mb] w (Ran w mb rb RO K p c t (kB p c iZ x0)):=by
 have h0:=hg;obtain⟨n,x,st,RO',ho,⟨a1d,a1e,hv0,jv0,GM,GL,A0⟩,-⟩:=h0;have rU:Xf w (I mb 60)=O (Oi rb):=by rw[<-GM,<-GL];exact A0.m.aT.cell 60
 have HG:=Z hg;have HM:=Z M;have HV:=Z V;clear hg ho A0 GM GL M V;go_enter func62,ntmps62;go_wp2_with fail;refine ox 0 (λa' wr=>FrS mb rb a'/\∃f,vj w wr mb rb RO K p c t T s0 x0 f) (λ_ wr=>iZ-tZ mb wr) rfl ?_ ?_
 ·rintro a' wr ⟨⟨J,rfl⟩,f,Fb⟩;have hf0:=Fb.left HV.o;obtain⟨n,⟨s1,r1⟩,st1,mX,ho,⟨C1,U1,gz,jv1,mO,ou,A1⟩,hk,G1,H1,Q1,hl,ri,SN⟩:=Fb;dsimp only at A1 G1 H1 Q1 hl;obtain⟨cb,Du,He,XY,Ta⟩:=A1.acN (by have:=G1.lt;omega);obtain⟨k0,k1,k2,k3,k4⟩:=abE XY G1.lt;have m5:Xf wr (I mb 5)=O K.c:=by rw[<-mO];exact A1.m.aT.cell 5
  rw[He]at m5;have m17:Xf wr (I mb 17)=O (Y n):=by rw[<-mO];exact A1.m.aT.cell 17
  have c1:Xf wr (I rb 1)=O (Y r1.at_):=by rw[<-ou];exact A1.r.dY.cell 1
  have be:=G1.lt;have lm:mb<wr.heap.size:=by rw[<-mO];exact A1.m.aT.lt
  have lr:rb<wr.heap.size:=by rw[<-ou];exact A1.r.dY.lt
  have lc:cb<wr.heap.size:=A1.sep.dZ cb Ta;have Ev:=Z A1;have XZ:=Z G1;have HH1:=Z H1;have S4:=Z Q1;have Ci:=Z hl;have O2:=Z ri;have oE:=Z hk;have Hi:=Z ho;have rY:=Z mO;have I3:=Z ou;have acR:p.code.length<=262144:=(cO HM.o.check).1.code;clear A1 G1 H1 Q1 hl ri hk ho mO ou He XY Ta rU;generalize hi:ak p r1.at_=i at*;have HI:=Z hi;clear hi;generalize Ep:r1.at_=KW at*;have HAT:=Z Ep;clear Ep;generalize p.code.length=cl at*;go_wp2;go_region;have B1:=(Ev.o.box (Xe (aK i) 40)).drewN 1;have N1:aH (wr.alloc (Xe (aK i) 40)).drew wr.heap.size 40 (aK i):=aH.new wr _ _;have B1:dh (wr.alloc (Xe (aK i) 40)).drew C1 U1 (wr.heap.size::mX) K p c t n gz jv1 s1 r1:=B1;have K1:Kept mX wr (wr.alloc (Xe (aK i) 40)).drew:=Kept.ai (((aZ _ wr).alloc (aL _) _).trans (aA _ _ 1)) Ev.o.sep.dZ;have e17:(wr.alloc (Xe (aK i) 40)).drew.cell? (I mb 17)=O (Y n):=by rw[<-rY.o];exact B1.m.aT.cell 17
  have e1:(wr.alloc (Xe (aK i) 40)).drew.cell? (I rb 1)=O (Y KW):=by rw[<-I3.o,<-HAT.o];exact B1.r.dY.cell 1
  have fm:∀o,(wr.alloc (Xe (aK i) 40)).drew.frozen? (I mb o)=false:=by rw[<-rY.o];exact B1.m.aT.frozen
  have fr:∀o,(wr.alloc (Xe (aK i) 40)).drew.frozen? (I rb o)=false:=by rw[<-I3.o];exact B1.r.dY.frozen
  have nm:mb≠rb:=by rw[<-rY.o,<-I3.o];exact λe=>B1.sep.cu (b:=C1.mb) (by simp[Co.l]) (by rw[e];simp[Ru.l])
  have dS:=Z B1;have QG:=Z N1;have HKW:=Z K1;have kI:IntKind.i64.wrap ((KW:Int)+1)=KW+1:=bJ _ ⟨G,G⟩;have tB:n<=20000:=by unfold iZ at SN;omega
  have tQ:IntKind.i64.wrap ((n:Int)+1)=n+1:=bJ _ ⟨G,G⟩;clear B1 N1 K1 k0 k1 k2 k3 k4 m5 m17 c1 lm lr lc;unfold aK at dS QG HKW e17 e1 fm fr;generalize(wr.alloc (Xe #[Y i.op,Y i.a,Y i.b,Y i.c,Y i.d] 40)).drew=w1 at*;generalize wr.heap.size=bx at*;go_wp2_with fail;have A2:=dS.o.kT 1 (Y ((KW:Int)+1)) (r':=bQ r1) (by rw[<-HAT.o];rfl) rfl rfl rfl rfl rfl dS.o.r.iE;have A3:=A2.kK 17 (Y ((n:Int)+1)) (used':=(n:Int)+1) rfl;rw[I3.o,rY.o]at A3;have nb1:bx≠rb:=λe=>dS.o.sep.ur (b:=bx) az (by rw[e,<-I3.o];simp[Ru.l]);have nb2:bx≠mb:=λe=>dS.o.sep.cr (b:=bx) az (by rw[e,<-rY.o];simp[Co.l]);have N3:=aH.other (aH.other QG.o nb1 1 (Y ((KW:Int)+1))) nb2 17 (Y ((n:Int)+1));have K3:Kept mX w1 ((w1.setCell (I rb 1) (Y ((KW:Int)+1))).setCell (I mb 17) (Y ((n:Int)+1))):=Kept.du (S:=C1.l++U1.l) (((aC.refl _ w1).setCell (by rw[<-I3.o];simp[Ru.l]) _).setCell (by rw[<-rY.o];simp[Co.l]) _) (λb X hc=>by
   rcases List.mem_append.1 hc with hc|hc
   ·exact dS.o.sep.cr (b:=b) (by simp[X]) hc
   ·exact dS.o.sep.ur (b:=b) (by simp[X]) hc) (λb X=>dS.o.sep.dZ b (by simp[X]))
  obtain⟨WS,OB⟩:0<=i.op/\i.op<=41:=by have ho:=(pP HV.o XZ.o).1;rw[HAT.o,HI.o]at ho;unfold jX aP at ho;simpa only[fh,fj]using ho
  have hoN:i.op.toNat<42:=G;have fY:((w1.setCell (I rb 1) (Y ((KW:Int)+1))).setCell (I mb 17) (Y ((n:Int)+1))).cell? (I mb (18+i.op.toNat))=O (.func (.func (Gl i.op.toNat)) #[Oi mb] #[]):=by have h1:=A3.m.aT.cell (18+i.op.toNat);rw[rY.o,aeX _ _ _ _ _ _ _ _ _ hoN,HM.o.steps _ hoN]at h1;exact h1
  have hex:=aeY (A3.drewN 1) (HM.o.ev HH1.o.inv) HV.o XZ.o HH1.o (KU.abD S4.o G);rw[rY.o,I3.o,HAT.o,HI.o]at hex;have afy:=λ(args:Array to) (wz:ek)=>enters i.op.toNat hoN args wz;have y0:((w1.setCell (I rb 1) (Y ((KW:Int)+1))).setCell (I mb 17) (Y ((n:Int)+1))).cell? (I bx 0)=O (Y (i.op.toNat:Nat)):=by rw[Int.toNat_of_nonneg WS];exact N3.cell 0
  have y0':((w1.setCell (I rb 1) (Y ((KW:Int)+1))).setCell (I mb 17) (Y ((n:Int)+1))).cell? (I bx 1)=O (Y i.a):=N3.cell 1;have y2:((w1.setCell (I rb 1) (Y ((KW:Int)+1))).setCell (I mb 17) (Y ((n:Int)+1))).cell? (I bx 2)=O (Y i.b):=N3.cell 2;have y3:((w1.setCell (I rb 1) (Y ((KW:Int)+1))).setCell (I mb 17) (Y ((n:Int)+1))).cell? (I bx 3)=O (Y i.c):=N3.cell 3;have y4:((w1.setCell (I rb 1) (Y ((KW:Int)+1))).setCell (I mb 17) (Y ((n:Int)+1))).cell? (I bx 4)=O (Y i.d):=N3.cell 4;unfold a_ aK at hex;rw[show(Y i.op)=Y (i.op.toNat:Nat)by rw[Int.toNat_of_nonneg WS]]at hex;have Wq:=Z (((oE.o.trans HKW.o (λb X=>Hi.o b X)).trans K3 (λb X=>Hi.o b X)).trans (Kept.ai (RO:=mX) (aA _ ((w1.setCell (I rb 1) (Y ((KW:Int)+1))).setCell (I mb 17) (Y ((n:Int)+1))) 1) (λb X=>A3.sep.dZ b (by simp[X]))) (λb X=>Hi.o b X));have HEX:=Z hex;have X0:aJ p c i (s1,bQ r1)=eC p c (s1,r1):=by unfold eC;rw[HAT.o,HI.o]
  rw[X0]at HEX;have Te:=Z (And.intro WS OB);clear A2 A3 nb1 nb2 N3 K3 WS OB hex X0 e17 e1 fm fr QG dS;generalize i.op.toNat=on at*;have hoI:(on:Int)<42:=G;have afz:(0:Int)<=on:=G;generalize Gl on=F at*;generalize(w1.setCell (I rb 1) (Y ((KW:Int)+1))).setCell (I mb 17) (Y ((n:Int)+1))=w3 at*
  go_still_tail 8,bj
  change wpList _ _ _ _ _ (w3.drewN 1);generalize w3.drewN 1=w4 at*;go_wp2_with fail;have WD:=CP HV.o XZ.o HH1.o;rw[show aJ p c (ak p r1.at_) (s1,bQ r1)=eC p c (s1,r1)from rfl]at WD;have En:=yV (p:=p) (c:=c) (x:=(s1,r1)) S4.o;have QH:=λst' C'=>tO (c:=c) (s:=s1) HV.o XZ.o (st':=st') C';rw[show aJ p c (ak p r1.at_) (s1,bQ r1)=eC p c (s1,r1)from rfl]at QH;have hrn:=O2.o;obtain⟨f',rfl⟩:∃f',f=f'+1:=⟨f-1,G⟩;rw[show kB p c (f'+1) (s1,r1)=if kF (eC p c (s1,r1))then(1,eC p c (s1,r1))else((kB p c f' (eC p c (s1,r1))).1+1,(kB p c f' (eC p c (s1,r1))).2)from rfl]at hrn;have UH:=Z WD;have yp:=Z En;have QI:=Z QH;have Nj:=Z hrn;clear WD En QH hrn kI tQ fY afy y0 y0' y2 y3 y4 hoI afz hoN nm acR be O2;generalize eC p c (s1,r1)=y at*;refine HEX.o.mono ?_;rintro e w5 ⟨rfl,RO5,WR,⟨C5,U5,hv5,jv5,iq,UI,A5⟩,hk5⟩;have d8:Xf w5 (I rb 8)=O (.bool y.2.done):=by rw[<-UI];exact A5.r.dY.cell 8
  have d6:Xf w5 (I rb 6)=O (Y y.2.bG):=by rw[<-UI];exact A5.r.dY.cell 6
  have gJ:∀b,b∈RO->b∈RO5:=λb X=>WR b (by simp[Hi.o b X]);have X5:Kept RO w w5:=Wq.o.trans hk5 (λb X=>by simp[Hi.o b X]);have mY:=Z (show In w5 mb rb RO5 K p c t ((n+1:Nat):Int) y from⟨C5,U5,hv5,jv5,iq,UI,A5⟩);have Bc:=Z gJ;have KY:=Z X5;clear HEX A5 WR hk5 iq UI gJ X5 Wq HKW;by_cases hs:kF y=true
  ·have oJ:=Z (show Ran w mb rb RO K p c t (kB p c iZ x0) (Xc (.tuple #[])) w5 from by
    have hr:=Nj.o;rw[aE hs]at hr;rw[hr];exact⟨rfl,RO5,Bc.o,mY.o,KY.o⟩)
   have acU:y.2.done=true\/(y.2.done=false/\(y.2.bG==0)=false):=by
    unfold kF at hs;cases hd:y.2.done with
    |true=>exact .inl rfl
    |false=>rw[hd]at hs;simp at hs;exact .inr ⟨rfl,by simpa using hs⟩
   clear hs Nj mY UH yp QI Bc KY;rcases acU with hd|⟨hd,htz⟩
   ·rw[hd]at d8;go_wp2;simp only[Exit.jump];go_end0;exact oJ.o
   ·rw[hd]at d8;go_wp2;simp only[Exit.jump];go_end0;exact oJ.o
  ·obtain⟨UJ,jq⟩:=rF hs;rw[UJ]at d6;rw[jq]at d8;obtain⟨st',C'⟩:=UH.o.next UJ jq;have hlf:=QI.o st' C';have X6:=Ci.o;have rj:n+1+f'<=iZ:=G;have Fb:vj w w5 mb rb RO K p c t T s0 x0 f':=by refine⟨n+1,y,st',RO5,Bc.o,mY.o,KY.o,C',UH.o.hold,yp.o,G,?_,rj⟩;have hr:=Nj.o;rw[ax hs]at hr;rw[hr];congr 1;omega
   have Jf:tZ mb w5=n+1:=Ch mY.o;have zg:tZ mb wr=n:=Ch (show In wr mb rb mX K p c t n (s1,r1)from⟨C1,U1,gz,jv1,rY.o,I3.o,Ev.o⟩);have acV:n<iZ:=G;have WQ:=Z (show(∃f,vj w w5 mb rb RO K p c t T s0 x0 f)/\iZ-tZ mb w5<iZ-tZ mb wr from⟨⟨f',Fb⟩,by rw[Jf,zg];omega⟩);clear Fb Jf zg acV hlf X6 C' UJ jq hs Nj mY UH yp QI Bc KY;go_wp2;go_step3;exact⟨rfl,⟨rp rfl,WQ.o.1⟩,WQ.o.2⟩
 ·intro hp;go_wp2;go_step3;simp only[Exit.then]
  apply_assumption
  refine hp _ _ ⟨?_,iZ,HG.o⟩;exact rp rfl
def DF(w:ek)(b:Nat)(x0 x1 x2:to):ek:=((w.setCell (I b 0) x0).setCell (I b 1) x1).setCell (I b 2) x2
def jZ(w:ek)(b:Nat)(x0 x1 x2:to):aC [b] w (DF w b x0 x1 x2):=(((aC.refl _ w).setCell az _).setCell az _).setCell az _
def j_{w:ek}{b:Nat}{y0 y1 y2:to}(h:aH w b 44 #[y0,y1,y2])(x0 x1 x2:to):aH (DF w b x0 x1 x2) b 44 #[x0,x1,x2]:=((h.set 0 _).set 1 _).set 2 _
def Cj{w:ek}{b:Nat}{y0 y1 y2:to}(h:aH w b 44 #[y0,y1,y2]):Xf w (I b 0)=O y0/\Xf w (I b 1)=O y1/\Xf w (I b 2)=O y2/\∀o,w.frozen? (I b o)=false:=⟨h.cell 0,h.cell 1,h.cell 2,h.frozen⟩
def yr(w wr:ek)(C:Co)(RO:List Nat)(K:Kc)(p:aU)(c:Cp)(t:fG)(used:Int)(s0:St)(j:List vM)(i:Nat):Prop:=
 ∃C' s',bN w wr C C'/\Mx wr C' RO K p c s' t used (.pointer Xb)/\Inv (aB p c) s'/\Vm.Good (aB p c) p.vars.length s0 (j.drop (j.length-i)) s'
def zZ(w:ek)(C:Co)(RO:List Nat)(K:Kc)(p:aU)(c:Cp)(t:fG)(used:Int)(s:St)(b4:Nat)(x0 x1 x2:to)(e:Ending)(w':ek):Prop:=
 e=Xc (.tuple #[])/\∃C' wz,bN w wz C C'/\Mx wz C' RO K p c s t used (.pointer Xb)/\aC [b4] wz w'/\aH w' b4 44 #[x0,x1,x2]
def abB{α:Type}{l:List α}{i:Nat}(h:i<l.length):∃u,l.reverse[i]? =O u/\l.drop (l.length - (i+1))=u::l.drop (l.length-i):=by
 have h1:l.length - (i+1)<l.length:=G;refine⟨l[l.length - (i+1)],?_,?_⟩
 ·rw[List.getElem?_reverse h,ft G];congr 1;congr 1;omega
 ·rw[uY h1];congr 2;omega
def rq{p:Prop}(h:p:=by
 have MQ:=Z mN;clear k1 k2 mN HC;go_wp2_with fail
 go_roundg i'
 case measure=>omega
 case rel=>exact⟨i',rfl,rfl,G,MQ⟩):p:=h
def UK{p:Prop}(h:p:=by
 go_wp2_with fail;refine HC.o.mono ?_;rintro e w9 ⟨rfl,C9,k1,k2⟩;have mN:yr w w9 C RO K p c t used s0 jl i':=⟨C9,_,oE.o.trans k1,k2,X8.o,X9.o⟩;exact rq):p:=h
def abA(M:Tf K C.mb p c)(h:dh w C U RO K p c t used hv jv s r)(hI:Inv (aB p c) s)(hG:Vm.Good (aB p c) p.vars.length s0 r.bI s)(ht:r.bG≠0)(hl:r.bI.length<1000000){b2 b5 b4:Nat}{x0 x1 x2:to}(h2:aH w b2 35 #[Oi C.mb])(h5:aH w b5 111 #[Oi U.rb])(h4:aH w b4 44 #[x0,x1,x2])(r5:b5∈RO)(r4:b4∈RO):
 CallsD prog 61 #[Oi b2,Oi b5,Oi b4] .returning w (λe u' w'=>u'= .returning/\zZ w C RO K p c t used s0 b4 (.bool false) Xd (Y r.bG) e w'):=by
 obtain⟨k1,k2⟩:=h.mx.kK 60 (.pointer Xb) (rv':= .pointer Xb) rfl;have rU:=wj h.m.aT;have abz:∀o,w.frozen? (I C.mb o)=false:=h.m.aT.frozen;have c2:=h2.c1;have QK:yr w (w.setCell (I C.mb 60) (.pointer Xb)) C RO K p c t used s0 r.bI r.bI.length:=⟨C,s,k1,k2,hI,by rw[Nat.sub_self];exact hG⟩;have gJ:∀wx C',bN w wx C C'->(Xf wx (I b5 0)=O (Oi U.rb)/\Xf wx (I U.rb 6)=O (Y r.bG)/\Xf wx (I U.rb 7)=O U.kR)/\Row wx 1 1 U.kR r.bI.length jv/\(∀i u,r.bI.reverse[i]? =O u->iD wx C.mb RO (jv i) u)/\aH wx b4 44 #[x0,x1,x2]:=by intro wx C' k;have X:=h.r.dY.aG k.f (h.sep.uc (by simp[Ru.l]));exact⟨⟨(h5.aG k.f (h.sep.cr r5)).cell 0,X.cell 6,X.cell 7⟩,h.r.kR.aG k.f (λb X=>h.sep.uc (by simp[Ru.l,aX.2 X])),λi u hu=>(h.r.jat i u hu).aG k.f (λb X=>h.sep.cr X),h4.aG k.f (h.sep.cr r4)⟩
 have htz:(r.bG==0)=false:=by simpa using ht
 have HM:=Z M;have HS:=Z QK;have Bc:=Z gJ;have HL:=Z hl;have HR4:=Z (And.intro (h.sep.cr r4) r4);obtain⟨⟨q5,q6,q7⟩,-⟩:=gJ _ _ k1;have X_:=h.r.kR.val;have PG:=Z X_;clear h k1 k2 h2 h5 h4 r5 r4 M hI hG ht QK gJ hl X_;generalize kU:r.bG=tr at*;generalize hjl:r.bI=jl at*;have af5:=HL.o;have hjv:U.kR=Xd/\jl.length=0\/∃b cap,U.kR=H (O (I b 0)) jl.length cap:=by
  rcases PG.o with h|⟨b,cap,h1,-⟩
  ·exact .inl h
  ·exact .inr ⟨b,cap,h1⟩
 clear PG kU hjl;rcases hjv with⟨gz,hz⟩|⟨jb,agb,gz⟩
 ·rw[gz]at q7;have HZ:=Z hz;clear gz hz
  go_enter_d func61,ntmps61
  go_wp2_with fail
  go_loopg [3] 0 (λf s3 wr=>wr=w.setCell (I C.mb 60) (.pointer Xb)/\s3=Y (-1:Int))
  case atStart=>exact⟨rfl,rfl⟩
  case round=>
   obtain⟨rfl,rfl⟩:=hrel;obtain⟨C',s',k1,k2,UL,WO⟩:=HS.o;obtain⟨-,-,-,b4x⟩:=Bc.o _ _ k1;obtain⟨z0,z1,z2,zf⟩:=Cj b4x;have HE:=Z (show zZ w C RO K p c t used s0 b4 (.bool false) Xd (Y tr) (Xc (.tuple #[])) (DF (w.setCell (I C.mb 60) (.pointer Xb)) b4 (.bool false) Xd (Y tr))from by
    have hG2:s'=s0:=by have:=WO;rw[HZ.o,Nat.sub_zero,List.length_eq_zero_iff.1 HZ.o]at this;exact this
    subst hG2;exact⟨rfl,C',_,k1,k2,jZ _ _ _ _ _,j_ b4x _ _ _⟩)
   clear k1 k2 UL WO b4x;go_wp2;exact bR (ei rfl _ _ _) rfl HE.o
 ·rw[gz]at q7;have HV:=Z gz;clear gz
  go_enter_d func61,ntmps61
  go_wp2_with fail
  go_loopg [3] jl.length (λf s3 wr=>∃i:Nat,s3=Y ((i:Int) - 1)/\i=f/\i<=jl.length/\Hid (yr w wr C RO K p c t used s0 jl i))
  case atStart=>exact⟨jl.length,rfl,rfl,aL _,HS⟩
  case round=>
   clear HS;obtain⟨i,rfl,rfl,hi,HU⟩:=hrel;obtain⟨C',s',k1,k2,UL,WO⟩:=HU.o;obtain⟨⟨d5,d6,d7⟩,UM,dat,dbl⟩:=Bc.o _ _ k1;rw[HV.o]at d7 UM;by_cases OD:i=0
   ·subst OD;obtain⟨z0,z1,z2,zf⟩:=Cj dbl;have HE:=Z (show zZ w C RO K p c t used s0 b4 (.bool false) Xd (Y tr) (Xc (.tuple #[])) (DF wr b4 (.bool false) Xd (Y tr))from by
     have hG2:s'=s0:=by have:=WO;rw[Nat.sub_zero,List.drop_length]at this;exact this
     subst hG2;exact⟨rfl,C',_,k1,k2,jZ _ _ _ _ _,j_ dbl _ _ _⟩)
    clear k1 k2 UL WO dbl UM dat HU;go_wp2;exact bR (ei rfl _ _ _) rfl HE.o
   ·obtain⟨i',rfl⟩:∃i',i=i'+1:=⟨i-1,G⟩;have hii:i'<jl.length:=G;obtain⟨u,Jf,zg⟩:=abB hii;rw[zg]at WO;obtain⟨Ck,Ya,QL⟩:=WO;have hua:=dat i' u Jf;have a1f:Xf wr (I jb i')=O (jv i'):=UM.cell G;have mO:=k1.mb;have oE:=Z k1;have pZ:=Z k2;have HII:=Z UL;have X9:=Z QL;have X8:=Z Ya;have rY:=Z mO;have EV:=HM.o.ev UL;have KZ:=Z EV;have uZ:p.ap.length<=256:=by have:=EV.g16;omega
    have AM:((i'+1:Nat):Int) - 1=i':=G;have hnr:∀b,b∈RO->b∉C'.l:=λb X=>k2.cr X;have HNR:=Z hnr;clear k1 k2 UL dat dbl UM HU QL Ya mO EV OD hnr Jf zg;rw[AM];generalize jv i'=fv at*;cases u with
    |var a1g qX=>obtain⟨x1,x2,x3,op,bb,cc,dd,rfl,e1,e2,e3,-⟩:=hua;rw[<-rY.o]at e2;have HC:=Z (IU pZ.o Ck e1 e2 e3);clear Ck;exact UK
    |mark qX=>obtain⟨x1,x2,rfl,e1,e2,-⟩:=hua;rw[<-rY.o]at e1;obtain⟨q,n,hq,hn,hf⟩:=Ck;have HC:=Z (Fv pZ.o hf hq hn e1 e2);have HUE:=Z (show nT (aB p c) (.mark qX) s'=k_ s' n qX by simp only[nT,hf]);clear hf hn;go_wp2_with fail;refine HC.o.mono ?_;rintro e w9 ⟨rfl,C9,k1,k2⟩;have mN:yr w w9 C RO K p c t used s0 jl i':=⟨C9,_,oE.o.trans k1,k2,by rw[<-HUE.o];exact X8.o,by rw[<-HUE.o];exact X9.o⟩;exact rq
    |cut q d=>obtain⟨x1,x2,x3,rfl,e1,e2,e3,-⟩:=hua;rw[<-rY.o]at e1;obtain⟨hq,hd,bt⟩:=Ck;have HC:=Z (IV pZ.o HII.o HM.o.FJ uZ hq hd bt KZ.o.total e1 e2 e3);clear bt;exact UK
    |put q d x=>obtain⟨x1,x2,x3,x4,rfl,e1,e2,e3,e4,-⟩:=hua;rw[<-rY.o]at e1;obtain⟨hq,hd,hx,be,QM⟩:=Ck;have HC:=Z (IW pZ.o HM.o.FJ uZ hq hd x hx (KZ.o.room hq be QM) KZ.o.total e1 e2 e3 e4);clear hx be QM;exact UK
    |out q x ahead=>
     obtain⟨x1,x2,x3,x4,av,rfl,e1,e2,e3,e4,e5,y1,y2,y3,y4,y5⟩:=hua;rw[<-rY.o]at e1;obtain⟨hq,hx,be,QM,hah⟩:=Ck;have hal:ahead.length<=9223372036854775807:=by
      have h8:=e5.val;rcases h8 with⟨-,h8⟩|⟨b,cap,-,h8,h9,-⟩
      ·omega
      ·have:maxLen=9223372036854775807:=by rfl
       omega
     have HC:=Z (IY pZ.o HM.o.FJ uZ hq x hx (KZ.o.room hq be QM) KZ.o.total hah hal e1 e2 e3 e4 e5 y1 y2 y3 y4 y5);clear hx be QM hah hal e5;exact UK
variable {RO2:List Nat}
def rest(w:ek)(C:Co):List Nat:=(List.range w.heap.size).filter (λb=>decide (b∉C.l))
def qd{b:Nat}:b∈rest w C↔b<w.heap.size/\b∉C.l:=by unfold rest;simp
def Mx.rest(h:Mx w C RO K p c s t used rv):Mx w C (rest w C) K p c s t used rv:=
 h.less (λb X=> .inr (qd.1 X)) (λb X=>qd.2 ⟨h.sep.dZ b X,h.cr X⟩)
def narrow(h:Mx w C RO K p c s t used rv)(ho:∀b,b∈Ma.rest w C->b∈RO2)(k:Kept (Ma.rest w C) w w')(hm:C'.mb=C.mb)(m:Mx w' C' RO2 K p c s' t' used' rv'):bN w w' C C'/\Mx w' C' RO K p c s' t' used' rv':=by
 have hr:∀b,b∈RO->b∈RO2:=λb X=>ho b (qd.2 ⟨h.sep.dZ b X,h.cr X⟩);refine⟨⟨hm,⟨k.os,k.tape,k.output,k.size,λi hi hs=>k.block i (qd.2 ⟨hi,hs⟩)⟩,λb X=>?_⟩,⟨⟨m.m.aT,?_,m.m.ar,m.m.ix,m.m.vs⟩,m.sep.nd,m.sep.lt,λb X hc=>m.sep.ro b X (hr b hc),λb X=>dC (h.sep.dZ b X) k.size⟩⟩
 ·by_cases h1:b∈C.l
  ·exact .inl h1
  ·by_cases h2:b<w.heap.size
   ·exact absurd (ho b (qd.2 ⟨h2,h1⟩)) (m.sep.ro b X)
   ·exact .inr G
 ·exact⟨m.m.prog.g,m.m.prog.v,m.m.prog.t,m.m.prog.o,m.m.prog.cd,m.m.prog.qs,h.m.prog.ro⟩
def Mx.begin(h:Mx w C RO K p c s t used (Oi rb)){key a:Nat}(X:aH w rb 126 #[.int .u64 key,Y a,Xd,Xd,Xd,Xd,Y 0,Xd,.bool false])(hn:rb∉C.l)(ho:rb∉RO):
 dh w C ⟨rb,Xd,Xd,Xd,Xd⟩ RO K p c t used Xd (λ_=> Y 0) s (eN key a):=by
 have hl:(Ru.mk rb Xd Xd Xd Xd).l=[rb]:=rfl;refine⟨h.m,⟨X,Row.nil _ _ _ _,Row.nil _ _ _ _,Row.nil _ _ _ _,Row.nil _ _ _ _,λi u hu=>by simp[eN]at hu,rfl⟩,?_,?_,?_,h.sep.dZ⟩
 ·rw[hl,wS];exact⟨h.sep.nd,az,λx hx y hy=>by simp at hy;subst hy;rintro rfl;exact hn hx⟩
 ·rw[hl];intro b lJ;rcases List.mem_append.1 lJ with lJ|lJ
  ·exact h.sep.lt b lJ
  ·simp at lJ;subst lJ;exact X.lt
 ·rw[hl];intro b lJ;rcases List.mem_append.1 lJ with lJ|lJ
  ·exact h.sep.ro b lJ
  ·simp at lJ;subst lJ;exact ho
def aeW(h:Mx w C RO K p c s t used (Oi rb)){cs:Array to}(hr:aH w rb 126 cs)(h6:cs[6]? =O (Y 0))(hn:rb∉C.l){b2 b5 b4:Nat}{x0 x1 x2:to}(h2:aH w b2 35 #[Oi C.mb])(h5:aH w b5 111 #[Oi rb])(h4:aH w b4 44 #[x0,x1,x2])(r5:b5∈RO)(r4:b4∈RO):
 CallsD prog 61 #[Oi b2,Oi b5,Oi b4] .returning w (λe u' w'=>u'= .returning/\zZ w C RO K p c t used s b4 x0 x1 x2 e w'):=by
 obtain⟨k1,k2⟩:=h.kK 60 (.pointer Xb) (rv':= .pointer Xb) rfl;have rU:=wj h.m.aT;have abz:∀o,w.frozen? (I C.mb o)=false:=h.m.aT.frozen;have c2:=h2.c1;have q5:(w.setCell (I C.mb 60) (.pointer Xb)).cell? (I b5 0)=O (Oi rb):=(h5.aG k1.f (h.cr r5)).cell 0;have q6:(w.setCell (I C.mb 60) (.pointer Xb)).cell? (I rb 6)=O (Y 0):=((hr.aG k1.f hn).cell 6).trans h6;have HB:=Z (show zZ w C RO K p c t used s b4 x0 x1 x2 (Xc (.tuple #[])) (w.setCell (I C.mb 60) (.pointer Xb))from⟨rfl,C,_,k1,k2,aC.refl _ _,h4.aG k1.f (h.cr r4)⟩);clear h k1 k2 h2 h5 h4 r5 r4 hr h6 hn
 go_enter_d func61,ntmps61
 go_wp2;exact bR (ei rfl _ _ _) rfl HB.o
structure Bf(w w5:ek)(bx:Nat)(C:Co)(K:Kc)(p:aU)(c:Cp)(s:St)(t:fG)(used:Int)(key:Nat)(a:Int)(rv:to):Prop where
 at_:bx=w.heap.size
 mx:Mx w5 C (bx::(bx+1)::(bx+1+1+1)::Ma.rest w C) K p c s t used rv
 b2:aH w5 bx 35 #[Oi C.mb]
 b4:aH w5 (bx+1) 44 #[.bool false,Xd,Y 0]
 b5:aH w5 (bx+1+1+1) 111 #[Oi (bx+1+1)]
 rb:aH w5 (bx+1+1) 126 #[.int .u64 key,Y a,Xd,Xd,Xd,Xd,Y 0,Xd,.bool false]
 nc:bx+1+1∉C.l
 no:bx+1+1∉(bx::(bx+1)::(bx+1+1+1)::Ma.rest w C)
 DG:Kept (Ma.rest w C) w w5
def Sv{p:Prop}(h:p:=by
 exact .inr ⟨G,λhc=>by have:=be _ hc;omega⟩):p:=h
def yH(h:Mx w C RO K p c s t used (.pointer Xb))(key:Nat)(a:Int):Bf w ((((w.alloc (Xe #[Oi C.mb] 35)).alloc (Xe #[.bool false,Xd,Y 0] 44)).alloc (Xe #[.int .u64 key,Y a,Xd,Xd,Xd,Xd,Y 0,Xd,.bool false] 126)).alloc (Xe #[Oi (w.heap.size+1+1)] 111)) w.heap.size C K p c s t used key a (.pointer Xb):=by
 have sz:∀(w:ek) (o:Obj),(w.alloc o).heap.size=w.heap.size+1:=λw o=>by simp
 have b1:=aH.new w 35 #[Oi C.mb];have h1:=h.rest.box (Xe #[Oi C.mb] 35);have e1:=sz w (Xe #[Oi C.mb] 35);have k1:Below w.heap.size w (w.alloc (Xe #[Oi C.mb] 35)):=(aZ _ w).alloc (aL _) _;generalize w.alloc (Xe #[Oi C.mb] 35)=w1 at*;have b2:=aH.new w1 44 #[.bool false,Xd,Y 0];have h2:=h1.box (Xe #[.bool false,Xd,Y 0] 44);have e2:=sz w1 (Xe #[.bool false,Xd,Y 0] 44);have b1:=b1.alloc (Xe #[.bool false,Xd,Y 0] 44);have k2:=k1.alloc G (Xe #[.bool false,Xd,Y 0] 44);generalize w1.alloc (Xe #[.bool false,Xd,Y 0] 44)=w2 at*;have b3:=aH.new w2 126 #[.int .u64 key,Y a,Xd,Xd,Xd,Xd,Y 0,Xd,.bool false];have h3:=h2.box (Xe #[.int .u64 key,Y a,Xd,Xd,Xd,Xd,Y 0,Xd,.bool false] 126);have e3:=sz w2 (Xe #[.int .u64 key,Y a,Xd,Xd,Xd,Xd,Y 0,Xd,.bool false] 126);have b1:=b1.alloc (Xe #[.int .u64 key,Y a,Xd,Xd,Xd,Xd,Y 0,Xd,.bool false] 126);have b2:=b2.alloc (Xe #[.int .u64 key,Y a,Xd,Xd,Xd,Xd,Y 0,Xd,.bool false] 126);have k3:=k2.alloc G (Xe #[.int .u64 key,Y a,Xd,Xd,Xd,Xd,Y 0,Xd,.bool false] 126);generalize w2.alloc (Xe #[.int .u64 key,Y a,Xd,Xd,Xd,Xd,Y 0,Xd,.bool false] 126)=w3 at*;have b4:=aH.new w3 111 #[Oi (w.heap.size+1+1)];have h4:=h3.box (Xe #[Oi (w.heap.size+1+1)] 111);have e4:=sz w3 (Xe #[Oi (w.heap.size+1+1)] 111);have b1:=b1.alloc (Xe #[Oi (w.heap.size+1+1)] 111);have b2:=b2.alloc (Xe #[Oi (w.heap.size+1+1)] 111);have b3:=b3.alloc (Xe #[Oi (w.heap.size+1+1)] 111);have k4:=k3.alloc G (Xe #[Oi (w.heap.size+1+1)] 111);generalize w3.alloc (Xe #[Oi (w.heap.size+1+1)] 111)=w4 at*;rw[e1]at e2 b2;rw[e2]at e3 b3;rw[e3]at e4 b4;have be:∀b,b∈C.l->b<w.heap.size:=h.sep.lt;have hrt:∀b,b∈Ma.rest w C->b<w.heap.size:=λb X=>(qd.1 X).1;refine⟨rfl,h4.less (λb X=>?_) (λb X=>by simp[X]),b1,b2,b4,b3,λhc=>by have:=be _ hc;omega,λhc=>?_,Kept.ai k4 hrt⟩
 ·simp only[ep]at X;rcases X with rfl|rfl|rfl|X
  ·exact Sv
  ·exact Sv
  ·exact Sv
  ·exact .inl X
 ·simp only[ep]at hc;rcases hc with hc|hc|hc|hc
  ·omega
  ·omega
  ·omega
  ·have:=hrt _ hc;omega
def Bf.draw{w5:ek}{bx:Nat}{key:Nat}{a:Int}(h:Bf w w5 bx C K p c s t used key a rv)(n:Nat):Bf w (w5.drewN n) bx C K p c s t used key a rv:=
 ⟨h.at_,h.mx.drewN n,h.b2.drewN n,h.b4.drewN n,h.b5.drewN n,h.rb.drewN n,h.nc,h.no,h.DG.trans (Kept.ai (aA w5.heap.size w5 n) (λb X=>h.mx.sep.dZ b (by simp[X]))) (λb X=>X)⟩
def Bf.enter{w5:ek}{bx:Nat}{key:Nat}{a:Int}(h:Bf w w5 bx C K p c s t used key a (.pointer Xb)):Bf w ((w5.setCell (I C.mb 60) (Oi (bx+1+1))).setCell (I C.mb 17) (Y 0)) bx C K p c s t 0 key a (Oi (bx+1+1)):=by obtain⟨k1,m1⟩:=h.mx.kK 60 (Oi (bx+1+1)) (rv':=Oi (bx+1+1)) rfl;obtain⟨k2,m2⟩:=m1.kK 17 (Y 0) (used':=0) rfl;have k:=k1.trans k2;have hk:Kept (Ma.rest w C) w5 ((w5.setCell (I C.mb 60) (Oi (bx+1+1))).setCell (I C.mb 17) (Y 0)):=Kept.du k.f (λb X=>h.mx.cr (by simp[X])) (λb X=>h.mx.sep.dZ b (by simp[X]));exact⟨h.at_,m2,h.b2.aG k.f (h.mx.cr az),h.b4.aG k.f (h.mx.cr az),h.b5.aG k.f (h.mx.cr az),h.rb.aG k.f h.nc,h.nc,h.no,h.DG.trans hk (λb X=>X)⟩
end
section
variable {w w' wr:ek}{C C' C1:Co}{U U':Ru}{RO RO' mX:List Nat}{K:Kc}{p:aU}{c:Cp}{t t':fG}{used used':Int}{hv hv':to}{jv lM:Nat->to}{s s' s0 s1:St}{t0:fG}{Aa:Int}{r r':Rn}{rv rv':to}{mb rb bx:Nat}{T:Map}{st:Std}
def qH{b o:Nat}{U:TypeId}{cs:Array to}{v:to}(h:aH w b U cs)(hv:cs[o]? =O v):w.setCell (I b o) v=w:=by
 have hh:(w.setCell (I b o) v).heap=w.heap:=Array.ext_getElem? λk=>by
  rw[qA];split
  ·next e=>
   subst e;unfold aH at h;rw[h];have:cs.setIfInBounds o v=cs:=Array.ext_getElem? λi=>by
    rw[Array.getElem?_setIfInBounds];split
    ·next e=>subst e;split
             ·exact hv.symm
             ·next h2=>rw[Array.getElem?_eq_none G]
    ·rfl
   simp[this]
  ·rfl
 cases w;simp only[World.setCell]at hh ⊢;congr
structure Over(w wr:ek)(bx:Nat)(C C1:Co)(mX:List Nat)(K:Kc)(p:aU)(c:Cp)(s1:St)(t:fG)(used:Int)(tv:to)(told:List Nat)(bG:Int)(x0 x1 x2:to):Prop where
 at_:bx=w.heap.size
 mb:C1.mb=C.mb
 mx:Mx wr C1 mX K p c s1 t used (Oi (bx+1+1))
 ro:∀b,b∈(bx::(bx+1)::(bx+1+1+1)::Ma.rest w C)->b∈mX
 b2:aH wr bx 35 #[Oi C.mb]
 b4:aH wr (bx+1) 44 #[x0,x1,x2]
 b5:aH wr (bx+1+1+1) 111 #[Oi (bx+1+1)]
 rb:∃cs,aH wr (bx+1+1) 126 cs/\cs[5]? =O tv/\cs[6]? =O (Y bG)
 nc:bx+1+1∉C1.l
 td:Row wr 46 1 tv told.length (λi=> .int .u64 (told.getD i 0:Nat))
 tn:∀b,b∈vb tv->b∉C1.l/\b≠bx+1/\b∉Ma.rest w C
 DG:Kept (Ma.rest w C) w wr
def Bf.QS{key:Nat}{a:Int}(h:Bf w wr bx C K p c s t used key a (Oi (bx+1+1))):Over w wr bx C C (bx::(bx+1)::(bx+1+1+1)::Ma.rest w C) K p c s t used Xd [] 0 (.bool false) Xd (Y 0):=
 ⟨h.at_,rfl,h.mx,λb X=>X,h.b2,h.b4,h.b5,⟨_,h.rb,rfl,rfl⟩,h.nc,Row.nil _ _ _ _,λb X=>by simp[vb,Value.ownBlock]at X,h.DG⟩
def Bf.all{key a:Nat}(h:Bf w wr bx C K p c s t used key a (Oi (bx+1+1))):dh wr C ⟨bx+1+1,Xd,Xd,Xd,Xd⟩ (bx::(bx+1)::(bx+1+1+1)::Ma.rest w C) K p c t used Xd (λ_=> Y 0) s (eN key a):=h.mx.begin h.rb h.nc h.no
def Bf.ran{key a:Nat}{w6:ek}(h:Bf w w6 bx C K p c s t 0 key a (Oi (bx+1+1))){z:Nat×SR}(hi:In wr C.mb (bx+1+1) mX K p c t z.1 z.2)(ho:∀b,b∈(bx::(bx+1)::(bx+1+1+1)::Ma.rest w C)->b∈mX)(hk:Kept (bx::(bx+1)::(bx+1+1+1)::Ma.rest w C) w6 wr):
 ∃C1 tv,Over w wr bx C C1 mX K p c z.2.1 t z.1 tv z.2.2.told z.2.2.bG (.bool false) Xd (Y 0)/\∃U hv jv,U.rb=bx+1+1/\dh wr C1 U mX K p c t z.1 hv jv z.2.1 z.2.2:=by
 obtain⟨C1,U,hv,jv,h1,h2,A⟩:=hi;have hm:=A.mx;rw[h2]at hm;have X:=A.r.dY;rw[h2]at X;refine⟨C1,U.oh,⟨h.at_,h1,hm,ho,aH.kept h.b2 hk az,aH.kept h.b4 hk az,aH.kept h.b5 hk az,⟨_,X,rfl,rfl⟩,?_,A.r.oh,?_,h.DG.trans hk (λb X=>by simp[X])⟩,U,hv,jv,h2,A⟩
 ·rw[<-h2];exact A.sep.uc (by simp[Ru.l])
 ·exact λb X=>⟨A.sep.uc (by simp[Ru.l,X]),λe=>A.sep.ur (b:=b) (ho b (by rw[e];simp)) (by simp[Ru.l,X]),λhc=>A.sep.ur (b:=b) (ho b (by simp[hc])) (by simp[Ru.l,X])⟩
def m_(t:fG)(AS:Bool)(told:List Nat):fG:=if AS then{t with db:=wrap64 (t.db+1),fZ:=wrap64 (t.fZ+told.length)}else{t with bm:=wrap64 (t.bm+1),fZ:=wrap64 (t.fZ+told.length)}
def jC(w:ek)(v:to)(l:List Nat):Prop:=(v=Xd/\l=[])\/∃b cs,v=H (O (I b 0)) l.length l.length/\aH w b 46 cs/\∀i,i<l.length->cs[i]? =O (.int .u64 (l.getD i 0:Nat))
def jK(w:ek)(C:Co)(RO:List Nat)(K:Kc)(p:aU)(c:Cp)(t:fG)(s:St)(key:Nat)(e:Ending)(w':ek):Prop:=
 ∃(tv:to) (C':Co),e=Xc (.agg #[.bool (if eQ p c s key=0 then qY p c s key else false),tv,Y (eQ p c s key)])/\bN w w' C C'/\
  Mx w' C' RO K p c (fD p c s key) (if eQ p c s key=0 then m_ t (qY p c s key) (gu p c s key)else t) (nM p c s key).1 (.pointer Xb)/\
  jC w' tv (if eQ p c s key=0 then gu p c s key else[])/\∀b,b∈vb tv->b∉C'.l/\b∉Ma.rest w C
def Mx.acY(h:Mx w C RO' K p c s t used rv)(hs:∀b,b∈RO->b∈RO')(hp:∀b,(b∈vb K.g\/b∈vb K.v\/b∈vb K.t\/b∈vb K.o\/b∈vb K.c\/b∈vb K.qs)->b∈RO):Mx w C RO K p c s t used rv:=
 ⟨⟨h.m.aT,⟨h.m.prog.g,h.m.prog.v,h.m.prog.t,h.m.prog.o,h.m.prog.cd,h.m.prog.qs,hp⟩,h.m.ar,h.m.ix,h.m.vs⟩,h.sep.nd,h.sep.lt,λb X hc=>h.sep.ro b X (hs b hc),λb X=>h.sep.dZ b (hs b X)⟩
section
variable {tv x0 x1 x2 y0 y1 y2:to}{told:List Nat}{bG vo:Int}{w8 w9 wz:ek}{C2:Co}{s2:St}{t2:fG}
def Over.QQ(h:Mx w C RO K p c s0 t0 Aa (.pointer Xb))(a0f:Over w wr bx C C1 mX K p c s1 t used tv told bG x0 x1 x2)(k:bN wr w8 C1 C2)(m:Mx w8 C2 mX K p c s2 t2 vo rv):bN w w8 C C2/\Mx w8 C2 RO K p c s2 t2 vo rv:=
 narrow h (λb X=>a0f.ro b (by simp[X])) (a0f.DG.trans (Kept.du (RO:=Ma.rest w C) k.f (λb X=>a0f.mx.cr (a0f.ro b (by simp[X]))) (λb X=>a0f.mx.sep.dZ b (a0f.ro b (by simp[X])))) (λb X=>X)) (k.mb.trans a0f.mb) m
def z_(h:Mx w C RO K p c s0 t0 Aa (.pointer Xb))(X:bx=w.heap.size)(k:bN w w8 C C2)(m:Mx w8 C2 RO K p c s2 t2 vo rv)(hn:bx+1∉C2.l)(f:aC [bx+1] w8 w9):bN w w9 C C2/\Mx w9 C2 RO K p c s2 t2 vo rv:=
 ⟨k.new G f,m.aG f (λb X hc=>by simp at hc;subst hc;exact hn X) (λb lJ hc=>by simp at hc;subst hc;have:=h.sep.dZ _ lJ;omega)⟩
def Over.close(h:Mx w C RO K p c s0 t0 Aa (.pointer Xb))(a0f:Over w wr bx C C1 mX K p c s1 t used tv told 0 x0 x1 x2)(k:bN wr w8 C1 C1)(m:Mx w8 C1 mX K p c s1 t2 vo (Oi (bx+1+1)))(f:aC [bx+1] w8 w9)(b4:aH w9 (bx+1) 44 #[y0,y1,y2]):
 CallsD prog 61 #[Oi bx,Oi (bx+1+1+1),Oi (bx+1)] .returning w9 (λe u' w'=>u'= .returning/\e=Xc (.tuple #[])/\
  ∃C2,bN w w' C C2/\Mx w' C2 RO K p c s1 t2 vo (.pointer Xb)/\aH w' (bx+1) 44 #[y0,y1,y2]/\Row w' 46 1 tv told.length (λi=> .int .u64 (told.getD i 0:Nat))/\∀b,b∈vb tv->b∉C2.l/\b∉Ma.rest w C):=by
 obtain⟨k1,m1⟩:=a0f.QQ h k m;have n4:bx+1∉C1.l:=a0f.mx.cr (a0f.ro _ az);obtain⟨k2,m2⟩:=z_ h a0f.at_ k1 m1 n4 f;have n2:bx∉C1.l:=a0f.mx.cr (a0f.ro _ az);have n5:bx+1+1+1∉C1.l:=a0f.mx.cr (a0f.ro _ az);have c2:=(a0f.b2.aG k.f n2).aG f az;have c5:=(a0f.b5.aG k.f n5).aG f kZ;obtain⟨cs,nB,-,h6⟩:=a0f.rb;have cr:=(nB.aG k.f a0f.nc).aG f az;have td:=(a0f.td.aG k.f (λb X=>(a0f.tn b (aX.2 X)).1)).aG f (λb X=>by simp;exact(a0f.tn b (aX.2 X)).2.1);have aeV:∀b,b∈vb tv->b<w9.heap.size:=by
  intro b X;rcases td.val with⟨e,-⟩|⟨b',cap,e,-,-,hl⟩
  ·rw[e]at X;simp[vb,Value.ownBlock]at X
  ·rw[e]at X;simp[vb,Value.ownBlock]at X;subst X;exact hl
 have m3:Mx w9 C1 (bx::(bx+1)::(bx+1+1+1)::RO) K p c s1 t2 vo (Oi (bx+1+1)):=m2.less (λb X=>by
  simp only[ep]at X;rcases X with rfl|rfl|rfl|X
  ·exact .inr ⟨c2.lt,n2⟩
  ·exact .inr ⟨b4.lt,n4⟩
  ·exact .inr ⟨c5.lt,n5⟩
  ·exact .inl X) (λb X=>by simp[X])
 rw[<-a0f.mb]at c2;refine(aeW m3 cr h6 a0f.nc c2 c5 b4 az az).mono ?_;rintro e u' w' ⟨rfl,rfl,C3,wz,k3,m4,kf,kb⟩;have m5:=m4.acY (RO:=RO) (λb X=>by simp[X]) h.m.prog.ro;have n43:bx+1∉C3.l:=m4.cr az;obtain⟨k4,m6⟩:=z_ h a0f.at_ (k2.trans k3) m5 n43 kf;refine⟨rfl,rfl,C3,k4,m6,kb,(td.aG k3.f (λb X=>(a0f.tn b (aX.2 X)).1)).aG kf (λb X=>by simp;exact(a0f.tn b (aX.2 X)).2.1),λb X=>⟨λhc=>?_,(a0f.tn b X).2.2⟩⟩;rcases k3.c b hc with hc|hc
 ·exact(a0f.tn b X).1 hc
 ·have:=aeV b X;omega
end
def Over.kK{tv x0 x1 x2:to}{told:List Nat}{bG:Int}(a0f:Over w wr bx C C1 mX K p c s1 t used tv told bG x0 x1 x2)(o:Nat)(v:to)(X:(tp K C1 p c s1.total t used (Oi (bx+1+1))).setIfInBounds o v=tp K C1 p c s1.total t' used' (Oi (bx+1+1))):
 Over w (wr.setCell (I C.mb o) v) bx C C1 mX K p c s1 t' used' tv told bG x0 x1 x2:=by
 obtain⟨k,m⟩:=a0f.mx.kK o v X;rw[a0f.mb]at k m;obtain⟨cs,q1,q2,q3⟩:=a0f.rb;exact⟨a0f.at_,a0f.mb,m,a0f.ro,a0f.b2.aG k.f (a0f.mx.cr (a0f.ro _ az)),a0f.b4.aG k.f (a0f.mx.cr (a0f.ro _ az)),a0f.b5.aG k.f (a0f.mx.cr (a0f.ro _ az)),⟨cs,q1.aG k.f a0f.nc,q2,q3⟩,a0f.nc,
  a0f.td.aG k.f (λb X=>(a0f.tn b (aX.2 X)).1),a0f.tn,a0f.DG.trans (Kept.du (RO:=Ma.rest w C) k.f (λb X=>a0f.mx.cr (a0f.ro b (by simp[X]))) (λb X=>a0f.mx.sep.dZ b (a0f.ro b (by simp[X])))) (λb X=>X)⟩
def Over.draw{tv x0 x1 x2:to}{told:List Nat}{bG:Int}(a0f:Over w wr bx C C1 mX K p c s1 t used tv told bG x0 x1 x2)(n:Nat):Over w (wr.drewN n) bx C C1 mX K p c s1 t used tv told bG x0 x1 x2:=by
 obtain⟨cs,q1,q2,q3⟩:=a0f.rb;have b:=aA wr.heap.size wr n;exact⟨a0f.at_,a0f.mb,a0f.mx.drewN n,a0f.ro,a0f.b2.drewN n,a0f.b4.drewN n,a0f.b5.drewN n,⟨cs,q1.drewN n,q2,q3⟩,a0f.nc,
  a0f.td.aG (aC.ai (S:=[]) b) az,a0f.tn,a0f.DG.trans (Kept.ai b (λb X=>a0f.mx.sep.dZ b (a0f.ro b (by simp[X])))) (λb X=>X)⟩
def ic{p:Prop}(h:p:=by
 go_enter func63,ntmps63;go_wp2;exact bR (results_tmp rfl _ _ _) rfl ⟨rfl,rfl⟩):p:=h
def aby(w:ek):Calls prog 63 #[Xd] w (λe w'=>e=Xc Xd/\w=w'):=by exact ic
def aeU(w:ek){b n cap:Nat}(h:n<=cap):Calls prog 63 #[H (O (I b 0)) n cap] w (λe w'=>e=Xc (H (O (I b 0)) n n)/\w=w'):=by exact ic
end
section
variable {w w' wr:ek}{C C' C1:Co}{U U':Ru}{RO RO' mX:List Nat}{K:Kc}{p:aU}{c:Cp}{t t':fG}{used used':Int}{hv hv':to}{jv lM:Nat->to}{s s' s0 s1:St}{t0:fG}{Aa:Int}{r r':Rn}{rv rv':to}{mb rb bx:Nat}{T:Map}{st:Std}
def Bf.setAt{key:Nat}{a:Int}(h:Bf w wr bx C K p c s t used key a (.pointer Xb))(a':Int):Bf w (wr.setCell (I (bx+1+1) 1) (Y a')) bx C K p c s t used key a' (.pointer Xb):=by have F:aC [bx+1+1] wr (wr.setCell (I (bx+1+1) 1) (Y a')):=(aC.refl _ wr).setCell az _;refine⟨h.at_,h.mx.aG F (λb X hc=>by simp at hc;subst hc;exact h.nc X) (λb X hc=>by rw[List.mem_singleton]at hc;subst hc;exact h.no X),h.b2.aG F kZ,h.b4.aG F az,h.b5.aG F az,h.rb.set 1 _,h.nc,h.no,h.DG.trans (Kept.du (RO:=Ma.rest w C) F (λb X hc=>by rw[List.mem_singleton]at hc;subst hc;exact h.no (by simp[X])) (λb X=>h.mx.sep.dZ b (by simp[X]))) (λb X=>X)⟩
def Mx.behind{w1 w2:ek}(h:Mx w C RO K p c s t used rv){a':Nd}{f':Nat->Option Nat}(f1:aC [C.xb,C.xs] w w1)(f2:aC (bL C.ab C.V C.L) w1 w2)(ha:cw w2 C.ab C.V C.L K.nd p.ap.length a')
 (hx:dp w1 C.xb C.xs K.nd (fN p a') f'):bN w w2 C C/\Mx w2 C RO K p c ⟨a',f',s.vars,s.total⟩ t used rv:=by
 have R:=h.rel;have F1:aC C.l w w1:=f1.mono (by intro k hk;simp at hk;rcases hk with rfl|rfl<;>simp[Co.l]);have F2:aC C.l w1 w2:=f2.mono (by intro k hk;simp[Co.l,hk]);have F:=F1.trans F2;have Kx:C.mb∉[C.xb,C.xs]:=by simp;exact⟨R.mx,R.ms⟩
 refine⟨⟨rfl,F,λ_ X=> .inl X⟩,⟨⟨?_,?_,?_,?_,?_⟩,h.sep.nd,λb X=>dC (h.sep.lt b X) F.size,h.sep.ro,λb X=>dC (h.sep.dZ b X) F.size⟩⟩
 ·exact(h.m.aT.aG f1 Kx).aG f2 R.ma
 ·exact h.m.prog.aG F λb X=>h.cr X
 ·exact ha
 ·exact hx.aG f2 ⟨R.xa,R.sa⟩
 ·exact(h.m.vs.aG f1 λb X hc=>by
   simp at hc;rcases hc with rfl|rfl
   ·exact R.xv (aX.2 X)
   ·exact R.sv (aX.2 X)).aG f2 λb X hc=>R.av b hc (aX.2 X)
def yA(w:ek)(C:Co)(RO:List Nat)(K:Kc)(p:aU)(c:Cp)(t:fG)(used:Int)(s:St)(key:Nat)(e:Ending)(w':ek):Prop:=
 e=Xc (Y (gV p c s key))/\∃C',bN w w' C C'/\Mx w' C' RO K p c (gR p c s key) (if gV p c s key=0 then t else{t with gK:=wrap64 (t.gK+1)}) used rv0
where rv0:to:= .pointer Xb
def adl(h:Mx w C RO K p c s t used (.pointer Xb)){key:Nat}(hf:s.f key=Xb):
 Calls prog 26 #[Oi C.mb,.int .u64 key] w (yA w C RO K p c t used s key):=by
 have m10:=Uj h.m.aT;have HD:=Z (Ix.IQ h.m.ix hf);have HE:=Z (λn=>show yA w C RO K p c t used s key (Xc (Y 0)) (w.drewN n)from by
  have e1:gV p c s key=0:=by unfold gV;rw[hf]
  have e2:gR p c s key=s:=by unfold gR;rw[hf]
  refine⟨by rw[e1],C,bN.below (aA _ _ n),?_⟩;rw[e1,e2,aE rfl];exact h.drewN n)
 clear h hf;go_enter func26,ntmps26;go_wp2_with fail;refine HD.o.mono ?_;rintro e w1 ⟨rfl,n,rfl⟩;go_wp2;go_ret;exact HE.o n
def adk(h:Mx w C RO K p c s t used (.pointer Xb))(hI:Inv (aB p c) s)(iE:K.nd<=4194304)(hg:p.ap.length<=256){key n q:Nat}(hf:s.f key=O n)(hq:q<p.ap.length)(hn:n∈s.a.ls q)(ht: -1073741824<=s.total/\s.total<=1073741824):
 Calls prog 26 #[Oi C.mb,.int .u64 key] w (yA w C RO K p c t used s key):=by
 have m10:=Uj h.m.aT;have hk:(s.a.val n).key=key:=by obtain⟨q',Ol,hn',hk⟩:=(hI.idx key n).1 hf;exact hk
 have hle:=rW (a:=s.a) hq hn;have HX:=h.m.ix;rw[<-hle]at HX;have HD:=Z (Ix.tW HX hf);have VN:gR p c s key=⟨takeN s.a q n,Vm.aS s.f key Xb,s.vars,if p.ap.getD q false then s.total else s.total-1⟩:=by unfold gR;rw[hf];dsimp only;rw[jy hI.wf hq hn];unfold fH;rw[hk];rfl
 have xt:gV p c s key=if p.ap.getD q false then 2 else 1:=by unfold gV;rw[hf];dsimp only;rw[jy hI.wf hq hn]
 have VO:=Z VN;have VP:=Z xt;have HT:=Z ht;have a0g:=Z h;have Hv:=Z (And.intro hn (And.intro iE hg));have R:=h.rel;have nx:C.mb∉[C.xb,C.xs]:=by simp;exact⟨R.mx,R.ms⟩
 have nar:∀b,b∈bL C.ab C.V C.L->b∉[C.xb,C.xs]:=by
  intro b X hc;simp at hc;rcases hc with rfl|rfl
  ·exact R.xa X
  ·exact R.sa X
 have NX:=Z (And.intro nx (And.intro nar R.ma));clear h hf hk hle HX VN xt ht nx nar R hn iE hg hI;go_enter func26,ntmps26;go_wp2_with fail;refine HD.o.mono ?_;rintro e w1 ⟨rfl,f1,x1⟩;have fS:=a0g.o.m.aT.aG f1 NX.o.1;have m9:Xf w1 (I C.mb 9)=O (Oi C.ab):=fS.cell 9;have a1:=a0g.o.m.ar.aG f1 NX.o.2.1;have HL:=Z (eO.Dg a1 hq Hv.o.1);have HU:=Z (eO.Fh a1 Hv.o.2.1 Hv.o.2.2 hq Hv.o.1);have Jl:=Z f1;have AN:=Z x1;have dS:=Z fS;clear f1 x1 fS a1 m10 HD;go_wp2_with fail;refine HL.o.mono ?_;rintro e w1' ⟨rfl,rfl⟩;go_wp2_with fail;refine HU.o.mono ?_;rintro e w2 ⟨rfl,f2,a2⟩;obtain⟨hT,hM⟩:=a0g.o.behind Jl.o f2 a2 AN.o;have g16:Xf w2 (I C.mb 16)=O (Y t.gK):=hM.m.aT.cell 16;have fm:∀o,w2.frozen? (I C.mb o)=false:=hM.m.aT.frozen;have g0:Xf w2 (I C.mb 0)=O K.g:=hM.m.aT.cell 0;have g12:Xf w2 (I C.mb 12)=O (Y s.total):=hM.m.aT.cell 12;obtain⟨gb,mP,kX,zJ,AQ⟩:=hM.ap hq;have ngb:gb≠C.mb:=λe=>hM.cr zJ (by rw[e];simp[Co.l]);rw[kX]at g0;have Al:=Z hT;have HM:=Z hM;have Z9:IntKind.i64.wrap (s.total-1)=s.total-1:=bJ _ ⟨by have:=HT.o;omega,by have:=HT.o;omega⟩;clear f2 a2 hT hM m9 HL HU zJ kX;generalize hgq:p.ap.getD q false=gq at*;generalize p.ap.length=ng at*;have HGQ:=Z hgq;clear hgq;cases gq
 ·have Em:=Z (show gV p c s key=1 by rw[VP.o];rfl);have um:=Z (show gR p c s key=⟨takeN s.a q n,Vm.aS s.f key Xb,s.vars,s.total-1⟩by rw[VO.o];rfl);clear VP VO;go_wp2;go_ret;refine⟨show Ending.returned (Y 1)=_ by rw[Em.o],C,?_⟩;rw[Em.o,ax bz,um.o];obtain⟨k1,m1⟩:=HM.o.kK 16 (Y (wrap64 (t.gK+1))) (t':={t with gK:=wrap64 (t.gK+1)}) (used':=used) (rv':= .pointer Xb) rfl;obtain⟨k2,m2⟩:=m1.total (s.total-1);exact⟨Al.o.trans (k1.trans k2),m2⟩
 ·have Em:=Z (show gV p c s key=2 by rw[VP.o];rfl);have um:=Z (show gR p c s key=⟨takeN s.a q n,Vm.aS s.f key Xb,s.vars,s.total⟩by rw[VO.o];rfl);clear VP VO;go_wp2;go_ret;refine⟨show Ending.returned (Y 2)=_ by rw[Em.o],C,?_⟩;rw[Em.o,ax bz,um.o];obtain⟨k1,m1⟩:=HM.o.kK 16 (Y (wrap64 (t.gK+1))) (t':={t with gK:=wrap64 (t.gK+1)}) (used':=used) (rv':= .pointer Xb) rfl;exact⟨Al.o.trans k1,m1⟩
def aah(h:Mx w C RO K p c s t used (.pointer Xb))(hI:Inv (aB p c) s)(iE:K.nd<=4194304)(hg:p.ap.length<=256)(key:Nat)(ht: -1073741824<=s.total/\s.total<=1073741824):
 Calls prog 26 #[Oi C.mb,.int .u64 key] w (yA w C RO K p c t used s key):=by
 cases hf:s.f key with
 |none=>exact adl h hf
 |some n=>obtain⟨q,hq,hn,-⟩:=(hI.idx key n).1 hf;exact adk h hI iE hg hf hq hn ht
def aaV(h:Mx w C RO K p c s t used rv):Calls prog 28 #[Oi C.mb] w (λe w'=>e=Xc (Y used)/\w=w'):=by have m17:Xf w (I C.mb 17)=O (Y used):=h.m.aT.cell 17;clear h;go_enter func28,ntmps28;go_wp2;exact G7
def vD(t:fG):to:= .agg #[Y t.db,Y t.bm,Y t.fZ,Y t.gK]
def aag(h:Mx w C RO K p c s t used rv):Calls prog 29 #[Oi C.mb] w (λe w'=>e=Xc (vD t)/\Below w.heap.size w w'):=by have m13:Xf w (I C.mb 13)=O (Y t.db):=h.m.aT.cell 13;have m14:Xf w (I C.mb 14)=O (Y t.bm):=h.m.aT.cell 14;have m15:Xf w (I C.mb 15)=O (Y t.fZ):=h.m.aT.cell 15;have m16:Xf w (I C.mb 16)=O (Y t.gK):=h.m.aT.cell 16;have lm:=h.m.aT.lt;clear h;unfold vD;go_enter func29,ntmps29;go_wp2;exact bR (v:= .agg #[Y t.db,Y t.bm,Y t.fZ,Y t.gK]) (by simp[results,results29,go_sem]) rfl ⟨rfl,(aZ _ _).alloc (aL _) _⟩
end
end Go.Ma
section
def qX7{p:Prop}(h:p:=by
 rw[aE h1,ax h2];cases X:(lv q).ownBlock with
 |none=>exact .inl rfl
 |some b=>
  right;intro e;have:=(h.q q h1).jJ b X;have:=hn b e.symm;omega):p:=h
def qX8{p:Prop}(h:p:=by
 rw[ax h1,aE h2];cases X:ev.ownBlock with
 |none=>exact .inl rfl
 |some b=>
  right;intro e;have:=(h.q q' h2).jJ b e.symm;have:=hn b X;omega):p:=h
namespace al.Vm
open Go
structure PE where
 key:Nat
 aW:List Int
 deriving DecidableEq
structure PS where
 aF:List (List PE)
 vars:List Int
 deriving DecidableEq
def vp(p:aU)(e:eW):PE:=⟨e.key,(List.range p.aW.length).map e.tg⟩
def ke(p:aU)(s:St)(q:Nat):List PE:=(s.a.ls q).map λn=>vp p (s.a.val n)
def cH(p:aU)(s:St):PS:=⟨(List.range p.ap.length).map (ke p s),(List.range p.vars.length).map s.vars⟩
def jg{α:Type}(f:Nat->α){n i:Nat}(d:α)(h:i<n):((List.range n).map f).getD i d=f i:=by simp[List.getD,h]
def nQ(lo hi:Nat)(v:to):Prop:=∀b,v.ownBlock=O b->lo<=b/\b<hi
def nQ.nil(lo hi:Nat):nQ lo hi Xd:=λb X=>by simp[Value.ownBlock]at X
def nQ.mono{lo hi vq hi':Nat}{v:to}(h:nQ lo hi v)(h1:vq<=lo)(h2:hi<=hi'):nQ vq hi' v:=λb X=>by have:=h b X;omega
def kD(w:ek)(lo hi:Nat)(Es:List TypeId)(S:List Nat):Prop:=∀b,b∈S->(b<lo\/hi<=b)\/(∃E cs,aH w b E cs/\E∉Es)\/∃o:Obj,w.heap[b]? =O o/\o.isCells=false
def kD.nil(w:ek)(lo hi:Nat)(Es:List TypeId):kD w lo hi Es []:=λb X=>by simp at X
def kD.sub{w:ek}{lo hi:Nat}{Es Fs:List TypeId}{S:List Nat}(h:kD w lo hi Es S)(hs:∀e,e∈Fs->e∈Es):kD w lo hi Fs S:=λb X=>by
 rcases h b X with h|⟨E,cs,h1,h2⟩|h
 ·exact .inl h
 ·exact .inr (.inl ⟨E,cs,h1,λhc=>h2 (hs _ hc)⟩)
 ·exact .inr (.inr h)
def kD.range{w:ek}{lo hi:Nat}{Es:List TypeId}{S:List Nat}(h:∀b,b∈S->b<lo\/hi<=b):kD w lo hi Es S:=λb X=> .inl (h b X)
def Row.UO{w:ek}{e:TypeId}{size n:Nat}{v:to}{g:Nat->to}(h:Row w e size v n g){b:Nat}(X:v.ownBlock= .some b):∃cs,aH w b e cs:=by
 rcases h.2 with⟨rfl,_⟩|⟨b',cap,BL,rfl,_,hg,_⟩
 ·simp[Value.ownBlock]at X
 ·simp[Value.ownBlock]at X;subst X;exact⟨BL,hg⟩
def kD.row{w:ek}{lo hi:Nat}{Es:List TypeId}{S:List Nat}(k:kD w lo hi Es S){e:TypeId}{size n:Nat}{v:to}{g:Nat->to}(h:Row w e size v n g)(he:e∈Es)(hi':nQ lo hi v){b:Nat}(X:v.ownBlock=O b):b∉S:=by
 intro hc;obtain⟨cs,h1⟩:=h.UO X;rcases k b hc with h2|⟨E,cs',h2,h3⟩|⟨o,h2,h3⟩
 ·have:=hi' b X;omega
 ·unfold aH at h1 h2;rw[h1]at h2;simp at h2;exact h3 (h2.2▸he)
 ·unfold aH at h1;rw[h1]at h2;cases h2;simp[Obj.isCells]at h3
end al.Vm
namespace Go.Ma
open Go.RowKit al.Vm
open al hiding aS aw an
open eO (cw bP eY)
open Ix (dp)
def Row.off{w w':ek}{e:TypeId}{size n:Nat}{v:to}{g:Nat->to}{lo hi:Nat}{Es:List TypeId}{S:List Nat}(h:Row w e size v n g)(hi':nQ lo hi v)(he:e∈Es)(f:aC S w w')(k:kD w lo hi Es S):Row w' e size v n g:=
 h.aG f λb X=>k.row h he hi' X
def wB:List TypeId:=[3]
def Nl:List TypeId:=[62,3]
def tQs:List TypeId:=[60,62,3]
structure fg(w:ek)(lo hi:Nat)(v:to)(l:List Int):Prop where
 row:Row w 3 1 v l.length (bd l)
 jJ:nQ lo hi v
def fg.off{w w':ek}{lo hi:Nat}{v:to}{l:List Int}{S:List Nat}(h:fg w lo hi v l)(f:aC S w w')(k:kD w lo hi wB S):fg w' lo hi v l:=⟨Row.off h.row h.jJ (by simp[wB]) f k,h.jJ⟩
def fg.mono{w:ek}{lo hi vq hi':Nat}{v:to}{l:List Int}(h:fg w lo hi v l)(h1:vq<=lo)(h2:hi<=hi'):fg w vq hi' v l:=⟨h.row,h.jJ.mono h1 h2⟩
def QT(l:List PE)(tv:Nat->to)(o:Nat):to:=if o % 2=0 then .int .u64 (l.getD (o / 2) ⟨0,[]⟩).key else tv (o / 2)
structure lN(w:ek)(lo hi:Nat)(v:to)(l:List PE)(tv:Nat->to):Prop where
 row:Row w 62 2 v l.length (QT l tv)
 jJ:nQ lo hi v
 aW:∀i,i<l.length->fg w lo hi (tv i) (l.getD i ⟨0,[]⟩).aW
def lN.off{w w':ek}{lo hi:Nat}{v:to}{l:List PE}{tv:Nat->to}{S:List Nat}(h:lN w lo hi v l tv)(f:aC S w w')(k:kD w lo hi Nl S):lN w' lo hi v l tv:=
 ⟨Row.off h.row h.jJ (by simp[Nl]) f k,h.jJ,λi hi=>(h.aW i hi).off f (k.sub (by simp[wB,Nl]))⟩
def lN.mono{w:ek}{lo hi vq hi':Nat}{v:to}{l:List PE}{tv:Nat->to}(h:lN w lo hi v l tv)(h1:vq<=lo)(h2:hi<=hi'):lN w vq hi' v l tv:=⟨h.row,h.jJ.mono h1 h2,λi hi=>(h.aW i hi).mono h1 h2⟩
structure oK(w:ek)(lo hi:Nat)(v:to)(L:List (List PE))(lv:Nat->to)(tv:Nat->Nat->to):Prop where
 row:Row w 60 1 v L.length lv
 jJ:nQ lo hi v
 q:∀q,q<L.length->lN w lo hi (lv q) (L.getD q []) (tv q)
 sep:∀q q',q<L.length->q'<L.length->q≠q'->(lv q).ownBlock=Xb\/(lv q).ownBlock≠(lv q').ownBlock
def oK.off{w w':ek}{lo hi:Nat}{v:to}{L:List (List PE)}{lv:Nat->to}{tv:Nat->Nat->to}{S:List Nat}(h:oK w lo hi v L lv tv)(f:aC S w w')(k:kD w lo hi tQs S):oK w' lo hi v L lv tv:=
 ⟨Row.off h.row h.jJ (by simp[tQs]) f k,h.jJ,λq hq=>(h.q q hq).off f (k.sub (by simp[tQs,Nl])),h.sep⟩
def oK.mono{w:ek}{lo hi vq hi':Nat}{v:to}{L:List (List PE)}{lv:Nat->to}{tv:Nat->Nat->to}(h:oK w lo hi v L lv tv)(h1:vq<=lo)(h2:hi<=hi'):oK w vq hi' v L lv tv:=
 ⟨h.row,h.jJ.mono h1 h2,λq hq=>(h.q q hq).mono h1 h2,h.sep⟩
structure gS(w:ek)(lo hi:Nat)(qv vv:to)(S:PS)(lv:Nat->to)(tv:Nat->Nat->to):Prop where
 qs:oK w lo hi qv S.aF lv tv
 vs:fg w lo hi vv S.vars
def gS.off{w w':ek}{lo hi:Nat}{qv vv:to}{S:PS}{lv:Nat->to}{tv:Nat->Nat->to}{T:List Nat}(h:gS w lo hi qv vv S lv tv)(f:aC T w w')(k:kD w lo hi tQs T):gS w' lo hi qv vv S lv tv:=⟨h.qs.off f k,h.vs.off f (k.sub (by simp[tQs,wB]))⟩
def gS.mono{w:ek}{lo hi vq hi':Nat}{qv vv:to}{S:PS}{lv:Nat->to}{tv:Nat->Nat->to}(h:gS w lo hi qv vv S lv tv)(h1:vq<=lo)(h2:hi<=hi'):gS w vq hi' qv vv S lv tv:=⟨h.qs.mono h1 h2,h.vs.mono h1 h2⟩
def lN.snoc{w w':ek}{lo hi:Nat}{v v':to}{l:List PE}{tv:Nat->to}(h:lN w lo hi v l tv){x:PE}{xv:to}(hx:fg w' lo w'.heap.size xv x.aW)(hle:hi<=w.heap.size){S:List Nat}(f:aC S w w')(hS:kD w lo hi wB S)
 (hr:Row w' 62 2 v' (l.length+1) (gQ (l.length*2) (QT l tv) λj=>if j % 2=0 then .int .u64 x.key else xv)) (hv:nQ lo w'.heap.size v'):lN w' lo w'.heap.size v' (l++[x]) (λi=>if i<l.length then tv i else xv):=by
 refine⟨?_,hv,λi hi'=>?_⟩
 ·rw[mT,Cm];refine hr.congr λo ho=>?_;unfold gQ QT;by_cases h1:o<l.length*2
  ·have h2:o / 2<l.length:=G;rw[aE h1];dsimp only;rw[aE h2];have e:(l++[x]).getD (o / 2) ⟨0,[]⟩=l.getD (o / 2) ⟨0,[]⟩:=by simp[List.getD,Cb,h2]
   rw[e]
  ·have h2:o / 2=l.length:=G;rw[ax h1];dsimp only;rw[h2,ax (Nat.lt_irrefl _)];have e:(l++[x]).getD l.length ⟨0,[]⟩=x:=by simp[List.getD]
   rw[e];by_cases h3:o % 2=0
   ·rw[aE h3,aE G]
   ·rw[ax h3,ax G]
 ·rw[mT,Cm]at hi';by_cases h2:i<l.length
  ·rw[aE h2];have e:(l++[x]).getD i ⟨0,[]⟩=l.getD i ⟨0,[]⟩:=by simp[List.getD,Cb,h2]
   rw[e];exact((h.aW i h2).off f hS).mono (aL _) (bS hle f.size)
  ·have h3:i=l.length:=G;subst h3;rw[ax (Nat.lt_irrefl _)];have e:(l++[x]).getD l.length ⟨0,[]⟩=x:=by simp[List.getD]
   rw[e];exact hx
def oK.snoc{w w':ek}{lo hi:Nat}{v v':to}{L:List (List PE)}{lv:Nat->to}{tv:Nat->Nat->to}(h:oK w lo hi v L lv tv){l:List PE}{ev:to}{te:Nat->to}(he:lN w' lo w'.heap.size ev l te)(hle:hi<=w.heap.size)
 {S:List Nat} (f:aC S w w') (hS:kD w lo hi Nl S) (hr:Row w' 60 1 v' (L.length+1) (gQ (L.length*1) lv λ_=>ev)) (hv:nQ lo w'.heap.size v') (hn:∀b,ev.ownBlock=O b->hi<=b):
 oK w' lo w'.heap.size v' (L++[l]) (λq=>if q<L.length then lv q else ev) (λq=>if q<L.length then tv q else te):=by
 have hlen:(L++[l]).length=L.length+1:=by simp
 have e1:∀q,q<L.length->(L++[l]).getD q []=L.getD q []:=λq hq=>by simp[List.getD,Cb,hq]
 have e2:(L++[l]).getD L.length []=l:=by simp[List.getD]
 refine⟨?_,hv,λq hq=>?_,λq q' hq Ol bt=>?_⟩
 ·rw[hlen];refine hr.congr λo ho=>?_;unfold gQ;dsimp only;by_cases h1:o<L.length
  ·rw[aE G,aE h1]
  ·rw[ax G,ax h1]
 ·rw[hlen]at hq;by_cases h1:q<L.length
  ·rw[aE h1,aE h1,e1 q h1];exact((h.q q h1).off f hS).mono (aL _) (bS hle f.size)
  ·obtain rfl:q=L.length:=G;rw[ax h1,ax h1,e2];exact he
 ·rw[hlen]at hq Ol;by_cases h1:q<L.length
  ·by_cases h2:q'<L.length
   ·rw[aE h1,aE h2];exact h.sep q q' h1 h2 bt
   ·exact qX7
  ·by_cases h2:q'<L.length
   ·exact qX8
   ·omega
end Go.Ma
end
namespace Go.Vf
open Go.RowKit al.Vm
open al hiding aS aw an
open Ma (dW cy bd vb)
def ub(w:ek)(E:TypeId)(size n:Nat)(g:Nat->to)(e:Ending)(w':ek):Prop:=
 ∃v',e=Xc v'/\Row w' E size v' n g/\Below w.heap.size w w'/\nQ w.heap.size w'.heap.size v'
def cA:(prog.info? 3).map (λi=>(i.zero,i.size,i.bytes))=O (O (Y 0),1,8):=by kernel_rfl
def UP{p:Prop}(h:p:=by
 go_wp2;go_ret;exact⟨_,rfl,Row.nil _ _ _ _,aZ _ _,nQ.nil _ _⟩):p:=h
def UQ{p:Prop}(h:p:=by
 intro j hj;obtain⟨e,c⟩:=HC.o j hj;obtain⟨dY,off,sp⟩:=a;dsimp only at e c;subst e;rw[Addr.add_lit];exact Lib.cell?_alloc_some _ c):p:=h
def UR{p:Prop}(h:p:=by
 intro v' w1 bC hf hv;go_wp2;go_ret;have hB:Below w.heap.size w w1:=((aZ _ w).alloc (aL _) _).trans (hf.below az (by intro b X;simp[Value.ownBlock]at X;omega));refine⟨v',rfl,bC.congr λo ho=>by unfold gQ;rw[ax G];congr 1,hB,λb X=>?_⟩;have hl:=(gW bC b X).2;rcases hv with h|h<;>rw[X]at h<;>simp[Value.ownBlock]at h<;>omega):p:=h
def qg{w:ek}{v:to}{n:Nat}{g:Nat->to}(h:aY w 1 v n g)(X:n*8<=140737488355328)(h1:∀j,j<n*1->(g j).oneCell'=true):
 Calls prog 55 #[v] w (ub w 3 1 n g):=by
 rcases h with⟨rfl,rfl⟩|⟨a,cap,rfl,qC,ow,hc⟩
 ·have hq:∀(w:ek) (n' c':Nat),(binOp .eql 24 Xd (H Xb n' c')).run prog w= .ok (.bool true) w:=λw n' c'=>xB w _ _ Xb 0 0 n' c' underlying24;go_enter func55,ntmps55;exact UP
 ·have HC:=Z hc;have H1:=Z h1;have hm:n<=maxLen:=bS qC ow;have HM:=Z hm;have HB:=Z X;have hq:∀(w:ek) (n' c':Nat),(binOp .eql 24 (H (O a) n cap) (H Xb n' c')).run prog w= .ok (.bool false) w:=λw n' c'=>xB w _ _ (O a) n cap n' c' underlying24;clear hc h1 X hm qC ow;go_enter func55,ntmps55;go_wp2_with (at_builtin;refine cG rfl _ _ 24 rfl 3 underlying24 cA rfl bz _ 0 (λ_=> Y 0) rfl (Gn w #[] 0 (ck _) (ck _) az) a n cap g rfl ?Bg ?Gp ?Gq ?Jh ?_)
  case Bg=>exact UQ
  case Gp=>exact H1.o
  case Gq=>rw[Nat.zero_add];exact HM.o
  case Jh=>rw[Nat.zero_add];exact HB.o
  exact UR
def ud:(prog.info? 4).map (λi=>(i.zero,i.size,i.bytes))=O (O (.bool false),1,1):=by kernel_rfl
def abw{w:ek}{v:to}{n:Nat}{g:Nat->to}(h:aY w 1 v n g)(X:n*1<=140737488355328)(h1:∀j,j<n*1->(g j).oneCell'=true):
 Calls prog 98 #[v] w (ub w 4 1 n g):=by
 rcases h with⟨rfl,rfl⟩|⟨a,cap,rfl,qC,ow,hc⟩
 ·have hq:∀(w:ek) (n' c':Nat),(binOp .eql 22 Xd (H Xb n' c')).run prog w= .ok (.bool true) w:=λw n' c'=>xB w _ _ Xb 0 0 n' c' underlying22;go_enter func98,ntmps98;exact UP
 ·have HC:=Z hc;have H1:=Z h1;have hm:n<=maxLen:=bS qC ow;have HM:=Z hm;have HB:=Z X;have hq:∀(w:ek) (n' c':Nat),(binOp .eql 22 (H (O a) n cap) (H Xb n' c')).run prog w= .ok (.bool false) w:=λw n' c'=>xB w _ _ (O a) n cap n' c' underlying22;clear hc h1 X hm qC ow;go_enter func98,ntmps98;go_wp2_with (at_builtin;refine cG rfl _ _ 22 rfl 4 underlying22 ud rfl bz _ 0 (λ_=> Y 0) rfl (Gn w #[] 0 (ck _) (ck _) az) a n cap g rfl ?Bg ?Gp ?Gq ?Jh ?_)
  case Bg=>exact UQ
  case Gp=>exact H1.o
  case Gq=>rw[Nat.zero_add];exact HM.o
  case Jh=>rw[Nat.zero_add];exact HB.o
  exact UR
def aeS:(prog.info? 122).map (λi=>(i.zero,i.size,i.bytes))=O (O (.agg #[Y 0,Y 0,Y 0]),3,24):=by kernel_rfl
def aeR{w:ek}{v:to}{n:Nat}{g:Nat->to}(h:aY w 3 v n g)(X:n*24<=140737488355328)(h1:∀j,j<n*3->(g j).oneCell'=true):
 Calls prog 99 #[v] w (ub w 122 3 n g):=by
 rcases h with⟨rfl,rfl⟩|⟨a,cap,rfl,qC,ow,hc⟩
 ·have hq:∀(w:ek) (n' c':Nat),(binOp .eql 23 Xd (H Xb n' c')).run prog w= .ok (.bool true) w:=λw n' c'=>xB w _ _ Xb 0 0 n' c' underlying23;go_enter func99,ntmps99;exact UP
 ·have HC:=Z hc;have H1:=Z h1;have hm:n<=maxLen:=bS qC ow;have HM:=Z hm;have HB:=Z X;have hq:∀(w:ek) (n' c':Nat),(binOp .eql 23 (H (O a) n cap) (H Xb n' c')).run prog w= .ok (.bool false) w:=λw n' c'=>xB w _ _ (O a) n cap n' c' underlying23;clear hc h1 X hm qC ow;go_enter func99,ntmps99;go_wp2_with (at_builtin;refine cG rfl _ _ 23 rfl 122 underlying23 aeS rfl bz _ 0 (λ_=> Y 0) rfl (Gn w #[] 0 (ck _) (ck _) az) a n cap g rfl ?Bg ?Gp ?Gq ?Jh ?_)
  case Bg=>exact UQ
  case Gp=>exact H1.o
  case Gq=>rw[Nat.zero_add];exact HM.o
  case Jh=>rw[Nat.zero_add];exact HB.o
  exact UR
def aeQ:(prog.info? 40).map (λi=>(i.zero,i.size,i.bytes))=O (O (.agg #[Y 0,Y 0,Y 0,Y 0,Y 0]),5,40):=by kernel_rfl
def aeP{w:ek}{v:to}{n:Nat}{g:Nat->to}(h:aY w 5 v n g)(X:n*40<=140737488355328)(h1:∀j,j<n*5->(g j).oneCell'=true):
 Calls prog 100 #[v] w (ub w 40 5 n g):=by
 rcases h with⟨rfl,rfl⟩|⟨a,cap,rfl,qC,ow,hc⟩
 ·have hq:∀(w:ek) (n' c':Nat),(binOp .eql 25 Xd (H Xb n' c')).run prog w= .ok (.bool true) w:=λw n' c'=>xB w _ _ Xb 0 0 n' c' underlying25;go_enter func100,ntmps100;exact UP
 ·have HC:=Z hc;have H1:=Z h1;have hm:n<=maxLen:=bS qC ow;have HM:=Z hm;have HB:=Z X;have hq:∀(w:ek) (n' c':Nat),(binOp .eql 25 (H (O a) n cap) (H Xb n' c')).run prog w= .ok (.bool false) w:=λw n' c'=>xB w _ _ (O a) n cap n' c' underlying25;clear hc h1 X hm qC ow;go_enter func100,ntmps100;go_wp2_with (at_builtin;refine cG rfl _ _ 25 rfl 40 underlying25 aeQ rfl bz _ 0 (λ_=> Y 0) rfl (Gn w #[] 0 (ck _) (ck _) az) a n cap g rfl ?Bg ?Gp ?Gq ?Jh ?_)
  case Bg=>exact UQ
  case Gp=>exact H1.o
  case Gq=>rw[Nat.zero_add];exact HM.o
  case Jh=>rw[Nat.zero_add];exact HB.o
  exact UR
end Go.Vf
namespace Go.Ma
open Go.RowKit al.Vm Go.Shelf
open al hiding aS aw an
def Row.nC{w:ek}{e:TypeId}{size n:Nat}{v:to}{g:Nat->to}(h:Row w e size v n g):∃a m cap,v=H a m cap:=by
 rcases h.val with⟨rfl,-⟩|⟨b,cap,rfl,-⟩
 ·exact⟨_,_,_,rfl⟩
 ·exact⟨_,_,_,rfl⟩
def wC{T:List Nat}{W W':ek}(f:aC T W W')(hc:∀b,b∈T->Mk.PP W b)(B:Nat):KeepsFrom B W W':=
 ⟨f.size,λk o _ hk ho=>(f.block k (Array.getElem?_eq_some_iff.1 hk).1 (λX=>by
   obtain⟨o',h1,h2⟩:=hc k X;rw[hk]at h1;cases h1;rw[ho]at h2;cases h2)).trans hk⟩
end Go.Ma
namespace al.Vm
open Go Go.RowKit
def aeO{F:Fence}{nn:Nat}{P:Program}{w:ek}{ops:Array Oper}{rest:List Oper}{o:Oper}{a:Act}{Q:Exit->Act->ek->Prop}(KH:o.guard=Xb)(s x:Operand)(t:TypeId)
 (ho:o.op= .call {callee:= .builtin .append,args:=#[s,x],argTypes:=#[t,t]})
 (e:TypeId) {size bytes:Nat} {z:to} (ht:P.underlying t=O (.slice e)) (hi:(P.info? e).map (λi=>(i.zero,i.size,i.bytes))=O (O z,size,bytes)) (Uk:z.cells.size=size) (nO:0<size)
 (v:to) (n:Nat) (g:Nat->to) (hs:a.eval s=v) (bC:Row w e size v n g)
 (ad:Addr) (m c:Nat) (f:Nat->to) (hx:a.eval x=H (O ad) m c) (rT:∀j,j<m*size->Xf w (ad.add j)=O (f j)) (h1:∀j,j<m*size->(f j).oneCell'=true)
 (Ul:n+m<=maxLen) (qG:(n+m)*bytes<=140737488355328)
 (h:∀v' w',Row w' e size v' (n+m) (gQ (n*size) g f)->aC v.ownBlock.toList w w'->(v'.ownBlock=v.ownBlock\/v'.ownBlock=O w.heap.size)->wpListIn F nn P ops Q rest (a.put o.dst v') w'):wpListIn F nn P ops Q (o::rest) a w:=by
 refine wpListIn_plain KH λK WN=>?_;obtain⟨i,zC,xS,MO,S_⟩:=info_parts hi;obtain⟨v',w',hr,h2,h3,-,h5⟩:=run_append_own_at (P:=P) w 0 t o.type e i z size bytes ht zC xS MO S_ Uk nO v n (fw (n*size) g) bC ad m c (fw (m*size) f) (by rw[gw])
  (λj u hu=>by
    have hj:j<m*size:=by exact R3
    rw[oW f hj]at hu;cases hu;exact rT j hj)
  (λu hu=>by
    unfold fw at hu;obtain⟨j,hj,rfl⟩:=List.mem_map.1 hu;exact h1 j (List.mem_range.1 hj)) Ul qG (ck _)
 unfold Oper.wpIn;refine⟨?_,?_⟩
 ·simp[Oper.about,ho,resolve,Target.leads,Sem.run_pure]
 ·rw[Oper.semAt_plain F _ _ (by rw[ho];intro c Zi;cases Zi)];simp[execOp,ho,resolve,invoke,builtin,hs,hx,hr,Result.andThen];refine WN _ _ (h v' w' ?_ (ej h3) h5);unfold Row;rw[Nat.add_mul,zB];exact h2
def jU{P:Program}{w:ek}{ops:Array Oper}{rest:List Oper}{o:Oper}{a:Act}{Q:Exit->Act->ek->Prop}
 (hg:o.guard=Xb) (l c:Operand) (t:TypeId) (dO:o.op=Op.makeSlice t l c)
 (e:TypeId) {bytes:Nat} {z:to} (h1:P.underlying t=O (.slice e)) (hi:(P.info? e).map (λi=>(i.zero,i.size,i.bytes))=O (O z,1,bytes)) (hz:z.cells=#[z])
 (kl kc:IntKind) (L C:Int) (n:Nat) (hl:a.eval l= .int kl L) (hc:a.eval c= .int kc C) (hL:L=(n:Int)) (hC:C=(n:Int)) (b2:bytes*n<=281474976710656) (b3:n<=maxLen)
 (hK:∀w',Row w' e 1 (H (O (I w.heap.size 0)) n n) n (λ_=>z)->Below w.heap.size w w'->wpList P ops Q rest (a.put o.dst (H (O (I w.heap.size 0)) n n)) w'):
 wpList P ops Q (o::rest) a w:=by
 obtain⟨i,zC,xS,MO,S_⟩:=info_parts hi;refine wpList_make_full w hg l c t dO 0 e i z 1 h1 zC xS MO kl kc L C n hl hc hL hC (by rw[S_];exact b2) b3 (ck _) λw' hw zJ=>hK w' ?_ ?_
 ·unfold Row;have:(madeCells z.cells (n*1)).toList=fw (n*1) (λ_=>z):=by rw[hz];unfold madeCells fw;simp;intro a _;rw[Nat.mod_one];rfl
  rw[<-this];exact hw
 ·have F:=ej zJ;exact F.below (Nat.le_refl _) az
end al.Vm
namespace Go.Ix
open Go.RowKit al
open Z6 (pW zy wb)
open jf (dn De Ff)
structure kL(f:Nat->Option Nat)(L:List (Nat×Nat)):Prop where
 up:L.Pairwise (λa b=>a.1<b.1)
 mem:∀k v,(k,v)∈L↔f k=O v
def kL.tI{f:Nat->Option Nat}{L L':List (Nat×Nat)}(h:kL f L)(h':kL f L'):L=L':=by
 have hm:∀x,x∈L↔x∈L':=λx=>by obtain⟨k,v⟩:=x;rw[h.mem,h'.mem]
 have a:=h.up;have b:=h'.up;clear h h'
 induction L generalizing L' with
 |nil=>
  cases L' with
  |nil=>rfl
  |cons y t=>exact absurd ((hm y).2 az) az
 |cons x t ih=>
  cases L' with
  |nil=>exact absurd ((hm x).1 az) az
  |cons y t'=>
   obtain⟨a1,a2⟩:=List.pairwise_cons.1 a;obtain⟨b1,b2⟩:=List.pairwise_cons.1 b;have hxy:x=y:=by
    rcases List.mem_cons.1 ((hm x).1 az)with e|hx
    ·exact e
    rcases List.mem_cons.1 ((hm y).2 az)with e|hy
    ·exact e.symm
    have:=b1 x hx;have:=a1 y hy;omega
   subst hxy;rw[ih (L':=t') (λz=>?_) a2 b2];constructor
   ·intro hz;rcases List.mem_cons.1 ((hm z).1 (by simp[hz]))with e|h'
    ·subst e;have:=a1 z hz;omega
    ·exact h'
   ·intro hz;rcases List.mem_cons.1 ((hm z).2 (by simp[hz]))with e|h'
    ·subst e;have:=b1 z hz;omega
    ·exact h'
def Gs{S:Tb to}{n:Nat}{x:Nat×Int}(h:x∈dn S n):∃i k,i<n/\S i=O (x.1,.int k x.2):=by
 induction n with
 |zero=>simp[dn]at h
 |succ n ih=>
  unfold dn at h;rw[List.mem_append]at h;rcases h with h|h
  ·obtain⟨i,k,hi,hs⟩:=ih h;exact⟨i,k,G,hs⟩
  ·split at h
   ·next k kk v hs=>simp at h;subst h;exact⟨n,kk,G,hs⟩
   ·simp at h
def aeL{S:Tb to}{n i k:Nat}{kk:IntKind}{v:Int}(hi:i<n)(h:S i=O (k,.int kk v)):(k,v)∈dn S n:=by
 induction n with
 |zero=>omega
 |succ n ih=>
  unfold dn;rw[List.mem_append];by_cases e:i=n
  ·subst e;right;rw[h];simp
  ·left;exact ih G
def abm{S:Tb to}{n:Nat}(a0d:Inv n S):∀m,m<=n->(dn S m).Pairwise (λa b=>a.1≠b.1):=by
 intro m
 induction m with
 |zero=>intro _;exact .nil
 |succ m ih=>
  intro hm;unfold dn;rw[List.pairwise_append];refine⟨ih G,?_,?_⟩
  ·split<;>simp
  ·intro a ha b X;split at X
   ·next k kk v hs=>simp at X;subst X;obtain⟨i,k',hi,EN⟩:=Gs ha;intro e;have:=a0d.tI i m k _ _ G G (by rw[EN];simp only[]at e;rw[e]) hs;omega
   ·simp at X
def abl{n count aI e:Nat}{S:Tb to}(T:pW n count aI e S):∀m,m<=n->(dn S m).length=dz m S:=by
 intro m
 induction m with
 |zero=>intro _;simp[dn,dz]
 |succ m ih=>
  intro hm;unfold dn;rw[mT,ih G];cases hS:S m with
  |none=>simp[dz,hS]
  |some p=>obtain⟨k,u⟩:=p;obtain⟨x,rfl⟩:=T.int m k u hS;simp[dz,hS]
def Yf(x:Nat×Nat):Nat×Int:=(x.1,(x.2:Int))
def all'{w:ek}{b s aI count:Nat}{f:Nat->Option Nat}(h:dp w b s aI count f):Calls prog 65 #[Oi b] w λr w'=>
 r=Xc (.func (.func 140) #[] #[Oi w.heap.size])/\∃L:List (Nat×Nat),kL f L/\L.length=count/\Ff w (L.map Yf) w':=by
 obtain⟨n,e,S,hI,T,hf,hn⟩:=h;refine(jf.U0 hI T.fit.ZD T.int).mono ?_;rintro r w' ⟨rfl,L0,⟨hp,hs⟩,hA⟩;have hv:∀x,x∈L0->∃v:Nat,x.2=v/\f x.1=O v:=λx hx=>by obtain⟨i,kk,hi,hS⟩:=Gs (hp.mem_iff.1 hx);obtain⟨v,hu⟩:=hn i _ _ hi hS;simp at hu;exact⟨v,hu.2,(hf _ _).2 ⟨i,hi,by rw[hS,hu.1,hu.2]⟩⟩
 have hl:(L0.map λx=>(x.1,x.2.toNat)).map Yf=L0:=by rw[List.map_map];refine(List.map_congr_left λx hx=>?_).trans (List.map_id L0);obtain⟨v,h1,-⟩:=hv x hx;obtain⟨k,y⟩:=x;simp only at h1;subst h1;simp[Yf]
 refine⟨rfl,L0.map λx=>(x.1,x.2.toNat),⟨?_,λk v=>?_⟩,?_,by rw[hl];exact hA⟩
 ·rw[List.pairwise_map];have h1:L0.Pairwise (λa b=>a.1≠b.1):=(hp.pairwise_iff (λh=>λe=>h e.symm)).2 (abm T.inv n (aL _));exact(h1.and hs).imp λ⟨a,b⟩=>by simp only;omega
 ·constructor
  ·intro hm;obtain⟨x,hx,US⟩:=List.mem_map.1 hm;obtain⟨v',h1,h2⟩:=hv x hx;simp at US;rw[<-US.1,h2,<-US.2,h1];simp
  ·intro hm;obtain⟨i,hi,hS⟩:=(hf k v).1 hm;exact List.mem_map.2 ⟨(k,(v:Int)),hp.mem_iff.2 (aeL hi hS),az⟩
 ·rw[List.length_map,hp.length_eq,abl T n (aL _),T.dz]
end Go.Ix
