import Derived.Test.YtblkblclmbhjiaaGreatZ9
set_option linter.all false
set_option maxHeartbeats 40000000
set_option maxRecDepth 100000
open Go.Proofs.Tryz
open Option renaming some->O,none->Xb
open Go renaming Value->to,World->ek
open Go.Value renaming slice->H
open Go.Obj renaming cells->Xe
open Go.Ending renaming returned->Xc
open Go.World renaming cell?->Xf
namespace Go.Rv
open Go.RowKit al.Vm
open al hiding aS aw an
open Ma (dW cy bd vb aK a_)
open Vf (Kp gM pV tC bT aY i_ oL dN vw qj nE)
section
variable {w:ek}{K:Kp}{p:aU}
def DL(h:gM w K p):Calls prog 231 #[pV K p] w (λe w'=>e=Xc (Y (bE p))/\Below w.heap.size w w'):=by
 obtain⟨⟨ga,gc,g1,g2,g3⟩,⟨va,vc,v1,v2,v3⟩,⟨ta,tc,t1,t2,t3⟩,⟨oa,oc,o1,o2,o3⟩,⟨ca,cc,c1,c2,c3⟩⟩:=h.sl;obtain⟨kg,kv,kt,ko,kc⟩:=K;dsimp only at g1 v1 t1 o1 c1;subst g1 v1 t1 o1 c1;have a0g:=Z h;have U2:aH (w.alloc (Xe (i_ ⟨H ga p.ap.length gc,H va p.vars.length vc,H ta p.aW.length tc,H oa p.on.length oc,H ca p.code.length cc⟩ p) 27)) w.heap.size 27 (i_ ⟨H ga p.ap.length gc,H va p.vars.length vc,H ta p.aW.length tc,H oa p.on.length oc,H ca p.code.length cc⟩ p):=aH.new w _ _;have dG:Below w.heap.size w (w.alloc (Xe (i_ ⟨H ga p.ap.length gc,H va p.vars.length vc,H ta p.aW.length tc,H oa p.on.length oc,H ca p.code.length cc⟩ p) 27)):=(aZ _ _).alloc (aL _) _;have CV:Hid (p.vars.length<=16->Calls prog 286 #[H va p.vars.length vc] (w.alloc (Xe (i_ ⟨H ga p.ap.length gc,H va p.vars.length vc,H ta p.aW.length tc,H oa p.on.length oc,H ca p.code.length cc⟩ p) 27)) (λe w'=>e=Xc (.bool (p.vars.all oT))/\Below w.heap.size w w'/\aH w' w.heap.size 27 (i_ ⟨H ga p.ap.length gc,H va p.vars.length vc,H ta p.aW.length tc,H oa p.on.length oc,H ca p.code.length cc⟩ p))):=
  Z λh2=>(abp (h.aG (aC.ai dG)) h2).mono λe w' hh=>by obtain⟨h1,k,rfl⟩:=hh;exact⟨h1,dG.trans (aA _ _ k),U2.drewN k⟩
 have fM:=Z dG;unfold pV;unfold i_ at CV;dsimp only at CV ⊢;clear h U2 dG g2 g3 v2 v3 t2 t3 o2 o3;have m5:=Z c2;have m6:=Z c3;by_cases h1:p.ap.length<=16
 case neg=>go_enter func231,ntmps231;go_wp2;go_ret;exact⟨by simp[bE,cC,h1],fM.o⟩
 by_cases h2:p.vars.length<=16
 case neg=>go_enter func231,ntmps231;go_wp2;go_ret;exact⟨by simp[bE,cC,h2],fM.o⟩
 by_cases h3:p.aW.length<=4
 case neg=>go_enter func231,ntmps231;go_wp2;go_ret;exact⟨by simp[bE,cC,h3],fM.o⟩
 have CT:Hid (∀W,Below w.heap.size w W->Calls prog 287 #[H ta p.aW.length tc] W (λe w'=>e=Xc (.bool (p.aW.all λt=>aP t 1 255))/\w'=W)):=Z λW X=>by have h9:=abF (a0g.o.aG (aC.ai X)) h3;exact h9
 by_cases h4:p.vars.all oT=true
 case neg=>
  have hF:(p.vars.all oT)=false:=by simpa using h4
  have HF:=Z (show bE p=85 by unfold bE cC;rw[hF];simp);rw[hF]at CV;clear h4 hF;go_enter func231,ntmps231;go_wp2_with fail;refine(CV.o h2).mono ?_;rintro e W1 ⟨rfl,X,hk⟩;obtain⟨f0,f1,f2,f3,f4,f5⟩:=hk.c6;have lw:=hk.lt;have HB:=Z X;have HK:=Z hk;clear X hk CV fM;exact Oe
 rw[h4]at CV;by_cases h5:(p.aW.all λt=>aP t 1 255)=true
 case neg=>
  have hF:((p.aW.all λt=>aP t 1 255))=false:=by simpa using h5
  have HF:=Z (show bE p=85 by unfold bE cC;rw[hF];simp);rw[hF]at CT;clear h5 hF;go_enter func231,ntmps231;go_wp2_with fail;refine(CV.o h2).mono ?_;rintro e W1 ⟨rfl,X,hk⟩;obtain⟨f0,f1,f2,f3,f4,f5⟩:=hk.c6;have lw:=hk.lt;have HB:=Z X;have HK:=Z hk;clear X hk CV fM;go_wp2_with fail;refine(CT.o _ HB.o).mono ?_;rintro e W2 ⟨rfl,rfl⟩;clear CT;exact Oe
 rw[h5]at CT;by_cases h6:p.on.length=p.ap.length
 case neg=>go_enter func231,ntmps231;go_wp2_with fail;refine(CV.o h2).mono ?_;rintro e W1 ⟨rfl,X,hk⟩;obtain⟨f0,f1,f2,f3,f4,f5⟩:=hk.c6;have lw:=hk.lt;have HB:=Z X;have HK:=Z hk;clear X hk CV fM;go_wp2_with fail;refine(CT.o _ HB.o).mono ?_;rintro e W2 ⟨rfl,rfl⟩;clear CT;go_wp2;go_ret;exact⟨by simp[bE,cC,h6],HB.o⟩
 simp only[h6]at CV a0g;by_cases h7:p.code.length<=262144
 case neg=>go_enter func231,ntmps231;go_wp2_with fail;refine(CV.o h2).mono ?_;rintro e W1 ⟨rfl,X,hk⟩;obtain⟨f0,f1,f2,f3,f4,f5⟩:=hk.c6;have lw:=hk.lt;have HB:=Z X;have HK:=Z hk;clear X hk CV fM;go_wp2_with fail;refine(CT.o _ HB.o).mono ?_;rintro e W2 ⟨rfl,rfl⟩;clear CT;go_wp2;go_ret;exact⟨by simp[bE,cC,h7],HB.o⟩
 by_cases h8: -1<=p.aV
 case neg=>go_enter func231,ntmps231;go_wp2_with fail;refine(CV.o h2).mono ?_;rintro e W1 ⟨rfl,X,hk⟩;obtain⟨f0,f1,f2,f3,f4,f5⟩:=hk.c6;have lw:=hk.lt;have HB:=Z X;have HK:=Z hk;clear X hk CV fM;go_wp2_with fail;refine(CT.o _ HB.o).mono ?_;rintro e W2 ⟨rfl,rfl⟩;clear CT;go_wp2;go_ret;exact⟨by unfold bE cC aP;simp[show¬(-1<=p.aV)by omega],HB.o⟩
 by_cases h9:p.aV<p.code.length
 case neg=>go_enter func231,ntmps231;go_wp2_with fail;refine(CV.o h2).mono ?_;rintro e W1 ⟨rfl,X,hk⟩;obtain⟨f0,f1,f2,f3,f4,f5⟩:=hk.c6;have lw:=hk.lt;have HB:=Z X;have HK:=Z hk;clear X hk CV fM;go_wp2_with fail;refine(CT.o _ HB.o).mono ?_;rintro e W2 ⟨rfl,rfl⟩;clear CT;go_wp2;go_ret;exact⟨by unfold bE cC aP;simp[show¬p.aV<=(p.code.length:Int) - 1 by omega],HB.o⟩
 go_enter func231,ntmps231;go_wp2_with fail;refine(CV.o h2).mono ?_;rintro e W1 ⟨rfl,X,hk⟩;obtain⟨f0,f1,f2,f3,f4,f5⟩:=hk.c6;have lw:=hk.lt;have HB:=Z X;have HK:=Z hk;clear X hk CV fM;go_wp2_with fail;refine(CT.o _ HB.o).mono ?_;rintro e W2 ⟨rfl,rfl⟩;clear CT;go_wp2_with fail;clear f0 f1 f2 f3 f4 f5 lw;have xG:=Z (show cC p=(p.on.all λn=>aP n (-1) ((p.code.length:Int) - 1))by
  have e9:aP p.aV (-1) ((p.code.length:Int) - 1)=true:=by unfold aP;simp;omega
  unfold cC;rw[h4,h5,e9];simp[h1,h2,h3,h6,h7])
 refine ck1 (no:=p.ap.length) a0g rfl rfl h6.symm G h7 (λA W3 Bl Ap hex=>?_) (λJ3 W3 j1 Ap hK3 Bl=>?_) ⟨_,0,FC.of _ rfl,rfl,rfl,ck _,G,HB,HK,Z (λj hj=>absurd hj G)⟩
 ·simp only[Exit.inBlock,Exit.then];have HF:=Z (show bE p=85 by
   obtain⟨j,hj,e⟩:=hex;unfold bE;have:(p.on.all λn=>aP n (-1) ((p.code.length:Int) - 1))=false:=by rw[xi];intro gJ;rw[AJ (0:Int)]at gJ;rw[gJ j hj]at e;cases e
   rw[xG.o,this];rfl)
  refine Vf.eF (P:=prog) (fn:=Proofs.Tryz.f231) rfl ?_;exact⟨by rw[Bl,HF.o],Ap⟩
 ·have HF:=Z (show bE p=dP p p.code by
   unfold bE;have:(p.on.all λn=>aP n (-1) ((p.code.length:Int) - 1))=true:=by rw[AJ (0:Int)];exact Bl
   rw[xG.o,this];rfl)
  have mM:=Z Ap;have Be:=Z hK3;unfold FC;rw[j1];clear Bl Ap hK3 j1 xG HB HK;go_wp2_with fail;refine(D6 W3).mono ?_;rintro e W4 ⟨tb,rfl,hr,X⟩;have iw:=Z (mM.o.trans (X.mono mM.o.size));have HK4:=Z (Be.o.of (X.block _ Be.o.lt));have HR4:=Z hr;clear X hr;go_wp2_with fail;refine ck2 (tb:=tb) a0g h7 (λA W3 e Bl Ap he=>?_) (λJ3 W3 Ap he=>?_) ⟨_,0,FC.of _ rfl,rfl,rfl,rfl,ck _,G,iw,HK4,HR4,Z (by rw[List.drop_zero])⟩
  ·simp only[Exit.inBlock,Exit.then];refine Vf.eF (P:=prog) (fn:=Proofs.Tryz.f231) rfl ?_;exact⟨by rw[Bl,HF.o,he],Ap⟩
  ·have HE:=Z (show bE p=0 by rw[HF.o,he]);have qN:=Z Ap;unfold FC;clear he Ap;go_wp2_with fail;refine Vf.eF (P:=prog) (fn:=Proofs.Tryz.f231) rfl ?_;exact⟨by rw[HE.o];rfl,qN.o⟩
end
end Go.Rv
namespace Go.Rv
open Go.RowKit al.Vm
open al hiding aS aw an
open Ma (dW cy bd vb aK a_)
open Vf (Kp gM pV tC bT aY)
def FP(J:Nat->to):Act:={tmps:=#[J 0,J 1,J 2,J 3,J 4,J 5,J 6,J 7,J 8,J 9,J 10,J 11,J 12,J 13,J 14,J 15,J 16,J 17,J 18,J 19,J 20,J 21,J 22,J 23,J 24,J 25,J 26,J 27,J 28,J 29,J 30,J 31,J 32,J 33,J 34,J 35,J 36,J 37,J 38,J 39,J 40,J 41,J 42,J 43,J 44,J 45,J 46,J 47,J 48,J 49,J 50,J 51,J 52,J 53,J 54,J 55,J 56,J 57,J 58,J 59,J 60,J 61,J 62,J 63,J 64,J 65,J 66,J 67,J 68,J 69,J 70,J 71,J 72,J 73,J 74,J 75,J 76,J 77,J 78,J 79,J 80,J 81,J 82,J 83,J 84,J 85,J 86,J 87,J 88,J 89,J 90,J 91,J 92,J 93,J 94,J 95,J 96,J 97,J 98,J 99,J 100,J 101,J 102,J 103,J 104,J 105,J 106,J 107,J 108,J 109,J 110,J 111,J 112,J 113,J 114,J 115,J 116,J 117,J 118,J 119,J 120,J 121,J 122,J 123,J 124,J 125,J 126,J 127,J 128,J 129,J 130,J 131,J 132,J 133,J 134,J 135,J 136,J 137,J 138,J 139,J 140,J 141,J 142,J 143,J 144],defers:=[]}
def FP.of(A:Array to)(h:A=(FP λk=>A.getD k undef).tmps):({tmps:=A,defers:=[]}:Act)=FP λk=>A.getD k undef:=by rw[h];rfl
noncomputable def plL(k:Nat):Code:=Mk.gI Proofs.Tryz.f232.body k
def af1(s t:mW)(hs:fy s.ty)(ht:fy t.ty)(w:ek):(binOp .neq 262 (pD s) (pD t)).run prog w= .ok (.bool (!decide (s=t))) w:=by
 have h:=eqS s t hs ht w;unfold pD at h ⊢;rw[run_eql_struct]at h;rw[run_neq_struct];cases hr:(Op.equalIn 10000 262 (.agg #[.string (f_ s.ty),Y s.loop,Y s.hand,.bool s.lZ]) (.agg #[.string (f_ t.ty),Y t.loop,Y t.hand,.bool t.lZ])).run prog w with
 |ok b w'=>rw[hr]at h;simp only[Result.andThen]at h ⊢;simp only[Result.ok.injEq,Value.bool.injEq]at h;rw[h.1,h.2]
 |halt x w'=>rw[hr]at h;simp[Result.andThen]at h
def ac1{α:Type}(d:α)(l:List α){i:Nat}(hi:i<l.length):l.drop i=l.getD i d::l.drop (i+1):=by rw[uY hi,dQ,ft hi];rfl
section
variable {w W0:ek}{K:Kp}{p:aU}{mF lQ nv wv:to}{lb A r8 pc lo:Nat}{L:mw}{l:List (Nat×mW)}{Q:Exit->Act->ek->Prop}
def kY.aG{W W':ek}{S:List Nat}(h:kY W lo nv wv l)(f:aC S W W')(hS:∀b,b∈S->b<lo):kY W' lo nv wv l:=
 ⟨h.n.aG f (λb X hm=>by have:=h.nl b X;have:=hS b hm;omega),h.s.aG f (λb X hm=>by have:=h.wl b X;have:=hS b hm;omega),h.nl,h.wl⟩
def kY.Pk{W:ek}(h:kY W lo nv wv l){i:Nat}(hi:i<l.length):∃b cap b' pq,nv=H (O (I b 0)) l.length cap/\wv=H (O (I b' 0)) l.length pq/\l.length<=cap/\l.length<=pq/\lo<=b/\lo<=b'/\Xf W (I b i)=O (Y ((l.getD i zW).1:Nat))/\
 Xf W (I b' (i*4))=O (.string (f_ (l.getD i zW).2.ty))/\Xf W (I b' (i*4+1))=O (Y (l.getD i zW).2.loop)/\Xf W (I b' (i*4+2))=O (Y (l.getD i zW).2.hand)/\Xf W (I b' (i*4+3))=O (.bool (l.getD i zW).2.lZ):=by
 obtain⟨b,cap,e,h1,-,-⟩:=h.n.some G;obtain⟨b',pq,e',h1',-,-⟩:=h.s.some G;have hn:=h.n;have hs:=h.s;rw[e]at hn;rw[e']at hs;have key:∀k,k<4->Xf W (I b' (i*4+k))=O ((#[.string (f_ (l.getD i zW).2.ty),Y (l.getD i zW).2.loop,Y (l.getD i zW).2.hand,.bool (l.getD i zW).2.lZ]:Array to).getD k undef):=λk hk=>by have e:=hs.cell (o:=i*4+k) G;rw[e];unfold G3;rw[show(i*4+k) / 4=i by omega,show(i*4+k) % 4=k by omega]
 exact⟨b,cap,b',pq,e,e',h1,h1',h.nl b (by rw[e];rfl),h.wl b' (by rw[e'];rfl),hn.cell G,key 0 G,key 1 G,key 2 G,key 3 G⟩
def kY.val{W:ek}(h:kY W lo nv wv l):∃a c a' c',nv=H a l.length c/\wv=H a' l.length c':=by
 have key:∀{e:TypeId} {k:Nat} {v:to} {g:Nat->to},Row W e k v l.length g->∃a c,v=H a l.length c:=λh=>by
  rcases h.val with⟨e,h0⟩|⟨b,cap,e,-⟩
  ·rw[h0];exact⟨Xb,0,e⟩
  ·exact⟨_,_,e⟩
 obtain⟨a,c,e⟩:=key h.n;obtain⟨a',c',e'⟩:=key h.s;exact⟨a,c,a',c',e,e'⟩
def P1(W0:ek)(lb pc:Nat)(nv wv:to)(l:List (Nat×mW))(p:aU)(m:Nat)(a:Act)(W:ek):Prop:=∃(J:Nat->to) (i:Nat),a=FP J/\J 0=Oi lb/\J 1=Y pc/\J 11=nv/\J 12=wv/\J 13=Y i/\i<=l.length/\m+i=l.length+1/\Hid (Below W0.heap.size W0 W)/\Hid (∀j,j<i->(l.getD j zW).1≠p.code.length)
def pl1(a0g:Hid (gM w K p))(HL:Hid (aH W0 lb 260 (JV K p (H (O (I A 0)) p.code.length r8) mF lQ)))(HW:Hid (kY W0 lo nv wv l))(hl:l.length<=2)
 (jD:∀(B:Array to) W,B.getD 4 undef=Y 98->Below W0.heap.size W0 W->(∃j,j<l.length/\(l.getD j zW).1=p.code.length)->Q .ret {tmps:=B,defers:=[]} W)
 (dD:∀(J:Nat->to) W,J 0=Oi lb->J 1=Y pc->J 11=nv->J 12=wv->Below W0.heap.size W0 W->(∀j,j<l.length->(l.getD j zW).1≠p.code.length)->Q (.exit 0) (FP J) W)
 {a:Act} {W:ek} (h:P1 W0 lb pc nv wv l p (l.length+1) a W):(Code.loop (plL 0)).wp prog Q a W:=by
 refine Mk.aM (λm a W=>P1 W0 lb pc nv wv l p m a W) (l.length+1) h ?_ ?_
 ·exact AZ
 rintro m a0 W ⟨J,i,rfl,j0,j1,GP,h_,sW,hi,hm,HB,HA⟩;unfold FP
 conv=>arg 2;whnf
 have w2:=mr i G;rw[j0,j1,GP,h_,sW];clear j0 j1 GP h_ sW;obtain⟨ca,cc,kc,-,-⟩:=aY.val a0g.o.cd;have Oy:=HL.o.of (HB.o.block _ HL.o.lt);have v5:Xf W (I lb 5)=O K.c:=Oy.cell 5;have lv:=Oy.lt;rw[kc]at v5;clear Oy kc;by_cases be:i<l.length
 ·obtain⟨b,cap,b',pq,en,ew,q1,q2,-,-,c0,-⟩:=(HW.o.aG (S:=[]) (aC.ai HB.o) az).Pk be;have CC:=Z en;have CD:=Z ew;have dm:=Z be;rw[CC.o,CD.o];clear en ew;obtain⟨z,hz⟩:∃z,(l.getD i zW).1=z:=⟨_,rfl⟩;rw[hz]at c0;have HZ:=Z hz;clear hz;by_cases h1:z=p.code.length
  ·have e1:((z:Int)==(p.code.length:Int))=true:=by simp;omega
   have HG:=Z h1;clear h1;go_wp2;go_quiet (fail);go_wp2;exact jD _ _ rfl (HB.o.trans (aA _ _ _)) ⟨i,dm.o,by rw[HZ.o];exact HG.o⟩
  ·have e1:((z:Int)==(p.code.length:Int))=false:=by simp;omega
   have HG:=Z h1;clear h1;go_wp2;go_quiet (fail);go_wp2_with fail
   try rw[<-CC.o]
   try rw[<-CD.o]
   refine⟨_,i+1,FP.of _ rfl,rfl,rfl,(by first|rfl|exact CC.o.symm),(by first|rfl|exact CD.o.symm),rfl,dm.o,G,Z (HB.o.trans (aA _ _ _)),Z λj hj=>?_⟩;by_cases e:j=i
   ·subst e;rw[HZ.o];exact HG.o
   ·exact HA.o j G
 ·obtain rfl:i=l.length:=G;clear be;obtain⟨a,c,a',c',en,ew⟩:=HW.o.val;have CC:=Z en;have CD:=Z ew;rw[CC.o,CD.o];clear en ew;go_wp2;exact Eq.mpr (bo (λa=>Q (.exit 0) a W) (FP.of _ rfl)) (dD _ _ rfl rfl CC.o.symm CD.o.symm HB.o HA.o)
def AK(L:mw)(w:Nat×mW):Bool:= !(L.at_ w.1).lZ||decide (L.at_ w.1=w.2)
def P2(W0:ek)(lb pc:Nat)(nv wv:to)(l:List (Nat×mW))(L:mw)(m:Nat)(a:Act)(W:ek):Prop:=∃(J:Nat->to) (i:Nat),a=FP J/\J 0=Oi lb/\J 1=Y pc/\J 11=nv/\J 12=wv/\J 14=Y i/\i<=l.length/\m+i=l.length+1/\Hid (Below W0.heap.size W0 W)/\Hid (∀j,j<i->AK L (l.getD j zW)=true)
def Jk{p:Prop}(h:p:=by
 go_wp2;go_quiet (fail);go_wp2_with fail
 try rw[<-CC.o]
 try rw[<-CD.o]
 refine⟨_,i+1,FP.of _ rfl,rfl,rfl,(by first|rfl|exact CC.o.symm),(by first|rfl|exact CD.o.symm),rfl,dm.o,G,Z (HB.o.trans (aA _ _ _)),Z λj hj=>?_⟩;by_cases e:j=i
 ·subst e;exact HG.o
 ·exact HA.o j G):p:=h
def pl2(HL:Hid (tF W0 K p lb (H (O (I A 0)) p.code.length r8) mF lQ L))(HO:Hid (nr p L))(HW:Hid (kY W0 lo nv wv l))(hl:l.length<=2)(mY:Hid (∀j,j<l.length->(l.getD j zW).1<p.code.length/\ph p (l.getD j zW).2))
 (jD:∀(B:Array to) W,B.getD 4 undef=Y 94->Below W0.heap.size W0 W->(∃j,j<l.length/\AK L (l.getD j zW)=false)->Q .ret {tmps:=B,defers:=[]} W)
 (dD:∀(J:Nat->to) W,J 0=Oi lb->J 1=Y pc->J 11=nv->J 12=wv->Below W0.heap.size W0 W->(∀j,j<l.length->AK L (l.getD j zW)=true)->Q (.exit 2) (FP J) W)
 {a:Act} {W:ek} (h:P2 W0 lb pc nv wv l L (l.length+1) a W):(Code.loop (plL 1)).wp prog Q a W:=by
 refine Mk.aM (λm a W=>P2 W0 lb pc nv wv l L m a W) (l.length+1) h ?_ ?_
 ·exact AZ
 rintro m a0 W ⟨J,i,rfl,j0,j1,GP,h_,xJ,hi,hm,HB,HA⟩;unfold FP
 conv=>arg 2;whnf
 have w2:=mr i G;rw[j0,j1,GP,h_,xJ];clear j0 j1 GP h_ xJ;have hLW:=HL.o.aG (aC.ai HB.o);have v6:Xf W (I lb 6)=O (H (O (I A 0)) p.code.length r8):=hLW.dY.cell 6;have lv:=hLW.dY.lt;by_cases be:i<l.length
 ·obtain⟨b,cap,b',pq,en,ew,q1,q2,-,-,c0,d0,d1,d2,d3⟩:=(HW.o.aG (S:=[]) (aC.ai HB.o) az).Pk be;have CC:=Z en;have CD:=Z ew;have dm:=Z be;rw[CC.o,CD.o];clear en ew;obtain⟨je,mU⟩:=mY.o i be;have HMT:=Z (show AK L (l.getD i zW)=(!(L.at_ (l.getD i zW).1).lZ||decide (L.at_ (l.getD i zW).1=(l.getD i zW).2))from rfl);have af:=Z (af1 (L.at_ (l.getD i zW).1) (l.getD i zW).2 (HO.o.at_ _).ty mU.ty);obtain⟨z,hz⟩:∃z,(l.getD i zW).1=z:=⟨_,rfl⟩;obtain⟨s,hs⟩:∃s,(l.getD i zW).2=s:=⟨_,rfl⟩;rw[hz]at c0 je HMT af;rw[hs]at d0 d1 d2 d3 HMT af;obtain⟨b2,DN,eA,a1,a2,a3,s0,s1,s2,s3⟩:=hLW.Yr je;simp only[cL,iI,Addr.mk.injEq]at eA;obtain⟨⟨rfl,-,-⟩,-,rfl⟩:=eA;clear hz hs mU;have EY:(z:Int)<p.code.length:=G;cases hg:(L.at_ z).lZ with
  |false=>rw[hg]at s3;have HG:=Z (show AK L (l.getD i zW)=true by rw[HMT.o,hg];rfl);clear af hg;generalize(L.at_ z).ty=t1 at*;generalize(L.at_ z).loop=l1 at*;generalize(L.at_ z).hand=h1 at*;exact Jk
  |true=>
   rw[hg]at s3;obtain⟨dd,Ao⟩:∃d,decide (L.at_ z=s)=d:=⟨_,rfl⟩;have HG:=Z (show AK L (l.getD i zW)=dd by rw[HMT.o,hg,Ao];rfl);rw[Ao]at af;have bt:∀V,(binOp .neq 262 (pD (L.at_ z)) (pD s)).run prog V= .ok (.bool (!dd)) V:=af.o;unfold pD at bt;rw[hg]at bt;clear af hg Ao HMT;generalize f_ (L.at_ z).ty=t1 at*;generalize(L.at_ z).loop=l1 at*;generalize(L.at_ z).hand=h1 at*;generalize f_ s.ty=t2 at*;generalize s.loop=l2 at*;generalize s.hand=h2 at*;generalize s.lZ=g2 at*;cases dd with
   |true=>exact Jk
   |false=>go_wp2_with fail;go_quiet (fail);go_wp2;exact jD _ _ rfl (HB.o.trans (aA _ _ _)) ⟨i,dm.o,HG.o⟩
 ·obtain rfl:i=l.length:=G;clear be hLW;obtain⟨a,c,a',c',en,ew⟩:=HW.o.val;have CC:=Z en;have CD:=Z ew;rw[CC.o,CD.o];clear en ew;go_wp2;exact Eq.mpr (bo (λa=>Q (.exit 2) a W) (FP.of _ rfl)) (dD _ _ rfl rfl CC.o.symm CD.o.symm HB.o HA.o)
def P3(W0:ek)(K:Kp)(lb pc A r8:Nat)(mF lQ nv wv:to)(l:List (Nat×mW))(p:aU)(L:mw)(m:Nat)(a:Act)(W:ek):Prop:=∃(J:Nat->to) (i:Nat) (L':mw),a=FP J/\J 0=Oi lb/\J 1=Y pc/\J 11=nv/\J 12=wv/\J 15=Y i/\i<=l.length/\m+i=l.length+1/\Hid (aC [A] W0 W)/\Hid (tF W K p lb (H (O (I A 0)) p.code.length r8) mF lQ L')/\Hid (nr p L')/\Hid (fq L l=fq L' (l.drop i))
def abU{p:aU}{L:mw}{v:Nat×mW}{l:List (Nat×mW)}(K:nr p L)(hs:ph p v.2):((vG L v.1 v.2).1=true->fq L (v::l)=fq (vG L v.1 v.2).2 l/\nr p (vG L v.1 v.2).2)/\((vG L v.1 v.2).1=false->fq L (v::l)=Xb):=by
 rw[show fq L (v::l)=(if(L.at_ v.1).lZ then(if L.at_ v.1=v.2 then fq L l else Xb)else fq {L with at_:=aS L.at_ v.1 v.2} l)from rfl];unfold vG;cases hg:(L.at_ v.1).lZ with
 |false=>exact⟨λ_=>⟨az,LQ K _ hs⟩,λh=>by simp at h⟩
 |true=>
  by_cases e:L.at_ v.1=v.2
  ·exact⟨λ_=>⟨by simp[e],by simpa using K⟩,λh=>by simp[e]at h⟩
  ·exact⟨λh=>by simp[e]at h,λ_=>by simp[e]⟩
def pl3(Vx:Hid (A<lo/\lb≠A))(HW:Hid (kY W0 lo nv wv l))(hl:l.length<=2)(mY:Hid (∀j,j<l.length->(l.getD j zW).1<p.code.length/\ph p (l.getD j zW).2))
 (jD:∀(B:Array to) W,B.getD 4 undef=Y 94->aC [A] W0 W->fq L l=Xb->Q .ret {tmps:=B,defers:=[]} W)
 (dD:∀(J:Nat->to) W L',aC [A] W0 W->tF W K p lb (H (O (I A 0)) p.code.length r8) mF lQ L'->fq L l=O L'->Q (.exit 4) (FP J) W)
 {a:Act} {W:ek} (h:P3 W0 K lb pc A r8 mF lQ nv wv l p L (l.length+1) a W):(Code.loop (plL 2)).wp prog Q a W:=by
 refine Mk.aM (λm a W=>P3 W0 K lb pc A r8 mF lQ nv wv l p L m a W) (l.length+1) h ?_ ?_
 ·rintro a W ⟨J,i,L',-,-,-,-,-,-,h1,h2,-⟩;omega
 rintro m a0 W ⟨J,i,L',rfl,j0,j1,GP,h_,mE,hi,hm,HF,HL,HO,YX⟩;unfold FP
 conv=>arg 2;whnf
 have w2:=mr i G;rw[j0,j1,GP,h_,mE];clear j0 j1 GP h_ mE;by_cases be:i<l.length
 ·obtain⟨b,cap,b',pq,en,ew,q1,q2,lb1,lb2,c0,d0,d1,d2,d3⟩:=(HW.o.aG (S:=[A]) HF.o (by simp;exact Vx.o.1)).Pk be;have hNA:b≠A:=by have:=Vx.o.1;omega
  have hWA:b'≠A:=by have:=Vx.o.1;omega
  have CC:=Z en;have CD:=Z ew;have dm:=Z be;rw[CC.o,CD.o];clear en ew lb1 lb2;obtain⟨je,mU⟩:=mY.o i be;have YY:=Z (abU (l:=l.drop (i+1)) HO.o mU);have HDR:=Z (ac1 zW l be);have HC:=Z (λV (X:Below W.heap.size W V)=>BP (w:=V) (HL.o.aG (aC.ai X)) je mU.ty (HO.o.at_ _).ty);obtain⟨z,hz⟩:∃z,(l.getD i zW).1=z:=⟨_,rfl⟩;obtain⟨s,hs⟩:∃s,(l.getD i zW).2=s:=⟨_,rfl⟩;rw[hz]at c0 YY HC;rw[hs]at d0 d1 d2 d3 YY HC;have Tc:=Z (show fq L l=fq L' ((l.getD i zW)::l.drop (i+1))by rw[YX.o,HDR.o]);rw[show l.getD i zW=(z,s)from Prod.ext hz hs]at Tc;rw[show l.getD i zW=(z,s)from Prod.ext hz hs]at YY;clear hz hs je mU;have HEZ:=Z (rfl:vG L' z s=vG L' z s);obtain⟨g,hg⟩:∃g,vG L' z s=g:=⟨_,rfl⟩;obtain⟨gb,gL⟩:=g;unfold LP pD at HC;rw[hg]at HC YY
  try dsimp only at HC YY
  clear hg HEZ;generalize f_ s.ty=t2 at*;generalize s.loop=l2 at*;generalize s.hand=h2 at*;generalize s.lZ=g2 at*;go_wp2;refine Mk.bq (S:=λwx=>aC [A] W wx) bj ((aC.ai (S:=[A]) (aA _ W 1))) (λau=>?_);have HD:=Z (aA W.heap.size W 1);change Hid (Below W.heap.size W W.drew)at HD;refine Mk.cD 0 ?_;refine Mk.cD 1 ?_;refine Mk.cD 2 ?_;refine Mk.cD 3 ?_;refine Mk.tk 4 (v:=?_) rfl (λwz fF=>?_) au ?_;rotate_left
  ·have key:∀b i v,b≠A->Xf W (I b i)=O v->Xf wz (I b i)=O v:=λb i v hn hc=>(aR (fF.block _ (ay hc) (by simpa using hn))).trans hc;have y0:=key _ _ _ hNA c0;exact qZ
  refine Mk.pt ?_;refine Mk.cD 5 ?_;refine Mk.cD 6 ?_;refine Mk.cD 7 ?_;refine Mk.tk 8 (v:=?_) rfl (λwz fF=>?_) au ?_;rotate_left
  ·have key:∀b i v,b≠A->Xf W (I b i)=O v->Xf wz (I b i)=O v:=λb i v hn hc=>(aR (fF.block _ (ay hc) (by simpa using hn))).trans hc;have y0:=key _ _ _ hWA d0;have y1:=key _ _ _ hWA d1;have y2:=key _ _ _ hWA d2;have y3:=key _ _ _ hWA d3;exact qZ
  refine Mk.pt ?_;refine Mk.oH (rs:=[9]) (bX rfl (λK9 hK=>?_) cz);refine fL ?_;go_simp
  with_reducible refine(HC.o _ HD.o).mono ?_
  rintro e W1 ⟨rfl,⟨W9,sV,RK⟩,hl9⟩;have Oj:=au.trans ((aC.ai (S:=[A]) sV).trans RK);clear au;refine hK.out _ _ Oj (λau=>?_);clear hK K9;refine Mk.pt ?_;refine Mk.cD 10 ?_;refine eT bj ⟨rfl,?_⟩ _;have Jl:=Z (HF.o.trans Oj);have Ci:=Z hl9;clear au Oj sV RK hl9 c0 d0 d1 d2 d3 HC;cases gb with
  |false=>have HG:=Z (show fq L l=Xb from Tc.o.trans (YY.o.2 rfl));go_wp2;exact jD _ _ rfl Jl.o HG.o
  |true=>
   have HG:=Z (YY.o.1 rfl);go_wp2_with fail
   try rw[<-CC.o]
   try rw[<-CD.o]
   exact⟨_,i+1,gL,FP.of _ rfl,rfl,rfl,(by first|rfl|exact CC.o.symm),(by first|rfl|exact CD.o.symm),rfl,dm.o,G,Jl,Ci,Z HG.o.2,Z (Tc.o.trans HG.o.1)⟩
 ·obtain rfl:i=l.length:=G;clear be;obtain⟨a,c,a',c',en,ew⟩:=HW.o.val;rw[en,ew];have Y8:=YX.o;rw[List.drop_length]at Y8;have HG:=Z (show fq L l=O L' from Y8);clear Y8 en ew;go_wp2;exact Eq.mpr (bo (λa=>Q (.exit 4) a W) (FP.of _ rfl)) (dD _ _ _ HF.o HL.o HG.o)
def abT(L:mw)(pc:Nat)(x:Ins)(s:mW):(eP L pc x s).length<=2:=by
 unfold eP
 repeat' split
 all_goals simp
def abS{p:aU}{L:mw}{pc:Nat}{x:Ins}{s:mW}(pN:pc<p.code.length)(hx:(x.op=22\/x.op=23\/x.op=25\/x.op=26)->0<=x.a/\x.a<p.code.length){w:Nat×mW}(hw:w∈eP L pc x s):w.1<=p.code.length:=by
 unfold eP at hw;split at hw
 ·simp at hw
 split at hw
 ·next h=>simp at hw;subst hw;have:=hx G;dsimp only;omega
 split at hw
 ·next h=>simp at hw;have:=hx G;rcases hw with rfl|rfl<;>dsimp only<;>omega
 split at hw
 ·next h=>simp at hw;have:=hx G;rcases hw with rfl|rfl<;>dsimp only<;>omega
 split at hw
 ·next h=>simp at hw;have:=hx G;rcases hw with rfl|rfl<;>dsimp only<;>omega
 ·simp at hw;subst hw;dsimp only;omega
def pC{α:Type}(d:α){l:List α}{i:Nat}(hi:i<l.length):l.getD i d∈l:=by rw[dQ,ft hi];exact il hi
def SG{α:Type}(d:α){f:α->Bool}{l:List α}:l.any f=true↔∃i,i<l.length/\f (l.getD i d)=true:=by
 rw[List.any_eq_true];constructor
 ·rintro⟨x,hx,h⟩;obtain⟨i,hi,rfl⟩:=rZ hx;exact⟨i,hi,by rw[dQ,ft hi];exact h⟩
 ·rintro⟨i,hi,h⟩;exact⟨_,pC d hi,h⟩
def wN(w:ek)(K:Kp)(p:aU)(lb A r8:Nat)(mF lQ:to)(L:mw)(pc:Nat)(e:Ending)(w':ek):Prop:=e=Xc (Y (cF p L pc).1)/\aC (A::mF.ownBlock.toList) w w'/\((cF p L pc).1=0->tF w' K p lb (H (O (I A 0)) p.code.length r8) mF lQ (cF p L pc).2)
def bk{p:Prop}(h:p:=by
 go_wp2_with fail;refine Vf.xI rfl ?_;exact⟨by rw[HE.o];rfl,aC.ai HB.o,λh=>by rw[HE.o]at h;cases h⟩):p:=h
def abR(h:gM w K p)(hl:tF w K p lb (H (O (I A 0)) p.code.length r8) mF lQ L)(ho:nr p L)(pN:pc<p.code.length)(hlen:p.code.length<=262144)(dO:jX (ak p pc)=true)(fi:iU p (ak p pc)=true):
 Calls prog 232 #[Oi lb,Y pc] w (wN w K p lb A r8 mF lQ L pc):=by
 obtain⟨cb,An,Du,kc,q1,q2,c0,c1,c2,c3,c4⟩:=h.ins pN;have lc:=ay c0;obtain⟨-,-,-,-,-,v5,v6⟩:=hl.dY.c7;have ll:=hl.dY.lt;rw[kc]at v5;obtain⟨b,pq,e,a1,a2,a3,s0,s1,s2,s3⟩:=hl.Yr pN;simp only[cL,iI,Addr.mk.injEq]at e;obtain⟨⟨rfl,-,-⟩,-,rfl⟩:=e;have HAW:=Z a3;have a0g:=Z h;have HL:=Z hl;have HO:=Z ho;have Ht:=Z pN;have uX:=Z hlen;have aD:Hid (0<=(ak p pc).op/\(ak p pc).op<42):=Z (by have:=dO;unfold jX aP at this;simp at this;omega);have mY:=Z fi;have qq:=ho.at_ pc;have HSO:=Z qq;obtain⟨ha,DW⟩:=eS qq.ha.1;have ha3:ha<=3:=by have:=qq.ha.2;omega
 have HNA:Hid (lb≠A):=Z (by
  have h1:=hl.at_.fx hl.dY bz;exact λe=>h1 (by rw[e];rfl))
 rw[DW]at s2;have Gt:=Z (λhg:(L.at_ pc).lZ=false=>show(cF p L pc)=(99,L)by unfold cF;dsimp only;rw[aE hg]);have VX:=Z (λ(hg:(L.at_ pc).lZ=true) (e:(fe p (ak p pc) (ha:Nat)).1=false)=>show(cF p L pc)=(96,L)by unfold cF;dsimp only;rw[DW,ax (by simp[hg]),aE e]);have Sa:=Z (λ(hg:(L.at_ pc).lZ=true) (e1:(fe p (ak p pc) (ha:Nat)).1=true) (e:(cX (ak p pc) (L.at_ pc).ty).1≠0)=>show(cF p L pc)=((cX (ak p pc) (L.at_ pc).ty).1,L)by unfold cF;dsimp only;rw[DW,ax (by simp[hg]),ax (by simp[e1]),aE e]);have NZ:=Z (λ(hg:(L.at_ pc).lZ=true) (e1:(fe p (ak p pc) (ha:Nat)).1=true) (e2:(cX (ak p pc) (L.at_ pc).ty).1=0) (e:cK p (ak p pc)=false)=>show(cF p L pc)=(92,L)by unfold cF;dsimp only;rw[DW,ax (by simp[hg]),ax (by simp[e1]),ax (by simp[e2]),aE e]);have uk:=Z (λ(hg:(L.at_ pc).lZ=true) (e1:(fe p (ak p pc) (ha:Nat)).1=true) (e2:(cX (ak p pc) (L.at_ pc).ty).1=0) (e3:cK p (ak p pc)=true) (e:eH p L pc (ak p pc) (cX (ak p pc) (L.at_ pc).ty).2 (L.at_ pc).loop=false)=>show(cF p L pc)=(95,L)by unfold cF;dsimp only;rw[DW,ax (by simp[hg]),ax (by simp[e1]),ax (by simp[e2]),ax (by simp[e3]),aE e]);have R8:=Z (λ(hg:(L.at_ pc).lZ=true) (e1:(fe p (ak p pc) (ha:Nat)).1=true) (e2:(cX (ak p pc) (L.at_ pc).ty).1=0) (e3:cK p (ak p pc)=true) (e4:eH p L pc (ak p pc) (cX (ak p pc) (L.at_ pc).ty).2 (L.at_ pc).loop=true) (L1:mw) (PO:ij L pc (ak p pc) (L.at_ pc).loop=L1) (l:List (Nat×mW)) (X6:eP L1 pc (ak p pc) ⟨(cX (ak p pc) (L.at_ pc).ty).2,(L.at_ pc).loop,(fe p (ak p pc) (ha:Nat)).2,true⟩=l)=>show(cF p L pc)=(if l.any (λw=>decide (w.1=p.code.length))then((98:Int),L1)else if vZ L1 l=false then(94,L1)else match fq L1 l with|none=>(94,L1)|some L2=>(0,L2))by
  unfold cF;dsimp only;rw[DW,ax (by simp[hg]),ax (by simp[e1]),ax (by simp[e2]),ax (by simp[e3]),ax (by simp[e4]),PO,X6];rfl)
 have OJ:=Z (λV (X:Below w.heap.size w V)=>abf (w:=V) (x:=ak p pc) (ha:=ha) (h.aG (aC.ai X)) (hl.aG (aC.ai X)).dY (λe=>Vf.Ry fi G) ha3);have XD:=Z (λV=>ab7 V (x:=ak p pc) aD.o.1 aD.o.2 qq.len qq.ty);have HQD:=Z (λV (X:Below w.heap.size w V)=>afe (w:=V) (x:=ak p pc) (h.aG (aC.ai X)) (hl.aG (aC.ai X)).dY (λe=>Vf.Ry fi G) (λe=>Vf.YA fi e));have HJD:=Z (λV ty (X:Below w.heap.size w V) (ht:fy ty)=>DQ (w:=V) (ty:=ty) (loop:=(L.at_ pc).loop) (h.aG (aC.ai X)) (hl.aG (aC.ai X)) rfl ⟨pN,hlen,qq.lp.2,ht,λn=>(ho.at_ n).ty⟩);have HGD:=Z (λV (s:mW) (X:Below w.heap.size w V) (EQ:(ak p pc).op=26->0<=s.loop/\s.loop<p.code.length)=>abo (w:=V) (s:=s) (h.aG (aC.ai X)) (hl.aG (aC.ai X)) rfl pN hlen (λe=>Vf.Rz fi e) EQ);unfold a_ aK at OJ XD HQD;have R7:=Z (λe:(cX (ak p pc) (L.at_ pc).ty).1=0=>Sz qq.ty e);have HHN:=Z (Sy p (ak p pc) (h:=(ha:Nat)) ⟨G,G⟩);have Jj:=Z (λty (e:(ak p pc).op=26) (hj:eH p L pc (ak p pc) ty (L.at_ pc).loop=true)=>show 0<=(L.at_ pc).loop/\(L.at_ pc).loop<p.code.length by
  refine⟨?_,qq.lp.2⟩;unfold eH at hj;rw[e]at hj;simp at hj;exact hj.2.1)
 have Ed:=Z (λ(L1:mw) s=>abT L1 pc (ak p pc) s);have HWL:=Z (λ(L1:mw) s v=>abS (L:=L1) (s:=s) (w:=v) pN (λe=>Vf.Rz fi e));have HWO:=Z (λs v hs=>SA (JZ ho pc (ak p pc) qq.lp) pN (ak p pc) (s:=s) (w:=v) hs);have HUP:=Z (JZ ho pc (ak p pc) qq.lp);have HLP:=Z qq.lp;clear h hl ho fi qq ha3 DW dO a1 a2;unfold JW at XD;generalize ak p pc=x at*;generalize(L.at_ pc).ty=ty at*;generalize(L.at_ pc).loop=lp at*;generalize(L.at_ pc).lZ=g0 at*;generalize cX x ty=od at*;obtain⟨oe,WU⟩:=od;generalize fe p x (ha:Nat)=hd at*;obtain⟨nX,mN⟩:=hd;dsimp only at VX Sa NZ uk R8 R7 HHN;dsimp only at XD OJ;cases g0 with
 |false=>have HE:=Z (Gt.o az);go_enter func232,ntmps232;go_wp2_with fail;refine Vf.xI rfl ?_;exact⟨by rw[HE.o];rfl,(aC.refl _ _).alloc _,λh=>by rw[HE.o]at h;cases h⟩
 |true=>
 go_enter func232,ntmps232;go_wp2_with fail;obtain⟨V,hV⟩:∃V,V=(w.alloc (Xe #[.string (f_ ty),Y lp,Y ha,.bool true] 262)).alloc (Xe #[Y x.op,Y x.a,Y x.b,Y x.c,Y x.d] 40):=⟨_,rfl⟩;rw[<-hV];have KS:=Z (show aH V w.heap.size 262 #[.string (f_ ty),Y lp,Y ha,.bool true]by rw[hV];exact(aH.new _ _ _).alloc _);have KX:=Z (show aH V (w.heap.size+1) 40 #[Y x.op,Y x.a,Y x.b,Y x.c,Y x.d]by rw[hV];exact aH.bK az);have HB:=Z (show Below w.heap.size w V by rw[hV];exact((aZ _ _).alloc (aL _) _).alloc az _);clear hV c0 c1 c2 c3 c4 s0 s1 s2 s3 lc v5 v6 ll q1 q2 a3 pN hlen;refine(OJ.o _ HB.o).mono ?_;rintro e W1 ⟨rfl,X⟩;replace KS:=Z (KS.o.of (X.block _ KS.o.lt));replace KX:=Z (KX.o.of (X.block _ KX.o.lt));replace HB:=Z (HB.o.trans (X.mono HB.o.size));clear X;obtain⟨s0,s1,s2,s3⟩:=KS.o.c4;obtain⟨x0,x1,x2,x3,x4⟩:=KX.o.c5;have ls:=KS.o.lt;have lx:=KX.o.lt;cases nX with
 |false=>have HE:=Z (VX.o az az);exact bk
 |true=>
 go_wp2_with fail;clear s0 s1 s2 s3 x0 x1 x2 x3 x4 ls lx;refine(XD.o _).mono ?_;rintro e W2 ⟨rfl,X⟩;replace KS:=Z (KS.o.of (X.block _ KS.o.lt));replace KX:=Z (KX.o.of (X.block _ KX.o.lt));replace HB:=Z (HB.o.trans (X.mono HB.o.size));clear X;obtain⟨s0,s1,s2,s3⟩:=KS.o.c4;obtain⟨x0,x1,x2,x3,x4⟩:=KX.o.c5;have ls:=KS.o.lt;have lx:=KX.o.lt;by_cases hoe:oe=0
 case neg=>
  have e1:(oe !=0)=true:=by simpa using hoe
  have HE:=Z (Sa.o az az hoe);have af:=Z hoe;clear hoe;go_wp2_with fail;refine Vf.xI rfl ?_;exact⟨by rw[HE.o];rfl,aC.ai HB.o,λh=>by rw[HE.o]at h;exact absurd h af.o⟩
 subst hoe;have HOT:=Z (R7.o az);go_wp2_with fail;clear s0 s1 s2 s3 x0 x1 x2 x3 x4 ls lx;refine(HQD.o _ HB.o).mono ?_;rintro e W3 ⟨rfl,X⟩;replace KS:=Z (KS.o.of (X.block _ KS.o.lt));replace KX:=Z (KX.o.of (X.block _ KX.o.lt));replace HB:=Z (HB.o.trans (X.mono HB.o.size));clear X;obtain⟨s0,s1,s2,s3⟩:=KS.o.c4;obtain⟨x0,x1,x2,x3,x4⟩:=KX.o.c5;have ls:=KS.o.lt;have lx:=KX.o.lt;cases hk:cK p x with
 |false=>have HE:=Z (NZ.o az az az hk);exact bk
 |true=>
 have Ox:=Z hk;clear hk;go_wp2_with fail;clear s0 s1 s2 s3 x0 x1 x2 x3 x4 ls lx;have HJ0:=HJD.o _ WU HB.o HOT.o.1;have HJ6:=Z (λe=>Jj.o WU e);have HP4:=Z (uk.o az az az Ox.o);have XX:=Z (R8.o az az az Ox.o);generalize eH p L pc x WU lp=jb at*;unfold Sw at HJ0;refine HJ0.mono ?_;rintro e W4 ⟨rfl,X⟩;replace KS:=Z (KS.o.of (X.block _ KS.o.lt));replace KX:=Z (KX.o.of (X.block _ KX.o.lt));replace HB:=Z (HB.o.trans (X.mono HB.o.size));clear X;obtain⟨s0,s1,s2,s3⟩:=KS.o.c4;obtain⟨x0,x1,x2,x3,x4⟩:=KX.o.c5;have ls:=KS.o.lt;have lx:=KX.o.lt;cases jb with
 |false=>have HE:=Z (HP4.o rfl);exact bk
 |true=>
 go_wp2_with fail;clear s0 s1 s2 s3 x0 x1 x2 x3 x4 ls lx;have HG0:=HGD.o _ ⟨WU,lp,mN,true⟩ HB.o (λe=>HJ6.o e az);unfold pD at HG0;refine HG0.mono ?_;rintro e W5 ⟨nv,wv,rfl,hfu,X6,hwy⟩;have wF:=Z (show ph p ⟨WU,lp,mN,true⟩from⟨HOT.o.1,HOT.o.2,HLP.o,HHN.o⟩);have HPE:=Z (XX.o az _ rfl _ rfl);have WV:=Z (Ed.o (ij L pc x lp) ⟨WU,lp,mN,true⟩);have Da:=Z (λv=>HWL.o (ij L pc x lp) ⟨WU,lp,mN,true⟩ v);have zM:=Z (λv=>HWO.o ⟨WU,lp,mN,true⟩ v wF.o);have OH:=Z ((aC.ai (S:=mF.ownBlock.toList) HB.o).trans hfu);have Ci:=Z X6;have Lq:=Z hwy;have Vx:=Z (show A<W4.heap.size from dC HAW.o HB.o.size);dsimp only at Ci Lq;clear hfu X6 hwy HG0 HGD HJD HQD XD OJ Gt VX Sa NZ uk R8 HP4 XX HWO HWL Ed KS KX HJ6 Jj R7 HB;generalize W4.heap.size=lo at*;generalize PO:ij L pc x lp=L1 at*;clear PO;generalize eP L1 pc x ⟨WU,lp,mN,true⟩=l at*;obtain⟨aa,ac,aa',ac',en,ew⟩:=Lq.o.val;have CC:=Z en;have CD:=Z ew;rw[CC.o,CD.o];clear en ew;go_wp2_with fail;have tE:=Z (λ(W:ek) (e:Int) (L2:mw) (he:cF p L pc=(e,L2)) (f:aC [A] W5 W) (h0:e=0->tF W K p lb (H (O (I A 0)) p.code.length r8) mF lQ L2)=>show wN w K p lb A r8 mF lQ L pc (Xc (Y e)) W from
  ⟨by rw[he],(OH.o.mono (λb X=>by simp only[ep];exact .inr X)).trans (f.mono (λb X=>by simp at X;simp[X])),λh=>by rw[he]at h ⊢;exact h0 h⟩)
 refine pl1 (W0:=W5) a0g (Z Ci.o.dY) Lq WV.o (λB W6 hB4 xy hex=>?_) (λJ6 W6 j0 j1 GP h_ xy hA6=>?_) ⟨_,0,FP.of _ rfl,rfl,rfl,CC.o.symm,CD.o.symm,rfl,ck _,G,Z (aZ _ _),Z (λj hj=>absurd hj G)⟩
 ·try simp only[Exit.inBlock,Exit.then]
  refine Vf.eF (P:=prog) (fn:=Proofs.Tryz.f232) rfl ?_;have hp:cF p L pc=(98,L1):=by obtain⟨j,hj,e⟩:=hex;rw[HPE.o,aE ((SG zW).2 ⟨j,hj,by simpa using e⟩)]
  rw[hB4];exact tE.o W6 98 L1 hp (aC.ai xy) (λh=>by cases h)
 have vh:=Z (show∀j,j<l.length->(l.getD j zW).1<p.code.length/\ph p (l.getD j zW).2 from λj hj=>⟨by have:=Da.o _ (pC zW hj);have:=hA6 j hj;omega,zM.o _ (pC zW hj)⟩);have HPF:=Z (show cF p L pc=(if vZ L1 l=false then((94:Int),L1)else match fq L1 l with|none=>(94,L1)|some L2=>(0,L2))by
  rw[HPE.o,ax];intro h;obtain⟨j,hj,e⟩:=(SG zW).1 h;exact hA6 j hj (by simpa using e))
 have jk:=Z xy;unfold FP;rw[j0,j1,GP,h_];clear j0 j1 GP h_ xy hA6;go_wp2_with fail;refine pl2 (W0:=W5) Ci HUP Lq WV.o vh (λB W7 hB4 Hx hex=>?_) (λadN W7 j0 j1 GP h_ Hx hA7=>?_) ⟨_,0,FP.of _ rfl,rfl,rfl,rfl,rfl,rfl,ck _,G,jk,Z (λj hj=>absurd hj G)⟩
 ·try simp only[Exit.inBlock,Exit.then]
  refine Vf.eF (P:=prog) (fn:=Proofs.Tryz.f232) rfl ?_;have hp:cF p L pc=(94,L1):=by obtain⟨j,hj,e⟩:=hex;rw[HPF.o,aE];rw[xi];intro h;have:=(AJ zW).1 h j hj;change AK L1 (l.getD j zW)=true at this;rw[this]at e;cases e
  rw[hB4];exact tE.o W7 94 L1 hp (aC.ai Hx) (λh=>by cases h)
 have HPG:=Z (show cF p L pc=(match fq L1 l with|none=>((94:Int),L1)|some L2=>(0,L2))by
  have h:vZ L1 l=true:=(AJ zW).2 hA7;rw[HPF.o,h];rfl)
 have mZ:=Z Hx;unfold FP;rw[j0,j1,GP,h_];clear j0 j1 GP h_ Hx hA7;go_wp2_with fail;refine pl3 (W0:=W5) (lo:=lo) (Z ⟨Vx.o,HNA.o⟩) Lq WV.o vh (λB W8 hB4 hf8 Y8=>?_) (λadx W8 L2 hf8 hl8 Y8=>?_) ⟨_,0,L1,FP.of _ rfl,rfl,rfl,rfl,rfl,rfl,ck _,G,Z (aC.ai mZ.o),Z (Ci.o.aG (aC.ai mZ.o)),HUP,Z (by rw[List.drop_zero])⟩
 ·try simp only[Exit.inBlock,Exit.then]
  refine Vf.eF (P:=prog) (fn:=Proofs.Tryz.f232) rfl ?_;have hp:cF p L pc=(94,L1):=by rw[HPG.o,Y8]
  rw[hB4];exact tE.o W8 94 L1 hp hf8 (λh=>by cases h)
 ·have HT:=Z (tE.o W8 0 L2 (by rw[HPG.o,Y8]) hf8 (λ_=>hl8));unfold FP;clear hf8 hl8 Y8;go_wp2_with fail;refine Vf.eF (P:=prog) (fn:=Proofs.Tryz.f232) rfl ?_;exact HT.o
end
end Go.Rv
section
def qX4{p:Prop}(h:p:=by
 refine⟨_,rfl,?_⟩;rw[dQ];by_cases e:i<p.on.length
 ·rw[uQ e,ft e];have:=tb.ons _ (il e);simp only[Option.getD_some];omega
 ·rw[uP G,show i-p.on.length=0 by omega];have:=tb.aV;simp;omega):p:=h
namespace Go.Rv
open Go.RowKit al.Vm
open al hiding aS aw an
open Ma (dW cy bd vb aK a_)
open Vf (Kp gM pV tC bT aY i_ iN)
def FL(J:Nat->to):Act:={tmps:=#[J 0,J 1,J 2,J 3,J 4,J 5,J 6,J 7,J 8,J 9,J 10,J 11,J 12,J 13,J 14,J 15,J 16,J 17,J 18,J 19,J 20,J 21,J 22,J 23,J 24,J 25,J 26,J 27,J 28,J 29,J 30,J 31,J 32,J 33,J 34,J 35,J 36,J 37,J 38,J 39,J 40,J 41,J 42,J 43,J 44,J 45,J 46,J 47,J 48,J 49,J 50,J 51,J 52,J 53,J 54,J 55,J 56,J 57,J 58,J 59,J 60,J 61,J 62,J 63,J 64,J 65,J 66,J 67,J 68,J 69,J 70,J 71,J 72,J 73,J 74,J 75,J 76,J 77],defers:=[]}
def FL.of(A:Array to)(h:A=(FL λk=>A.getD k undef).tmps):({tmps:=A,defers:=[]}:Act)=FL λk=>A.getD k undef:=by rw[h];rfl
noncomputable def loL(k:Nat):Code:=Mk.gI Proofs.Tryz.f144.body k
structure LB(w:ek)(K:Kp)(p:aU)(lb A U S:Nat)(g:Nat->mW)(f:Nat->Bool):Prop where
 dY:aH w lb 260 (JV K p (H (O (I A 0)) p.code.length p.code.length) (H (O (I U 0)) p.code.length p.code.length) (H (O (I S 0)) p.code.length p.code.length))
 at_:Row w 262 4 (H (O (I A 0)) p.code.length p.code.length) p.code.length (G3 g)
 up:Row w 3 1 (H (O (I U 0)) p.code.length p.code.length) p.code.length (λ_=> Y 0)
 st:Row w 4 1 (H (O (I S 0)) p.code.length p.code.length) p.code.length (λi=> .bool (f i))
section
variable {w w' W W4:ek}{K:Kp}{p:aU}{lb A U S pb fb:Nat}{g:Nat->mW}{f:Nat->Bool}{Q:Exit->Act->ek->Prop}
def LB.ne(h:LB w K p lb A U S g f):lb≠A/\lb≠S/\A≠U/\A≠S/\U≠S/\lb≠U:=by have key:∀{x y:Nat} {T T':TypeId} {cs cs':Array to},aH w x T cs->aH w y T' cs'->T≠T'->x≠y:=λh k ht=>aH.ne h k ht;obtain⟨ca,ha⟩:=h.at_.dY;obtain⟨cu,hu⟩:=h.up.dY;obtain⟨cs,hs⟩:=h.st.dY;exact⟨key h.dY ha bz,key h.dY hs bz,key ha hu bz,key ha hs bz,key hu hs bz,key h.dY hu bz⟩
def LB.put(h:LB w K p lb A U S g f){z:Nat}(hz:z<p.code.length):LB (((((w.setCell (I A (z*4)) (.string ⟨#[]⟩)).setCell (I A (z*4+1)) (Y (-1))).setCell (I A (z*4+2)) (Y 0)).setCell (I A (z*4+3)) (.bool true)).setCell (I S z) (.bool true)) K p lb A U S (aS g z ⟨[],-1,0,true⟩) (aS f z true)/\
 aC [A,S] w (((((w.setCell (I A (z*4)) (.string ⟨#[]⟩)).setCell (I A (z*4+1)) (Y (-1))).setCell (I A (z*4+2)) (Y 0)).setCell (I A (z*4+3)) (.bool true)).setCell (I S z) (.bool true)):=by
 obtain⟨n1,n2,n3,n4,n5,n6⟩:=h.ne;have f1:aC [A,S] w (((((w.setCell (I A (z*4)) (.string ⟨#[]⟩)).setCell (I A (z*4+1)) (Y (-1))).setCell (I A (z*4+2)) (Y 0)).setCell (I A (z*4+3)) (.bool true)).setCell (I S z) (.bool true)):=
  (((((aC.refl [A,S] w).setCell (p:=(I A (z*4))) az _).setCell (p:=(I A (z*4+1))) az _).setCell (p:=(I A (z*4+2))) az _).setCell (p:=(I A (z*4+3))) az _).setCell (p:=(I S z)) az _
 have bt:∀{b c:Nat},b≠c->(Value.slice (O (I b 0)) p.code.length p.code.length).ownBlock≠O c:=λh e=>h (fT e);refine⟨⟨h.dY.aG f1 (by simp[n1,n2]),?_,h.up.aG f1 (λb X=>by cases X;simp[n3.symm,n5]),?_⟩,f1⟩
 ·refine((G4 h.at_ hz (.string ⟨#[]⟩) (Y (-1)) (Y 0) (.bool true)).other (bt n4) z (.bool true)).congr λo ho=>?_;unfold G3;by_cases e:o / 4=z
  ·rw[aE e,e,aw];rfl
  ·rw[ax e,an _ _ e]
 ·have h2:=(((h.st.other (bt n4.symm) (z*4) (.string ⟨#[]⟩)).other (bt n4.symm) (z*4+1) (Y (-1))).other (bt n4.symm) (z*4+2) (Y 0)).other (bt n4.symm) (z*4+3) (.bool true);refine(h2.set (o:=z) G (.bool true)).congr λo ho=>?_;rw[dw];by_cases e:o=z
  ·rw[aE e,aE e]
  ·rw[ax e,ax e]
def wO(bl:List Int)(i:Nat):Nat->mW:=λn=>if(bl.take i).contains (n:Int)then⟨[],-1,0,true⟩else s0
def wP(bl:List Int)(i:Nat):Nat->Bool:=λn=>(bl.take i).contains (n:Int)
def abG{bl:List Int}{i:Nat}(h:i<bl.length)(hn:bl.getD i 0<0):wO bl (i+1)=wO bl i/\wP bl (i+1)=wP bl i:=by
 have key:∀n:Nat,((bl.take (i+1)).contains (n:Int))=(bl.take i).contains (n:Int):=λn=>by rw[iN bl h];generalize bl.getD i 0=z at*;rw[jH];simp;omega
 exact⟨by funext n;unfold wO;rw[key],by funext n;unfold wP;rw[key]⟩
def abQ{bl:List Int}{i m:Nat}(h:i<bl.length)(hn:bl.getD i 0=m):wO bl (i+1)=aS (wO bl i) m ⟨[],-1,0,true⟩/\wP bl (i+1)=aS (wP bl i) m true:=by
 have key:∀n:Nat,((bl.take (i+1)).contains (n:Int))=((bl.take i).contains (n:Int)||decide (n=m)):=λn=>by rw[iN bl h,hn,jH];simp;exact or_congr Iff.rfl G
 refine⟨by funext n;rw[dw];unfold wO;rw[key];by_cases e:n=m<;>simp[e],by funext n;rw[dw];unfold wP;rw[key];by_cases e:n=m<;>simp[e]⟩
def abP(p:aU):wO (p.on++[p.aV]) (p.on.length+1)=(iC p).at_/\wP (p.on++[p.aV]) (p.on.length+1)=gA p:=by have e:(p.on++[p.aV]).take (p.on.length+1)=p.on++[p.aV]:=List.take_of_length_le az;exact⟨by unfold wO;rw[e];rfl,by unfold wP;rw[e];rfl⟩
def LB.done(h:LB w K p lb A U S (wO (p.on++[p.aV]) (p.on.length+1)) (wP (p.on++[p.aV]) (p.on.length+1))):tF w K p lb (H (O (I A 0)) p.code.length p.code.length) (H (O (I U 0)) p.code.length p.code.length) (H (O (I S 0)) p.code.length p.code.length) (iC p):=by obtain⟨e1,e2⟩:=abP p;exact⟨h.dY,h.at_.congr (λo _=>by rw[e1]),h.up,h.st.congr (λo _=>by rw[e2])⟩
def LO1(W4:ek)(K:Kp)(p:aU)(pb fb lb A U S:Nat)(m:Nat)(a:Act)(W:ek):Prop:=
 ∃(J:Nat->to) (i:Nat),a=FL J/\J 1=Oi pb/\J 3=Oi fb/\J 5=Y p.code.length/\J 6=Oi lb/\J 7=Y i/\i<=p.on.length+1/\m+i=p.on.length+2/\Hid (aC [A,S] W4 W)/\Hid (LB W K p lb A U S (wO (p.on++[p.aV]) i) (wP (p.on++[p.aV]) i))
def Gr{p:Prop}(h:p:=by
 have hd:decide (0<=z)=false:=by simpa using je
 have HN:=Z (HNO.o G);clear hold NY oJ HYE HNO je xO;go_wp2;exact⟨_,i+1,FL.of _ rfl,rfl,rfl,rfl,rfl,rfl,by have:=dm.o;omega,G,HF,Z (by rw[HN.o.1,HN.o.2];exact HS.o)⟩):p:=h
def QU{p:Prop}(h:p:=by
 obtain⟨m,rfl⟩:=eS je;have hm9:m<p.code.length:=G;have HE:=Z (oJ.o m rfl hm9);have HY:=Z (HYE.o m rfl);obtain⟨u0,k0⟩:=hold 0 G m hm9;obtain⟨u1,k1⟩:=hold 1 G m hm9;obtain⟨u2,k2⟩:=hold 2 G m hm9;obtain⟨u3,k3⟩:=hold 3 G m hm9;obtain⟨u4,k4⟩:=NY m hm9;simp only[Nat.add_zero]at k0;clear hold NY oJ HYE HNO xO;go_wp2;exact⟨_,i+1,FL.of _ rfl,rfl,rfl,rfl,rfl,rfl,by have:=dm.o;omega,G,Z (HF.o.trans HE.o.2),Z (by rw[HY.o.1,HY.o.2];exact HE.o.1)⟩):p:=h
def YT(a0g:Hid (gM W4 K p))(HP:Hid (aH W4 pb 27 (i_ K p)))(af:Hid (pb≠A/\pb≠S))(HOA:Hid (0<p.on.length->∀b off c,K.o=H (O (I b off)) p.on.length c->b≠A/\b≠S))(tb:uG p)
 (dD:∀(J:Nat->to) W,J 1=Oi pb->J 3=Oi fb->J 5=Y p.code.length->J 6=Oi lb->aC [A,S] W4 W->LB W K p lb A U S (wO (p.on++[p.aV]) (p.on.length+1)) (wP (p.on++[p.aV]) (p.on.length+1))->Q (.exit 0) (FL J) W)
 {a:Act} {W:ek} (h:LO1 W4 K p pb fb lb A U S (p.on.length+2) a W):(Code.loop (loL 0)).wp prog Q a W:=by
 refine Mk.aM (λm a W=>LO1 W4 K p pb fb lb A U S m a W) (p.on.length+2) h ?_ ?_
 ·exact AZ
 rintro m a0 W ⟨J,i,rfl,j1,j3,j5,j6,j7,hi,hm,HF,HS⟩;unfold FL
 conv=>arg 2;whnf
 have w2:IntKind.i64.wrap ((i:Int)+1)=((i+1:Nat):Int):=by have:=tb.on;have:=tb.g;rw[bJ _ kS];omega
 rw[j1,j3,j5,j6,j7];clear j1 j3 j5 j6 j7;obtain⟨oa,oc,ko,-,-⟩:=aY.val a0g.o.o;have hp:=HP.o.aG HF.o (by have:=af.o;simp;exact this);obtain⟨-,-,-,p3,p4⟩:=hp.c5;have lp:=hp.lt;rw[ko]at p3;have xO:(p.on++[p.aV]).length=p.on.length+1:=by simp
 obtain⟨-,-,-,-,-,-,v6,-,v8⟩:=HS.o.dY.c9;have lv:=HS.o.dY.lt;obtain⟨n1,n2,n3,n4,n5,n6⟩:=HS.o.ne;have SV:∀o,W.frozen? (I A o)=false:=λo=>HS.o.at_.frozen o;have Hb:∀o,W.frozen? (I S o)=false:=λo=>HS.o.st.frozen o;have hAl:A<W.heap.size:=(HS.o.at_.slice).2.2.2;have hSl:S<W.heap.size:=(HS.o.st.slice).2.2.2;clear n3 n5 n6;by_cases be:i<p.on.length+1
 ·have hbi:∃z,(p.on++[p.aV]).getD i 0=z/\(-1<=z/\z<p.code.length):=by exact qX4
  obtain⟨z,hz,mU,sT⟩:=hbi;have dm:=Z be;have HNO:=Z (λh:z<0=>abG (bl:=p.on++[p.aV]) (i:=i) G (by rw[hz];exact h));have HYE:=Z (λ(m:Nat) (h:z=m)=>abQ (bl:=p.on++[p.aV]) (i:=i) (m:=m) G (by rw[hz];exact h));have oJ:=Z (λ(m:Nat) (hm:z=m) (h:m<p.code.length)=>HS.o.put h);have hold:∀k,k<4->∀m,m<p.code.length->∃v,Xf W (I A (m*4+k))=O v:=λk hk m hm=>⟨_,HS.o.at_.cell (o:=m*4+k) G⟩;have NY:∀m,m<p.code.length->∃v,Xf W (I S m)=O v:=λm hm=>⟨_,HS.o.st.cell (o:=m) G⟩;by_cases hio:i<p.on.length
  ·obtain⟨b,off,cap,eo,q1,q2,lo,c⟩:=a0g.o.o.some G G;have hbo:=HOA.o G b off cap eo;rw[ko]at eo;simp only[cL]at eo;obtain⟨rfl,-,rfl⟩:=eo;have c0:Xf W (I b (off+i))=O (Y z):=by refine(aR (HF.o.block _ lo (by simp;exact hbo))).trans ((c i G).trans ?_);rw[<-hz,dQ,uQ hio,<-dQ];rfl
   clear c hz lo q2;by_cases je:0<=z
   ·exact QU
   ·exact Gr
  ·have c0:p.aV=z:=by rw[<-hz,dQ,uP G,show i-p.on.length=0 by omega];simp
   rw[c0]at p4;clear c0 hz;by_cases je:0<=z
   ·exact QU
   ·exact Gr
 ·obtain rfl:i=p.on.length+1:=G;clear be SV Hb;have HSE:=Z HS.o;go_wp2;exact Eq.mpr (bo (λa=>Q (.exit 0) a W) (FL.of _ rfl)) (dD _ _ rfl rfl rfl rfl HF.o HSE.o)
def LO2(W5:ek)(K:Kp)(p:aU)(fb lb A U S:Nat)(m:Nat)(a:Act)(W:ek):Prop:=
 ∃(J:Nat->to) (i:Nat) (L:mw),a=FL J/\J 3=Oi fb/\J 5=Y p.code.length/\J 6=Oi lb/\J 9=Y i/\i<=p.code.length/\m+i=p.code.length+1/\Hid (aC [A,U] W5 W)/\Hid (tF W K p lb (H (O (I A 0)) p.code.length p.code.length) (H (O (I U 0)) p.code.length p.code.length) (H (O (I S 0)) p.code.length p.code.length) L)/\Hid (0<p.code.length->nr p L)/\Hid (fQ p p.code.length 0 (iC p)=fQ p (p.code.length-i) i L)
def pF{W5:ek}(VH:Hid (∀V,aC [A,U] W5 V->gM V K p))(ZL:Hid (aH W5 fb 99 #[Y 0,Y 0]))(af:Hid (fb≠A/\fb≠U))(hlen:p.code.length<=262144)(mY:Hid (∀i,i∈p.code->jX i=true/\iU p i=true))
 (jD:∀(B:Array to) W (i:Nat) (e:Int),B.getD 2 undef= .pointer Xb->B.getD 3 undef=Oi fb->aC [A,U] W5 W->e≠0->fQ p p.code.length 0 (iC p)= .inl (e,i)->Q .ret {tmps:=B,defers:=[]} ((W.setCell (I fb 0) (Y e)).setCell (I fb 1) (Y i)))
 (dD:∀(J:Nat->to) W L,J 3=Oi fb->J 6=Oi lb->aC [A,U] W5 W->fQ p p.code.length 0 (iC p)= .inr L->Q (.exit 2) (FL J) W)
 {a:Act} {W:ek} (h:LO2 W5 K p fb lb A U S (p.code.length+1) a W):(Code.loop (loL 1)).wp prog Q a W:=by
 refine Mk.aM (λm a W=>LO2 W5 K p fb lb A U S m a W) (p.code.length+1) h ?_ ?_
 ·rintro a W ⟨J,i,L,-,-,-,-,-,h1,h2,-⟩;omega
 rintro m a0 W ⟨J,i,L,rfl,j3,j5,j6,j9,hi,hm,HF,HL,HO,xC⟩;unfold FL
 conv=>arg 2;whnf
 have w2:=mr i G;rw[j3,j5,j6,j9];clear j3 j5 j6 j9;by_cases be:i<p.code.length
 ·have Ht:=Z (abR (VH.o _ HF.o) HL.o (HO.o G) be hlen (mY.o _ (eM be)).1 (mY.o _ (eM be)).2);have Bq:=Z (λe=>ab2 (HO.o G) be e);have l_:=Z (show fQ p (p.code.length-i) i L=if(cF p L i).1=0 then fQ p (p.code.length - (i+1)) (i+1) (cF p L i).2 else .inl ((cF p L i).1,i)by
   rw[show p.code.length-i=(p.code.length - (i+1))+1 by omega];rfl)
  have dm:=Z be;unfold wN at Ht;generalize cF p L i=pr at*;obtain⟨pe,pL⟩:=pr;dsimp only at Ht l_ Bq;go_wp2_with fail;refine Ht.o.mono ?_;rintro e W1 ⟨rfl,hf,hl⟩;have Jl:=Z (HF.o.trans (show aC [A,U] W W1 from hf));have Ci:=Z hl;have hk:=ZL.o.aG Jl.o (by have:=af.o;simp;exact this);obtain⟨c0,c1⟩:=hk.c2;have xz:=hk.frozen;have lf:=hk.lt;clear hf hl hk;by_cases he:pe=0
  ·subst he;have HG:=Z (show fQ p p.code.length 0 (iC p)=fQ p (p.code.length - (i+1)) (i+1) pL by rw[xC.o,l_.o,aE rfl]);have Tc:=Z (Ci.o rfl);have zU:=Z (Bq.o rfl);clear xz c0 c1 l_ Ci Bq;go_wp2;exact⟨_,i+1,pL,FL.of _ rfl,rfl,rfl,rfl,rfl,dm.o,G,Jl,Tc,Z (λ_=>zU.o),HG⟩
  ·have bt:(pe !=0)=true:=by simpa using he
   have HG:=Z (show fQ p p.code.length 0 (iC p)= .inl (pe,i)by rw[xC.o,l_.o,ax he]);have HZ:=Z he;clear he l_ Ci Bq;go_wp2;exact jD _ _ i pe rfl rfl Jl.o HZ.o HG.o
 ·obtain rfl:i=p.code.length:=G;clear be;have HG:=Z (show fQ p p.code.length 0 (iC p)= .inr L by rw[xC.o,Nat.sub_self];rfl);go_wp2;exact Eq.mpr (bo (λa=>Q (.exit 2) a W) (FL.of _ rfl)) (dD _ _ _ rfl rfl HF.o HG.o)
end
end Go.Rv
end
namespace Go.Rv
open Go.RowKit al.Vm
open al hiding aS aw an
open Ma (dW cy bd vb aK a_)
open Vf (Kp gM pV tC bT aY i_ iN)
def ki(p:aU):Int×Int:=if bE p≠0 then(bE p,0)else match fQ p p.code.length 0 (iC p)with| .inl (e,at_)=>(e,(at_:Int))| .inr _=>(0,0)
def ae1(w:ek)(p:aU)(e:Ending)(w':ek):Prop:=∃pv,e=Xc (.tuple #[pv,.agg #[Y (ki p).1,Y (ki p).2]])/\Below w.heap.size w w'
def wQ{R:Ending->ek->Prop}{A:Array to}{W:ek}{fb:Nat}{u v pv:to}(h2:A.getD 2 undef=pv)(h3:A.getD 3 undef=Oi fb)(kf:aH W fb 99 #[u,v])
 (hR:R (Xc (.tuple #[pv,.agg #[u,v]])) W):bodyPost prog Proofs.Tryz.f144 R .ret {tmps:=A,defers:=[]} W:=by
 obtain⟨f0,f1⟩:=kf.c2;rw[Aj]at h2 h3;refine bR (v:= .tuple #[pv,.agg #[u,v]]) ?_ rfl hR;simp[results,results144,go_sem,h2,h3,f0,f1]
def RLK(W1:ek)(K:Kp)(p:aU)(pb fb:Nat)(a:Act)(W:ek):Prop:=∃(J:Nat->to) (lb A U S:Nat),a=FL J/\J 1=Oi pb/\J 3=Oi fb/\J 5=Y p.code.length/\J 6=Oi lb/\Hid (Below W1.heap.size W1 W)/\Hid (LB W K p lb A U S (λ_=>s0) (λ_=>false))/\Hid (W1.heap.size<=A/\W1.heap.size<=U/\W1.heap.size<=S)
def ss:(prog.info? 262).map (λi=>(i.zero,i.size,i.bytes))=O (O (.agg #[.string ⟨#[]⟩,Y 0,Y 0,.bool false]),4,40):=by kernel_rfl
def oC:(prog.info? 4).map (λi=>(i.zero,i.size,i.bytes))=O (O (.bool false),1,1):=by kernel_rfl
def Oh(o:Nat):(#[.string ⟨#[]⟩,Y 0,Y 0,.bool false]:Array to).getD (o % 4) undef=G3 (λ_=>s0) o:=rfl
def CE{p:Prop}(h:p:=by
 unfold JV;rw[HK.o.1,HK.o.2.1,HK.o.2.2.1,HK.o.2.2.2.1,HK.o.2.2.2.2];exact aH.new _ _ _):p:=h
def JA{w:ek}{K:Kp}{p:aU}(h:gM w K p):Calls prog 144 #[pV K p] w (ae1 w p):=by
 obtain⟨⟨ga,gc,g1,g2,g3⟩,⟨va,vc,v1,v2,v3⟩,⟨ta,tc,t1,t2,t3⟩,⟨oa,oc,o1,o2,o3⟩,⟨ca,cc,c1,c2,c3⟩⟩:=h.sl;have OM:=Z (λV (X:Below w.heap.size w V)=>DL (w:=V) (h.aG (aC.ai X)));have a0g:=Z h;obtain⟨W0,jM⟩:∃W0,W0=(w.alloc (Xe #[H ga p.ap.length gc,H va p.vars.length vc,H ta p.aW.length tc,H oa p.on.length oc,Y p.aV,H ca p.code.length cc] 27)).alloc (Xe #[Y 0,Y 0] 99):=⟨_,rfl⟩;have kp:aH W0 w.heap.size 27 (i_ K p):=by rw[jM];unfold i_;rw[g1,v1,t1,o1,c1];exact(aH.new _ _ _).alloc _
 have kf:aH W0 (w.heap.size+1) 99 #[Y 0,Y 0]:=by rw[jM];exact aH.bK az
 have dG:Below w.heap.size w W0:=by rw[jM];exact((aZ _ _).alloc (aL _) _).alloc az _
 have qt:W0.heap.size=w.heap.size+1+1:=by rw[jM];simp
 have HK:=Z (And.intro g1 (And.intro v1 (And.intro t1 (And.intro o1 c1))));unfold pV at OM ⊢;rw[g1,v1,t1,o1,c1]at OM ⊢;clear h g1 v1 t1 o1 c1 g2 g3 v2 v3 t2 t3 o2 o3 c2 c3;go_enter func144,ntmps144;go_wp2_with fail;rw[<-jM];refine(OM.o _ dG).mono ?_;rintro e W1 ⟨rfl,X⟩;have KP:=Z (kp.of (X.block _ kp.lt));have KF:=Z (kf.of (X.block _ kf.lt));have dS:=Z (dG.trans (X.mono dG.size));have sE:Hid (w.heap.size+1<W1.heap.size):=Z (by have:=X.size;omega);clear kp kf X dG qt jM OM;obtain⟨f0,f1⟩:=KF.o.c2;have hff:=KF.o.frozen;have lf:=KF.o.lt;by_cases tV:bE p=0
 case neg=>
  have HV:=Z (show ki p=(bE p,0)by unfold ki;rw[aE tV]);have bt:(bE p !=0)=true:=by simpa using tV
  generalize bE p=ce at*;clear tV;go_wp2_with fail
  first
   |refine wQ (fb:=w.heap.size+1) rfl rfl ((KF.o.set 0 (.int .i64 ce)).set 1 (.int .i64 0)) ?_
   |(rw[jO];refine wQ (fb:=w.heap.size+1) rfl rfl ((KF.o.set 0 (.int .i64 ce)).set 1 (.int .i64 0)) ?_)
  exact⟨_,by rw[HV.o],by exact(dS.o.setCell (p:=(I (w.heap.size+1) 0)) az _).setCell (p:=(I (w.heap.size+1) 1)) az _⟩
 obtain⟨tb,pw⟩:=cO tV;have HCD:=Z pw;have TB:=Z tb;have hlen:=tb.code;have xC:=Z (show ki p=(match fQ p p.code.length 0 (iC p)with| .inl (e,at_)=>(e,(at_:Int))| .inr _=>(0,0))by unfold ki;rw[ax (by simp[tV])]);rw[tV];clear tV pw tb;have p0:Xf W1 (I w.heap.size 0)=O (H ga p.ap.length gc):=by rw[<-HK.o.1];exact KP.o.cell 0
 have p1:Xf W1 (I w.heap.size 1)=O (H va p.vars.length vc):=by rw[<-HK.o.2.1];exact KP.o.cell 1
 have p2:Xf W1 (I w.heap.size 2)=O (H ta p.aW.length tc):=by rw[<-HK.o.2.2.1];exact KP.o.cell 2
 have p3:Xf W1 (I w.heap.size 3)=O (H oa p.on.length oc):=by rw[<-HK.o.2.2.2.1];exact KP.o.cell 3
 have p4:Xf W1 (I w.heap.size 4)=O (Y p.aV):=KP.o.cell 4;have p5:Xf W1 (I w.heap.size 5)=O (H ca p.code.length cc):=by rw[<-HK.o.2.2.2.2];exact KP.o.cell 5
 have lp:=KP.o.lt;have kM:Hid (40*p.code.length<=281474976710656/\8*p.code.length<=281474976710656/\1*p.code.length<=281474976710656/\p.code.length<=maxLen):=Z ⟨G,G,G,by unfold maxLen;omega⟩;clear f0 f1 hff lf;go_wp2;refine wp_mono (Q:=λe a W=>e=Exit.normal/\RLK W1 K p w.heap.size (w.heap.size+1) a W) ?_ ?_
 ·refine Mk.bq (S:=λwx=>Below W1.heap.size W1 wx) bj (aA _ W1 1) (λau=>?_);refine Mk.tk 0 (v:=?_) rfl (λwz fF=>?_) au ?_;rotate_left
  ·exact ZV
  refine Mk.pt ?_;refine Mk.cD 1 ?_;refine Mk.cD 3 ?_;refine Mk.cD 5 ?_;refine Mk.oH (rs:=[2,4,6]) (bX rfl (λK9 hK=>?_) (bX rfl (λK9 hK=>?_) (bX rfl (λK9 hK=>?_) cz)))
  ·refine bU rfl (.tmp 21) (.tmp 21) 258 rfl 262 underlying258 ss rfl bz .i64 .i64 _ _ p.code.length rfl rfl rfl rfl kM.o.1 kM.o.2.2.2 ?_;intro Wa Y9 hba;have hS:=au.trans (hba.mono au.size);have Y_:=au.size;clear au;refine hK.out _ _ hS (λau=>?_);clear hK K9;refine Mk.pt ?_;refine Mk.oH (rs:=[4,6]) (bX rfl (λK9 hK=>?_) (bX rfl (λK9 hK=>?_) cz))
   ·refine bU rfl (.tmp 23) (.tmp 23) 24 rfl 3 underlying24 Vf.cA rfl bz .i64 .i64 _ _ p.code.length rfl rfl rfl rfl kM.o.2.1 kM.o.2.2.2 ?_;intro Wb ou q_;have hS:=au.trans (q_.mono au.size);have Oo:=au.size;clear au;refine hK.out _ _ hS (λau=>?_);clear hK K9;refine Mk.pt ?_;refine Mk.oH (rs:=[6]) (bX rfl (λK9 hK=>?_) cz);refine bU rfl (.tmp 25) (.tmp 25) 22 rfl 4 underlying22 oC rfl bz .i64 .i64 _ _ p.code.length rfl rfl rfl rfl kM.o.2.2.1 kM.o.2.2.2 ?_;intro Wc Lo vY;have hS:=au.trans (vY.mono au.size);have SH:=au.size;clear au;refine hK.out _ _ hS (λau=>?_);clear hK K9;refine Mk.pt ?_;refine Mk.cD 7 ?_;refine Mk.oH (rs:=[8]) (bX rfl (λK9 hK=>?_) cz);refine fL ?_;go_simp;refine hK.out _ _ (au.alloc au.size _) (λau=>?_);clear hK K9;refine Mk.pt ?_;refine Mk.cD 9 ?_;refine eT bj ⟨rfl,rfl,_,_,_,_,_,FL.of _ rfl,rfl,rfl,rfl,rfl,Z au,Z ⟨?_,((((Y9.aG (aC.ai (S:=[]) q_) az).aG (aC.ai (S:=[]) vY) az).alloc _)).congr (λo _=>Oh o),(((ou.aG (aC.ai (S:=[]) vY) az).alloc _)).congr (λo _=>by rw[Nat.mod_one];rfl),((Lo.alloc _)).congr (λo _=>by rw[Nat.mod_one];rfl)⟩,Z ⟨Y_,Oo,SH⟩⟩ _;exact CE
   ·refine bU rfl (.tmp 25) (.tmp 25) 22 rfl 4 underlying22 oC rfl bz .i64 .i64 _ _ p.code.length rfl rfl rfl rfl kM.o.2.2.1 kM.o.2.2.2 ?_;intro Wb ou q_;have hS:=au.trans (q_.mono au.size);have Oo:=au.size;clear au;refine hK.out _ _ hS (λau=>?_);clear hK K9;refine Mk.pt ?_;refine Mk.oH (rs:=[4]) (bX rfl (λK9 hK=>?_) cz);refine bU rfl (.tmp 23) (.tmp 23) 24 rfl 3 underlying24 Vf.cA rfl bz .i64 .i64 _ _ p.code.length rfl rfl rfl rfl kM.o.2.1 kM.o.2.2.2 ?_;intro Wc Lo vY;have hS:=au.trans (vY.mono au.size);have SH:=au.size;clear au;refine hK.out _ _ hS (λau=>?_);clear hK K9;refine Mk.pt ?_;refine Mk.cD 7 ?_;refine Mk.oH (rs:=[8]) (bX rfl (λK9 hK=>?_) cz);refine fL ?_;go_simp;refine hK.out _ _ (au.alloc au.size _) (λau=>?_);clear hK K9;refine Mk.pt ?_;refine Mk.cD 9 ?_;refine eT bj ⟨rfl,rfl,_,_,_,_,_,FL.of _ rfl,rfl,rfl,rfl,rfl,Z au,Z ⟨?_,((((Y9.aG (aC.ai (S:=[]) q_) az).aG (aC.ai (S:=[]) vY) az).alloc _)).congr (λo _=>Oh o),((Lo.alloc _)).congr (λo _=>by rw[Nat.mod_one];rfl),(((ou.aG (aC.ai (S:=[]) vY) az).alloc _)).congr (λo _=>by rw[Nat.mod_one];rfl)⟩,Z ⟨Y_,SH,Oo⟩⟩ _;exact CE
  ·refine bU rfl (.tmp 23) (.tmp 23) 24 rfl 3 underlying24 Vf.cA rfl bz .i64 .i64 _ _ p.code.length rfl rfl rfl rfl kM.o.2.1 kM.o.2.2.2 ?_;intro Wa Y9 hba;have hS:=au.trans (hba.mono au.size);have Y_:=au.size;clear au;refine hK.out _ _ hS (λau=>?_);clear hK K9;refine Mk.pt ?_;refine Mk.oH (rs:=[2,6]) (bX rfl (λK9 hK=>?_) (bX rfl (λK9 hK=>?_) cz))
   ·refine bU rfl (.tmp 21) (.tmp 21) 258 rfl 262 underlying258 ss rfl bz .i64 .i64 _ _ p.code.length rfl rfl rfl rfl kM.o.1 kM.o.2.2.2 ?_;intro Wb ou q_;have hS:=au.trans (q_.mono au.size);have Oo:=au.size;clear au;refine hK.out _ _ hS (λau=>?_);clear hK K9;refine Mk.pt ?_;refine Mk.oH (rs:=[6]) (bX rfl (λK9 hK=>?_) cz);refine bU rfl (.tmp 25) (.tmp 25) 22 rfl 4 underlying22 oC rfl bz .i64 .i64 _ _ p.code.length rfl rfl rfl rfl kM.o.2.2.1 kM.o.2.2.2 ?_;intro Wc Lo vY;have hS:=au.trans (vY.mono au.size);have SH:=au.size;clear au;refine hK.out _ _ hS (λau=>?_);clear hK K9;refine Mk.pt ?_;refine Mk.cD 7 ?_;refine Mk.oH (rs:=[8]) (bX rfl (λK9 hK=>?_) cz);refine fL ?_;go_simp;refine hK.out _ _ (au.alloc au.size _) (λau=>?_);clear hK K9;refine Mk.pt ?_;refine Mk.cD 9 ?_;refine eT bj ⟨rfl,rfl,_,_,_,_,_,FL.of _ rfl,rfl,rfl,rfl,rfl,Z au,Z ⟨?_,(((ou.aG (aC.ai (S:=[]) vY) az).alloc _)).congr (λo _=>Oh o),((((Y9.aG (aC.ai (S:=[]) q_) az).aG (aC.ai (S:=[]) vY) az).alloc _)).congr (λo _=>by rw[Nat.mod_one];rfl),((Lo.alloc _)).congr (λo _=>by rw[Nat.mod_one];rfl)⟩,Z ⟨Oo,Y_,SH⟩⟩ _;exact CE
   ·refine bU rfl (.tmp 25) (.tmp 25) 22 rfl 4 underlying22 oC rfl bz .i64 .i64 _ _ p.code.length rfl rfl rfl rfl kM.o.2.2.1 kM.o.2.2.2 ?_;intro Wb ou q_;have hS:=au.trans (q_.mono au.size);have Oo:=au.size;clear au;refine hK.out _ _ hS (λau=>?_);clear hK K9;refine Mk.pt ?_;refine Mk.oH (rs:=[2]) (bX rfl (λK9 hK=>?_) cz);refine bU rfl (.tmp 21) (.tmp 21) 258 rfl 262 underlying258 ss rfl bz .i64 .i64 _ _ p.code.length rfl rfl rfl rfl kM.o.1 kM.o.2.2.2 ?_;intro Wc Lo vY;have hS:=au.trans (vY.mono au.size);have SH:=au.size;clear au;refine hK.out _ _ hS (λau=>?_);clear hK K9;refine Mk.pt ?_;refine Mk.cD 7 ?_;refine Mk.oH (rs:=[8]) (bX rfl (λK9 hK=>?_) cz);refine fL ?_;go_simp;refine hK.out _ _ (au.alloc au.size _) (λau=>?_);clear hK K9;refine Mk.pt ?_;refine Mk.cD 9 ?_;refine eT bj ⟨rfl,rfl,_,_,_,_,_,FL.of _ rfl,rfl,rfl,rfl,rfl,Z au,Z ⟨?_,((Lo.alloc _)).congr (λo _=>Oh o),((((Y9.aG (aC.ai (S:=[]) q_) az).aG (aC.ai (S:=[]) vY) az).alloc _)).congr (λo _=>by rw[Nat.mod_one];rfl),(((ou.aG (aC.ai (S:=[]) vY) az).alloc _)).congr (λo _=>by rw[Nat.mod_one];rfl)⟩,Z ⟨SH,Y_,Oo⟩⟩ _;exact CE
  ·refine bU rfl (.tmp 25) (.tmp 25) 22 rfl 4 underlying22 oC rfl bz .i64 .i64 _ _ p.code.length rfl rfl rfl rfl kM.o.2.2.1 kM.o.2.2.2 ?_;intro Wa Y9 hba;have hS:=au.trans (hba.mono au.size);have Y_:=au.size;clear au;refine hK.out _ _ hS (λau=>?_);clear hK K9;refine Mk.pt ?_;refine Mk.oH (rs:=[2,4]) (bX rfl (λK9 hK=>?_) (bX rfl (λK9 hK=>?_) cz))
   ·refine bU rfl (.tmp 21) (.tmp 21) 258 rfl 262 underlying258 ss rfl bz .i64 .i64 _ _ p.code.length rfl rfl rfl rfl kM.o.1 kM.o.2.2.2 ?_;intro Wb ou q_;have hS:=au.trans (q_.mono au.size);have Oo:=au.size;clear au;refine hK.out _ _ hS (λau=>?_);clear hK K9;refine Mk.pt ?_;refine Mk.oH (rs:=[4]) (bX rfl (λK9 hK=>?_) cz);refine bU rfl (.tmp 23) (.tmp 23) 24 rfl 3 underlying24 Vf.cA rfl bz .i64 .i64 _ _ p.code.length rfl rfl rfl rfl kM.o.2.1 kM.o.2.2.2 ?_;intro Wc Lo vY;have hS:=au.trans (vY.mono au.size);have SH:=au.size;clear au;refine hK.out _ _ hS (λau=>?_);clear hK K9;refine Mk.pt ?_;refine Mk.cD 7 ?_;refine Mk.oH (rs:=[8]) (bX rfl (λK9 hK=>?_) cz);refine fL ?_;go_simp;refine hK.out _ _ (au.alloc au.size _) (λau=>?_);clear hK K9;refine Mk.pt ?_;refine Mk.cD 9 ?_;refine eT bj ⟨rfl,rfl,_,_,_,_,_,FL.of _ rfl,rfl,rfl,rfl,rfl,Z au,Z ⟨?_,(((ou.aG (aC.ai (S:=[]) vY) az).alloc _)).congr (λo _=>Oh o),((Lo.alloc _)).congr (λo _=>by rw[Nat.mod_one];rfl),((((Y9.aG (aC.ai (S:=[]) q_) az).aG (aC.ai (S:=[]) vY) az).alloc _)).congr (λo _=>by rw[Nat.mod_one];rfl)⟩,Z ⟨Oo,SH,Y_⟩⟩ _;exact CE
   ·refine bU rfl (.tmp 23) (.tmp 23) 24 rfl 3 underlying24 Vf.cA rfl bz .i64 .i64 _ _ p.code.length rfl rfl rfl rfl kM.o.2.1 kM.o.2.2.2 ?_;intro Wb ou q_;have hS:=au.trans (q_.mono au.size);have Oo:=au.size;clear au;refine hK.out _ _ hS (λau=>?_);clear hK K9;refine Mk.pt ?_;refine Mk.oH (rs:=[2]) (bX rfl (λK9 hK=>?_) cz);refine bU rfl (.tmp 21) (.tmp 21) 258 rfl 262 underlying258 ss rfl bz .i64 .i64 _ _ p.code.length rfl rfl rfl rfl kM.o.1 kM.o.2.2.2 ?_;intro Wc Lo vY;have hS:=au.trans (vY.mono au.size);have SH:=au.size;clear au;refine hK.out _ _ hS (λau=>?_);clear hK K9;refine Mk.pt ?_;refine Mk.cD 7 ?_;refine Mk.oH (rs:=[8]) (bX rfl (λK9 hK=>?_) cz);refine fL ?_;go_simp;refine hK.out _ _ (au.alloc au.size _) (λau=>?_);clear hK K9;refine Mk.pt ?_;refine Mk.cD 9 ?_;refine eT bj ⟨rfl,rfl,_,_,_,_,_,FL.of _ rfl,rfl,rfl,rfl,rfl,Z au,Z ⟨?_,((Lo.alloc _)).congr (λo _=>Oh o),(((ou.aG (aC.ai (S:=[]) vY) az).alloc _)).congr (λo _=>by rw[Nat.mod_one];rfl),((((Y9.aG (aC.ai (S:=[]) q_) az).aG (aC.ai (S:=[]) vY) az).alloc _)).congr (λo _=>by rw[Nat.mod_one];rfl)⟩,Z ⟨SH,Oo,Y_⟩⟩ _;exact CE
 rintro e a W4 ⟨rfl,J,lb,A,U,S,rfl,j1,j3,j5,j6,iw,HLB,Da⟩;clear p0 p1 p2 p3 p4 p5 lp kM;unfold FL;rw[j1,j3,j5,j6];clear j1 j3 j5 j6;have NW:=Z (dS.o.trans (iw.o.mono dS.o.size));have KF4:=Z (KF.o.of (iw.o.block _ KF.o.lt));have KP4:=Z (KP.o.of (iw.o.block _ KP.o.lt));have WV:=Z (show w.heap.size<=A/\w.heap.size<=U/\w.heap.size<=S by have:=sE.o;have:=Da.o;omega);have dG:wO (p.on++[p.aV]) 0=(λ_=>s0)/\wP (p.on++[p.aV]) 0=(λ_=>false):=⟨by funext n;simp[wO],by funext n;simp[wP]⟩;have fM:=Z dG;clear dG;go_wp2_with fail;refine YT (W4:=W4) (A:=A) (U:=U) (S:=S) (Z (a0g.o.aG (aC.ai (by exact NW.o)))) KP4 (Z (by have:=sE.o;have:=Da.o;omega)) (Z (λhon b off c e=>by
  obtain⟨b',Ef,pq,e',-,-,hl,-⟩:=a0g.o.o.some hon G;rw[e]at e';simp only[cL,iI,Addr.mk.injEq]at e';have:=WV.o;omega)) TB.o (λJ3 W5 j1 j3 j5 j6 Tr hl5=>?_) ⟨_,0,FL.of _ rfl,rfl,rfl,rfl,rfl,rfl,ck _,G,Z (aC.refl _ _),Z (by rw[fM.o.1,fM.o.2];exact HLB.o)⟩
 have PH:=Z Tr;have HL5:=Z hl5.done;have gY:=Z (NW.o.trans (Tr.below NW.o.size (by have:=WV.o;simp;omega)));have KF5:=Z (KF4.o.aG Tr (by have:=sE.o;have:=Da.o;simp;omega));unfold FL;rw[j1,j3,j5,j6];clear j1 j3 j5 j6 Tr hl5;go_wp2_with fail;refine pF (W5:=W5) (A:=A) (U:=U) (S:=S) (lb:=lb) (Z (λV hf=>a0g.o.aG (aC.ai (by exact gY.o.trans (hf.below gY.o.size (by have:=WV.o;simp;omega)))))) KF5 (Z (by have:=sE.o;have:=Da.o;omega)) hlen HCD (λB W6 i e h2 h3 hf6 bt Lb=>?_) (λJ6 W6 L j3 j6 hf6 Lb=>?_) ⟨_,0,iC p,FL.of _ rfl,rfl,rfl,rfl,rfl,ck _,G,Z (aC.refl _ _),HL5,Z (λh=>afd h),Z (by rw[Nat.sub_zero])⟩
 ·try simp only[Exit.inBlock,Exit.then]
  have HV:=Z (show ki p=(e,(i:Int))by rw[xC.o,Lb]);have hk:=KF5.o.aG hf6 (by have:=sE.o;have:=Da.o;simp;omega);have xy:=gY.o.trans (hf6.below gY.o.size (by have:=WV.o;simp;omega))
  first
   |refine wQ (fb:=w.heap.size+1) h2 h3 ((hk.set 0 (.int .i64 e)).set 1 (.int .i64 i)) ?_
   |(rw[jO];refine wQ (fb:=w.heap.size+1) h2 h3 ((hk.set 0 (.int .i64 e)).set 1 (.int .i64 i)) ?_)
  exact⟨_,by rw[HV.o],by exact(xy.setCell (p:=(I (w.heap.size+1) 0)) az _).setCell (p:=(I (w.heap.size+1) 1)) az _⟩
 ·have HV:=Z (show ki p=(0,0)by rw[xC.o,Lb]);have UX:=Z (KF5.o.aG hf6 (by have:=sE.o;have:=Da.o;simp;omega));have jk:=Z (gY.o.trans (hf6.below gY.o.size (by have:=WV.o;simp;omega)));unfold FL;rw[j3,j6];clear j3 j6 hf6 Lb;obtain⟨f0,f1⟩:=UX.o.c2;have hff:=UX.o.frozen;have lf:=UX.o.lt;go_wp2_with fail
  first
   |refine wQ (fb:=w.heap.size+1) rfl rfl ((UX.o.set 0 (.int .i64 0)).set 1 (.int .i64 0)) ?_
   |(rw[jO];refine wQ (fb:=w.heap.size+1) rfl rfl ((UX.o.set 0 (.int .i64 0)).set 1 (.int .i64 0)) ?_)
  exact⟨_,by rw[HV.o],by exact(jk.o.setCell (p:=(I (w.heap.size+1) 0)) az _).setCell (p:=(I (w.heap.size+1) 1)) az _⟩
end Go.Rv
section
namespace al.Vm
def vI{a b:Nat}(ha:a<=MS)(X:b<=MS):bM a b=min (a+b) MS:=by unfold bM;split<;>omega
def abO{a b:Nat}(ha:a<=MS)(X:b<=MS):bM 1 (bM a b)=bM (bM 1 a) b:=by
 have h1:1<=MS:=by decide
 rw[vI ha X,vI h1 G,vI h1 ha,vI G X];omega
end al.Vm
namespace Go.Rv
open Go.RowKit al.Vm
open al hiding aS aw an
open Ma (dW cy bd vb aK a_)
open Vf (Kp gM pV tC bT aY gC cA)
def FH(J:Nat->to):Act:={tmps:=#[J 0,J 1,J 2,J 3,J 4,J 5,J 6,J 7,J 8,J 9,J 10,J 11,J 12,J 13,J 14,J 15,J 16,J 17,J 18,J 19,J 20,J 21,J 22,J 23,J 24,J 25,J 26,J 27,J 28,J 29,J 30,J 31,J 32,J 33,J 34,J 35,J 36,J 37,J 38,J 39,J 40,J 41,J 42,J 43,J 44,J 45,J 46,J 47,J 48,J 49,J 50,J 51,J 52,J 53,J 54,J 55,J 56,J 57,J 58,J 59,J 60,J 61,J 62,J 63,J 64,J 65,J 66,J 67,J 68,J 69,J 70,J 71,J 72,J 73,J 74,J 75,J 76,J 77,J 78,J 79,J 80,J 81,J 82,J 83,J 84],defers:=[]}
def FH.of(A:Array to)(h:A=(FH λk=>A.getD k undef).tmps):({tmps:=A,defers:=[]}:Act)=FH λk=>A.getD k undef:=by rw[h];rfl
def FuR(w:ek)(p:aU)(cv:to)(fb:Nat)(fc:Nat)(μ:Nat)(a:Act)(W:ek):Prop:=
 ∃(J:Nat->to) (m:Nat),a=FH J/\J 0=cv/\J 3=H (O (I fb 0)) p.code.length fc/\J 4=Y ((m:Int) - 1)/\m<=p.code.length/\μ=m+1/\Hid (w.heap.size<=fb/\Below w.heap.size w W/\Row W 3 1 (H (O (I fb 0)) p.code.length fc) p.code.length (gC (dV p (p.code.length-m))))
section
variable {w:ek}{K:Kp}{p:aU}
def Xa{p:Prop}(h:p:=by
 go_wp2_with fail;refine(GD.o _).mono ?_;exact sU):p:=h
def sU{p:Prop}(h:p:=by
 rintro e W1 ⟨rfl,rfl⟩;go_wp2;exact⟨_,j,FH.of _ rfl,rfl,(by rw[HN.o];rfl),rfl,(by rw[HN.o];omega),(by have:=HMU.o;omega),Z (by rw[HN.o];exact Lr.o _ _ 0 _ rl.o.symm)⟩):p:=h
def JC(h:gM w K p)(hlen:p.code.length<=262144)(fi:DZ p):
 Calls prog 145 #[K.c] w (Vf.vA w p):=by
 obtain⟨ca,cc,kc,YD,Gz⟩:=aY.val h.cd;rw[kc];have a0g:=Z h;have Dq:=Z kc;have mY:=Z fi;have kM:Hid (8*p.code.length<=281474976710656/\p.code.length<=maxLen):=Z ⟨G,by unfold maxLen;omega⟩;have JD:Hid (∀V (b:Nat),b<=MS->Calls prog 233 #[Y 1,Y b] V λe w'=>e=Xc (Y (bM 1 b))/\w'=V):=Z λV b X=>KR V 1 b bz X;have HPM:=Z (λV (a b:Nat) ha X=>KR V a b ha X);have HTM:=Z (λV (a b:Nat) ha X=>aez V a b ha X);clear h kc fi;generalize hn:p.code.length=n at*;have HN:=Z hn;clear hn;have w3:IntKind.i64.wrap ((n:Int) - 1)=(n:Int) - 1:=bJ _ kS;go_enter func145,ntmps145;go_wp2_with (refine jU rfl (.tmp 8) (.tmp 8) 24 rfl 3 underlying24 cA rfl .i64 .i64 _ _ n rfl rfl rfl rfl kM.o.1 kM.o.2 ?_;intro W0 hr0 dG);have xh:=Z hr0;have fM:=Z dG;clear hr0 dG;go_wp2_with fail;obtain⟨fb,RD⟩:∃fb,fb=w.heap.size:=⟨_,rfl⟩;refine Mk.aM (FuR w p (H ca n cc) fb n) (n+1) ⟨_,n,FH.of _ rfl,rfl,by rw[HN.o,RD];rfl,rfl,by rw[HN.o];exact aL _,rfl,Z ⟨by rw[RD];exact aL _,fM.o,by rw[HN.o,RD,Nat.sub_self];exact xh.o⟩⟩ (λa W hh=>by obtain⟨J,m,-,-,-,-,-,h2,-⟩:=hh;omega) ?_;clear xh fM RD;rintro μ a W ⟨J,m,rfl,j0,j3,j4,hm,ae9,HF⟩;rw[HN.o]at j3 hm HF;unfold FH;rw[j0,j3,j4];clear j0 j3 j4;by_cases hm0:m=0
 ·subst hm0;have HE:=Z (show Vf.vA w p (Xc (H (O (I fb 0)) n n)) W from⟨fb,n,by rw[HN.o],HF.o.1,HF.o.2.1,by rw[HN.o];have h:=HF.o.2.2;rw[Nat.sub_zero]at h;unfold mi;rw[HN.o];exact h⟩);go_wp2_with fail;refine Vf.Vu rfl ?_;exact HE.o
 obtain⟨j,rfl⟩:∃j,m=j+1:=⟨m-1,G⟩;have w1:(((j+1:Nat):Int) - 1)=(j:Int):=G;have w2:IntKind.i64.wrap ((j:Int) - 1)=(j:Int) - 1:=bJ _ kS;rw[w1];clear w1 hm0;have hj:j<n:=G;obtain⟨b,off,cap,e,-,-,c0,c1,c2,c3,c4⟩:=(a0g.o.aG (aC.ai HF.o.2.1)).ins (i:=j) (by rw[HN.o];exact hj);rw[Dq.o,HN.o]at e;simp only[cL]at e;obtain⟨rfl,-,rfl⟩:=e;have l_:=Z (Av (p:=p) (j:=j) (by rw[HN.o];exact hj));rw[HN.o]at l_;have HMU:=Z ae9;have HX:=Z (λcs T=>(show Row (W.alloc (Xe cs T)) 3 1 (H (O (I fb 0)) n n) n (gC (dV p (n - (j+1))))from HF.o.2.2.alloc _));have iJ:∀i,i<n->Xf W (I fb i)=O (Y (dV p (n - (j+1)) i:Nat)):=λi hi=>HF.o.2.2.cell (o:=i) G;have RC:∀i,dV p (n - (j+1)) i<=MS:=vz p _;have RD:fb<W.heap.size:=(HF.o.2.2.slice).2.2.2;have xz:∀o,W.frozen? (I fb o)=false:=λo=>HF.o.2.2.frozen o;have lb:=ay c0;have Lr:=Z (λ(cs:Array to) (T:TypeId) (k v:Nat) (hv:v=mI p (dV p (n - (j+1))) j)=>show w.heap.size<=fb/\Below w.heap.size w (((W.setCell (I fb j) (Y v)).alloc (Xe cs T)).drewN k)/\Row (((W.setCell (I fb j) (Y v)).alloc (Xe cs T)).drewN k) 3 1 (H (O (I fb 0)) n n) n (gC (dV p (n-j)))from by
  have h1:Below w.heap.size w (W.setCell (I fb j) (Y v)):=HF.o.2.1.setCell HF.o.1 _;have h2:=h1.alloc h1.size (Xe cs T);refine⟨HF.o.1,h2.trans ((aA _ _ k).mono h2.size),?_⟩;rw[l_.o];refine Row.drewN (Row.alloc ?_ _) k;refine(HF.o.2.2.set (o:=j) G (Y v)).congr λo ho=>?_;unfold gC;rw[dw];by_cases e:o=j
  ·subst e;rw[aE rfl,aE rfl,hv]
  ·rw[ax e,ax e])
 have FE:=Z (λ(V:ek) (X:Below W.heap.size W V) (v:Nat) (hv:v=mI p (dV p (n - (j+1))) j)=>show w.heap.size<=fb/\Below w.heap.size w (V.setCell (I fb j) (Y v))/\Row (V.setCell (I fb j) (Y v)) 3 1 (H (O (I fb 0)) n n) n (gC (dV p (n-j)))from by
  refine⟨HF.o.1,(HF.o.2.1.trans (X.mono HF.o.2.1.size)).setCell HF.o.1 _,?_⟩;rw[l_.o];have hr:=(HF.o.2.2.aG (aC.ai (S:=[]) X) az).set (o:=j) G (Y v);refine hr.congr λo ho=>?_;unfold gC;rw[dw];by_cases e:o=j
  ·subst e;rw[aE rfl,aE rfl,hv]
  ·rw[ax e,ax e])
 have rh:=Z (λ(V:ek) (X:Below W.heap.size W V)=>HF.o.2.2.aG (aC.ai (S:=[]) X) az);have dS:=Z (λcs T=>(aZ W.heap.size W).alloc (aL _) (Xe cs T));have cj:=iJ j hj;have hx:=mY.o j (by rw[HN.o];exact hj);rw[HN.o]at hx;have SV:mI p (dV p (n - (j+1))) j=if(ak p j).op=0\/(ak p j).op=27 then 1 else if(ak p j).op=22 then bM 1 (dV p (n - (j+1)) (ak p j).a.toNat)else if(ak p j).op=23 then bM 1 (max (dV p (n - (j+1)) (j+1)) (dV p (n - (j+1)) (ak p j).a.toNat))else if(ak p j).op=24 then bM (bM 1 (eX (ak p j).a.toNat (bM 1 (dV p (n - (j+1)) (j+2))))) (bM 1 (dV p (n - (j+1)) (ak p (j+1)).a.toNat))else bM 1 (dV p (n - (j+1)) (j+1)):=rfl;have rl:=Z SV;clear SV;have OH:=Z HF.o.2.1;generalize dV p (n - (j+1))=g at*;have HG:=Z RC;have sI:=Z iJ;clear RC iJ;obtain⟨Tp,Lt,wo,IC⟩:=hx;obtain⟨op,dO⟩:∃z,(ak p j).op=z:=⟨_,rfl⟩;obtain⟨xa,AW⟩:∃z,(ak p j).a=z:=⟨_,rfl⟩;obtain⟨xb,me⟩:∃z,(ak p j).b=z:=⟨_,rfl⟩;obtain⟨xc,hxc⟩:∃z,(ak p j).c=z:=⟨_,rfl⟩;obtain⟨xd,Xj⟩:∃z,(ak p j).d=z:=⟨_,rfl⟩;rw[dO]at c0 Tp Lt wo IC rl;rw[AW]at c1 Lt wo rl;rw[me]at c2;rw[hxc]at c3;rw[Xj]at c4;clear dO AW me hxc Xj;by_cases o1:op=0\/op=27
 ·rw[aE o1]at rl;have GD:=Z (λV=>JD.o V 0 bz);rw[show bM 1 0=1 by decide]at GD;rcases o1 with rfl|rfl
  all_goals
   exact Xa
 rw[ax o1]at rl;have o0:(op==0)=false:=by simp;exact λh=>o1 (.inl h)
 have o27:(op==27)=false:=by simp;exact λh=>o1 (.inr h)
 by_cases o2:op=22
 ·subst o2;rw[aE rfl]at rl;obtain⟨a1,a2⟩:=Lt (.inl rfl);obtain⟨xm,rfl⟩:=eS a1;have xlt:xm<n:=G;have ca9:=sI.o xm xlt;have GD:=Z (λV=>JD.o V (g xm) (HG.o _));rw[Int.toNat_natCast]at rl;generalize g xm=gx at*;exact Xa
 rw[ax o2]at rl;have o22:(op==22)=false:=by simpa using o2
 have hj1:j+1<n:=IC (λh=>o1 (.inl h)) (λh=>o1 (.inr h)) o2;have w4:IntKind.i64.wrap ((j:Int)+1)=((j+1:Nat):Int):=by rw[bJ _ kS];omega
 have cj1:=sI.o (j+1) hj1;by_cases o3:op=23
 ·subst o3;rw[aE rfl]at rl;obtain⟨a1,a2⟩:=Lt (.inr rfl);obtain⟨xm,rfl⟩:=eS a1;have xlt:xm<n:=G;have ca9:=sI.o xm xlt;rw[Int.toNat_natCast]at rl;have GD:=Z (λV=>JD.o V (g (j+1)) (HG.o _));have OC:=Z (λV=>JD.o V (g xm) (HG.o _));have HMX:=Z (λh:g (j+1)<g xm=>show max (g (j+1)) (g xm)=g xm by omega);have HMY:=Z (λh:¬g (j+1)<g xm=>show max (g (j+1)) (g xm)=g (j+1)by omega);generalize max (g (j+1)) (g xm)=mx at*;generalize g (j+1)=gx at*;generalize g xm=gy at*;by_cases hc:gx<gy
  ·rw[HMX.o hc]at rl;clear HMX HMY;go_wp2_with fail;refine(OC.o _).mono ?_;exact sU
  ·rw[HMY.o hc]at rl;clear HMX HMY;exact Xa
 rw[ax o3]at rl;have o23:(op==23)=false:=by simpa using o3
 by_cases o4:op=24
 ·subst o4;rw[aE rfl]at rl;obtain⟨a1,a2,hj2,t1,t2⟩:=wo rfl;obtain⟨xm,rfl⟩:=eS a1;have xle:xm<=4194304:=G;have cj2:=sI.o (j+2) hj2;obtain⟨b2,Jp,DN,e2,-,-,-,e1,-⟩:=(a0g.o.aG (aC.ai OH.o)).ins (i:=j+1) (by rw[HN.o];exact hj1);rw[Dq.o,HN.o]at e2;simp only[cL,iI,Addr.mk.injEq]at e2;obtain⟨⟨rfl,rfl,-⟩,-,-⟩:=e2;obtain⟨tm,htm⟩:=eS t1;have tlt:tm<n:=G;rw[htm]at e1 rl;have ct9:=sI.o tm tlt;rw[Int.toNat_natCast,Int.toNat_natCast]at rl;rw[<-abO (vy _ _) (jn (HG.o _))]at rl;have GD:=Z (λV=>JD.o V (g (j+2)) (HG.o _));have OC:=Z (λV=>HTM.o V xm (bM 1 (g (j+2))) (by unfold MS;omega) (jn (HG.o _)));have HP4:=Z (λV=>JD.o V (g tm) (HG.o _));have XX:=Z (λV=>HPM.o V (eX xm (bM 1 (g (j+2)))) (bM 1 (g tm)) (vy _ _) (jn (HG.o _)));have HP6:=Z (λV=>JD.o V (bM (eX xm (bM 1 (g (j+2)))) (bM 1 (g tm))) (jn (jn (HG.o _))));clear htm t1 t2 a1 a2 Tp Lt wo IC cj1;generalize bM (eX xm (bM 1 (g (j+2)))) (bM 1 (g tm))=r5 at*;generalize eX xm (bM 1 (g (j+2)))=r2 at*;generalize bM 1 (g (j+2))=r1 at*;generalize bM 1 (g tm)=r4 at*;generalize g (j+2)=gx at*;generalize g tm=gy at*;have zQ:0<=(j:Int)+1:=G;have Aw:(j:Int)+1<(n:Int):=G;have zN:((j:Int)+1).toNat=j+1:=G;have AP:0<=(j:Int)+2:=G;have hs5:(j:Int)+2<(n:Int):=G;have hs6:((j:Int)+2).toNat=j+2:=G;have w6:IntKind.i64.wrap ((j:Int)+2)=(j:Int)+2:=bJ _ kS;clear w4;have w4:IntKind.i64.wrap ((j:Int)+1)=(j:Int)+1:=bJ _ kS;have fS:=dS.o #[Y 24,Y xm,Y xb,Y xc,Y xd] 40;have kx:aH (W.alloc (Xe #[Y 24,Y xm,Y xb,Y xc,Y xd] 40)) W.heap.size 40 #[Y 24,Y xm,Y xb,Y xc,Y xd]:=aH.new _ _ _;go_wp2_with fail;obtain⟨W1,DX⟩:∃W1,W1=W.alloc (Xe #[Y 24,Y xm,Y xb,Y xc,Y xd] 40):=⟨_,rfl⟩;rw[<-DX]at fS kx ⊢;have d1:Xf W1 (I W.heap.size 1)=O (Y xm):=kx.cell 1;have key:∀b o v,Xf W (I b o)=O v->Xf W1 (I b o)=O v:=λb o v h=>(aR (fS.block _ (ay h))).trans h;replace cj:=key _ _ _ cj;replace cj2:=key _ _ _ cj2;replace ct9:=key _ _ _ ct9;replace e1:=key _ _ _ e1;have lL:=Z fS;clear DX kx fS key c0 c1 c2 c3 c4 xz;generalize gP:W.heap.size=bx at*;clear gP;refine wp_region_still_tail 20 bj bj ?_;simp only[List.take_succ_cons,List.take_zero,List.drop_succ_cons,List.drop_zero]
  iterate 7 still_step
  still_call (GD.o _)
  still_call (OC.o _)
  iterate 9 still_step
  still_call (HP4.o _)
  still_call (XX.o _)
  refine wpStill_nil ?_;change wpList _ _ _ _ _ (W1.drewN 1);have dR:=lL.o.trans (aA _ W1 1);have cj9:(W1.drewN 1).cell? (I fb j)=O (Y (g j:Nat)):=cj;have xz:∀o,(W1.drewN 1).frozen? (I fb o)=false:=λo=>(rh.o _ dR).frozen o;have fR:=Z dR;clear dR cj cj2 ct9 e1 zQ Aw zN AP hs5 hs6 d1;generalize W1.drewN 1=V0 at*;go_wp2_with fail;refine(HP6.o _).mono ?_;rintro e W1 ⟨rfl,rfl⟩;go_wp2;exact⟨_,j,FH.of _ rfl,rfl,(by rw[HN.o];rfl),rfl,(by rw[HN.o];omega),(by have:=HMU.o;omega),Z (by rw[HN.o];exact FE.o _ fR.o _ rl.o.symm)⟩
 rw[ax o4]at rl;have YE:(op==24)=false:=by simpa using o4
 have GD:=Z (λV=>JD.o V (g (j+1)) (HG.o _));generalize g (j+1)=gx at*;clear o1 o2 o3 o4 Tp Lt wo IC;exact Xa
end
end Go.Rv
end
namespace Go.Rv
open Go.RowKit al.Vm
open al hiding aS aw an
open Ma (dW cy bd vb aK a_)
open Vf (Kp gM pV tC bT aY i_ iN Bo yy o_ gC cA)
def FM(J:Nat->to):Act:={tmps:=#[J 0,J 1,J 2,J 3,J 4,J 5,J 6,J 7,J 8,J 9,J 10,J 11,J 12,J 13,J 14,J 15,J 16,J 17,J 18,J 19,J 20,J 21,J 22,J 23,J 24,J 25,J 26,J 27,J 28,J 29,J 30,J 31,J 32,J 33,J 34,J 35,J 36,J 37,J 38,J 39,J 40,J 41,J 42,J 43,J 44,J 45,J 46,J 47,J 48,J 49,J 50,J 51,J 52,J 53,J 54,J 55,J 56,J 57,J 58,J 59,J 60,J 61,J 62,J 63,J 64,J 65,J 66,J 67,J 68],defers:=[]}
def FM.of(A:Array to)(h:A=(FM λk=>A.getD k undef).tmps):({tmps:=A,defers:=[]}:Act)=FM λk=>A.getD k undef:=by rw[h];rfl
noncomputable def ruL(k:Nat):Code:=Mk.gI Proofs.Tryz.f70.body k
section
variable {w W7:ek}{K:Kp}{p:aU}{pb gb:Nat}{Q:Exit->Act->ek->Prop}
def RR1(W7:ek)(K:Kp)(p:aU)(pb gb:Nat)(fv:to)(m:Nat)(a:Act)(W:ek):Prop:=
 ∃(J:Nat->to) (i n:Nat) (lv:to) (ms:Int),a=FM J/\J 1=Oi pb/\J 2=Oi (pb+1)/\J 3=Oi (pb+1+1)/\J 6=fv/\J 7=Oi gb/\J 8=Y i/\
  i<=p.on.length+1/\m+i=p.on.length+2/\(i<=p.on.length->n=i)/\(i=p.on.length+1->n=p.on.length/\ms=(b_ p p.aV:Nat))/\Hid (Below W7.heap.size W7 W)/\Hid (Row W 3 1 lv n (Bo p (p.on++[p.aV])))/\Hid (∀b,lv.ownBlock=O b->W7.heap.size<=b)/\Hid (aH W gb 97 #[lv,Y ms])/\Hid (bH p (p.on++[p.aV])=bH p ((p.on++[p.aV]).drop i))
def Nq{p:Prop}(h:p:=by
 obtain⟨a9,m9,c9,hv9⟩:∃a m c,v'=H a m c:=by rcases f2.val with⟨h,-⟩|⟨_,_,h,-⟩<;>exact⟨_,_,_,h⟩
 subst hv9;have F1:=Z f1;have F2:=Z f2;have F3:=Z f3;have F4:=Z f4;clear bC hf hv f1 f2 f3 f4 g0 g1 hfg JE;go_wp2;refine⟨_,n+1,n+1,_,ms,FM.of _ rfl,rfl,rfl,rfl,rfl,rfl,rfl,by have:=dm.o;omega,G,(λ_=>rfl),(λh=>by omega),F1,F2,F3,F4,px⟩):p:=h
def Np{p:Prop}(h:p:=by
 have px:=Z (show bH p (p.on++[p.aV])=O (n9:Int)by rw[HE.o,GG.o,aE vm]);have JF:1152921504606846976<fu:=vm;have kc:=Dq.o.of (HB.o.block _ Dq.o.lt);have kf:=Qu.o.of (HB.o.block _ Qu.o.lt);obtain⟨z0,z1⟩:=kc.c2;obtain⟨z2,z3⟩:=kf.c2;have z4:=kc.frozen;have z5:=kf.frozen;have z6:=kf.lt;have z7:=kc.lt;clear kc kf vm JE GG;go_wp2;exact jD _ _ _ rfl rfl HB.o px.o):p:=h
def rr1{fb fc:Nat}(a0g:Hid (gM W7 K p))(HP:Hid (aH W7 pb 27 (i_ K p)))(HGB:Hid (W7.heap.size<=gb))(HFV:Hid (Row W7 3 1 (H (O (I fb 0)) p.code.length fc) p.code.length (gC (mi p))))(tb:uG p)
 (Dq:Hid (aH W7 (pb+1) 97 #[Xd,Y 0])) (Qu:Hid (aH W7 (pb+1+1) 99 #[Y 0,Y 0]))
 (jD:∀(B:Array to) W (n:Int),B.getD 2 undef=Oi (pb+1)->B.getD 3 undef=Oi (pb+1+1)->Below W7.heap.size W7 W->bH p (p.on++[p.aV])=O n->Q .ret {tmps:=B,defers:=[]} ((((W.setCell (I (pb+1) 0) Xd).setCell (I (pb+1) 1) (Y 0)).setCell (I (pb+1+1) 0) (Y 97)).setCell (I (pb+1+1) 1) (Y n)))
 (dD:∀(J:Nat->to) W lv,J 2=Oi (pb+1)->J 3=Oi (pb+1+1)->J 7=Oi gb->Below W7.heap.size W7 W->Row W 3 1 lv p.on.length (Bo p (p.on++[p.aV]))->(∀b,lv.ownBlock=O b->W7.heap.size<=b)->aH W gb 97 #[lv,Y (b_ p p.aV:Nat)]->bH p (p.on++[p.aV])=Xb->Q (.exit 0) (FM J) W)
 {a:Act} {W:ek} (h:RR1 W7 K p pb gb (H (O (I fb 0)) p.code.length fc) (p.on.length+2) a W):(Code.loop (ruL 0)).wp prog Q a W:=by
 refine Mk.aM (λm a W=>RR1 W7 K p pb gb (H (O (I fb 0)) p.code.length fc) m a W) (p.on.length+2) h ?_ ?_
 ·rintro a W ⟨J,i,n,lv,ms,-,-,-,-,-,-,-,h1,h2,-⟩;omega
 rintro m a0 W ⟨J,i,n,lv,ms,rfl,j1,j2,j3,j6,j7,j8,hi,hm,uy,tB,HB,HR,HO,HG,HE⟩;unfold FM
 conv=>arg 2;whnf
 have agK:p.on.length<=16:=by have:=tb.on;have:=tb.g;omega
 have w2:=mr i G;rw[j1,j2,j3,j6,j7,j8];clear j1 j2 j3 j6 j7 j8;obtain⟨oa,oc,ko,-,-⟩:=aY.val a0g.o.o;have hp:=HP.o.of (HB.o.block _ HP.o.lt);obtain⟨-,-,-,p3,p4⟩:=hp.c5;have lp:=hp.lt;rw[ko]at p3;obtain⟨g0,g1⟩:=HG.o.c2;have lg:=HG.o.lt;have hfg:=HG.o.frozen;have HMS:=Z tB;have QG:=Z uy;clear tB uy hp;by_cases be:i<p.on.length+1
 ·have hbi:∃z,(p.on++[p.aV]).getD i 0=z/\(-1<=z/\z<p.code.length):=by exact qX4
  obtain⟨z,hz,mU,sT⟩:=hbi;have dm:=Z be;have HZ:=Z hz;have GG:=Z (o_ p (p.on++[p.aV]) (i:=i) kZ);rw[hz]at GG;have bt:=Z (λ(V:ek) (v:to) (n:Nat) (hr:Row V 3 1 v n (Bo p (p.on++[p.aV]))) (hk:∃x y,aH V gb 97 #[x,y])=>show v.ownBlock≠O gb from by obtain⟨x,y,hk⟩:=hk;exact hr.fx hk bz);by_cases hio:i<p.on.length
  ·obtain⟨b,off,cap,eo,q1,q2,lo,c⟩:=a0g.o.o.some G G;rw[ko]at eo;simp only[cL]at eo;obtain⟨rfl,-,rfl⟩:=eo;have c0:Xf W (I b (off+i))=O (Y z):=by refine(aR (HB.o.block _ lo)).trans ((c i G).trans ?_);rw[<-hz,dQ,uQ hio,<-dQ];rfl
   have kM:Hid (i+1<=maxLen/\(i+1)*8<=140737488355328):=Z ⟨by unfold maxLen;omega,G⟩;have hn:n=i:=QG.o G;subst hn;have ia:∃la ln lc,lv=H la ln lc:=by rcases HR.o.val with⟨h,-⟩|⟨_,_,h,-⟩<;>exact⟨_,_,_,h⟩
   have JE:=Z (λ(k:Int) (V:ek) (v':to) (w1:ek) (hv:Below W.heap.size W V) (hn:k=(b_ p z:Nat)) (hr:Row w1 3 1 v' (n+1) (gQ n (Bo p (p.on++[p.aV])) λ_=> Y k)) (hf:aC lv.ownBlock.toList V w1) (ho:v'.ownBlock=lv.ownBlock\/v'.ownBlock=O V.heap.size)=>
    show Below W7.heap.size W7 (w1.setCell (I gb 0) v')/\Row (w1.setCell (I gb 0) v') 3 1 v' (n+1) (Bo p (p.on++[p.aV]))/\(∀b,v'.ownBlock=O b->W7.heap.size<=b)/\aH (w1.setCell (I gb 0) v') gb 97 #[v',Y ms]/\Xf w1 (I gb 0)=O lv/\(∀o,w1.frozen? (I gb o)=false)/\gb<w1.heap.size from by
    have h1:Below W7.heap.size W7 V:=HB.o.trans (hv.mono HB.o.size);have h2:=h1.trans (hf.below h1.size (λb X=>HO.o b (by simpa using X)));have im:aH w1 gb 97 #[lv,Y ms]:=(HG.o.of (hv.block _ HG.o.lt)).aG hf (λX=>bt.o _ _ _ HR.o ⟨_,_,HG.o⟩ (by simpa using X));have Xw:=yy p (p.on++[p.aV]) (by rw[HZ.o];exact hn) hr;refine⟨h2.setCell (p:=(I gb 0)) HGB.o _,Xw.other (bt.o _ _ _ Xw ⟨_,_,im⟩) _ _,λb X=>?_,im.set 0 v',im.cell 0,im.frozen,im.lt⟩;rcases ho with h|h
    ·exact HO.o b (by rw[<-h];exact X)
    ·rw[h]at X;have:=fT X;have:=h1.size;omega)
   clear c hz lo q2;by_cases je:z<0
   ·have KZ:=Z (show(0:Int)=(b_ p z:Nat)by unfold b_;rw[aE je];rfl);have px:=Z (show bH p (p.on++[p.aV])=bH p ((p.on++[p.aV]).drop (n+1))by rw[HE.o,GG.o,ax (by have:=KZ.o;unfold MF;omega)]);have hd:decide (0<=z)=false:=by simp;omega
    clear je;go_wp2_with (at_builtin;refine cG rfl _ _ 24 rfl 3 underlying24 cA rfl bz lv n (Bo p (p.on++[p.aV])) rfl (HR.o.alloc _) (I W.heap.size 0) 1 1 (λ_=> Y 0) rfl (λj hj=>(by obtain rfl:j=0:=G;exact(aH.new W 3 #[Y 0]).cell 0)) (λ_ _=>rfl) kM.o.1 kM.o.2 ?_);intro v' w1 bC hf hv;obtain⟨f1,f2,f3,f4,f5,f6,f7⟩:=JE.o 0 _ v' w1 ((aZ _ _).alloc (aL _) _) KZ.o bC hf (by simpa using hv);exact Nq
   ·obtain⟨n9,rfl⟩:=eS (by omega:0<=z);have hn9:n9<p.code.length:=G;have hfc:Xf W (I fb n9)=O (Y (mi p n9:Nat)):=(HFV.o.aG (aC.ai (S:=[]) HB.o) az).cell (o:=n9) G;have t_:b_ p (n9:Int)=mi p n9:=by unfold b_;rw[ax G];rfl
    rw[t_]at GG JE;have lfb:=ay hfc;clear je;generalize mi p n9=fu at*;clear t_;by_cases vm:MF<fu
    ·exact Np
    ·have px:=Z (show bH p (p.on++[p.aV])=bH p ((p.on++[p.aV]).drop (n+1))by rw[HE.o,GG.o,ax vm]);have JF:¬1152921504606846976<fu:=vm;have Rs:fu<=1152921504606846976:=G;clear vm JF GG;go_wp2_with (at_builtin;refine cG rfl _ _ 24 rfl 3 underlying24 cA rfl bz lv n (Bo p (p.on++[p.aV])) rfl (HR.o.alloc _) (I W.heap.size 0) 1 1 (λ_=> Y (fu:Nat)) rfl (λj hj=>(by obtain rfl:j=0:=G;exact(aH.new W 3 #[Y (fu:Nat)]).cell 0)) (λ_ _=>rfl) kM.o.1 kM.o.2 ?_);intro v' w1 bC hf hv;obtain⟨f1,f2,f3,f4,f5,f6,f7⟩:=JE.o (fu:Nat) _ v' w1 ((aZ _ _).alloc (aL _) _) rfl bC hf (by simpa using hv);exact Nq
  ·have NV:=Z (show i=p.on.length by omega);have c0:p.aV=z:=by rw[<-hz,dQ,uP G,show i-p.on.length=0 by have:=NV.o;omega];simp
   rw[c0]at p4;have HMZ:=Z c0;have hn:=Z (show n=p.on.length by have:=QG.o G;omega);have JE:=Z (λ(k:Int) (hk:k=(b_ p z:Nat))=>show Below W7.heap.size W7 (W.setCell (I gb 1) (Y k))/\Row (W.setCell (I gb 1) (Y k)) 3 1 lv n (Bo p (p.on++[p.aV]))/\aH (W.setCell (I gb 1) (Y k)) gb 97 #[lv,Y k]/\k=(b_ p p.aV:Nat)from
    ⟨HB.o.setCell (p:=(I gb 1)) HGB.o _,HR.o.other (bt.o _ _ _ HR.o ⟨_,_,HG.o⟩) _ _,HG.o.set 1 _,by rw[HMZ.o];exact hk⟩)
   clear c0 hz;by_cases je:z<0
   ·have KZ:=Z (show(0:Int)=(b_ p z:Nat)by unfold b_;rw[aE je];rfl);have px:=Z (show bH p (p.on++[p.aV])=bH p ((p.on++[p.aV]).drop (i+1))by rw[HE.o,GG.o,ax (by have:=KZ.o;unfold MF;omega)]);have hd:decide (0<=z)=false:=by simp;omega
    clear je;have F:=JE.o 0 KZ.o;have F1:=Z F.1;have F2:=Z F.2.1;have F3:=Z F.2.2.1;have F4:=Z F.2.2.2;clear F JE;go_wp2;refine⟨_,i+1,n,lv,0,FM.of _ rfl,rfl,rfl,rfl,rfl,rfl,rfl,by have:=dm.o;omega,G,(λh=>by have:=NV.o;omega),(λ_=>⟨hn.o,F4.o⟩),F1,F2,HO,F3,px⟩
   ·obtain⟨n9,rfl⟩:=eS (by omega:0<=z);have hn9:n9<p.code.length:=G;have hfc:Xf W (I fb n9)=O (Y (mi p n9:Nat)):=(HFV.o.aG (aC.ai (S:=[]) HB.o) az).cell (o:=n9) G;have t_:b_ p (n9:Int)=mi p n9:=by unfold b_;rw[ax G];rfl
    rw[t_]at GG JE;have lfb:=ay hfc;clear je;generalize mi p n9=fu at*;clear t_;by_cases vm:MF<fu
    ·exact Np
    ·have px:=Z (show bH p (p.on++[p.aV])=bH p ((p.on++[p.aV]).drop (i+1))by rw[HE.o,GG.o,ax vm]);have JF:¬1152921504606846976<fu:=vm;have Rs:fu<=1152921504606846976:=G;clear vm JF GG;have F:=JE.o (fu:Nat) rfl;have F1:=Z F.1;have F2:=Z F.2.1;have F3:=Z F.2.2.1;have F4:=Z F.2.2.2;clear F JE;go_wp2;refine⟨_,i+1,n,lv,(fu:Nat),FM.of _ rfl,rfl,rfl,rfl,rfl,rfl,rfl,by have:=dm.o;omega,G,(λh=>by have:=NV.o;omega),(λ_=>⟨hn.o,F4.o⟩),F1,F2,HO,F3,px⟩
 ·obtain rfl:i=p.on.length+1:=G;obtain⟨e1,e2⟩:=HMS.o rfl;have Og:=Z (show Row W 3 1 lv p.on.length (Bo p (p.on++[p.aV]))by rw[<-e1];exact HR.o);have HG9:=Z (show aH W gb 97 #[lv,Y (b_ p p.aV:Nat)]by rw[<-e2];exact HG.o);have HE9:=Z (show bH p (p.on++[p.aV])=Xb by rw[HE.o,show p.on.length+1=(p.on++[p.aV]).length by simp,List.drop_length];rfl);clear be e1 e2 g1 hfg;go_wp2;exact Eq.mpr (bo (λa=>Q (.exit 0) a W) (FM.of _ rfl)) (dD _ _ _ rfl rfl rfl HB.o Og.o HO.o HG9.o HE9.o)
def SI(w:ek)(p:aU)(e:Ending)(w':ek):Prop:=∃yx ms,e=Xc (.tuple #[.agg #[yx,Y ms],.agg #[Y (a8 p).1,Y (a8 p).2]])/\Below w.heap.size w w'/\(∀b,yx.ownBlock=O b->w.heap.size<=b)/\
 ((a8 p).1=0->ms=(b_ p p.aV:Nat)/\aY w' 1 yx p.on.length (λi=> Y (b_ p (p.on.getD i 0):Nat)))/\((a8 p).1≠0->yx=Xd/\ms=0)
def abN{p:aU}:∀{k pc:Nat} {T:Map} {e1:Int} {a:Nat},looks p k pc T= .inl (e1,a)->e1≠0:=by
 intro k
 induction k with
 |zero=>intro pc T e1 a h;unfold looks at h;simp at h
 |succ k ih=>
  intro pc T e1 a h;unfold looks at h;split at h
  ·exact ih h
  ·next bt=>simp at h;rw[<-h.1];exact bt
def xK{p:aU}:(ki p).1=0↔bE p=0/\∃T,looks p p.code.length 0 (dH p)= .inr T:=by
 unfold ki;by_cases h:bE p=0
 ·rw[ax (by simp[h])];obtain⟨tb,pw⟩:=cO h;obtain⟨h1,h2⟩:=tU pw p.code.length 0 _ _ (qF tb) G;cases hl:looks p p.code.length 0 (dH p)with
  |inl e=>
   have hx:e.1≠0:=by have:=xp p;obtain⟨e1,e2⟩:=e;exact λh0=>abN hl h0
   rw[h1 e hl];exact⟨λh0=>absurd h0 hx,λ⟨_,T,hT⟩=>by cases hT⟩
  |inr T=>obtain⟨L',e⟩:=h2 T hl;rw[e];exact⟨λ_=>⟨h,T,rfl⟩,λ_=>rfl⟩
 ·rw[aE h];exact⟨λe=>absurd e h,λe=>absurd e.1 h⟩
def abM{p:aU}:((ki p).1≠0->a8 p=ki p)/\((ki p).1=0->a8 p=match bH p (p.on++[p.aV])with|some n=>(97,n)|none=>(0,0)):=by
 have hz:= @xK p;rw[<-xp];unfold zw;unfold ki at hz ⊢;by_cases h:bE p=0
 ·rw[ax (by simp[h])]at hz ⊢;rw[ax (by simp[h])];cases hl:fQ p p.code.length 0 (iC p)with
  |inl e=>rw[hl]at hz;exact⟨λ_=>rfl,λh0=>by obtain⟨_,T,hT⟩:=hz.1 h0;obtain⟨tb,pw⟩:=cO h;obtain⟨L',e9⟩:=(tU pw p.code.length 0 _ _ (qF tb) G).2 T hT;rw[hl]at e9;cases e9⟩
  |inr L=>exact⟨λh0=>absurd rfl h0,λ_=>rfl⟩
 ·rw[aE h]at hz ⊢;rw[aE h];exact⟨λ_=>rfl,λh0=>absurd h0 h⟩
def wR{R:Ending->ek->Prop}{A:Array to}{W:ek}{cb fb:Nat}{x y u v:to}(h2:A.getD 2 undef=Oi cb)(h3:A.getD 3 undef=Oi fb)(kc:aH W cb 97 #[x,y])(kf:aH W fb 99 #[u,v])
 (hR:R (Xc (.tuple #[.agg #[x,y],.agg #[u,v]])) W):bodyPost prog Proofs.Tryz.f70 R .ret {tmps:=A,defers:=[]} W:=by
 obtain⟨c0,c1⟩:=kc.c2;obtain⟨f0,f1⟩:=kf.c2;rw[Aj]at h2 h3;refine bR (v:= .tuple #[.agg #[x,y],.agg #[u,v]]) ?_ rfl hR;simp[results,results70,go_sem,h2,h3,c0,c1,f0,f1]
def st4(W:ek)(c f:Nat)(x y u v:to):ek:=(((W.setCell (I c 0) x).setCell (I c 1) y).setCell (I f 0) u).setCell (I f 1) v
def Ei{W:ek}{c f:Nat}{x y u v x0 y0 u0 v0:to}(hn:c≠f)(kc:aH W c 97 #[x0,y0])(kf:aH W f 99 #[u0,v0]):aH (st4 W c f x y u v) c 97 #[x,y]/\aH (st4 W c f x y u v) f 99 #[u,v]/\aC [c,f] W (st4 W c f x y u v):=
 ⟨((((kc.set 0 x).set 1 y).other hn 0 u).other hn 1 v),((((kf.other hn.symm 0 x).other hn.symm 1 y).set 0 u).set 1 v),
   ((((aC.refl [c,f] W).setCell (p:=(I c 0)) az x).setCell (p:=(I c 1)) az y).setCell (p:=(I f 0)) az u).setCell (p:=(I f 1)) az v⟩
def ae8{w:ek}{K:Kp}{p:aU}(h:gM w K p):Calls prog 70 #[pV K p] w (SI w p):=by
 obtain⟨⟨ga,gc,g1,g2,g3⟩,⟨va,vc,v1,v2,v3⟩,⟨ta,tc,t1,t2,t3⟩,⟨oa,oc,o1,o2,o3⟩,⟨ca,cc,c1,c2,c3⟩⟩:=h.sl;have xC:=Z (λV (X:Below w.heap.size w V)=>JA (w:=V) (h.aG (aC.ai X)));have OH:=Z (λV (X:Below w.heap.size w V) hl hi=>JC (w:=V) (h.aG (aC.ai X)) hl hi);have a0g:=Z h;obtain⟨W0,jM⟩:∃W0,W0=((w.alloc (Xe #[H ga p.ap.length gc,H va p.vars.length vc,H ta p.aW.length tc,H oa p.on.length oc,Y p.aV,H ca p.code.length cc] 27)).alloc (Xe #[Xd,Y 0] 97)).alloc (Xe #[Y 0,Y 0] 99):=⟨_,rfl⟩;have kp:aH W0 w.heap.size 27 (i_ K p):=by rw[jM];unfold i_;rw[g1,v1,t1,o1,c1];exact((aH.new _ _ _).alloc _).alloc _
 have kc:aH W0 (w.heap.size+1) 97 #[Xd,Y 0]:=by rw[jM];exact(aH.bK az).alloc _
 have kf:aH W0 (w.heap.size+1+1) 99 #[Y 0,Y 0]:=by rw[jM];exact aH.bK az
 have dG:Below w.heap.size w W0:=by rw[jM];exact(((aZ _ _).alloc (aL _) _).alloc az _).alloc kZ _
 have qt:W0.heap.size=w.heap.size+1+1+1:=by rw[jM];simp
 have HK:=Z (And.intro g1 (And.intro v1 (And.intro t1 (And.intro o1 c1))));unfold pV at xC ⊢;rw[g1,v1,t1,o1,c1]at xC ⊢;rw[c1]at OH;clear h g1 v1 t1 o1 c1 g2 g3 v2 v3 t2 t3 o2 o3 c2 c3;go_enter func70,ntmps70;go_wp2_with fail;rw[<-jM];refine(xC.o _ dG).mono ?_;rintro e W1 ⟨pv,rfl,X⟩;have KP:=Z (kp.of (X.block _ kp.lt));have KC:=Z (kc.of (X.block _ kc.lt));have KF:=Z (kf.of (X.block _ kf.lt));have dS:=Z (dG.trans (X.mono dG.size));have sE:Hid (w.heap.size+1+1<W1.heap.size):=Z (by have:=X.size;omega);have HZ:=Z (@xK p);have HVL:=Z (@abM p);clear kp kc kf X dG qt jM xC;generalize ki p=lk at*;obtain⟨le,la⟩:=lk;dsimp only at HZ HVL;have HN:Hid (w.heap.size+1≠w.heap.size+1+1):=Z G;have KG:=Z (aH.new W1 99 #[Y le,Y la]);by_cases hle:le=0
 case neg=>
  have bt:(le !=0)=true:=by simpa using hle
  have HV:=Z (show a8 p=(le,la)from HVL.o.1 hle);have Da:=Z hle;clear hle;go_wp2_with fail;have dR:Below W1.heap.size W1 (W1.alloc (Xe #[Y le,Y la] 99)):=(aZ _ _).alloc (aL _) _;have fR:=Z (dS.o.trans (dR.mono dS.o.size));have KC2:=Z (KC.o.of (dR.block _ KC.o.lt));have KF2:=Z (KF.o.of (dR.block _ KF.o.lt));have HG:=Z (show W1.heap.size∉[w.heap.size+1,w.heap.size+1+1]by have:=sE.o;simp;omega);clear dR;generalize zm:W1.heap.size=gb at*;generalize W1.alloc (Xe #[Y le,Y la] 99)=W2 at*;obtain⟨n0,n1⟩:=KG.o.c2;refine Mk.bq (S:=λwx=>aC [w.heap.size+1,w.heap.size+1+1] W2 wx) bj (aC.ai (aA _ W2 1)) (λau=>?_);have Ez:=Z (KC2.o.drewN 1);have Cv:=Z (KF2.o.drewN 1);change Hid (aH W2.drew _ _ _)at Ez;change Hid (aH W2.drew _ _ _)at Cv;have HD:=Z (aA W2.heap.size W2 1);change Hid (Below W2.heap.size W2 W2.drew)at HD;generalize World.drew _=V0 at*;have z0:=Ez.o.cell 0;have z1:=Ez.o.cell 1;have z2:=Cv.o.cell 0;have z3:=Cv.o.cell 1;have z4:=Ez.o.frozen;have z5:=Cv.o.frozen;have z6:=Cv.o.lt;have z7:=Ez.o.lt;simp only[List.getElem?_toArray,List.getElem?_cons_zero,List.getElem?_cons_succ]at z0 z1 z2 z3;refine Mk.cD 0 ?_;refine Mk.tk 1 (v:=?_) rfl (λwz fF=>?_) au ?_;rotate_left
  ·have key:∀b i v,b∉[w.heap.size+1,w.heap.size+1+1]->Xf W2 (I b i)=O v->Xf wz (I b i)=O v:=λb i v hn hc=>(aR (fF.block _ (ay hc) hn)).trans hc;have y0:=key _ _ _ HG.o n0;have y1:=key _ _ _ HG.o n1;exact qZ
  refine Mk.pt ?_;refine Mk.oH (rs:=[2]) (bX rfl (λK9 hK=>?_) cz);refine fL ?_;go_simp;refine hK.out _ _ ((au.setCell (p:=(I (w.heap.size+1) 0)) az Xd).setCell (p:=(I (w.heap.size+1) 1)) az (Y 0)) (λau=>?_);clear hK K9;refine Mk.pt ?_;refine Mk.oH (rs:=[3]) (bX rfl (λK9 hK=>?_) cz);refine fL ?_;go_simp;refine hK.out _ _ ((au.setCell (p:=(I (w.heap.size+1+1) 0)) az (Y le)).setCell (p:=(I (w.heap.size+1+1) 1)) az (Y la)) (λau=>?_);clear hK K9;refine Mk.pt ?_;refine eT bj ⟨rfl,?_⟩ _;have hs:=Ei (x:=Xd) (y:=Y 0) (u:=Y le) (v:=Y la) HN.o Ez.o Cv.o;clear au;go_wp2
  first|refine wR (cb:=w.heap.size+1) (fb:=w.heap.size+1+1) rfl rfl hs.1 hs.2.1 ?_|(rw[jO];refine wR (cb:=w.heap.size+1) (fb:=w.heap.size+1+1) rfl rfl hs.1 hs.2.1 ?_)
  refine⟨_,_,by rw[HV.o],(fR.o.trans (HD.o.mono fR.o.size)).trans (hs.2.2.below (fR.o.trans (HD.o.mono fR.o.size)).size kZ),(λb X=>by cases X),(λh=>by rw[HV.o]at h;exact absurd h Da.o),λ_=>⟨rfl,rfl⟩⟩
 subst hle;obtain⟨tV,T,hT⟩:=HZ.o.1 rfl;obtain⟨tb,-⟩:=cO tV;have TB:=Z tb;have HFI:=Z (Cu tV hT);have HV:=Z (HVL.o.2 rfl);have hlen:=tb.code;clear tV hT tb;have p5:(W1.alloc (Xe #[Y 0,Y la] 99)).cell? (I w.heap.size 5)=O (H ca p.code.length cc):=by rw[<-HK.o.2.2.2.2];exact(KP.o.alloc _).cell 5
 have lp:=(KP.o.alloc (Xe #[Y 0,Y la] 99)).lt;go_wp2_with fail;refine(OH.o _ (dS.o.alloc dS.o.size _) hlen HFI.o).mono ?_;rintro e W3 ⟨fb9,fc9,rfl,RK,s_,hr3⟩;have xX:Below W1.heap.size W1 W3:=((aZ _ _).alloc (aL _) _).trans (s_.mono az);have mM:=Z (dS.o.trans (xX.mono dS.o.size));have KP3:=Z (KP.o.of (xX.block _ KP.o.lt));have KC3:=Z (KC.o.of (xX.block _ KC.o.lt));have KF3:=Z (KF.o.of (xX.block _ KF.o.lt));have Nu:=Z (show w.heap.size+1+1<W3.heap.size by have:=sE.o;have:=xX.size;omega);have HR3:=Z hr3;clear s_ xX hr3 RK p5 lp OH HZ HVL KG;go_wp2_with fail;refine rr1 (W7:=W3) (gb:=W3.heap.size) (Z (a0g.o.aG (aC.ai mM.o))) KP3 (Z (aL _)) HR3 TB.o KC3 KF3 (λB W n h2 h3 X he=>?_) (λJ W lv j2 j3 j7 X hr ho hg he=>?_) ⟨_,0,0,Xd,0,FM.of _ rfl,rfl,rfl,rfl,rfl,rfl,rfl,ck _,G,(λ_=>rfl),(λh=>by omega),Z ((aZ _ _).alloc (aL _) _),Z (Row.nil _ _ _ _),Z (λb X=>by cases X),Z (aH.new _ _ _),Z (by rw[List.drop_zero])⟩
 ·try simp only[Exit.inBlock,Exit.then]
  have On:=Z (show a8 p=(97,n)by rw[HV.o,he]);have hs:=Ei (x:=Xd) (y:=Y 0) (u:=Y 97) (v:=Y n) HN.o (KC3.o.of (X.block _ KC3.o.lt)) (KF3.o.of (X.block _ KF3.o.lt));have yw:=mM.o.trans (X.mono mM.o.size)
  first|refine wR (cb:=w.heap.size+1) (fb:=w.heap.size+1+1) h2 h3 hs.1 hs.2.1 ?_|(rw[jO];refine wR (cb:=w.heap.size+1) (fb:=w.heap.size+1+1) h2 h3 hs.1 hs.2.1 ?_)
  refine⟨_,_,by rw[On.o],yw.trans (hs.2.2.below yw.size kZ),(λb X=>by cases X),(λh=>by rw[On.o]at h;cases h),λ_=>⟨rfl,rfl⟩⟩
 ·have On:=Z (show a8 p=(0,0)by rw[HV.o,he]);have hs:=Ei (x:=lv) (y:=Y (b_ p p.aV:Nat)) (u:=Y 0) (v:=Y 0) HN.o (KC3.o.of (X.block _ KC3.o.lt)) (KF3.o.of (X.block _ KF3.o.lt));have yw:=mM.o.trans (X.mono mM.o.size);have HT:=Z (show SI w p (Xc (.tuple #[.agg #[lv,Y (b_ p p.aV:Nat)],.agg #[Y 0,Y 0]])) (st4 W (w.heap.size+1) (w.heap.size+1+1) lv (Y (b_ p p.aV:Nat)) (Y 0) (Y 0))from by
   refine⟨lv,(b_ p p.aV:Nat),by rw[On.o],yw.trans (hs.2.2.below yw.size kZ),(λb sV=>by have:=ho b sV;have:=Nu.o;omega),λ_=>⟨rfl,?_⟩,λh=>absurd (by rw[On.o]) h⟩;have h1:=hr.aG hs.2.2 (λb sV=>by have:=ho b sV;have:=Nu.o;simp;omega);refine Vf.aY.congr (aY.zA h1) (λo ho=>?_);unfold Bo;rw[dQ,uQ ho,<-dQ])
  have wF:=Z (And.intro hs.1 hs.2.1);obtain⟨a9,m9,c9,hv9⟩:∃a m c,lv=H a m c:=by rcases hr.val with⟨h,-⟩|⟨_,_,h,-⟩<;>exact⟨_,_,_,h⟩
  subst hv9;obtain⟨g0,g1⟩:=hg.c2;have lg:=hg.lt;have kc:=KC3.o.of (X.block _ KC3.o.lt);have kf:=KF3.o.of (X.block _ KF3.o.lt);obtain⟨z0,z1⟩:=kc.c2;obtain⟨z2,z3⟩:=kf.c2;have z4:=kc.frozen;have z5:=kf.frozen;have z6:=kf.lt;have z7:=kc.lt;unfold FM;rw[j2,j3,j7];clear kc kf hs yw X hr ho hg he j2 j3 j7;generalize b_ p p.aV=em at*;go_wp2
  first|refine wR (cb:=w.heap.size+1) (fb:=w.heap.size+1+1) rfl rfl wF.o.1 wF.o.2 ?_|(rw[jO];refine wR (cb:=w.heap.size+1) (fb:=w.heap.size+1+1) rfl rfl wF.o.1 wF.o.2 ?_)
  exact HT.o
def SK(w:ek)(p:aU)(e:Ending)(w':ek):Prop:=∃yx ms,e=Xc (.agg #[yx,Y ms])/\Below w.heap.size w w'/\
 ((a8 p).1=0->ms=(b_ p p.aV:Nat)/\aY w' 1 yx p.on.length (λi=> Y (b_ p (p.on.getD i 0):Nat)))/\((a8 p).1≠0->yx=Xd/\ms=0)
def a0h{w:ek}{K:Kp}{p:aU}(h:gM w K p):Calls prog 52 #[pV K p] w (SK w p):=by
 obtain⟨⟨ga,gc,g1,g2,g3⟩,⟨va,vc,v1,v2,v3⟩,⟨ta,tc,t1,t2,t3⟩,⟨oa,oc,o1,o2,o3⟩,⟨ca,cc,c1,c2,c3⟩⟩:=h.sl;have Nj:=Z (λV (X:Below w.heap.size w V)=>ae8 (w:=V) (h.aG (aC.ai X)));obtain⟨W0,jM⟩:∃W0,W0=(w.alloc (Xe #[H ga p.ap.length gc,H va p.vars.length vc,H ta p.aW.length tc,H oa p.on.length oc,Y p.aV,H ca p.code.length cc] 27)).alloc (Xe #[Xd,Y 0] 97):=⟨_,rfl⟩;have kc:aH W0 (w.heap.size+1) 97 #[Xd,Y 0]:=by rw[jM];exact aH.bK az
 have dG:Below w.heap.size w W0:=by rw[jM];exact((aZ _ _).alloc (aL _) _).alloc az _
 have qt:W0.heap.size=w.heap.size+1+1:=by rw[jM];simp
 unfold pV at Nj ⊢;rw[g1,v1,t1,o1,c1]at Nj ⊢;clear h g1 v1 t1 o1 c1 g2 g3 v2 v3 t2 t3 o2 o3 c2 c3;go_enter func52,ntmps52;go_wp2_with fail;rw[<-jM];refine(Nj.o _ dG).mono ?_;rintro e W1 ⟨yx,ms,rfl,X,jE,h1,h2⟩;have sS:∃a m c,yx=H a m c:=by
  by_cases hv:(a8 p).1=0
  ·obtain⟨a,c,e,-,-⟩:=aY.val (h1 hv).2;exact⟨_,_,_,e⟩
  ·exact⟨_,_,_,(h2 hv).1⟩
 obtain⟨a9,m9,c9,rfl⟩:=sS;have dS:=Z (dG.trans (X.mono dG.size));have KC:=Z (kc.of (X.block _ kc.lt));have sE:=Z (show w.heap.size+1<W1.heap.size by have:=X.size;omega);have zM:=Z (λb (h:(Value.slice a9 m9 c9).ownBlock=O b)=>show b∉[w.heap.size+1]by have:=jE b h;simp;omega);have H1:=Z h1;have H2:=Z h2;obtain⟨ve,hve⟩:∃v,a8 p=v:=⟨_,rfl⟩;rw[hve]at H1 H2 ⊢;have VK:=Z hve;obtain⟨v1,v2⟩:=ve;clear X dG kc qt jM h1 h2 Nj hve jE;obtain⟨W2,hW2⟩:∃W2,W2=(W1.alloc (Xe #[H a9 m9 c9,Y ms] 97)).alloc (Xe #[Y v1,Y v2] 99):=⟨_,rfl⟩;have dR:Below W1.heap.size W1 W2:=by rw[hW2];exact((aZ _ _).alloc (aL _) _).alloc az _
 have Gz:=KC.o.of (dR.block _ KC.o.lt);obtain⟨z0,z1⟩:=Gz.c2;have z4:=Gz.frozen;have z5:=Gz.lt;have HK9:=Z ((Gz.set 0 (H a9 m9 c9)).set 1 (Y ms));have HF:=Z (show aC [w.heap.size+1] W2 ((W2.setCell (I (w.heap.size+1) 0) (H a9 m9 c9)).setCell (I (w.heap.size+1) 1) (Y ms))from((aC.refl _ _).setCell (p:=(I (w.heap.size+1) 0)) az _).setCell (p:=(I (w.heap.size+1) 1)) az _);have fR:=Z (dS.o.trans (dR.mono dS.o.size));have tR:=Z (aC.ai (S:=[]) dR);clear dR Gz;subst hW2;go_wp2_with fail;have HT:=Z (show SK w p (Xc (.agg #[H a9 m9 c9,Y ms])) _ from⟨_,_,rfl,fR.o.trans (HF.o.below fR.o.size az),λh=>⟨(H1.o (by rw[<-h,VK.o])).1,Vf.sM ((H1.o (by rw[<-h,VK.o])).2.aG tR.o) HF.o zM.o⟩,λh=>H2.o (λe=>h (by rw[VK.o];exact e))⟩);have zd:=HK9.o.cell 0;have qC:=HK9.o.cell 1;simp only[List.getElem?_toArray,List.getElem?_cons_zero,List.getElem?_cons_succ,List.setIfInBounds_toArray,List.set_cons_zero,List.set_cons_succ]at zd qC;refine bR (v:= .agg #[H a9 m9 c9,Y ms]) ?_ rfl HT.o;simp[results,results52,go_sem,zd,qC]
end
end Go.Rv
section
def U9{p:Prop}(h:p:=by
 have tV:bE p=0:=by
  by_cases h0:bE p=0
  ·exact h0
  ·unfold a8 at hv;rw[aE h0]at hv;exact absurd hv h0
 exact(cO tV).1):p:=h
namespace Go.Rv
open Go.RowKit al.Vm
open al hiding aS aw an
open Ma (dW cy bd vb aK a_)
open Vf (Kp gM pV tC bT aY i_ cV)
def G_(J:Nat->to):Act:={tmps:=#[J 0,J 1,J 2,J 3,J 4,J 5,J 6,J 7,J 8,J 9,J 10,J 11,J 12,J 13,J 14,J 15,J 16,J 17,J 18,J 19,J 20,J 21,J 22,J 23,J 24,J 25,J 26,J 27,J 28,J 29,J 30,J 31,J 32,J 33,J 34,J 35,J 36,J 37,J 38,J 39,J 40,J 41,J 42,J 43,J 44,J 45,J 46,J 47,J 48,J 49,J 50,J 51,J 52,J 53,J 54,J 55,J 56,J 57,J 58,J 59],defers:=[]}
def G_.of(A:Array to)(h:A=(G_ λk=>A.getD k undef).tmps):({tmps:=A,defers:=[]}:Act)=G_ λk=>A.getD k undef:=by rw[h];rfl
noncomputable def snL(k:Nat):Code:=Mk.gI Proofs.Tryz.f14.body k
def Bs(l:List Int):Option Bool:=(l.find? λq=>decide (5000<q)).map λq=>decide (1048576<q)
def tG(p:aU)(c:Cp):Bool:=match Bs c.aF with
 |some b=>b
 |none=>if(a8 p).1=0 then decide (b_ p p.aV<=iZ)&&p.on.all (λn=>decide (b_ p n<=iZ))else true
def pX{l:List Int}(h:∀j,j<l.length->l.getD j 0<=5000):Bs l=Xb:=by unfold Bs;rw[Option.map_eq_none_iff,List.find?_eq_none];intro q hq;obtain⟨j,hj,rfl⟩:=rZ hq;have:=h j hj;rw[dQ,ft hj]at this;simp at this ⊢;omega
def sF{l:List Int}:∀{i:Nat},i<l.length->(∀j,j<i->l.getD j 0<=5000)->5000<l.getD i 0->Bs l=O (decide (1048576<l.getD i 0)):=by
 induction l with
 |nil=>intro i h;simp at h
 |cons q l ih=>
  intro i hi h1 h2;cases i with
  |zero=>simp only[List.getD_cons_zero]at h2 ⊢;unfold Bs;rw[List.find?_cons_of_pos (by simpa using h2)];rfl
  |succ i=>have h0:=h1 0 G;simp only[List.getD_cons_zero]at h0;rw[List.getD_cons_succ]at h2 ⊢;have:=ih (i:=i) (by simpa using hi) (λj hj=>by have:=h1 (j+1) G;rwa[List.getD_cons_succ]at this) h2;unfold Bs at this ⊢;rw[List.find?_cons_of_neg kZ];exact this
def a0i{p:aU}{c:Cp}(h:tG p c=true)(hv:(a8 p).1=0)(hq:∀j,j<c.aF.length->c.aF.getD j 0<=1048576):oV p:=by
 unfold tG at h;cases X:Bs c.aF with
 |some b=>exfalso;rw[X]at h;dsimp only at h;subst h;unfold Bs at X;rw[Option.map_eq_some_iff]at X;obtain⟨q,h1,h2⟩:=X;have hm:=List.mem_of_find?_eq_some h1;obtain⟨j,hj,rfl⟩:=rZ hm;have:=hq j hj;rw[dQ,ft hj]at this;simp at this h2;omega
 |none=>
  rw[X]at h;dsimp only at h;rw[aE hv]at h;simp only[fh,fj,rB]at h;intro n hn;rcases List.mem_append.1 hn with hn|hn
  ·exact h.2 n hn
  ·simp at hn;subst hn;exact h.1
section
variable {w W0:ek}{K:Kp}{p:aU}{c:Cp}{qa:Option Addr}{qc pb cb gb:Nat}{Q:Exit->Act->ek->Prop}
def SN1(W0:ek)(c:Cp)(pb cb:Nat)(m:Nat)(a:Act)(W:ek):Prop:=∃(J:Nat->to) (i:Nat) (x:Int),a=G_ J/\J 2=Oi pb/\J 3=Oi cb/\J 5=Y x/\J 6=Y i/\i<=c.aF.length/\m+i=c.aF.length+1/\W=W0/\Hid (∀j,j<i->c.aF.getD j 0<=5000)
def sn1(HQ:Hid (aY W0 1 (H qa c.aF.length qc) c.aF.length (bd c.aF)))(HC:Hid (aH W0 cb 29 #[Y c.size,H qa c.aF.length qc]))
 (jD:∀(A:Array to) b,A.getD 4 undef= .bool b->Bs c.aF=O b->Q .ret {tmps:=A,defers:=[]} W0)
 (dD:∀(J:Nat->to),J 2=Oi pb->Bs c.aF=Xb->Q (.exit 0) (G_ J) W0)
 {a:Act} (h:SN1 W0 c pb cb (c.aF.length+1) a W0):(Code.loop (snL 0)).wp prog Q a W0:=by
 refine Mk.aM (λm a W=>SN1 W0 c pb cb m a W) (c.aF.length+1) h ?_ ?_
 ·rintro a W ⟨J,i,x,-,-,-,-,-,h1,h2,-⟩;omega
 rintro m a0 W ⟨J,i,x,rfl,j2,j3,j5,j6,hi,hm,rfl,HA⟩;unfold G_
 conv=>arg 2;whnf
 have hle:=HQ.o.len;rw[j2,j3,j5,j6];clear j2 j3 j5 j6;obtain⟨k0,k1⟩:=HC.o.c2;have lc:=HC.o.lt;by_cases be:i<c.aF.length
 ·obtain⟨b,off,cap,e,q1,q2,lb,hc⟩:=HQ.o.some G G;have w2:IntKind.i64.wrap ((i:Int)+1)=((i+1:Nat):Int):=by unfold maxLen at hle;rw[bJ _ kS];omega
  clear hle;simp only[cL]at e;obtain⟨rfl,-,rfl⟩:=e;have c0:Xf W (I b (off+i))=O (Y (c.aF.getD i 0)):=hc i G;have dm:=Z be;have HFS:=Z (λh=>sF (l:=c.aF) be HA.o h);obtain⟨z,hz⟩:∃z,c.aF.getD i 0=z:=⟨_,rfl⟩;rw[hz]at c0 HFS;have HZ:=Z hz;clear hz hc q2;by_cases h1:5000<z
  ·have HG:=Z (HFS.o h1);clear HFS;go_wp2;exact jD _ _ rfl HG.o
  ·have HG:=Z h1;clear HFS;go_wp2;refine⟨_,i+1,_,G_.of _ rfl,rfl,rfl,rfl,rfl,dm.o,G,rfl,Z λj hj=>?_⟩;by_cases e:j=i
   ·subst e;rw[HZ.o];have:=HG.o;omega
   ·exact HA.o j G
 ·obtain rfl:i=c.aF.length:=G;clear be;have HG:=Z (pX HA.o);go_wp2;exact Eq.mpr (bo (λa=>Q (.exit 0) a W) (G_.of _ rfl)) (dD _ rfl HG.o)
def SN2(W0:ek)(n:Nat)(g:Nat->Int)(ms:Int)(gb:Nat)(m:Nat)(a:Act)(W:ek):Prop:=∃(J:Nat->to) (i:Nat) (ok:Bool),a=G_ J/\J 7=Oi gb/\J 8= .bool ok/\J 9=Y i/\i<=n/\m+i=n+1/\W=W0/\Hid (ok=true↔ms<=20000/\∀j,j<i->g j<=20000)
def sn2{n:Nat}{g:Nat->Int}{ms:Int}(HQ:Hid (aY W0 1 (H qa n qc) n (λi=> Y (g i))))(hn:n<=16)(HC:Hid (aH W0 gb 97 #[H qa n qc,Y ms]))
 (dD:∀(J:Nat->to) ok,J 8= .bool ok->(ok=true↔ms<=20000/\∀j,j<n->g j<=20000)->Q (.exit 2) (G_ J) W0)
 {a:Act} (h:SN2 W0 n g ms gb (n+1) a W0):(Code.loop (snL 1)).wp prog Q a W0:=by
 refine Mk.aM (λm a W=>SN2 W0 n g ms gb m a W) (n+1) h ?_ ?_
 ·rintro a W ⟨J,i,ok,-,-,-,-,h1,h2,-⟩;omega
 rintro m a0 W ⟨J,i,ok,rfl,j7,j8,j9,hi,hm,rfl,HA⟩;unfold G_
 conv=>arg 2;whnf
 have w2:=mr i G;rw[j7,j8,j9];clear j7 j8 j9;obtain⟨k0,k1⟩:=HC.o.c2;have lc:=HC.o.lt;by_cases be:i<n
 ·obtain⟨b,off,cap,e,q1,q2,lb,hc⟩:=HQ.o.some G G;simp only[cL]at e;obtain⟨rfl,-,rfl⟩:=e;have c0:Xf W (I b (off+i))=O (Y (g i)):=hc i G;have dm:=Z be;have HS:Hid (∀z,g i=z->∀ok',(ok'=true↔ok=true/\z<=20000)->(ok'=true↔ms<=20000/\∀j,j<i+1->g j<=20000)):=Z λz hz ok' h=>by
   rw[h,HA.o];constructor
   ·rintro⟨⟨h1,h2⟩,h3⟩;refine⟨h1,λj hj=>?_⟩;by_cases e:j=i
    ·subst e;omega
    ·exact h2 j G
   ·rintro⟨h1,h2⟩;exact⟨⟨h1,λj hj=>h2 j G⟩,by rw[<-hz];exact h2 i G⟩
  obtain⟨z,hz⟩:∃z,g i=z:=⟨_,rfl⟩;rw[hz]at c0;have Ho:=Z (HS.o z hz);clear hz hc q2 HS;cases ok with
  |false=>have HG:=Z (Ho.o false az);clear Ho;go_wp2;exact⟨_,i+1,_,G_.of _ rfl,rfl,rfl,rfl,dm.o,G,rfl,HG⟩
  |true=>have HG:=Z (Ho.o (decide (z<=20000)) az);clear Ho;go_wp2;exact⟨_,i+1,_,G_.of _ rfl,rfl,rfl,rfl,dm.o,G,rfl,HG⟩
 ·obtain rfl:i=n:=G;clear be;go_wp2;exact Eq.mpr (bo (λa=>Q (.exit 2) a W) (G_.of _ rfl)) (dD _ _ rfl HA.o)
def abK{qv:to}(h:gM w K p)(hq:aY w 1 qv c.aF.length (bd c.aF)):Calls prog 14 #[pV K p,cV c qv] w (λe w'=>e=Xc (.bool (tG p c))/\Below w.heap.size w w'):=by
 obtain⟨⟨ga,gc,g1,g2,g3⟩,⟨va,vc,v1,v2,v3⟩,⟨ta,tc,t1,t2,t3⟩,⟨oa,oc,o1,o2,o3⟩,⟨ca,cc,c1,c2,c3⟩⟩:=h.sl;obtain⟨qa,qc,rfl,-,-⟩:=hq.val;have Vp:=Z (λV (X:Below w.heap.size w V)=>a0h (w:=V) (h.aG (aC.ai X)));have HQ:=Z hq;obtain⟨W0,jM⟩:∃W0,W0=(w.alloc (Xe #[H ga p.ap.length gc,H va p.vars.length vc,H ta p.aW.length tc,H oa p.on.length oc,Y p.aV,H ca p.code.length cc] 27)).alloc (Xe #[Y c.size,H qa c.aF.length qc] 29):=⟨_,rfl⟩;have kp:aH W0 w.heap.size 27 #[H ga p.ap.length gc,H va p.vars.length vc,H ta p.aW.length tc,H oa p.on.length oc,Y p.aV,H ca p.code.length cc]:=by rw[jM];exact(aH.new _ _ _).alloc _
 have kc:aH W0 (w.heap.size+1) 29 #[Y c.size,H qa c.aF.length qc]:=by rw[jM];exact aH.bK az
 have dG:Below w.heap.size w W0:=by rw[jM];exact((aZ _ _).alloc (aL _) _).alloc az _
 have k0:=kc.c1;unfold pV cV at*;rw[g1,v1,t1,o1,c1]at Vp ⊢;clear h hq g1 v1 t1 o1 c1 g2 g3 v2 v3 t2 t3 o2 o3 c2 c3;go_enter func14,ntmps14;have fM:=Z dG;have KP:=Z kp;have KC:=Z kc;clear dG kp kc;subst jM;go_wp2_with fail;obtain⟨W0,jM⟩:∃W0,W0=(w.alloc (Xe #[H ga p.ap.length gc,H va p.vars.length vc,H ta p.aW.length tc,H oa p.on.length oc,Y p.aV,H ca p.code.length cc] 27)).alloc (Xe #[Y c.size,H qa c.aF.length qc] 29):=⟨_,rfl⟩;rw[<-jM]at fM KP KC ⊢;clear jM k0;refine sn1 (W0:=W0) (pb:=w.heap.size) (cb:=w.heap.size+1) (Z (HQ.o.aG (aC.ai fM.o))) KC (λB b h4 X=>?_) (λJ j2 X=>?_) ⟨_,0,c.size,G_.of _ rfl,rfl,rfl,rfl,rfl,ck _,G,rfl,Z (λj hj=>absurd hj G)⟩
 ·try simp only[Exit.inBlock,Exit.then]
  have HV:=Z (show tG p c=b by unfold tG;rw[X])
  first|refine Vf.eF (P:=prog) (fn:=Proofs.Tryz.f14) rfl ?_|(rw[jO];refine Vf.eF (P:=prog) (fn:=Proofs.Tryz.f14) rfl ?_)
  exact⟨by rw[h4,HV.o],fM.o⟩
 have HV:=Z (show tG p c=(if(a8 p).1=0 then decide (b_ p p.aV<=iZ)&&p.on.all (λn=>decide (b_ p n<=iZ))else true)by unfold tG;rw[X]);unfold G_;rw[j2];clear j2 X;obtain⟨p0,p1,p2,p3,p4,p5⟩:=KP.o.c6;go_wp2_with fail;refine(Vp.o _ fM.o).mono ?_;rintro e W1 ⟨yx,ms,rfl,X,h1,h2⟩;have HT:Hid (∃(n:Nat) (g:Nat->Int),n<=16/\aY W1 1 yx n (λi=> Y (g i))/\(∀ok:Bool,(ok=true↔ms<=20000/\∀j,j<n->g j<=20000)->tG p c=ok)):=by
  refine Z ?_;by_cases hv:(a8 p).1=0
  ·obtain⟨e1,hr⟩:=h1 hv;have tb:uG p:=by exact U9
   refine⟨p.on.length,λi=>(b_ p (p.on.getD i 0):Nat),by have:=tb.on;have:=tb.g;omega,hr,λok nX=>?_⟩;rw[HV.o,aE hv];have:(decide (b_ p p.aV<=iZ)&&p.on.all (λn=>decide (b_ p n<=iZ)))=true↔ok=true:=by
    rw[nX,fh,fj,AJ (0:Int),e1];simp only[fj];unfold iZ;constructor
    ·rintro⟨a,b⟩;exact⟨G,λj hj=>by have:=b j hj;omega⟩
    ·rintro⟨a,b⟩;exact⟨G,λj hj=>by have:=b j hj;omega⟩
   exact Bool.eq_iff_iff.2 this
  ·obtain⟨e1,e2⟩:=h2 hv;refine⟨0,λ_=>0,G,.inl ⟨e1,rfl⟩,λok nX=>?_⟩;rw[HV.o,ax hv];exact(nX.2 ⟨by rw[e2];decide,λj hj=>absurd hj G⟩).symm
 obtain⟨n,g,hn,hr,nX⟩:=HT.o;have Bq:=Z nX;have HR:=Z hr;have dS:=Z (fM.o.trans (X.mono fM.o.size));obtain⟨a9,c9,rfl,-,-⟩:=hr.val;clear p0 p1 p2 p3 p4 p5 h1 h2 HT X hr nX Vp HV;go_wp2_with fail;refine sn2 (W0:=W1.alloc (Xe #[H a9 n c9,Y ms] 97)) (gb:=W1.heap.size) (Z (HR.o.aG ((aC.refl [] _).alloc _))) hn (Z (aH.new _ _ _)) (λJ ok j8 nX=>?_) ⟨_,0,decide (ms<=20000),G_.of _ rfl,rfl,rfl,rfl,ck _,G,rfl,Z az⟩;have HG:=Z (Bq.o ok nX);unfold G_;rw[j8];clear j8 nX;go_wp2
 first|refine Vf.eF (P:=prog) (fn:=Proofs.Tryz.f14) rfl ?_|(rw[jO];refine Vf.eF (P:=prog) (fn:=Proofs.Tryz.f14) rfl ?_)
 exact⟨by rw[HG.o];rfl,dS.o.alloc dS.o.size _⟩
end
end Go.Rv
end
namespace Go.Ma
open Go.RowKit al.Vm
open al hiding aS aw an
open Vf (aY Kp gM pV Ax JG)
def FO(J:Nat->to):Act:={tmps:=#[J 0,J 1,J 2,J 3,J 4,J 5,J 6,J 7,J 8,J 9,J 10,J 11,J 12,J 13,J 14,J 15,J 16,J 17,J 18,J 19,J 20,J 21,J 22,J 23,J 24,J 25,J 26,J 27,J 28,J 29,J 30,J 31,J 32,J 33,J 34],defers:=[]}
def FO.of(A:Array to)(h:A=(FO λk=>A.getD k undef).tmps):({tmps:=A,defers:=[]}:Act)=FO λk=>A.getD k undef:=by rw[h];rfl
def SO1(W0:ek)(n gb:Nat)(m:Nat)(a:Act)(W:ek):Prop:=∃(J:Nat->to) (i:Nat) (ok:Bool),a=FO J/\J 3=Oi gb/\J 5= .bool ok/\J 6=Y i/\i<=n/\m+i=n+1/\W=W0
section
variable {w:ek}{K:Kp}{p:aU}
def LS(hv:(a8 p).1=0):uG p:=by exact U9
def a0j(h:gM w K p):Calls prog 13 #[pV K p] w (λe w'=>(∃b,e=Xc (.bool b))/\Below w.heap.size w w'):=by
 have HR:=Z (λV (X:Below w.heap.size w V)=>JG (w:=V) (h.aG (aC.ai X)));obtain⟨⟨ga,gc,g1,g2,g3⟩,⟨va,vc,v1,v2,v3⟩,⟨ta,tc,t1,t2,t3⟩,⟨oa,oc,o1,o2,o3⟩,⟨ca,cc,c1,c2,c3⟩⟩:=h.sl;unfold pV at HR ⊢;rw[g1,v1,t1,o1,c1]at HR ⊢;have fM:=Z (show Below w.heap.size w (w.alloc (Xe #[H ga p.ap.length gc,H va p.vars.length vc,H ta p.aW.length tc,H oa p.on.length oc,Y p.aV,H ca p.code.length cc] 27))from(aZ _ _).alloc (aL _) _);clear h g1 v1 t1 o1 c1 g2 g3 v2 v3 t2 t3 o2 o3 c2 c3;go_enter func13,ntmps13;go_wp2_with fail;refine(HR.o _ fM.o).mono ?_;rintro e W1 ⟨yx,ms,rfl,⟨xa,xn,xc,rfl⟩,X,h1⟩;have dS:=Z (fM.o.trans (X.mono fM.o.size));have H1:=Z h1;clear X h1 HR fM;have hB:Below W1.heap.size W1 ((W1.alloc (Xe #[H xa xn xc,Y ms] 97)).alloc (Xe #[Y (a8 p).1,Y (a8 p).2] 99)):=((aZ _ _).alloc (aL _) _).alloc az _;have kc:aH ((W1.alloc (Xe #[H xa xn xc,Y ms] 97)).alloc (Xe #[Y (a8 p).1,Y (a8 p).2] 99)) W1.heap.size 97 #[H xa xn xc,Y ms]:=(aH.new _ _ _).alloc _;have Nf:=Z hB;have KC:=Z kc;clear hB kc;by_cases hv:(a8 p).1=0
 ·obtain⟨-,hr⟩:=H1.o hv;have hn:p.on.length<=16:=by have:=(LS hv).on;have:=(LS hv).g;omega
  have hrx:=hr;obtain⟨za,zc,ez,-,-⟩:=hrx.val;simp only[cL]at ez;obtain⟨rfl,rfl,rfl⟩:=ez;have HR:=Z (hr.aG (aC.ai (S:=[]) Nf.o));have d:((a8 p).1 !=0)=false:=by simp[hv]
  clear hr hrx H1;generalize(a8 p).1=x1 at*;generalize(a8 p).2=x2 at*;generalize hL:p.on.length=n at*;clear hL hv;go_wp2_with fail;have mM:=Z (dS.o.trans (Nf.o.mono dS.o.size));clear Nf dS;generalize(W1.alloc (Xe #[H xa n xc,Y ms] 97)).alloc (Xe #[Y x1,Y x2] 99)=W0 at*;generalize W1.heap.size=gb at*;refine Mk.aM (SO1 W0 n gb) (n+1) ⟨_,0,_,FO.of _ rfl,rfl,rfl,rfl,ck _,G,rfl⟩ (λa W hh=>by obtain⟨J,i,ok,-,-,-,-,h1,h2,-⟩:=hh;omega) ?_;rintro m a W ⟨J,i,ok,rfl,j3,j5,j6,hi,hm,rfl⟩;unfold FO;rw[j3,j5,j6];clear j3 j5 j6;have w2:=mr i G;have k0:=KC.o.c1;have lc:=KC.o.lt;by_cases be:i<n
  ·obtain⟨b,off,cap,e,q1,q2,lb,hc⟩:=HR.o.some G G;simp only[cL]at e;obtain⟨rfl,-,rfl⟩:=e;obtain⟨z,c0⟩:∃z,Xf W (I b (off+i))=O (Y z):=⟨_,hc i G⟩;have dm:=Z be;clear hc q2;cases ok with
   |false=>go_wp2_with fail;exact⟨_,i+1,_,FO.of _ rfl,rfl,rfl,rfl,dm.o,G,rfl⟩
   |true=>go_wp2_with fail;exact⟨_,i+1,_,FO.of _ rfl,rfl,rfl,rfl,dm.o,G,rfl⟩
  ·obtain rfl:i=n:=G;clear be;go_wp2
   first|refine Vf.eF (P:=prog) (fn:=Proofs.Tryz.f13) rfl ?_|(rw[jO];refine Vf.eF (P:=prog) (fn:=Proofs.Tryz.f13) rfl ?_)
   exact⟨⟨_,rfl⟩,mM.o⟩
 ·have d:((a8 p).1 !=0)=true:=by simpa using hv
  clear H1;generalize(a8 p).1=x1 at*;generalize(a8 p).2=x2 at*;clear hv;go_wp2
  first|refine Vf.eF (P:=prog) (fn:=Proofs.Tryz.f13) rfl ?_|(rw[jO];refine Vf.eF (P:=prog) (fn:=Proofs.Tryz.f13) rfl ?_)
  exact⟨⟨_,rfl⟩,dS.o.trans (Nf.o.mono dS.o.size)⟩
end
end Go.Ma
namespace Go.Ma
open Go.RowKit al.Vm
open al hiding aS aw an
open Vf (Kp gM pV aY cV)
section
variable {w:ek}{K:Kp}{p:aU}{c:Cp}{qv:to}{sa:Option Addr}{sn sc:Nat}
def a0k(h:Rv.tG p c=true)(hv:(a8 p).1=0)(nX:np p c=true):oV p:=by obtain⟨T,E⟩:=RW hv nX;exact Rv.a0i h hv λj hj=>(E.ii.q1 j (by rw[<-E.ii.len];exact hj)).2
def a0l(h:gM w K p)(hq:aY w 1 qv c.aF.length (bd c.aF))(hs:AH w sa sn):Calls prog 6 #[pV K p,cV c qv,H sa sn sc] w (λe w'=>e=Xc (.bool true)/\Below w.heap.size w w'):=by
 obtain⟨⟨ga,gc,g1,g2,g3⟩,⟨va,vc,v1,v2,v3⟩,⟨ta,tc,t1,t2,t3⟩,⟨oa,oc,o1,o2,o3⟩,⟨ca,cc,c1,c2,c3⟩⟩:=h.sl;obtain⟨qa,qc,rfl,-,-⟩:=hq.val;have HFW:=Z (λV (X:Below w.heap.size w V)=>Vf.ae6 V (h.aG (aC.ai X)));have HSP:=Z (λV (X:Below w.heap.size w V)=>a0j (w:=V) (h.aG (aC.ai X)));have HSO:=Z (λV (X:Below w.heap.size w V)=>Rv.abK (w:=V) (h.aG (aC.ai X)) (hq.aG (aC.ai X)));have HNW:=Z (λV (X:Below w.heap.size w V) (hS:(a8 p).1=0->np p c=true->oV p)=>JN (w:=V) (h.aG (aC.ai X)) (hq.aG (aC.ai X)) hS);have HS:=Z hs;have No:=Z (show Arg w K.g (H qa c.aF.length qc) p c from⟨h.g,hq⟩);obtain⟨W0,jM⟩:∃W0,W0=(w.alloc (Xe #[H ga p.ap.length gc,H va p.vars.length vc,H ta p.aW.length tc,H oa p.on.length oc,Y p.aV,H ca p.code.length cc] 27)).alloc (Xe #[Y c.size,H qa c.aF.length qc] 29):=⟨_,rfl⟩;have kp:aH W0 w.heap.size 27 #[H ga p.ap.length gc,H va p.vars.length vc,H ta p.aW.length tc,H oa p.on.length oc,Y p.aV,H ca p.code.length cc]:=by rw[jM];exact(aH.new _ _ _).alloc _
 have kc:aH W0 (w.heap.size+1) 29 #[Y c.size,H qa c.aF.length qc]:=by rw[jM];exact aH.bK az
 have dG:Below w.heap.size w W0:=by rw[jM];exact((aZ _ _).alloc (aL _) _).alloc az _
 have HKN:=Z (ae5 W0);unfold pV cV at*;rw[g1]at No;rw[g1,v1,t1,o1,c1]at HFW HSP HSO HNW ⊢;clear h hq hs g1 v1 t1 o1 c1 g2 g3 v2 v3 t2 t3 o2 o3 c2 c3;have fM:=Z dG;have KP:=Z kp;have KC:=Z kc;clear dG kp kc;go_enter func6,ntmps6;go_wp2_with fail;rw[<-jM];clear jM;refine HKN.o.mono ?_;rintro e W1 ⟨rfl,fS⟩;have dS:=Z (fM.o.trans (fS.mono fM.o.size));have AN:=Z fS;clear fS;have p0:Xf W1 (I w.heap.size 0)=O (H ga p.ap.length gc):=(KP.o.aG (aC.ai (S:=[]) AN.o) az).cell 0;have p1:Xf W1 (I w.heap.size 1)=O (H va p.vars.length vc):=(KP.o.aG (aC.ai (S:=[]) AN.o) az).cell 1;have p2:Xf W1 (I w.heap.size 2)=O (H ta p.aW.length tc):=(KP.o.aG (aC.ai (S:=[]) AN.o) az).cell 2;have p3:Xf W1 (I w.heap.size 3)=O (H oa p.on.length oc):=(KP.o.aG (aC.ai (S:=[]) AN.o) az).cell 3;have p4:Xf W1 (I w.heap.size 4)=O (Y p.aV):=(KP.o.aG (aC.ai (S:=[]) AN.o) az).cell 4;have p5:Xf W1 (I w.heap.size 5)=O (H ca p.code.length cc):=(KP.o.aG (aC.ai (S:=[]) AN.o) az).cell 5;have q0:Xf W1 (I (w.heap.size+1) 0)=O (Y c.size):=(KC.o.aG (aC.ai (S:=[]) AN.o) az).cell 0;have q1:Xf W1 (I (w.heap.size+1) 1)=O (H qa c.aF.length qc):=(KC.o.aG (aC.ai (S:=[]) AN.o) az).cell 1;go_wp2_with fail;refine(HFW.o _ dS.o).mono ?_;rintro e W2 ⟨rfl,dR⟩;have nN:=Z (AN.o.trans (dR.mono AN.o.size));have fR:=Z (dS.o.trans (dR.mono dS.o.size));clear p0 p1 p2 p3 p4 p5 q0 q1 dR;have p0:Xf W2 (I w.heap.size 0)=O (H ga p.ap.length gc):=(KP.o.aG (aC.ai (S:=[]) nN.o) az).cell 0;have p1:Xf W2 (I w.heap.size 1)=O (H va p.vars.length vc):=(KP.o.aG (aC.ai (S:=[]) nN.o) az).cell 1;have p2:Xf W2 (I w.heap.size 2)=O (H ta p.aW.length tc):=(KP.o.aG (aC.ai (S:=[]) nN.o) az).cell 2;have p3:Xf W2 (I w.heap.size 3)=O (H oa p.on.length oc):=(KP.o.aG (aC.ai (S:=[]) nN.o) az).cell 3;have p4:Xf W2 (I w.heap.size 4)=O (Y p.aV):=(KP.o.aG (aC.ai (S:=[]) nN.o) az).cell 4;have p5:Xf W2 (I w.heap.size 5)=O (H ca p.code.length cc):=(KP.o.aG (aC.ai (S:=[]) nN.o) az).cell 5;have q0:Xf W2 (I (w.heap.size+1) 0)=O (Y c.size):=(KC.o.aG (aC.ai (S:=[]) nN.o) az).cell 0;have q1:Xf W2 (I (w.heap.size+1) 1)=O (H qa c.aF.length qc):=(KC.o.aG (aC.ai (S:=[]) nN.o) az).cell 1;by_cases hf:p.code.length<=3000
 ·have d:decide (p.code.length<=3000)=true:=ti hf;rw[d];clear d hf;go_wp2_with fail;refine(HSP.o _ fR.o).mono ?_;rintro e W3 ⟨⟨b3,rfl⟩,s_⟩;have Ku:=Z (nN.o.trans (s_.mono nN.o.size));have mM:=Z (fR.o.trans (s_.mono fR.o.size));clear p0 p1 p2 p3 p4 p5 q0 q1 s_;cases b3 with
  |false=>
   go_wp2
   first|refine Vf.eF (P:=prog) (fn:=Proofs.Tryz.f6) rfl ?_|(rw[jO];refine Vf.eF (P:=prog) (fn:=Proofs.Tryz.f6) rfl ?_)
   exact⟨rfl,mM.o⟩
  |true=>
   have p0:Xf W3 (I w.heap.size 0)=O (H ga p.ap.length gc):=(KP.o.aG (aC.ai (S:=[]) Ku.o) az).cell 0;have p1:Xf W3 (I w.heap.size 1)=O (H va p.vars.length vc):=(KP.o.aG (aC.ai (S:=[]) Ku.o) az).cell 1;have p2:Xf W3 (I w.heap.size 2)=O (H ta p.aW.length tc):=(KP.o.aG (aC.ai (S:=[]) Ku.o) az).cell 2;have p3:Xf W3 (I w.heap.size 3)=O (H oa p.on.length oc):=(KP.o.aG (aC.ai (S:=[]) Ku.o) az).cell 3;have p4:Xf W3 (I w.heap.size 4)=O (Y p.aV):=(KP.o.aG (aC.ai (S:=[]) Ku.o) az).cell 4;have p5:Xf W3 (I w.heap.size 5)=O (H ca p.code.length cc):=(KP.o.aG (aC.ai (S:=[]) Ku.o) az).cell 5;have q0:Xf W3 (I (w.heap.size+1) 0)=O (Y c.size):=(KC.o.aG (aC.ai (S:=[]) Ku.o) az).cell 0;have q1:Xf W3 (I (w.heap.size+1) 1)=O (H qa c.aF.length qc):=(KC.o.aG (aC.ai (S:=[]) Ku.o) az).cell 1;go_wp2_with fail;refine(HSO.o _ mM.o).mono ?_;rintro e W4 ⟨rfl,xX⟩;have Tu:=Z (Ku.o.trans (xX.mono Ku.o.size));have iw:=Z (mM.o.trans (xX.mono mM.o.size));clear p0 p1 p2 p3 p4 p5 q0 q1 xX;cases qq:Rv.tG p c with
   |false=>
    clear qq;go_wp2
    first|refine Vf.eF (P:=prog) (fn:=Proofs.Tryz.f6) rfl ?_|(rw[jO];refine Vf.eF (P:=prog) (fn:=Proofs.Tryz.f6) rfl ?_)
    exact⟨rfl,iw.o⟩
   |true=>
    have HSN:=Z (a0k (p:=p) (c:=c) qq);clear qq;have p0:Xf W4 (I w.heap.size 0)=O (H ga p.ap.length gc):=(KP.o.aG (aC.ai (S:=[]) Tu.o) az).cell 0;have p1:Xf W4 (I w.heap.size 1)=O (H va p.vars.length vc):=(KP.o.aG (aC.ai (S:=[]) Tu.o) az).cell 1;have p2:Xf W4 (I w.heap.size 2)=O (H ta p.aW.length tc):=(KP.o.aG (aC.ai (S:=[]) Tu.o) az).cell 2;have p3:Xf W4 (I w.heap.size 3)=O (H oa p.on.length oc):=(KP.o.aG (aC.ai (S:=[]) Tu.o) az).cell 3;have p4:Xf W4 (I w.heap.size 4)=O (Y p.aV):=(KP.o.aG (aC.ai (S:=[]) Tu.o) az).cell 4;have p5:Xf W4 (I w.heap.size 5)=O (H ca p.code.length cc):=(KP.o.aG (aC.ai (S:=[]) Tu.o) az).cell 5;have q0:Xf W4 (I (w.heap.size+1) 0)=O (Y c.size):=(KC.o.aG (aC.ai (S:=[]) Tu.o) az).cell 0;have q1:Xf W4 (I (w.heap.size+1) 1)=O (H qa c.aF.length qc):=(KC.o.aG (aC.ai (S:=[]) Tu.o) az).cell 1;go_wp2_with fail;refine(HNW.o _ iw.o HSN.o).mono ?_;rintro e W5 ⟨re,⟨-,er,OT,rfl⟩|⟨hv,nX,CA,rfl,hvm⟩⟩
    ·have gY:=Z (iw.o.trans (re.mono iw.o.size));have he0:(er==0)=false:=by simpa using OT
     have he1:(er !=0)=true:=by simpa using OT
     clear p0 p1 p2 p3 p4 p5 q0 q1 re;go_wp2
     first|refine Vf.eF (P:=prog) (fn:=Proofs.Tryz.f6) rfl ?_|(rw[jO];refine Vf.eF (P:=prog) (fn:=Proofs.Tryz.f6) rfl ?_)
     exact⟨rfl,gY.o⟩
    ·have gY:=Z (iw.o.trans (re.mono iw.o.size));have RT:=Z hvm;have HL5:=Z (And.intro iw.o.size re);have Ht:=Z (show aH W4 w.heap.size 27 #[H ga p.ap.length gc,H va p.vars.length vc,H ta p.aW.length tc,H oa p.on.length oc,Y p.aV,H ca p.code.length cc]/\aH W4 (w.heap.size+1) 29 #[Y c.size,H qa c.aF.length qc]from⟨KP.o.aG (aC.ai (S:=[]) Tu.o) az,KC.o.aG (aC.ai (S:=[]) Tu.o) az⟩);have HAR:=Z (No.o.later iw.o);have N0:=Z (HS.o.later iw.o);clear p0 p1 p2 p3 p4 p5 q0 q1 re hvm hv nX;go_wp2_with fail;refine adU (Vb:=W4) (pb:=w.heap.size) (mb:=CA.mb) (p:=p) (c:=c) (sn:=sn) (sc:=sc) (sa:=sa) N0 Ht HAR (λJ W X=>?_) ⟨_,0,G_.of _ rfl,rfl,rfl,rfl,rfl,rfl,ck _,G,Z ⟨HL5.o.2,CA,_,_,_,rfl,RT.o,Int.le_refl 0,Int.le_refl 0⟩⟩;have HB:=Z (iw.o.trans (X.mono HL5.o.1));clear X;unfold G_;go_wp2
     first|refine Vf.eF (P:=prog) (fn:=Proofs.Tryz.f6) rfl ?_|(rw[jO];refine Vf.eF (P:=prog) (fn:=Proofs.Tryz.f6) rfl ?_)
     exact⟨rfl,HB.o⟩
 ·have d:decide (p.code.length<=3000)=false:=decide_eq_false hf;rw[d];clear d hf;go_wp2
  first|refine Vf.eF (P:=prog) (fn:=Proofs.Tryz.f6) rfl ?_|(rw[jO];refine Vf.eF (P:=prog) (fn:=Proofs.Tryz.f6) rfl ?_)
  exact⟨rfl,fR.o⟩
end
end Go.Ma
