import Derived.Test.YtblkblclmbhjiaaGreatZ5
set_option linter.all false
set_option maxHeartbeats 40000000
set_option maxRecDepth 100000
open Go.Proofs.Tryz
open Option renaming some->O,none->Xb
open Go renaming Value->to,World->ek
open Go.Value renaming slice->H
open Go.Obj renaming cells->Xe
open Go.Ending renaming returned->Xc
open Go.World renaming cell?->Xf
abbrev jO:=@Go.Exit.noGoto_ret
namespace Go.Vf
open Go.RowKit al.Vm
open al hiding aS aw an
open Ma (dW cy bd vb aK a_)
def Vl(w V:ek)(x0 x1 x2 x3 x4 x5 x6 x7 x8 x9 Mj TL TM x13:to):Prop:=Xf V (I w.heap.size 1)=O x0/\Xf V (I (w.heap.size+1) 0)=O x1/\Xf V (I (w.heap.size+1) 1)=O x2/\Xf V (I (w.heap.size+1) 2)=O x3/\Xf V (I (w.heap.size+1) 3)=O x4/\Xf V (I (w.heap.size+1) 4)=O x5/\Xf V (I (w.heap.size+1) 5)=O x6/\Xf V (I (w.heap.size+1) 6)=O x7/\Xf V (I (w.heap.size+1) 7)=O x8/\Xf V (I (w.heap.size+1) 8)=O x9/\Xf V (I (w.heap.size+1) 9)=O Mj/\Xf V (I (w.heap.size+1) 10)=O TL/\Xf V (I (w.heap.size+1) 11)=O TM/\Xf V (I (w.heap.size+1) 12)=O x13
def StK(w V:ek)(x0 x1 x2 x3 x4 x5 x6 x7 x8 x9 Mj TL TM x13:to)(q:Addr)(y:to):Prop:=Xf V (I w.heap.size 1)=O x0/\Xf V (I (w.heap.size+1) 0)=O x1/\Xf V (I (w.heap.size+1) 1)=O x2/\Xf V (I (w.heap.size+1) 2)=O x3/\Xf V (I (w.heap.size+1) 3)=O x4/\Xf V (I (w.heap.size+1) 4)=O x5/\Xf V (I (w.heap.size+1) 5)=O x6/\Xf V (I (w.heap.size+1) 6)=O x7/\Xf V (I (w.heap.size+1) 7)=O x8/\Xf V (I (w.heap.size+1) 8)=O x9/\Xf V (I (w.heap.size+1) 9)=O Mj/\Xf V (I (w.heap.size+1) 10)=O TL/\Xf V (I (w.heap.size+1) 11)=O TM/\Xf V (I (w.heap.size+1) 12)=O x13/\Xf V q=O y
def C8:Std:=⟨[],[],0⟩
def fO(T:Map)(i:Nat):Std:=(T i).getD C8
def stC(T:Map)(mv:Nat->to)(o:Nat):to:=(de (T (o / 13)).isSome (fO T (o / 13)) (mv (o / 13))).getD (o % 13) undef
structure js(w:ek)(jN:to)(n:Nat)(T:Map)(mv:Nat->to):Prop where
 row:Row w 233 13 jN n (stC T mv)
 more:∀i,i<n->dF w (mv i) (fO T i).lo
 off:∀i,i<n->∀b,(mv i).ownBlock=O b->jN.ownBlock≠O b
section
variable {w w':ek}{jN:to}{n:Nat}{T:Map}{mv:Nat->to}
def js.aG(h:js w jN n T mv)(f:aC [] w w'):js w' jN n T mv:=⟨h.row.aG f az,λi hi=>(h.more i hi).aG f,h.off⟩
def js.Yr(h:js w jN n T mv){i:Nat}(hi:i<n):∃b cap,jN=H (O (I b 0)) n cap/\n<=cap/\cap<=maxLen/\b<w.heap.size/\
 Xf w (I b (i*13))=O (.bool (T i).isSome)/\Xf w (I b (i*13+1))=O (.string (ir (fO T i).ty))/\
 Xf w (I b (i*13+2))=O (Y (bO (fO T i).lo 0))/\Xf w (I b (i*13+3))=O (Y (bO (fO T i).lo 1))/\Xf w (I b (i*13+4))=O (Y (bO (fO T i).lo 2))/\
 Xf w (I b (i*13+5))=O (Y (bO (fO T i).lo 3))/\Xf w (I b (i*13+6))=O (Y (bO (fO T i).lo 4))/\Xf w (I b (i*13+7))=O (Y (bO (fO T i).lo 5))/\
 Xf w (I b (i*13+8))=O (Y (bO (fO T i).lo 6))/\Xf w (I b (i*13+9))=O (Y (bO (fO T i).lo 7))/\Xf w (I b (i*13+10))=O (Y (fO T i).lo.length)/\
 Xf w (I b (i*13+11))=O (Y (fO T i).ha)/\Xf w (I b (i*13+12))=O (mv i):=by
 obtain⟨b,cap,rfl,h1,h2,h3⟩:=h.row.some G;have key:∀k,k<13->Xf w (I b (i*13+k))=O ((de (T i).isSome (fO T i) (mv i)).getD k undef):=λk hk=>by have e:=h.row.cell (o:=i*13+k) G;rw[e];unfold stC;rw[show(i*13+k) / 13=i by omega,show(i*13+k) % 13=k by omega]
 exact⟨b,cap,rfl,h1,h2,h3,key 0 G,key 1 G,key 2 G,key 3 G,key 4 G,key 5 G,key 6 G,key 7 G,key 8 G,key 9 G,key 10 G,key 11 G,key 12 G⟩
def Lm{p:aU}{T:Map}(hT:∀q s,T q=O s->dI p T q s.lo):∀(l:List Nat) (q:Nat),dI p T q l->l.length<=q:=by
 intro l
 induction l with
 |nil=>intro q _;exact ck _
 |cons t l ih=>intro q h;obtain⟨h1,-,s,h2,rfl⟩:=h;have:=ih t (hT t s h2);simp only[List.length_cons];omega
def aam(p:aU)(n:Int):DO p.on.length (λi=>p.on.getD i 0) n=p.on.contains n:=by
 unfold DO;rw[jH];simp only[Bool.not_eq_true',rQ,List.contains_iff_mem];constructor
 ·intro h;apply Classical.byContradiction;intro hn;refine h λi hi e=>hn ?_;rw[<-e,dQ,ft hi];exact il hi
 ·intro h hn;obtain⟨i,hi,e⟩:=rZ h;refine hn i hi ?_;rw[dQ,ft hi];exact e
def Rj(p:aU)(xa:Int):List Nat->Bool
 |[]=>false
 |t::_=>decide (xa=(ak p t).a)
def Js(T:Map)(xa:Int)(ty:List Nat):List Nat->Bool
 |[]=>false
 |t::l=>decide (xa=t)&&(match T t with|some s=>decide (s.ty=ty/\s.lo=l)|none=>decide (ty=[]/\l=[]))
structure afC(p:aU)(T:Map)(pc:Nat)(x:Ins)(s:Std):Prop where
 pN:pc<p.code.length
 dO:0<=x.op
 AW:x.op=22\/x.op=23\/x.op=25\/x.op=26->0<=x.a/\x.a<p.code.length
 jE:dI p T pc s.lo
 hty:fy s.ty
 hT:∀q st,T q=O st->dI p T q st.lo/\fy st.ty
 len:p.code.length<=262144
variable {K:Kp}{p:aU}{vb:Nat}{pc:Nat}{x:Ins}{s:Std}{smv:to}
def NO{p:Prop}(h:p:=by
 unfold a_ aK ey de;dsimp only;rw[HF.o];generalize ir ty=tb;generalize bO lo=lc;rcases hj with rfl|rfl|rfl|rfl
 all_goals
  exact Vn):p:=h
def Vo{p:Prop}(h:p:=by
 unfold a_ aK ey de;dsimp only;generalize ir ty=tb;generalize bO lo=lc;exact Vn):p:=h
def Vn{p:Prop}(h:p:=by
 go_enter func245,ntmps245;go_wp2_with fail;refine eF rfl ?_;exact⟨rfl,hB _ _ _ _⟩):p:=h
def rk{p:Prop}(h:p:=by
 intro wz fF
 (try dsimp only at fF)
 exact qZ):p:=h
def DQ(h:gM w K p)(hv:aH w vb 230 (uf K p jN))(hs:js w jN p.code.length T mv)(hm:dF w smv s.lo)(J:afC p T pc x s):
 Calls prog 245 #[Oi vb,Y pc,a_ x,ey true s smv] w (λe w'=>e=Xc (.bool (cZ p T pc x s.ty s.lo))/\Below w.heap.size w w'):=by
 obtain⟨op,xa,xb,xc,xd⟩:=x;obtain⟨ty,lo,ha⟩:=s;obtain⟨pN,dO,AW,jE,hty,hT,hlen⟩:=J;dsimp only at dO AW jE hty hm;obtain⟨ma,mc,rfl,m1,m2⟩:=aY.val hm;have Mt:=Lm (λq s h=>(hT q s h).1) lo pc jE;have ado:pc<262144:=G;have hB:=Mi w;obtain⟨v0,-,-,v3,v4,v5,v6⟩:=hv.c7;have lv:=hv.lt;obtain⟨cb,An,Du,kc,q1,q2,lcb,-⟩:=h.cd.some G G;have INS:∀i,i<p.code.length->Xf w (I cb (An+i*5))=O (Y (ak p i).op)/\Xf w (I cb (An+i*5+1))=O (Y (ak p i).a):=by intro i hi;obtain⟨b,off,cap,hv,-,-,c0,c1,-⟩:=h.ins hi;rw[kc]at hv;simp only[cL,iI,Addr.mk.injEq]at hv;obtain⟨⟨rfl,rfl,-⟩,-,-⟩:=hv;exact⟨c0,c1⟩
 have NB:=Z INS;rw[kc]at v5;clear INS;by_cases hj:op=22\/op=23\/op=25\/op=26
 ·obtain⟨a0,a1⟩:=AW hj;obtain⟨m,rfl⟩:=eS a0;have Ka:m<p.code.length:=G;obtain⟨c0,-⟩:=NB.o m Ka;by_cases h1:m<=pc
  ·have HF:=Z (show cZ p T pc ⟨op,m,xb,xc,xd⟩ ty lo=false by unfold cZ;rw[aE ⟨hj,.inl (by dsimp only;omega)⟩]);clear hv hs hm jE hT h q1 q2 m1 m2;exact NO
  ·have Et:cZ p T pc ⟨op,m,xb,xc,xd⟩ ty lo=if(ak p m).op=25 then false else if op=25 then decide (0<pc)&&decide ((ak p (pc-1)).op=24)&&decide (p.aV≠pc)&& !p.on.contains (pc:Int)else if op=26 then Rj p m lo else true:=by
    unfold cZ;dsimp only[Int.toNat_natCast];by_cases e:(ak p m).op=25
    ·rw[aE ⟨hj,.inr e⟩,aE e]
    ·rw[ax (by rintro⟨-,h'|h'⟩;omega;exact e h'),ax (show¬op=24 by omega),ax e];rcases hj with rfl|rfl|rfl|rfl<;>cases lo<;>rfl
   by_cases h2:(ak p m).op=25
   ·have HF:=Z (show cZ p T pc ⟨op,m,xb,xc,xd⟩ ty lo=false by rw[Et,aE h2]);rw[h2]at c0;clear hv hs jE hT h q1 q2 m1 m2 Et h2;exact NO
   rw[ax h2]at Et;generalize(ak p m).op=om at c0 h2;rw[Et];have HT:=Z hT;have HM:=Z hm;have HH:=Z h;clear Et hT h hs;by_cases o5:op=25
   ·subst o5;rw[aE rfl];by_cases hp0:pc=0
    ·subst hp0;unfold a_ aK ey de;dsimp only;generalize ir ty=tb;generalize bO lo=lc;go_enter func245,ntmps245;go_wp2_with fail;refine eF rfl ?_;exact⟨az,hB _ _ _ _⟩
    ·have w2:IntKind.i64.wrap ((pc:Int) - 1)=((pc-1:Nat):Int):=by rw[bJ _ kS];omega
     have e1:decide (0<pc)=true:=by simp<;>omega
     have hpp:0<pc:=G;have hkl:pc-1<p.code.length:=G;rw[e1];generalize pc-1=k at*;obtain⟨d0,-⟩:=NB.o k hkl;by_cases d24:(ak p k).op=24
     ·rw[d24]at d0;rw[d24];by_cases hmi:p.aV=(pc:Int)
      ·have hr:∀b:Bool,(true&&decide ((24:Int)=24)&&decide (p.aV≠(pc:Int))&&b)=false:=λb=>by simp[hmi]
       rw[hr];rw[hmi]at v4;exact Vo
      ·have hr:∀b:Bool,(true&&decide ((24:Int)=24)&&decide (p.aV≠(pc:Int))&&b)=b:=λb=>by have e9:decide (p.aV≠(pc:Int))=true:=ti hmi;rw[e9];cases b<;>rfl
       rw[hr,<-aam];have Vp:=Z (λV (f:aC [] w V)=>aeh (w:=V) (f:=λi=>p.on.getD i 0) (HH.o.aG f).o (pc:Int));obtain⟨oa,oc,ko,-,-⟩:=HH.o.o.val;rw[ko]at v3 Vp;generalize p.aV=pm at*;generalize DO p.on.length (λi=>p.on.getD i 0) (pc:Int)=X at*;unfold a_ aK ey de;dsimp only;generalize ir ty=tb;generalize bO lo=lc;go_enter func245,ntmps245;go_wp2_with fail;refine(Vp.o _ ((aC.ai (hB _ _ _ _)))).mono ?_;rintro e w' ⟨rfl,rfl⟩;cases X
       ·go_wp2_with fail;refine eF rfl ?_;have e9:(pm !=(pc:Int))=true:=by simp[hmi]
        exact⟨by rw[show(!false)=true from rfl,<-e9];rfl,hB _ _ _ _⟩
       ·go_wp2_with fail;refine eF rfl ?_;exact⟨rfl,hB _ _ _ _⟩
     ·have hr:∀b c:Bool,(true&&decide ((ak p k).op=24)&&b&&c)=false:=λb c=>by simp[d24]
      rw[hr];generalize(ak p k).op=ok at d0 d24;unfold a_ aK ey de;dsimp only;generalize ir ty=tb;generalize bO lo=lc;go_enter func245,ntmps245;go_wp2_with fail;refine eF rfl ?_;exact⟨by simp[d24],hB _ _ _ _⟩
   rw[ax o5];by_cases o6:op=26
   ·subst o6;rw[aE rfl];have mY:Hid (∀V,Below w.heap.size w V->Calls prog 300 #[ey true ⟨ty,lo,ha⟩ (H ma (lo.length-8) mc)] V (λe w'=>e=Xc (Y (qK lo))/\Below V.heap.size V w')):=Z (λV X=>Li V true (s:=⟨ty,lo,ha⟩) (aY.aG HM.o (aC.ai X)) (by dsimp only;omega));clear v0 v3 v4 v6 HM;unfold a_ aK ey de;dsimp only;unfold ey de at mY;dsimp only at mY;generalize ir ty=tb at*;cases lo with
    |nil=>
     rw[show Rj p m []=false from rfl];rw[show qK []= -1 from rfl]at mY;generalize bO []=lc at*;generalize([]:List Nat).length=ln at*;generalize ln-8=n8 at*;have Jt:aH (((w.alloc (Xe #[Y 26,Y m,Y xb,Y xc,Y xd] 40)).alloc (Xe #[.bool true,.string tb,Y (lc 0),Y (lc 1),Y (lc 2),Y (lc 3),Y (lc 4),Y (lc 5),Y (lc 6),Y (lc 7),Y ln,Y ha,H ma n8 mc] 233)).drew) w.heap.size 40 #[Y 26,Y m,Y xb,Y xc,Y xd]:=((aH.new w _ _).alloc _).drewN 1;have im:aH (((w.alloc (Xe #[Y 26,Y m,Y xb,Y xc,Y xd] 40)).alloc (Xe #[.bool true,.string tb,Y (lc 0),Y (lc 1),Y (lc 2),Y (lc 3),Y (lc 4),Y (lc 5),Y (lc 6),Y (lc 7),Y ln,Y ha,H ma n8 mc] 233)).drew) (w.heap.size+1) 233 #[.bool true,.string tb,Y (lc 0),Y (lc 1),Y (lc 2),Y (lc 3),Y (lc 4),Y (lc 5),Y (lc 6),Y (lc 7),Y ln,Y ha,H ma n8 mc]:=(aH.bK az).drewN 1;have qt:Vl w (((w.alloc (Xe #[Y 26,Y m,Y xb,Y xc,Y xd] 40)).alloc (Xe #[.bool true,.string tb,Y (lc 0),Y (lc 1),Y (lc 2),Y (lc 3),Y (lc 4),Y (lc 5),Y (lc 6),Y (lc 7),Y ln,Y ha,H ma n8 mc] 233)).drew) (Y m) (.bool true) (.string tb) (Y (lc 0)) (Y (lc 1)) (Y (lc 2)) (Y (lc 3)) (Y (lc 4)) (Y (lc 5)) (Y (lc 6)) (Y (lc 7)) (Y ln) (Y ha) (H ma n8 mc):=⟨Jt.cell 1,im.cell 0,im.cell 1,im.cell 2,im.cell 3,im.cell 4,im.cell 5,im.cell 6,im.cell 7,im.cell 8,im.cell 9,im.cell 10,im.cell 11,im.cell 12⟩;have fM:Hid (Below w.heap.size w ((w.alloc (Xe #[Y 26,Y m,Y xb,Y xc,Y xd] 40)).alloc (Xe #[.bool true,.string tb,Y (lc 0),Y (lc 1),Y (lc 2),Y (lc 3),Y (lc 4),Y (lc 5),Y (lc 6),Y (lc 7),Y ln,Y ha,H ma n8 mc] 233)).drew):=Z ((hB #[Y 26,Y m,Y xb,Y xc,Y xd] 40 #[.bool true,.string tb,Y (lc 0),Y (lc 1),Y (lc 2),Y (lc 3),Y (lc 4),Y (lc 5),Y (lc 6),Y (lc 7),Y ln,Y ha,H ma n8 mc] 233).trans (aA _ _ 1));have C1:Hid (∀V:ek,Hid (Below w.heap.size w V)->(Vl w V (Y m) (.bool true) (.string tb) (Y (lc 0)) (Y (lc 1)) (Y (lc 2)) (Y (lc 3)) (Y (lc 4)) (Y (lc 5)) (Y (lc 6)) (Y (lc 7)) (Y ln) (Y ha) (H ma n8 mc))->Calls prog 300 #[.agg #[.bool true,.string tb,Y (lc 0),Y (lc 1),Y (lc 2),Y (lc 3),Y (lc 4),Y (lc 5),Y (lc 6),Y (lc 7),Y ln,Y ha,H ma n8 mc]] V λe V'=>e=Xc (Y (-1))/\(Vl w V' (Y m) (.bool true) (.string tb) (Y (lc 0)) (Y (lc 1)) (Y (lc 2)) (Y (lc 3)) (Y (lc 4)) (Y (lc 5)) (Y (lc 6)) (Y (lc 7)) (Y ln) (Y ha) (H ma n8 mc))/\Hid (Below w.heap.size w V')):=by refine Z λV X hs=>(mY.o V X.o).mono ?_;rintro e V' ⟨rfl,q_⟩;have key:∀b i v,Xf V (I b i)=O v->Xf V' (I b i)=O v:=λb i v hc=>(aR (q_.block _ (ay hc))).trans hc;exact⟨rfl,⟨key _ _ _ hs.1,key _ _ _ hs.2.1,key _ _ _ hs.2.2.1,key _ _ _ hs.2.2.2.1,key _ _ _ hs.2.2.2.2.1,key _ _ _ hs.2.2.2.2.2.1,key _ _ _ hs.2.2.2.2.2.2.1,key _ _ _ hs.2.2.2.2.2.2.2.1,key _ _ _ hs.2.2.2.2.2.2.2.2.1,key _ _ _ hs.2.2.2.2.2.2.2.2.2.1,key _ _ _ hs.2.2.2.2.2.2.2.2.2.2.1,key _ _ _ hs.2.2.2.2.2.2.2.2.2.2.2.1,key _ _ _ hs.2.2.2.2.2.2.2.2.2.2.2.2.1,key _ _ _ hs.2.2.2.2.2.2.2.2.2.2.2.2.2⟩,Z (X.o.trans (q_.mono X.o.size))⟩
     clear Jt im mY;go_enter func245,ntmps245;go_wp2;refine Mk.bq (S:=(λwx=>Xf wx (I w.heap.size 1)=O (Y m)/\Xf wx (I (w.heap.size+1) 0)=O (.bool true)/\Xf wx (I (w.heap.size+1) 1)=O (.string tb)/\Xf wx (I (w.heap.size+1) 2)=O (Y (lc 0))/\Xf wx (I (w.heap.size+1) 3)=O (Y (lc 1))/\Xf wx (I (w.heap.size+1) 4)=O (Y (lc 2))/\Xf wx (I (w.heap.size+1) 5)=O (Y (lc 3))/\Xf wx (I (w.heap.size+1) 6)=O (Y (lc 4))/\Xf wx (I (w.heap.size+1) 7)=O (Y (lc 5))/\Xf wx (I (w.heap.size+1) 8)=O (Y (lc 6))/\Xf wx (I (w.heap.size+1) 9)=O (Y (lc 7))/\Xf wx (I (w.heap.size+1) 10)=O (Y ln)/\Xf wx (I (w.heap.size+1) 11)=O (Y ha)/\Xf wx (I (w.heap.size+1) 12)=O (H ma n8 mc))) bj qt (λau=>?_);generalize World.drew _=V0 at*;refine Mk.tk 0 (v:=?_) rfl ?_ cJ ?_;rotate_left
     ·exact rk
     refine Mk.pt ?_;refine dM (rs:=[1]) bj az ?_;refine bX rfl (λK hK=>?_) cz;refine fL ?_;go_simp;go_at_call 300;refine(C1.o _ fM qt).mono ?_;rintro e w1 ⟨rfl,yu,hQ1⟩;clear au;refine hK.out _ _ yu (λau=>?_);clear hK K;refine Mk.pt ?_;refine Mk.tk 2 (v:=?_) rfl ?_ cJ ?_;rotate_left
     ·exact rk
     refine Mk.pt ?_;refine Mk.tk 3 (v:=?_) rfl ?_ cJ ?_;rotate_left
     ·exact rk
     refine Mk.pt ?_;refine Mk.Ub 4 ?_;refine Mk.Ub 5 ?_;refine Mk.Ub 6 ?_;refine Mk.Ub 7 ?_;refine Mk.Ub 8 ?_;refine Mk.Ub 9 ?_;refine Mk.Ub 10 ?_;refine Mk.Ub 11 ?_;refine Mk.Ub 12 ?_;refine Mk.tk 13 (v:=?_) rfl ?_ cJ ?_;rotate_left
     ·exact rk
     refine Mk.pt ?_;refine Mk.tk 14 (v:=?_) rfl ?_ cJ ?_;rotate_left
     ·exact rk
     refine Mk.pt ?_;refine eT bj ⟨rfl,?_⟩ _;clear au;go_wp2_with fail;refine eF rfl ?_;exact⟨rfl,hQ1.o⟩
    |cons t l=>
     have htl:=jE.1;obtain⟨-,ca0⟩:=NB.o t G;rw[show Rj p m (t::l)=decide ((m:Int)=(ak p t).a)from rfl];rw[show qK (t::l)=(t:Int)from rfl]at mY;have htc:t<p.code.length:=G;clear jE;generalize bO (t::l)=lc at*;generalize(t::l).length=ln at*;generalize ln-8=n8 at*;generalize(ak p t).a=ca at*;have Jt:aH (((w.alloc (Xe #[Y 26,Y m,Y xb,Y xc,Y xd] 40)).alloc (Xe #[.bool true,.string tb,Y (lc 0),Y (lc 1),Y (lc 2),Y (lc 3),Y (lc 4),Y (lc 5),Y (lc 6),Y (lc 7),Y ln,Y ha,H ma n8 mc] 233)).drew) w.heap.size 40 #[Y 26,Y m,Y xb,Y xc,Y xd]:=((aH.new w _ _).alloc _).drewN 1;have im:aH (((w.alloc (Xe #[Y 26,Y m,Y xb,Y xc,Y xd] 40)).alloc (Xe #[.bool true,.string tb,Y (lc 0),Y (lc 1),Y (lc 2),Y (lc 3),Y (lc 4),Y (lc 5),Y (lc 6),Y (lc 7),Y ln,Y ha,H ma n8 mc] 233)).drew) (w.heap.size+1) 233 #[.bool true,.string tb,Y (lc 0),Y (lc 1),Y (lc 2),Y (lc 3),Y (lc 4),Y (lc 5),Y (lc 6),Y (lc 7),Y ln,Y ha,H ma n8 mc]:=(aH.bK az).drewN 1;have mL:(((w.alloc (Xe #[Y 26,Y m,Y xb,Y xc,Y xd] 40)).alloc (Xe #[.bool true,.string tb,Y (lc 0),Y (lc 1),Y (lc 2),Y (lc 3),Y (lc 4),Y (lc 5),Y (lc 6),Y (lc 7),Y ln,Y ha,H ma n8 mc] 233)).drew).cell? (I cb (An+t*5+1))=O (Y ca):=(aR (((hB _ _ _ _).trans (aA _ _ 1)).block _ lcb)).trans ca0;have qt:StK w (((w.alloc (Xe #[Y 26,Y m,Y xb,Y xc,Y xd] 40)).alloc (Xe #[.bool true,.string tb,Y (lc 0),Y (lc 1),Y (lc 2),Y (lc 3),Y (lc 4),Y (lc 5),Y (lc 6),Y (lc 7),Y ln,Y ha,H ma n8 mc] 233)).drew) (Y m) (.bool true) (.string tb) (Y (lc 0)) (Y (lc 1)) (Y (lc 2)) (Y (lc 3)) (Y (lc 4)) (Y (lc 5)) (Y (lc 6)) (Y (lc 7)) (Y ln) (Y ha) (H ma n8 mc) (I cb (An+t*5+1)) (Y ca):=⟨Jt.cell 1,im.cell 0,im.cell 1,im.cell 2,im.cell 3,im.cell 4,im.cell 5,im.cell 6,im.cell 7,im.cell 8,im.cell 9,im.cell 10,im.cell 11,im.cell 12,mL⟩;have fM:Hid (Below w.heap.size w ((w.alloc (Xe #[Y 26,Y m,Y xb,Y xc,Y xd] 40)).alloc (Xe #[.bool true,.string tb,Y (lc 0),Y (lc 1),Y (lc 2),Y (lc 3),Y (lc 4),Y (lc 5),Y (lc 6),Y (lc 7),Y ln,Y ha,H ma n8 mc] 233)).drew):=Z ((hB #[Y 26,Y m,Y xb,Y xc,Y xd] 40 #[.bool true,.string tb,Y (lc 0),Y (lc 1),Y (lc 2),Y (lc 3),Y (lc 4),Y (lc 5),Y (lc 6),Y (lc 7),Y ln,Y ha,H ma n8 mc] 233).trans (aA _ _ 1));have C1:Hid (∀V:ek,Hid (Below w.heap.size w V)->(StK w V (Y m) (.bool true) (.string tb) (Y (lc 0)) (Y (lc 1)) (Y (lc 2)) (Y (lc 3)) (Y (lc 4)) (Y (lc 5)) (Y (lc 6)) (Y (lc 7)) (Y ln) (Y ha) (H ma n8 mc) (I cb (An+t*5+1)) (Y ca))->Calls prog 300 #[.agg #[.bool true,.string tb,Y (lc 0),Y (lc 1),Y (lc 2),Y (lc 3),Y (lc 4),Y (lc 5),Y (lc 6),Y (lc 7),Y ln,Y ha,H ma n8 mc]] V λe V'=>e=Xc (Y (t))/\(StK w V' (Y m) (.bool true) (.string tb) (Y (lc 0)) (Y (lc 1)) (Y (lc 2)) (Y (lc 3)) (Y (lc 4)) (Y (lc 5)) (Y (lc 6)) (Y (lc 7)) (Y ln) (Y ha) (H ma n8 mc) (I cb (An+t*5+1)) (Y ca))/\Hid (Below w.heap.size w V')):=by refine Z λV X hs=>(mY.o V X.o).mono ?_;rintro e V' ⟨rfl,q_⟩;have key:∀b i v,Xf V (I b i)=O v->Xf V' (I b i)=O v:=λb i v hc=>(aR (q_.block _ (ay hc))).trans hc;exact⟨rfl,⟨key _ _ _ hs.1,key _ _ _ hs.2.1,key _ _ _ hs.2.2.1,key _ _ _ hs.2.2.2.1,key _ _ _ hs.2.2.2.2.1,key _ _ _ hs.2.2.2.2.2.1,key _ _ _ hs.2.2.2.2.2.2.1,key _ _ _ hs.2.2.2.2.2.2.2.1,key _ _ _ hs.2.2.2.2.2.2.2.2.1,key _ _ _ hs.2.2.2.2.2.2.2.2.2.1,key _ _ _ hs.2.2.2.2.2.2.2.2.2.2.1,key _ _ _ hs.2.2.2.2.2.2.2.2.2.2.2.1,key _ _ _ hs.2.2.2.2.2.2.2.2.2.2.2.2.1,key _ _ _ hs.2.2.2.2.2.2.2.2.2.2.2.2.2.1,key _ _ _ hs.2.2.2.2.2.2.2.2.2.2.2.2.2.2⟩,Z (X.o.trans (q_.mono X.o.size))⟩
     clear Jt im mL mY;go_enter func245,ntmps245;go_wp2;refine Mk.bq (S:=(λwx=>Xf wx (I w.heap.size 1)=O (Y m)/\Xf wx (I (w.heap.size+1) 0)=O (.bool true)/\Xf wx (I (w.heap.size+1) 1)=O (.string tb)/\Xf wx (I (w.heap.size+1) 2)=O (Y (lc 0))/\Xf wx (I (w.heap.size+1) 3)=O (Y (lc 1))/\Xf wx (I (w.heap.size+1) 4)=O (Y (lc 2))/\Xf wx (I (w.heap.size+1) 5)=O (Y (lc 3))/\Xf wx (I (w.heap.size+1) 6)=O (Y (lc 4))/\Xf wx (I (w.heap.size+1) 7)=O (Y (lc 5))/\Xf wx (I (w.heap.size+1) 8)=O (Y (lc 6))/\Xf wx (I (w.heap.size+1) 9)=O (Y (lc 7))/\Xf wx (I (w.heap.size+1) 10)=O (Y ln)/\Xf wx (I (w.heap.size+1) 11)=O (Y ha)/\Xf wx (I (w.heap.size+1) 12)=O (H ma n8 mc)/\Xf wx (I cb (An+t*5+1))=O (Y ca))) bj qt (λau=>?_);generalize World.drew _=V0 at*;refine Mk.tk 0 (v:=?_) rfl ?_ cJ ?_;rotate_left
     ·exact rk
     refine Mk.pt ?_;refine dM (rs:=[1]) bj az ?_;refine bX rfl (λK hK=>?_) cz;refine fL ?_;go_simp;go_at_call 300;refine(C1.o _ fM qt).mono ?_;rintro e w1 ⟨rfl,yu,hQ1⟩;clear au;refine hK.out _ _ yu (λau=>?_);clear hK K;refine Mk.pt ?_;refine Mk.tk 2 (v:=?_) rfl ?_ cJ ?_;rotate_left
     ·exact rk
     refine Mk.pt ?_;refine Mk.tk 3 (v:=?_) rfl ?_ cJ ?_;rotate_left
     ·exact rk
     refine Mk.pt ?_;refine Mk.tk 4 (v:=?_) rfl ?_ cJ ?_;rotate_left
     ·exact rk
     refine Mk.pt ?_;refine Mk.tk 5 (v:=?_) rfl ?_ cJ ?_;rotate_left
     ·exact rk
     refine Mk.pt ?_;refine Mk.tk 6 (v:=?_) rfl ?_ cJ ?_;rotate_left
     ·exact rk
     refine Mk.pt ?_;refine Mk.tk 7 (v:=?_) rfl ?_ cJ ?_;rotate_left
     ·exact rk
     refine Mk.pt ?_;refine dM (rs:=[8]) bj az ?_;refine bX rfl (λK hK=>?_) cz;refine fL ?_;go_simp;go_at_call 300;refine(C1.o _ hQ1 yu).mono ?_;rintro e w2 ⟨rfl,Ti,hQ2⟩;clear au;refine hK.out _ _ Ti (λau=>?_);clear hK K;refine Mk.pt ?_;refine Mk.tk 9 (v:=?_) rfl ?_ cJ ?_;rotate_left
     ·exact rk
     refine Mk.pt ?_;refine Mk.tk 10 (v:=?_) rfl ?_ cJ ?_;rotate_left
     ·exact rk
     refine Mk.pt ?_;refine Mk.tk 11 (v:=?_) rfl ?_ cJ ?_;rotate_left
     ·exact rk
     refine Mk.pt ?_;refine Mk.tk 12 (v:=?_) rfl ?_ cJ ?_;rotate_left
     ·exact rk
     refine Mk.pt ?_;refine Mk.tk 13 (v:=?_) rfl ?_ cJ ?_;rotate_left
     ·exact rk
     refine Mk.pt ?_;refine Mk.tk 14 (v:=?_) rfl ?_ cJ ?_;rotate_left
     ·exact rk
     refine Mk.pt ?_;refine eT bj ⟨rfl,?_⟩ _;clear au;go_wp2_with fail;refine eF rfl ?_;exact⟨show Ending.returned (.bool ((m:Int)==ca))=_ by congr 2,hQ2.o⟩
   ·rw[ax o6];have ho:op=22\/op=23:=G;unfold a_ aK ey de;dsimp only;generalize ir ty=tb;generalize bO lo=lc;rcases ho with rfl|rfl
    all_goals
     exact Vn
 ·have n22:¬op=22:=λe=>hj (.inl e);have n23:¬op=23:=λe=>hj (.inr (.inl e));have n25:¬op=25:=λe=>hj (.inr (.inr (.inl e)));have n26:¬op=26:=λe=>hj (.inr (.inr (.inr e)));have Et:cZ p T pc ⟨op,xa,xb,xc,xd⟩ ty lo=if op=24 then decide (pc+1<p.code.length)&&decide ((ak p (pc+1)).op=25)else if op=27 then Js T xa ty lo else if op=0 then lo.isEmpty else true:=by unfold cZ;dsimp only;rw[ax (by rintro⟨h',-⟩;exact hj h'),ax n25,ax n26];cases lo<;>rfl
  rw[Et];have HT:=Z hT;have HM:=Z hm;have HH:=Z h;clear Et hT h hj AW;by_cases o4:op=24
  ·subst o4;rw[aE rfl];have w2:IntKind.i64.wrap ((pc:Int)+1)=((pc+1:Nat):Int):=by rw[bJ _ kS];omega
   by_cases be:pc+1<p.code.length
   ·obtain⟨d0,-⟩:=NB.o (pc+1) be;have e1:decide (pc+1<p.code.length)=true:=by simp[be]
    rw[e1];generalize(ak p (pc+1)).op=ok at d0 ⊢;by_cases ho:ok=25
    ·subst ho;exact Vo
    ·have hr:(true&&decide (ok=25))=false:=by simp[ho]
     rw[hr];unfold a_ aK ey de;dsimp only;generalize ir ty=tb;generalize bO lo=lc;go_enter func245,ntmps245;go_wp2_with fail;refine eF rfl ?_;exact⟨by simp[ho],hB _ _ _ _⟩
   ·have hr:∀b:Bool,(decide (pc+1<p.code.length)&&b)=false:=λb=>by simp[be]
    rw[hr];exact Vo
  rw[ax o4];by_cases o7:op=27
  ·subst o7;rw[aE rfl];have mY:Hid (∀V,Below w.heap.size w V->Calls prog 300 #[ey true ⟨ty,lo,ha⟩ (H ma (lo.length-8) mc)] V (λe w'=>e=Xc (Y (qK lo))/\Below V.heap.size V w')):=Z (λV X=>Li V true (s:=⟨ty,lo,ha⟩) (aY.aG HM.o (aC.ai X)) (by dsimp only;omega));cases lo with
   |nil=>rw[show Js T xa ty []=false from rfl];rw[show qK []= -1 from rfl]at mY;clear HM HT HH NB hs v0 v3 v4 v6;unfold a_ aK ey de;dsimp only;unfold ey de at mY;dsimp only at mY;generalize ir ty=tb at*;generalize bO []=lc at*;generalize([]:List Nat).length=ln at*;generalize ln-8=n8 at*;go_enter func245,ntmps245;go_wp2_with fail;refine(mY.o _ (hB _ _ _ _)).mono ?_;rintro e w1 ⟨rfl,X⟩;have dS:=Z ((hB _ _ _ _).trans (X.mono (show w.heap.size<=_ by simp only[aO];omega)));clear X;go_wp2_with fail;refine eF rfl ?_;exact⟨rfl,dS.o⟩
   |cons t l=>
    rw[show qK (t::l)=(t:Int)from rfl]at mY;obtain⟨htp,-,st,fY,sS⟩:=id jE;have htn:t<p.code.length:=G;have hag:Js T xa ty (t::l)=(decide (xa=t)&&decide (st.ty=ty/\st.lo=l)):=by show(decide (xa=t)&&(match T t with|some s=>decide (s.ty=ty/\s.lo=l)|none=>decide (ty=[]/\l=[])))=_;rw[fY]
    rw[hag];have hsa:fO T t=st:=by unfold fO;rw[fY];rfl
    have his:(T t).isSome=true:=by rw[fY];rfl
    have l_:=Z (λV (X:Below w.heap.size w V)=>(js.aG hs (aC.ai X)).Yr htn);have HMR:=Z (λV (X:Below w.heap.size w V)=>(hs.more t htn).aG (aC.ai X));rw[his,hsa]at l_;rw[hsa]at HMR;have HWO:Hid (∀V,Below w.heap.size w V->Calls prog 301 #[ey true ⟨ty,t::l,ha⟩ (H ma ((t::l).length-8) mc)] V (qL V (H ma ((t::l).length-8) mc) true ⟨ty,l,ha⟩)):=Z (λV X=>Cr V true (s:=⟨ty,t::l,ha⟩) (dF.aG HM.o (aC.ai X)) az (by dsimp only;omega));have hts:=(HT.o t st fY).2;have pE:=Lm (λq s h=>(HT.o q s h).1) st.lo t (HT.o t st fY).1;have Hn:=Z (λ(V:ek) (Hp mv2:to) (h1:dF V Hp st.lo) (h2:dF V mv2 l)=>Jq (w:=V) true true (s:=st) (s2:=⟨ty,l,st.ha⟩) h1 h2 hts hty G (by simp only[List.length_cons]at Mt;dsimp only;omega));have Ao:decide (st=(⟨ty,l,st.ha⟩:Std))=decide (st.ty=ty/\st.lo=l):=by
     rw[decide_eq_decide];constructor
     ·intro h;rw[h];exact⟨rfl,rfl⟩
     ·rintro⟨h1,h2⟩;cases st;dsimp only at h1 h2 ⊢;rw[h1,h2]
    rw[Ao]at Hn;generalize decide (st.ty=ty/\st.lo=l)=res at*;have HV:Hid (∀V,Below w.heap.size w V->Xf V (I vb 6)=O jN/\vb<V.heap.size):=Z (λV X=>by have:=hv.of (X.block _ hv.lt);exact⟨this.cell 6,this.lt⟩);have kM:=Z (λV (X:Below w.heap.size w V)=>HM.o.aG (aC.ai X));clear hag hsa his fY sS HM HT HH NB hs v0 v3 v4 v6 hts pE Ao jE hty hv hlen pN ado Mt;unfold a_ aK ey de;dsimp only;unfold ey de at mY HWO Hn;dsimp only at mY HWO Hn;generalize xF:ir ty=tb at*;have xG:=Z xF;clear xF;generalize bO (t::l)=lc at*;generalize(t::l).length=ln at*;generalize ln-8=n8 at*;go_enter func245,ntmps245;go_wp2_with fail;refine(mY.o _ (hB _ _ _ _)).mono ?_;rintro e w1 ⟨rfl,X⟩;have Ky:Below w.heap.size w w1:=(hB _ _ _ _).trans (X.mono (show w.heap.size<=_ by simp only[aO];omega));have kx:aH w1 w.heap.size 40 #[Y 27,Y xa,Y xb,Y xc,Y xd]:=((aH.new w _ _).alloc _).of (X.block _ (by simp only[aO];omega));have ks:aH w1 (w.heap.size+1) 233 #[.bool true,.string tb,Y (lc 0),Y (lc 1),Y (lc 2),Y (lc 3),Y (lc 4),Y (lc 5),Y (lc 6),Y (lc 7),Y ln,Y ha,H ma n8 mc]:=(aH.bK az).of (X.block _ (by simp only[aO];omega));have d1:Xf w1 (I w.heap.size 1)=O (Y xa):=kx.cell 1;have lx:=kx.lt;have a1j:=ks.lt;obtain⟨e0,e1,e2,e3,e4,e5,e6,e7,e8,e9,Hq,Hr,Hs⟩:=ks.sB;have dS:=Z Ky;clear X Ky kx ks mY;by_cases hx:xa=(t:Int)
    ·obtain⟨v6,Ym⟩:=HV.o w1 dS.o;obtain⟨A,cap,rfl,a1,a2,a3,g0,g1,g2,g3,g4,g5,g6,g7,g8,g9,g10,g11,g12⟩:=l_.o w1 dS.o;have xT:=HMR.o w1 dS.o;obtain⟨ka,Gz,hmv,-,-⟩:=aY.val xT;rw[hmv]at g12 xT HMR;have HXT:=Z (show(decide (xa=(t:Int))&&res)=res by simp[hx]);rw[hx]at d1;clear hx hmv xT;generalize ir st.ty=tb2 at*;generalize bO st.lo=pG at*;generalize st.lo.length=Ys at*;generalize st.ha=Lk at*;go_wp2_with fail;refine(HWO.o _ ((dS.o.alloc dS.o.size _))).mono ?_;rintro e w2 ⟨mv2,rfl,ul,dR,-⟩;obtain⟨na,nc,DS,-,-⟩:=aY.val ul;rw[DS]at ul;dsimp only at ul DS;subst DS;have kin:aH w2 w1.heap.size 233 #[.bool true,.string tb2,Y (pG 0),Y (pG 1),Y (pG 2),Y (pG 3),Y (pG 4),Y (pG 5),Y (pG 6),Y (pG 7),Y Ys,Y Lk,H ka (Ys-8) Gz]:=(aH.new w1 _ _).of (dR.block _ az);obtain⟨f0,f1,f2,f3,f4,f5,f6,f7,f8,f9,f10,f11,f12⟩:=kin.sB;have lin:=kin.lt;have fR:=Z ((dS.o.alloc dS.o.size _).trans (dR.mono (bS dS.o.size az)));have Bi:=Z ul;have KK:=Z (HMR.o w2 fR.o);generalize w1.heap.size=ib at*;unfold ey de;dsimp only;generalize bO l=lcm at*;generalize l.length=lm at*;generalize lm-8=n9 at*;rw[xG.o];go_wp2_with fail;refine(Hn.o _ _ _ (dF.aG KK.o ((aC.refl [] w2).alloc _)) (dF.aG Bi.o ((aC.refl [] w2).alloc _))).mono ?_;rintro e w3 ⟨rfl,s_⟩;have mM:=Z ((fR.o.alloc fR.o.size _).trans (s_.mono (bS fR.o.size az)));clear s_;go_wp2_with fail;refine eF rfl ?_;exact⟨by rw[HXT.o];rfl,mM.o⟩
    ·have HXT:=Z (show(decide (xa=(t:Int))&&res)=false by simp[hx]);have agj:(xa !=(t:Int))=true:=by simp[hx]
     go_wp2_with fail;refine eF rfl ?_;exact⟨by rw[HXT.o];rfl,dS.o⟩
  rw[ax o7];by_cases o0:op=0
  ·subst o0;rw[aE rfl];cases lo with
   |nil=>unfold a_ aK ey de;dsimp only;generalize ir ty=tb;generalize bO []=lc;exact Vn
   |cons t l=>
    have bt:(((t::l).length:Nat):Int)≠0:=by simp<;>omega
    unfold a_ aK ey de;dsimp only;generalize ir ty=tb;generalize bO (t::l)=lc;have hie:(t::l).isEmpty=false:=rfl;rw[hie];generalize(t::l).length=ln at*;have Ju:¬ln=0:=G;go_enter func245,ntmps245;go_wp2_with fail;refine eF rfl ?_;exact⟨by simp[Ju],hB _ _ _ _⟩
  ·rw[ax o0];exact Vo
def vK(a:Nat)(s:Std)(mv:to):Array to:=
 #[Y a,.bool true,.string (ir s.ty),Y (bO s.lo 0),Y (bO s.lo 1),Y (bO s.lo 2),Y (bO s.lo 3),Y (bO s.lo 4),Y (bO s.lo 5),Y (bO s.lo 6),Y (bO s.lo 7),Y s.lo.length,Y s.ha,mv]
def e_:Nat×Std:=(0,C8)
def wyC(l:List (Nat×Std))(mv:Nat->to)(o:Nat):to:=(vK (l.getD (o / 14) e_).1 (l.getD (o / 14) e_).2 (mv (o / 14))).getD (o % 14) undef
structure jt(w:ek)(lo:Nat)(sv lv:to)(l:List (Nat×Std))(mv:Nat->to):Prop where
 row:aY w 14 lv l.length (wyC l mv)
 more:∀i,i<l.length->dF w (mv i) (l.getD i e_).2.lo
 off:∀i,i<l.length->∀b,(mv i).ownBlock=O b->sv.ownBlock=O b\/lo<=b
def ad8(w:ek)(sv:to)(l:List (Nat×Std))(e:Ending)(w':ek):Prop:=∃lv mv,e=Xc lv/\jt w' w.heap.size sv lv l mv/\Below w.heap.size w w'/\∀b,lv.ownBlock=O b->w.heap.size<=b
def jt.nil(w:ek)(lo:Nat)(sv:to):jt w lo sv Xd [] (λ_=>undef):=⟨.inl ⟨rfl,rfl⟩,λi hi=>absurd hi az,λi hi=>absurd hi az⟩
def jt.one{W:ek}{lo b:Nat}{sv:to}{a:Nat}{s:Std}{mv:to}{cs:Array to}(X:aH W b 279 cs)(e:cs=vK a s mv)(hm:dF W mv s.lo)(ho:∀b,mv.ownBlock=O b->sv.ownBlock=O b\/lo<=b):
 jt W lo sv (H (O (I b 0)) 1 1) [(a,s)] (λ_=>mv):=by
 subst e;refine⟨.inr ⟨_,_,rfl,aL _,bz,λo h=>⟨rfl,?_⟩⟩,λi hi=>?_,λi hi=>?_⟩
 ·have ho:o<14:=by simpa using h
  rw[Nat.zero_add];have hc:=X.cell o;rw[hc];unfold wyC;rw[show o / 14=0 by omega,show o % 14=o by omega];show _=O ((vK a s mv).getD o undef);rw[Aj,Ak (show o<(vK a s mv).size from ho)];rfl
 ·obtain rfl:i=0:=by simpa using hi
  exact hm
 ·exact ho
def jt.two{W:ek}{lo b:Nat}{sv:to}{a a':Nat}{s s':Std}{mv Ro:to}{cs:Array to}(X:aH W b 279 cs)(e:cs=vK a s mv++vK a' s' Ro)(hm:dF W mv s.lo)(ho:∀b,mv.ownBlock=O b->sv.ownBlock=O b\/lo<=b)(jw:dF W Ro s'.lo)(ho':∀b,Ro.ownBlock=O b->sv.ownBlock=O b\/lo<=b):
 jt W lo sv (H (O (I b 0)) 2 2) [(a,s),(a',s')] (λi=>if i=0 then mv else Ro):=by
 subst e;have z1:(vK a s mv).size=14:=rfl;have z2:(vK a' s' Ro).size=14:=rfl;refine⟨.inr ⟨_,_,rfl,aL _,bz,λo h=>⟨rfl,?_⟩⟩,λi hi=>?_,λi hi=>?_⟩
 ·have ho:o<28:=by simpa using h
  rw[Nat.zero_add];have hc:=X.cell o;rw[hc];unfold wyC;by_cases h14:o<14
  ·rw[show o / 14=0 by omega,show o % 14=o by omega];show _=O ((vK a s mv).getD o undef);rw[Aj,Array.getElem?_append_left (by rw[z1];exact h14),Ak (show o<(vK a s mv).size by rw[z1];exact h14)];rfl
  ·rw[show o / 14=1 by omega,show o % 14=o-14 by omega];show _=O ((vK a' s' Ro).getD (o-14) undef);rw[Aj,Array.getElem?_append_right (by rw[z1];omega),z1,Ak (show o-14<(vK a' s' Ro).size by rw[z2];omega)];rfl
 ·have:i=0\/i=1:=by have:i<2:=hi;omega
  rcases this with rfl|rfl
  ·exact hm
  ·exact jw
 ·have:i=0\/i=1:=by have:i<2:=hi;omega
  rcases this with rfl|rfl
  ·exact ho
  ·exact ho'
def P9{p:Prop}(h:p:=by
 go_enter func247,ntmps247;go_wp2;go_ret;exact⟨_,λ_=> H ma (s.lo.length-8) mc,rfl,jt.one (aH.bK az) Ng.o.symm (HM.o.aG (aC.ai ((hB _ _ _ _).alloc (by simp only[aO];omega) _))) (λ_ X=> .inl X),(hB _ _ _ _).alloc (by simp only[aO];omega) _,λb X=>by have h1:_=b:=fT X;simp only[aO]at h1 ⊢;omega⟩):p:=h
def NM{p:Prop}(h:p:=by
 refine Z λV V' q_ hs=>?_;have key:∀b i v,Xf V (I b i)=O v->Xf V' (I b i)=O v:=λb i v hc=>(aR (q_.block _ (ay hc))).trans hc;exact⟨key _ _ _ (hs.1),key _ _ _ (hs.2.1),key _ _ _ (hs.2.2.1),key _ _ _ (hs.2.2.2.1),key _ _ _ (hs.2.2.2.2.1),key _ _ _ (hs.2.2.2.2.2.1),key _ _ _ (hs.2.2.2.2.2.2.1),key _ _ _ (hs.2.2.2.2.2.2.2.1),key _ _ _ (hs.2.2.2.2.2.2.2.2.1),key _ _ _ (hs.2.2.2.2.2.2.2.2.2.1),key _ _ _ (hs.2.2.2.2.2.2.2.2.2.2.1),key _ _ _ (hs.2.2.2.2.2.2.2.2.2.2.2.1),key _ _ _ (hs.2.2.2.2.2.2.2.2.2.2.2.2.1),key _ _ _ (hs.2.2.2.2.2.2.2.2.2.2.2.2.2)⟩):p:=h
def qM{p:Prop}(h:p:=by
 intro wz fF
 (try dsimp only at fF)
 exact qZ):p:=h
def aao(w:ek){pc:Nat}{x:Ins}{s:Std}{smv:to}(hm:dF w smv s.lo)(pN:pc<262144)(h0:0<=x.op)(ha:x.op=22\/x.op=23\/x.op=25\/x.op=26->0<=x.a)(hl:s.lo.length<=262144)(hq:x.op=26->0<s.lo.length):
 Calls prog 247 #[Y pc,a_ x,ey true s smv] w (ad8 w smv (cT pc x s)):=by
 obtain⟨op,xa,xb,xc,xd⟩:=x;dsimp only at h0 ha hq;obtain⟨ma,mc,rfl,m1,m2⟩:=aY.val hm;have HM:=Z hm;have hB:=Mi w;have w1:IntKind.i64.wrap ((pc:Int)+1)=((pc+1:Nat):Int):=by rw[bJ _ kS];omega
 by_cases o1:op=0\/op=27
 ·have hf:cT pc ⟨op,xa,xb,xc,xd⟩ s=[]:=by unfold cT;rw[aE o1]
  rw[hf];clear hf hm ha hq;unfold a_ aK ey de;dsimp only;generalize ir s.ty=tb;generalize bO s.lo=lc;rcases o1 with rfl|rfl
  all_goals
   go_enter func247,ntmps247;go_wp2;go_ret;exact⟨Xd,λ_=>undef,rfl,jt.nil _ _ _,hB _ _ _ _,λb X=>by cases X⟩
 by_cases o2:op=22
 ·subst o2;obtain⟨m,rfl⟩:=eS (ha az);have hf:cT pc ⟨22,m,xb,xc,xd⟩ s=[(m,s)]:=rfl;rw[hf];clear hf hm ha hq o1 h0;unfold a_ aK ey de;dsimp only;have Ng:Hid (vK (m) s (H ma (s.lo.length-8) mc)=#[Y (m:Nat),.bool true,.string (ir s.ty),Y (bO s.lo 0),Y (bO s.lo 1),Y (bO s.lo 2),Y (bO s.lo 3),Y (bO s.lo 4),Y (bO s.lo 5),Y (bO s.lo 6),Y (bO s.lo 7),Y s.lo.length,Y s.ha,H ma (s.lo.length-8) mc]):=Z rfl;generalize ir s.ty=tb at*;generalize bO s.lo=lc at*;exact P9
 by_cases o3:op=23
 ·subst o3;obtain⟨m,rfl⟩:=eS (ha az);have hf:cT pc ⟨23,m,xb,xc,xd⟩ s=[(pc+1,s),(m,s)]:=rfl;rw[hf];clear hf hm ha hq o1 h0 o2;unfold a_ aK ey de;dsimp only;have Ng:Hid (vK (pc+1) s (H ma (s.lo.length-8) mc)=#[Y (pc+1:Nat),.bool true,.string (ir s.ty),Y (bO s.lo 0),Y (bO s.lo 1),Y (bO s.lo 2),Y (bO s.lo 3),Y (bO s.lo 4),Y (bO s.lo 5),Y (bO s.lo 6),Y (bO s.lo 7),Y s.lo.length,Y s.ha,H ma (s.lo.length-8) mc]):=Z rfl;have px:Hid (vK (m) s (H ma (s.lo.length-8) mc)=#[Y (m:Nat),.bool true,.string (ir s.ty),Y (bO s.lo 0),Y (bO s.lo 1),Y (bO s.lo 2),Y (bO s.lo 3),Y (bO s.lo 4),Y (bO s.lo 5),Y (bO s.lo 6),Y (bO s.lo 7),Y s.lo.length,Y s.ha,H ma (s.lo.length-8) mc]):=Z rfl;generalize ir s.ty=tb at*;generalize bO s.lo=lc at*;go_enter func247,ntmps247;go_wp2;go_ret;exact⟨_,λi=>if i=0 then H ma (s.lo.length-8) mc else H ma (s.lo.length-8) mc,rfl,jt.two (aH.bK az) (by rw[Ng.o,px.o];rfl) (HM.o.aG (aC.ai ((hB _ _ _ _).alloc (by simp only[aO];omega) _))) (λ_ X=> .inl X) (HM.o.aG (aC.ai ((hB _ _ _ _).alloc (by simp only[aO];omega) _))) (λ_ X=> .inl X),(hB _ _ _ _).alloc (by simp only[aO];omega) _,λb X=>by have h1:_=b:=fT X;simp only[aO]at h1 ⊢;omega⟩
 by_cases o4:op=25
 ·subst o4;obtain⟨m,rfl⟩:=eS (ha az);have hf:cT pc ⟨25,m,xb,xc,xd⟩ s=[(pc+1,{s with lo:=pc::s.lo}),(m,s)]:=rfl;rw[hf];have HW:=Z (λV (X:Below w.heap.size w V)=>aan V true (s:=s) pc (dF.aG HM.o (aC.ai X)) G);clear hf hm ha hq o1 h0;unfold a_ aK ey de;dsimp only;unfold ey de at HW;have Ng:Hid (∀(a:Nat),vK a s (H ma (s.lo.length-8) mc)=#[Y a,.bool true,.string (ir s.ty),Y (bO s.lo 0),Y (bO s.lo 1),Y (bO s.lo 2),Y (bO s.lo 3),Y (bO s.lo 4),Y (bO s.lo 5),Y (bO s.lo 6),Y (bO s.lo 7),Y s.lo.length,Y s.ha,H ma (s.lo.length-8) mc]):=Z λ_=>rfl;have px:Hid (∀(a:Nat) (mv:to),vK a {s with lo:=pc::s.lo} mv=#[Y a,.bool true,.string (ir s.ty),Y (bO (pc::s.lo) 0),Y (bO (pc::s.lo) 1),Y (bO (pc::s.lo) 2),Y (bO (pc::s.lo) 3),Y (bO (pc::s.lo) 4),Y (bO (pc::s.lo) 5),Y (bO (pc::s.lo) 6),Y (bO (pc::s.lo) 7),Y (pc::s.lo).length,Y s.ha,mv]):=Z λ_ _=>rfl;generalize xF:ir s.ty=tb at*;have xG:=Z xF;clear xF;generalize bO s.lo=lc at*;generalize Ag:s.lo.length=ln at*;generalize ln-8=n8 at*;have Jt:aH (((w.alloc (Xe #[Y 25,Y m,Y xb,Y xc,Y xd] 40)).alloc (Xe #[.bool true,.string tb,Y (lc 0),Y (lc 1),Y (lc 2),Y (lc 3),Y (lc 4),Y (lc 5),Y (lc 6),Y (lc 7),Y ln,Y s.ha,H ma n8 mc] 233)).drew) w.heap.size 40 #[Y 25,Y m,Y xb,Y xc,Y xd]:=((aH.new w _ _).alloc _).drewN 1;have im:aH (((w.alloc (Xe #[Y 25,Y m,Y xb,Y xc,Y xd] 40)).alloc (Xe #[.bool true,.string tb,Y (lc 0),Y (lc 1),Y (lc 2),Y (lc 3),Y (lc 4),Y (lc 5),Y (lc 6),Y (lc 7),Y ln,Y s.ha,H ma n8 mc] 233)).drew) (w.heap.size+1) 233 #[.bool true,.string tb,Y (lc 0),Y (lc 1),Y (lc 2),Y (lc 3),Y (lc 4),Y (lc 5),Y (lc 6),Y (lc 7),Y ln,Y s.ha,H ma n8 mc]:=(aH.bK az).drewN 1;have qt:Vl w (((w.alloc (Xe #[Y 25,Y m,Y xb,Y xc,Y xd] 40)).alloc (Xe #[.bool true,.string tb,Y (lc 0),Y (lc 1),Y (lc 2),Y (lc 3),Y (lc 4),Y (lc 5),Y (lc 6),Y (lc 7),Y ln,Y s.ha,H ma n8 mc] 233)).drew) (Y m) (.bool true) (.string tb) (Y (lc 0)) (Y (lc 1)) (Y (lc 2)) (Y (lc 3)) (Y (lc 4)) (Y (lc 5)) (Y (lc 6)) (Y (lc 7)) (Y ln) (Y s.ha) (H ma n8 mc):=⟨Jt.cell 1,im.cell 0,im.cell 1,im.cell 2,im.cell 3,im.cell 4,im.cell 5,im.cell 6,im.cell 7,im.cell 8,im.cell 9,im.cell 10,im.cell 11,im.cell 12⟩;have dG:Below w.heap.size w (((w.alloc (Xe #[Y 25,Y m,Y xb,Y xc,Y xd] 40)).alloc (Xe #[.bool true,.string tb,Y (lc 0),Y (lc 1),Y (lc 2),Y (lc 3),Y (lc 4),Y (lc 5),Y (lc 6),Y (lc 7),Y ln,Y s.ha,H ma n8 mc] 233)).drew):=(hB _ _ _ _).trans (aA _ _ 1);have fM:=Z dG;have KA:Hid (∀V V':ek,Below V.heap.size V V'->(Vl w V (Y m) (.bool true) (.string tb) (Y (lc 0)) (Y (lc 1)) (Y (lc 2)) (Y (lc 3)) (Y (lc 4)) (Y (lc 5)) (Y (lc 6)) (Y (lc 7)) (Y ln) (Y s.ha) (H ma n8 mc))->(Vl w V' (Y m) (.bool true) (.string tb) (Y (lc 0)) (Y (lc 1)) (Y (lc 2)) (Y (lc 3)) (Y (lc 4)) (Y (lc 5)) (Y (lc 6)) (Y (lc 7)) (Y ln) (Y s.ha) (H ma n8 mc))):=by exact NM
  clear Jt im dG;go_enter func247,ntmps247;go_wp2;refine Mk.bq (S:=λwx=>Xf wx (I w.heap.size 1)=O (Y m)/\Xf wx (I (w.heap.size+1) 0)=O (.bool true)/\Xf wx (I (w.heap.size+1) 1)=O (.string tb)/\Xf wx (I (w.heap.size+1) 2)=O (Y (lc 0))/\Xf wx (I (w.heap.size+1) 3)=O (Y (lc 1))/\Xf wx (I (w.heap.size+1) 4)=O (Y (lc 2))/\Xf wx (I (w.heap.size+1) 5)=O (Y (lc 3))/\Xf wx (I (w.heap.size+1) 6)=O (Y (lc 4))/\Xf wx (I (w.heap.size+1) 7)=O (Y (lc 5))/\Xf wx (I (w.heap.size+1) 8)=O (Y (lc 6))/\Xf wx (I (w.heap.size+1) 9)=O (Y (lc 7))/\Xf wx (I (w.heap.size+1) 10)=O (Y ln)/\Xf wx (I (w.heap.size+1) 11)=O (Y s.ha)/\Xf wx (I (w.heap.size+1) 12)=O (H ma n8 mc)) bj qt (λau=>?_);generalize World.drew _=V0 at*;refine Mk.tk 0 (v:=?_) rfl ?_ cJ ?_;rotate_left
  ·exact qM
  refine Mk.pt ?_;refine Mk.tk 1 (v:=?_) rfl ?_ cJ ?_;rotate_left
  ·exact qM
  refine Mk.pt ?_;refine Mk.tk 2 (v:=?_) rfl ?_ cJ ?_;rotate_left
  ·exact qM
  refine Mk.pt ?_;refine Mk.tk 3 (v:=?_) rfl ?_ cJ ?_;rotate_left
  ·exact qM
  refine Mk.pt ?_;refine Mk.tk 6 (v:=?_) rfl ?_ cJ ?_;rotate_left
  ·exact qM
  refine Mk.pt ?_;refine Mk.tk 7 (v:=?_) rfl ?_ cJ ?_;rotate_left
  ·exact qM
  refine Mk.pt ?_;refine Mk.tk 8 (v:=?_) rfl ?_ cJ ?_;rotate_left
  ·exact qM
  refine Mk.pt ?_;refine Mk.tk 9 (v:=?_) rfl ?_ cJ ?_;rotate_left
  ·exact qM
  refine Mk.pt ?_;refine dM (rs:=[4]) bj az ?_;refine bX rfl (λK hK=>?_) cz;refine fL ?_;go_simp;go_at_call 302;refine(HW.o _ fM.o).mono ?_;rintro e w2 ⟨mv2,rfl,ul,dR,pB⟩;obtain⟨na,nc,DS,-,-⟩:=aY.val ul;dsimp only at ul DS;subst DS;have yu:=KA.o _ _ dR qt;have Bi:=Z ul;have fR:=Z (fM.o.trans (dR.mono fM.o.size));have zU:=Z pB;have Nf:=Z dR;clear ul dR pB HW;unfold ey de;dsimp only;rw[xG.o];generalize(pc::s.lo).length-8=n9 at*;generalize bO (pc::s.lo)=pG at*;generalize(pc::s.lo).length=Ys at*;clear au;refine hK.out _ _ yu (λau=>?_);clear hK K;refine Mk.pt ?_;refine Mk.tk 5 (v:=?_) rfl ?_ cJ ?_;rotate_left
  ·exact qM
  refine Mk.pt ?_;refine dM (rs:=[10]) bj az ?_;refine bX rfl (λK hK=>?_) cz;refine fL ?_;go_simp;refine hK.out _ _ (KA.o _ _ ((aZ _ _).alloc (aL _) _) yu) (λau=>?_);clear hK K;refine Mk.pt ?_;refine Mk.tk 11 (v:=?_) rfl ?_ cJ ?_;rotate_left
  ·exact qM
  refine Mk.pt ?_;refine eT bj ⟨rfl,?_⟩ _;clear au;go_wp2_with fail;refine eF rfl ?_;have BF:=fR.o.alloc fR.o.size (Xe #[Y ((pc:Int)+1),.bool true,.string tb,Y (pG 0),Y (pG 1),Y (pG 2),Y (pG 3),Y (pG 4),Y (pG 5),Y (pG 6),Y (pG 7),Y Ys,Y s.ha,H na n9 nc,Y m,.bool true,.string tb,Y (lc 0),Y (lc 1),Y (lc 2),Y (lc 3),Y (lc 4),Y (lc 5),Y (lc 6),Y (lc 7),Y ln,Y s.ha,H ma n8 mc] 279);have KB:=aH.new w2 279 #[Y ((pc:Int)+1),.bool true,.string tb,Y (pG 0),Y (pG 1),Y (pG 2),Y (pG 3),Y (pG 4),Y (pG 5),Y (pG 6),Y (pG 7),Y Ys,Y s.ha,H na n9 nc,Y m,.bool true,.string tb,Y (lc 0),Y (lc 1),Y (lc 2),Y (lc 3),Y (lc 4),Y (lc 5),Y (lc 6),Y (lc 7),Y ln,Y s.ha,H ma n8 mc];exact⟨_,λi=>if i=0 then H na n9 nc else H ma n8 mc,rfl,jt.two KB (by rw[px.o,Ng.o];rfl) (Bi.o.aG ((aC.refl [] w2).alloc _)) (λb X=>(zU.o b X).imp id (λh=>bS fM.o.size h)) (HM.o.aG (aC.ai BF)) (λ_ X=> .inl X),BF,λb X=>by have h1:w2.heap.size=b:=fT X;have h2:=fR.o.size;omega⟩
 by_cases o5:op=26
 ·subst o5;obtain⟨m,rfl⟩:=eS (ha az);have hf:cT pc ⟨26,m,xb,xc,xd⟩ s=[(pc+1,s),(m,{s with lo:=s.lo.tail})]:=rfl;rw[hf];have HW:=Z (λV (X:Below w.heap.size w V)=>Cr V true (s:=s) (dF.aG HM.o (aC.ai X)) (hq rfl) G);clear hf hm ha hq o1 h0;unfold a_ aK ey de;dsimp only;unfold ey de at HW;have Ng:Hid (∀(a:Nat),vK a s (H ma (s.lo.length-8) mc)=#[Y a,.bool true,.string (ir s.ty),Y (bO s.lo 0),Y (bO s.lo 1),Y (bO s.lo 2),Y (bO s.lo 3),Y (bO s.lo 4),Y (bO s.lo 5),Y (bO s.lo 6),Y (bO s.lo 7),Y s.lo.length,Y s.ha,H ma (s.lo.length-8) mc]):=Z λ_=>rfl;have px:Hid (∀(a:Nat) (mv:to),vK a {s with lo:=s.lo.tail} mv=#[Y a,.bool true,.string (ir s.ty),Y (bO s.lo.tail 0),Y (bO s.lo.tail 1),Y (bO s.lo.tail 2),Y (bO s.lo.tail 3),Y (bO s.lo.tail 4),Y (bO s.lo.tail 5),Y (bO s.lo.tail 6),Y (bO s.lo.tail 7),Y s.lo.tail.length,Y s.ha,mv]):=Z λ_ _=>rfl;generalize xF:ir s.ty=tb at*;have xG:=Z xF;clear xF;generalize bO s.lo=lc at*;generalize Ag:s.lo.length=ln at*;generalize ln-8=n8 at*;have Jt:aH (((w.alloc (Xe #[Y 26,Y m,Y xb,Y xc,Y xd] 40)).alloc (Xe #[.bool true,.string tb,Y (lc 0),Y (lc 1),Y (lc 2),Y (lc 3),Y (lc 4),Y (lc 5),Y (lc 6),Y (lc 7),Y ln,Y s.ha,H ma n8 mc] 233)).drew) w.heap.size 40 #[Y 26,Y m,Y xb,Y xc,Y xd]:=((aH.new w _ _).alloc _).drewN 1;have im:aH (((w.alloc (Xe #[Y 26,Y m,Y xb,Y xc,Y xd] 40)).alloc (Xe #[.bool true,.string tb,Y (lc 0),Y (lc 1),Y (lc 2),Y (lc 3),Y (lc 4),Y (lc 5),Y (lc 6),Y (lc 7),Y ln,Y s.ha,H ma n8 mc] 233)).drew) (w.heap.size+1) 233 #[.bool true,.string tb,Y (lc 0),Y (lc 1),Y (lc 2),Y (lc 3),Y (lc 4),Y (lc 5),Y (lc 6),Y (lc 7),Y ln,Y s.ha,H ma n8 mc]:=(aH.bK az).drewN 1;have qt:Vl w (((w.alloc (Xe #[Y 26,Y m,Y xb,Y xc,Y xd] 40)).alloc (Xe #[.bool true,.string tb,Y (lc 0),Y (lc 1),Y (lc 2),Y (lc 3),Y (lc 4),Y (lc 5),Y (lc 6),Y (lc 7),Y ln,Y s.ha,H ma n8 mc] 233)).drew) (Y m) (.bool true) (.string tb) (Y (lc 0)) (Y (lc 1)) (Y (lc 2)) (Y (lc 3)) (Y (lc 4)) (Y (lc 5)) (Y (lc 6)) (Y (lc 7)) (Y ln) (Y s.ha) (H ma n8 mc):=⟨Jt.cell 1,im.cell 0,im.cell 1,im.cell 2,im.cell 3,im.cell 4,im.cell 5,im.cell 6,im.cell 7,im.cell 8,im.cell 9,im.cell 10,im.cell 11,im.cell 12⟩;have dG:Below w.heap.size w (((w.alloc (Xe #[Y 26,Y m,Y xb,Y xc,Y xd] 40)).alloc (Xe #[.bool true,.string tb,Y (lc 0),Y (lc 1),Y (lc 2),Y (lc 3),Y (lc 4),Y (lc 5),Y (lc 6),Y (lc 7),Y ln,Y s.ha,H ma n8 mc] 233)).drew):=(hB _ _ _ _).trans (aA _ _ 1);have fM:=Z dG;have KA:Hid (∀V V':ek,Below V.heap.size V V'->(Vl w V (Y m) (.bool true) (.string tb) (Y (lc 0)) (Y (lc 1)) (Y (lc 2)) (Y (lc 3)) (Y (lc 4)) (Y (lc 5)) (Y (lc 6)) (Y (lc 7)) (Y ln) (Y s.ha) (H ma n8 mc))->(Vl w V' (Y m) (.bool true) (.string tb) (Y (lc 0)) (Y (lc 1)) (Y (lc 2)) (Y (lc 3)) (Y (lc 4)) (Y (lc 5)) (Y (lc 6)) (Y (lc 7)) (Y ln) (Y s.ha) (H ma n8 mc))):=by exact NM
  clear Jt im dG;go_enter func247,ntmps247;go_wp2;refine Mk.bq (S:=λwx=>Xf wx (I w.heap.size 1)=O (Y m)/\Xf wx (I (w.heap.size+1) 0)=O (.bool true)/\Xf wx (I (w.heap.size+1) 1)=O (.string tb)/\Xf wx (I (w.heap.size+1) 2)=O (Y (lc 0))/\Xf wx (I (w.heap.size+1) 3)=O (Y (lc 1))/\Xf wx (I (w.heap.size+1) 4)=O (Y (lc 2))/\Xf wx (I (w.heap.size+1) 5)=O (Y (lc 3))/\Xf wx (I (w.heap.size+1) 6)=O (Y (lc 4))/\Xf wx (I (w.heap.size+1) 7)=O (Y (lc 5))/\Xf wx (I (w.heap.size+1) 8)=O (Y (lc 6))/\Xf wx (I (w.heap.size+1) 9)=O (Y (lc 7))/\Xf wx (I (w.heap.size+1) 10)=O (Y ln)/\Xf wx (I (w.heap.size+1) 11)=O (Y s.ha)/\Xf wx (I (w.heap.size+1) 12)=O (H ma n8 mc)) bj qt (λau=>?_);generalize World.drew _=V0 at*;refine Mk.tk 0 (v:=?_) rfl ?_ cJ ?_;rotate_left
  ·exact qM
  refine Mk.pt ?_;refine Mk.tk 1 (v:=?_) rfl ?_ cJ ?_;rotate_left
  ·exact qM
  refine Mk.pt ?_;refine Mk.tk 2 (v:=?_) rfl ?_ cJ ?_;rotate_left
  ·exact qM
  refine Mk.pt ?_;refine Mk.tk 3 (v:=?_) rfl ?_ cJ ?_;rotate_left
  ·exact qM
  refine Mk.pt ?_;refine Mk.tk 4 (v:=?_) rfl ?_ cJ ?_;rotate_left
  ·exact qM
  refine Mk.pt ?_;refine Mk.tk 5 (v:=?_) rfl ?_ cJ ?_;rotate_left
  ·exact qM
  refine Mk.pt ?_;refine Mk.tk 6 (v:=?_) rfl ?_ cJ ?_;rotate_left
  ·exact qM
  refine Mk.pt ?_;refine dM (rs:=[7]) bj az ?_;refine bX rfl (λK hK=>?_) cz;refine fL ?_;go_simp;go_at_call 301;refine(HW.o _ fM.o).mono ?_;rintro e w2 ⟨mv2,rfl,ul,dR,pB⟩;obtain⟨na,nc,DS,-,-⟩:=aY.val ul;dsimp only at ul DS;subst DS;have yu:=KA.o _ _ dR qt;have Bi:=Z ul;have fR:=Z (fM.o.trans (dR.mono fM.o.size));have zU:=Z pB;have Nf:=Z dR;clear ul dR pB HW;unfold ey de;dsimp only;rw[xG.o];generalize s.lo.tail.length-8=n9 at*;generalize bO s.lo.tail=pG at*;generalize s.lo.tail.length=Ys at*;clear au;refine hK.out _ _ yu (λau=>?_);clear hK K;refine Mk.pt ?_;refine Mk.tk 8 (v:=?_) rfl ?_ cJ ?_;rotate_left
  ·exact qM
  refine Mk.pt ?_;refine dM (rs:=[9]) bj az ?_;refine bX rfl (λK hK=>?_) cz;refine fL ?_;go_simp;refine hK.out _ _ (KA.o _ _ ((aZ _ _).alloc (aL _) _) yu) (λau=>?_);clear hK K;refine Mk.pt ?_;refine Mk.tk 10 (v:=?_) rfl ?_ cJ ?_;rotate_left
  ·exact qM
  refine Mk.pt ?_;refine eT bj ⟨rfl,?_⟩ _;clear au;go_wp2_with fail;refine eF rfl ?_;have BF:=fR.o.alloc fR.o.size (Xe #[Y ((pc:Int)+1),.bool true,.string tb,Y (lc 0),Y (lc 1),Y (lc 2),Y (lc 3),Y (lc 4),Y (lc 5),Y (lc 6),Y (lc 7),Y ln,Y s.ha,H ma n8 mc,Y m,.bool true,.string tb,Y (pG 0),Y (pG 1),Y (pG 2),Y (pG 3),Y (pG 4),Y (pG 5),Y (pG 6),Y (pG 7),Y Ys,Y s.ha,H na n9 nc] 279);have KB:=aH.new w2 279 #[Y ((pc:Int)+1),.bool true,.string tb,Y (lc 0),Y (lc 1),Y (lc 2),Y (lc 3),Y (lc 4),Y (lc 5),Y (lc 6),Y (lc 7),Y ln,Y s.ha,H ma n8 mc,Y m,.bool true,.string tb,Y (pG 0),Y (pG 1),Y (pG 2),Y (pG 3),Y (pG 4),Y (pG 5),Y (pG 6),Y (pG 7),Y Ys,Y s.ha,H na n9 nc];exact⟨_,λi=>if i=0 then H ma n8 mc else H na n9 nc,rfl,jt.two KB (by rw[px.o,Ng.o];rfl) (HM.o.aG (aC.ai BF)) (λ_ X=> .inl X) (Bi.o.aG ((aC.refl [] w2).alloc _)) (λb X=>(zU.o b X).imp id (λh=>bS fM.o.size h)),BF,λb X=>by have h1:w2.heap.size=b:=fT X;have h2:=fR.o.size;omega⟩
 ·have hf:cT pc ⟨op,xa,xb,xc,xd⟩ s=[(pc+1,s)]:=by unfold cT;dsimp only;rw[ax o1,ax o2,ax o3,ax o4,ax o5]
  rw[hf];have o6:¬op=0:=λe=>o1 (.inl e);have o7:¬op=27:=λe=>o1 (.inr e);clear hf hm ha hq o1;unfold a_ aK ey de;dsimp only;have Ng:Hid (vK (pc+1) s (H ma (s.lo.length-8) mc)=#[Y (pc+1:Nat),.bool true,.string (ir s.ty),Y (bO s.lo 0),Y (bO s.lo 1),Y (bO s.lo 2),Y (bO s.lo 3),Y (bO s.lo 4),Y (bO s.lo 5),Y (bO s.lo 6),Y (bO s.lo 7),Y s.lo.length,Y s.ha,H ma (s.lo.length-8) mc]):=Z rfl;generalize ir s.ty=tb at*;generalize bO s.lo=lc at*;exact P9
def Rp(op:Nat)(i:Nat):to:=Y ((cm op).getD i 0:Nat)
def acX(w:ek)(op:Nat)(e:Ending)(w':ek):Prop:=∃tv,e=Xc (.agg #[tv,Y (cP op:Nat)])/\aY w' 1 tv (cm op).length (Rp op)/\Below w.heap.size w w'
def afD{W:ek}{b:Nat}{x:to}{g:Nat->to}(h:aH W b 3 #[x])(e:g 0=x):aY W 1 (H (O (I b 0)) 1 1) 1 g:=
 .inr ⟨_,_,rfl,aL _,by unfold maxLen;omega,λo ho=>⟨rfl,by
   obtain rfl:o=0:=G;rw[e];exact h.cell 0⟩⟩
def afE{W:ek}{b:Nat}{x y:to}{g:Nat->to}(h:aH W b 3 #[x,y])(e:g 0=x)(e2:g 1=y):aY W 1 (H (O (I b 0)) 2 2) 2 g:=
 .inr ⟨_,_,rfl,aL _,by unfold maxLen;omega,λo ho=>⟨rfl,by
   have:o=0\/o=1:=G;rcases this with rfl|rfl
   ·rw[e];exact h.cell 0
   ·rw[e2];exact h.cell 1⟩⟩
def aaS(w:ek)(op:Nat)(dO:op<42):Calls prog 298 #[Y op] w (acX w op):=by
 have hB:=rH w;have e:op=0\/op=1\/op=2\/op=3\/op=4\/op=5\/op=6\/op=7\/op=8\/op=9\/op=10\/op=11\/op=12\/op=13\/op=14\/op=15\/op=16\/op=17\/op=18\/op=19\/op=20\/op=21\/op=22\/op=23\/op=24\/op=25\/op=26\/op=27\/op=28\/op=29\/op=30\/op=31\/op=32\/op=33\/op=34\/op=35\/op=36\/op=37\/op=38\/op=39\/op=40\/op=41:=G;rcases e with rfl|rfl|rfl|rfl|rfl|rfl|rfl|rfl|rfl|rfl|rfl|rfl|rfl|rfl|rfl|rfl|rfl|rfl|rfl|rfl|rfl|rfl|rfl|rfl|rfl|rfl|rfl|rfl|rfl|rfl|rfl|rfl|rfl|rfl|rfl|rfl|rfl|rfl|rfl|rfl|rfl|rfl
 all_goals
  go_enter func298,ntmps298;go_wp2_with fail
  first
  |(refine bR ?_ rfl ⟨H Xb 0 0,rfl,.inl ⟨rfl,rfl⟩,hB _ _⟩;simp[results,results298,go_sem,cP];done)
  |(refine bR ?_ rfl ⟨H (O ⟨w.heap.size+1,0,Xb⟩) 2 2,rfl,afE (aH.bK az) rfl rfl,(hB _ _).alloc (by simp only[aO];omega) _⟩;simp[results,results298,go_sem,cP];done)
  |(refine bR ?_ rfl ⟨H (O ⟨w.heap.size+1,0,Xb⟩) 1 1,rfl,afD (aH.bK az) rfl,(hB _ _).alloc (by simp only[aO];omega) _⟩;simp[results,results298,go_sem,cP];done)
def aaL(n:Nat):∃k c,cm n=List.replicate k c/\k<=2/\(c=1\/c=2\/(c=3/\k=2))/\(n=19↔c=3):=by
 have vS:cm 19=[3,3]:=rfl;rcases v_ n with h|h|h|h|⟨e,h⟩
 ·exact⟨0,1,h,G,.inl rfl,⟨λe=>(by subst e;rw[vS]at h;cases h),λe=>by cases e⟩⟩
 ·exact⟨1,1,h,G,.inl rfl,⟨λe=>(by subst e;rw[vS]at h;cases h),λe=>by cases e⟩⟩
 ·exact⟨1,2,h,G,.inr (.inl rfl),⟨λe=>(by subst e;rw[vS]at h;cases h),λe=>by cases e⟩⟩
 ·exact⟨2,1,h,G,.inl rfl,⟨λe=>(by subst e;rw[vS]at h;cases h),λe=>by cases e⟩⟩
 ·exact⟨2,3,h,G,.inr (.inr ⟨rfl,rfl⟩),⟨λ_=>rfl,λ_=>e⟩⟩
def aaP:∀n,n<42->cP n<=2:=by decide
def aaO(ty:List Nat)(w:ek){j:Nat}(hj:j<ty.length)(ht:fy ty):(Instr.index 9 (.string (ir ty)) (Y ((ty.length-1-j:Nat):Int))).run prog w= .ok (.int .u8 (ty.getD j 0)) w:=by have hs:=pU ty;have hi:0<=((ty.length-1-j:Nat):Int)/\((ty.length-1-j:Nat):Int)<((ir ty).size:Int):=G;rw[run_index_string w _ _ _ _ underlying9,dif_pos hi];have h3:=Fm ty (ty.length-1-j);rw[IP hj]at h3;simp only[Int.toNat_natCast];have h2:ty.length-1-j<(ir ty).size:=G;rw[getElem?_pos (ir ty) _ h2]at h3;simp only[Option.map_some,iI]at h3;rw[h3];rcases ht.at hj with e|e<;>rw[e]<;>rfl
def ac0{k c:Nat}{ty:List Nat}(hk:k<=ty.length)(hc:c≠3):jp (List.replicate k c) ty=true↔∀j,j<k->ty.getD j 0=c:=by
 induction k generalizing ty with
 |zero=>simp[jp]
 |succ k ih=>
  cases ty with
  |nil=>simp at hk
  |cons t ts=>
   rw[List.replicate_succ,jp];simp only[fh,Bool.or_eq_true,beq_iff_eq,hc,false_or];rw[ih (by simpa using hk)];constructor
   ·rintro⟨e,h⟩ j hj;cases j with
    |zero=>exact e
    |succ j=>exact h j G
   ·intro h;exact⟨h 0 G,λj hj=>h (j+1) G⟩
def sL(w:ek)(th:Bool)(s:Std)(mv:to)(x:Ins)(e:Ending)(w':ek):Prop:=
 ∃s',e=Xc (.tuple #[ey th s' mv,Y (bZ x s.ty)])/\(bZ x s.ty=0->s'={s with ty:=bg x s.ty})/\Below w.heap.size w w'
def RL(xb sb rb X n:Nat)(tv:to)(k i:Nat)(a:Act):Prop:=∃J:Nat->to,a={tmps:=#[J 0,J 1,J 2,J 3,Oi xb,Oi sb,Oi rb,J 7,Oi X,Y n,J 10,J 11,J 12,J 13,J 14,J 15,J 16,J 17,J 18,J 19,J 20,J 21,J 22,J 23,J 24,J 25,J 26,J 27,J 28,J 29,J 30,J 31,J 32,J 33,J 34,J 35,J 36,J 37,J 38,J 39,J 40,J 41,J 42,J 43,J 44,J 45,tv,Y k,Y i,J 49,J 50,J 51,J 52,J 53,J 54,J 55,J 56,J 57,J 58,J 59,J 60,J 61,J 62,J 63,J 64,J 65,J 66,J 67,J 68,J 69,J 70,J 71,J 72,J 73,J 74,J 75,J 76,J 77,J 78,J 79,J 80,J 81,J 82,J 83,J 84,J 85,J 86,J 87,J 88,J 89,J 90,J 91,J 92,J 93,J 94,J 95,J 96,J 97,J 98,J 99,J 100,J 101,J 102,J 103],defers:=[]}
def OTk(ty:List Nat)(k c i:Nat):Prop:=(c=3->0<i->ty.getD 0 0=ty.getD 1 0)/\(c≠3->∀j,j<i->ty.getD (k-1-j) 0=c)
def Jv(w:ek)(xb sb rb X n:Nat)(tv:to)(k:Nat)(P:ek->Prop)(a0f:Nat->Prop)(m:Nat)(a:Act)(W:ek):Prop:=
 ∃i,i<=k/\m+i=k+1/\RL xb sb rb X n tv k i a/\Hid (Below w.heap.size w W)/\Hid (P W)/\Hid (a0f i)
structure Tn(W:ek)(dl:Nat)(op xa xb xc xd:Int)(th:Bool)(tb:ByteArray)(lc:Nat->Nat)(ln ha:Nat)(mv tv:to)(k n:Nat):Prop where
 x:aH W dl 40 #[Y op,Y xa,Y xb,Y xc,Y xd]
 s:aH W (dl+1) 233 #[.bool th,.string tb,Y (lc 0),Y (lc 1),Y (lc 2),Y (lc 3),Y (lc 4),Y (lc 5),Y (lc 6),Y (lc 7),Y ln,Y ha,mv]
 r:aH W (dl+1+1) 233 #[.bool false,.string ⟨#[]⟩,Y 0,Y 0,Y 0,Y 0,Y 0,Y 0,Y 0,Y 0,Y 0,Y 0,Xd]
 t:aY W 1 tv k (Rp n)
def Tn.aG{W W':ek}{dl:Nat}{op xa xb xc xd:Int}{th:Bool}{tb:ByteArray}{lc:Nat->Nat}{ln ha:Nat}{mv tv:to}{k n:Nat}(h:Tn W dl op xa xb xc xd th tb lc ln ha mv tv k n)(f:aC [] W W'):Tn W' dl op xa xb xc xd th tb lc ln ha mv tv k n:=
 ⟨h.x.aG f az,h.s.aG f az,h.r.aG f az,h.t.aG f⟩
def adt(w:ek)(dl X n:Nat)(xa xb xc xd:Int)(th:Bool)(tb:ByteArray)(lc:Nat->Nat)(ln ha:Nat)(mv:to)(ty:List Nat)(k c g:Nat)(ta:Option Addr)(tc:Nat)(a:Act)(W:ek):Prop:=
 RL dl (dl+1) (dl+1+1) X (ty.length-k) (H ta k tc) k k a/\Hid (Below w.heap.size w W)/\Hid (Tn W dl n xa xb xc xd th tb lc ln ha mv (H ta k tc) k n/\aH W X 316 #[H ta k tc,Y g])/\Hid (OTk ty k c k)
def lP:Code->Option Code
 | .loop c=>O c
 | .seq a b=>match lP a with
   |some c=>O c
   |none=>lP b
 | .block _ c=>lP c
 | .scope c=>lP c
 | .cond _ a b=>match lP a with
   |some c=>O c
   |none=>lP b
 |_=>Xb
noncomputable def aap:Code:=(Proofs.Tryz.f243.body.bind lP).getD .skip
def gi{p:Prop}(h:p:=by
 go_wp2;go_quiet (fail);go_wp2;exact⟨i+1,G,G,rp rfl,Z (HB.o.trans (aA _ _ _)),Z (HPD.o _),zU⟩):p:=h
def J7{p:Prop}(h:p:=by
 rw[HE.o];simp[results,results243,go_sem,i0,i1,i2,i3,i4,i5,i6,i7,i8,i9,i10,i11,i12,ey,de,xG.o,DT.o,tY.o]):p:=h
def RE{p:Prop}(h:p:=by
 go_wp2;go_quiet (fail);generalize hW2:W.drewN _=W2 at*;have P2:Tn W2 dl n xa xb xc xd th tb lc ln ha (H ma mn mc) (H (O (I rb_ Wo)) k tc) k n/\aH W2 X 316 #[H (O (I rb_ Wo)) k tc,Y g]:=by rw[<-hW2];exact HPD.o _
 have B2:Below w.heap.size w W2:=by rw[<-hW2];exact HB.o.trans (aA _ _ _)
 clear hW2;obtain⟨K2,kh2⟩:=P2;have fR:=Z B2;have pZ:=Z K2;obtain⟨s0,s1,s2,s3,s4,s5,s6,s7,s8,s9,To,Om,Fy⟩:=K2.s.sB;obtain⟨z0,z1,z2,z3,z4,z5,z6,z7,z8,z9,z10,Vq,z12⟩:=K2.r.sB;have fz:=K2.r.frozen;have l0:=K2.x.lt;have l1:=K2.s.lt;have l2:=K2.r.lt;clear K2 kh2 B2;go_wp2_with fail;have f9:aC [dl+1+1] W2 _:=((((((((((((((aC.refl [dl+1+1] W2).setCell (p:=(I (dl+1+1) 0)) az (.bool th)).setCell (p:=(I (dl+1+1) 1)) az (.string tb)).setCell (p:=(I (dl+1+1) 2)) az (Y (lc 0))).setCell (p:=(I (dl+1+1) 3)) az (Y (lc 1))).setCell (p:=(I (dl+1+1) 4)) az (Y (lc 2))).setCell (p:=(I (dl+1+1) 5)) az (Y (lc 3))).setCell (p:=(I (dl+1+1) 6)) az (Y (lc 4))).setCell (p:=(I (dl+1+1) 7)) az (Y (lc 5))).setCell (p:=(I (dl+1+1) 8)) az (Y (lc 6))).setCell (p:=(I (dl+1+1) 9)) az (Y (lc 7))).setCell (p:=(I (dl+1+1) 10)) az (Y ln)).setCell (p:=(I (dl+1+1) 11)) az (Y ha)).setCell (p:=(I (dl+1+1) 12)) az (H ma mn mc));have b9:=(((((((((((((pZ.o.r.set 0 (.bool th)).set 1 (.string tb)).set 2 (Y (lc 0))).set 3 (Y (lc 1))).set 4 (Y (lc 2))).set 5 (Y (lc 3))).set 6 (Y (lc 4))).set 7 (Y (lc 5))).set 8 (Y (lc 6))).set 9 (Y (lc 7))).set 10 (Y ln)).set 11 (Y ha)).set 12 (H ma mn mc));simp only[List.setIfInBounds_toArray,List.set_cons_zero,List.set_cons_succ]at b9;have B9:=fR.o.trans (f9.below (B:=w.heap.size) fR.o.size (by simp only[List.mem_singleton];intro k hk;have:=HXB.o;omega));generalize(((((((((((((W2.setCell (I (dl+1+1) 0) (.bool th)).setCell (I (dl+1+1) 1) (.string tb)).setCell (I (dl+1+1) 2) (Y (lc 0))).setCell (I (dl+1+1) 3) (Y (lc 1))).setCell (I (dl+1+1) 4) (Y (lc 2))).setCell (I (dl+1+1) 5) (Y (lc 3))).setCell (I (dl+1+1) 6) (Y (lc 4))).setCell (I (dl+1+1) 7) (Y (lc 5))).setCell (I (dl+1+1) 8) (Y (lc 6))).setCell (I (dl+1+1) 9) (Y (lc 7))).setCell (I (dl+1+1) 10) (Y ln)).setCell (I (dl+1+1) 11) (Y ha)).setCell (I (dl+1+1) 12) (H ma mn mc))=W9 at*;obtain⟨i0,i1,i2,i3,i4,i5,i6,i7,i8,i9,i10,i11,i12⟩:=b9.sB;clear b9 f9;refine jD _ _ (bR ?_ rfl ⟨⟨ty,lo,ha⟩,rfl,λh=>(by rw[HE.o]at h;cases h),B9⟩);exact J7):p:=h
def aaJ{w:ek}{dl X n k c g ln ha tc mn mc:Nat}{xa xb xc xd:Int}{th:Bool}{tb:ByteArray}{lc:Nat->Nat}{ta ma:Option Addr}{ty lo:List Nat}(HXB:Hid (w.heap.size=dl))(Ln:Hid (∀(V:ek) (j:Nat),j<ty.length->(Instr.index 9 (.string tb) (Y ((ty.length-1-j:Nat):Int))).run prog V= .ok (.int .u8 (ty.getD j 0:Nat)) V))(KL:Hid (fy ty))(xG:Hid (ir ty=tb))(DT:Hid (bO lo=lc))(tY:Hid (lo.length=ln))
 (IG:Hid (bZ ⟨n,xa,xb,xc,xd⟩ ty=if(!jp (List.replicate k c) ty||(decide ((n:Int)=19)&&ty.getD 0 0 !=ty.getD 1 0))=true then 94 else 0)) (tR:Hid (k<=ty.length->c≠3->(jp (List.replicate k c) ty=true↔∀j,j<k->ty.getD j 0=c))) (HL:Hid (cm n=List.replicate k c)) (vS:n=19↔c=3) (hc:c=1\/c=2\/c=3/\k=2) (hk:k<=2) (hkl:k<=ty.length) (hl:ty.length<=256) (l9:dl+1+1<X)
 {Q:Exit->Act->ek->Prop} (jD:∀a W,bodyPost prog Proofs.Tryz.f243 (sL w th ⟨ty,lo,ha⟩ (H ma mn mc) ⟨n,xa,xb,xc,xd⟩) .ret a W->Q .ret a W) (dD:∀a W,adt w dl X n xa xb xc xd th tb lc ln ha (H ma mn mc) ty k c g ta tc a W->Q (.exit 0) a W)
 {m:Nat} {a0:Act} {W:ek} (hI:(Jv w dl (dl+1) (dl+1+1) X (ty.length-k) (H ta k tc) k (λW=>Tn W dl n xa xb xc xd th tb lc ln ha (H ma mn mc) (H ta k tc) k n/\aH W X 316 #[H ta k tc,Y g]) (OTk ty k c)) (m+1) a0 W):aap.wp prog (Exit.then ((Jv w dl (dl+1) (dl+1+1) X (ty.length-k) (H ta k tc) k (λW=>Tn W dl n xa xb xc xd th tb lc ln ha (H ma mn mc) (H ta k tc) k n/\aH W X 316 #[H ta k tc,Y g]) (OTk ty k c)) m) Q) a0 W:=by
 have w2:IntKind.i64.wrap (((ty.length-k:Nat):Int)+1)=((ty.length-k:Nat):Int)+1:=bJ _ kS;unfold sL at jD;obtain⟨i,hi,hm,⟨J,rfl⟩,HB,HP,HO⟩:=hI
 conv=>arg 2;whnf
 obtain⟨K1,kh⟩:=HP.o;obtain⟨h0,h1⟩:=kh.c2;have lh:=kh.lt;clear kh;obtain⟨s0,s1,s2,s3,s4,s5,s6,s7,s8,s9,To,Om,Fy⟩:=K1.s.sB;obtain⟨z0,z1,z2,z3,z4,z5,z6,z7,z8,z9,z10,Vq,z12⟩:=K1.r.sB;have fz:=K1.r.frozen;have l0:=K1.x.lt;have l1:=K1.s.lt;have l2:=K1.r.lt;have c0:=K1.x.c1;have HPD:=Z (λq=>(show Tn (W.drewN q) dl n xa xb xc xd th tb lc ln ha (H ma mn mc) (H ta k tc) k n/\aH (W.drewN q) X 316 #[H ta k tc,Y g]from⟨K1.aG ((aC.refl [] W).drewN q),HP.o.2.drewN q⟩));by_cases be:i<k
 ·obtain⟨rb_,Wo,agk,hv,-,-,ou,Lo⟩:=K1.t.some G G;simp only[cL]at hv;obtain⟨rfl,-,rfl⟩:=hv;have d0:Xf W (I rb_ (Wo+i))=O (Y c):=by rw[Lo i G];unfold Rp;rw[HL.o,dQ,List.getElem?_replicate,aE be];rfl
  have hjl:k-1-i<ty.length:=G;have hix:∀V,(Instr.index 9 (.string tb) (Y (((ty.length-k:Nat):Int)+(i:Int)))).run prog V= .ok (.int .u8 (ty.getD (k-1-i) 0:Nat)) V:=λV=>by have:=Ln.o V (k-1-i) hjl;rw[show((ty.length-k:Nat):Int)+(i:Int)=((ty.length-1 - (k-1-i):Nat):Int)by omega];exact this
  have w3:IntKind.i64.wrap (((ty.length-k:Nat):Int)+(i:Int))=((ty.length-k:Nat):Int)+(i:Int):=bJ _ kS;have w4:IntKind.i64.wrap ((i:Int)+1)=(i:Int)+1:=bJ _ kS;have hti:=KL.o.at hjl;have HTI:=Z (rfl:ty.getD (k-1-i) 0=ty.getD (k-1-i) 0);clear K1 Lo ou HP;by_cases NE:c=3
  ·have mL:k=2:=G;have afF:((n:Int)==19)=true:=by have:=vS.2 NE;simp;omega
   have ha0:ty.getD 0 0=1\/ty.getD 0 0=2:=KL.o.at G;have ha1:ty.getD 1 0=1\/ty.getD 1 0=2:=KL.o.at G;have OD:∀V,(Instr.index 9 (.string tb) (Y ((ty.length-k:Nat):Int))).run prog V= .ok (.int .u8 (ty.getD 1 0:Nat)) V:=λV=>by have:=Ln.o V 1 G;rw[show((ty.length-k:Nat):Int)=((ty.length-1-1:Nat):Int)by omega];exact this
   have zC:∀V,(Instr.index 9 (.string tb) (Y (((ty.length-k:Nat):Int)+1))).run prog V= .ok (.int .u8 (ty.getD 0 0:Nat)) V:=λV=>by have:=Ln.o V 0 G;rw[show((ty.length-k:Nat):Int)+1=((ty.length-1-0:Nat):Int)by omega];exact this
   have agl:=Z mL;have VD:=Z (vS.2 NE);clear mL vS hc HTI;subst NE;generalize ty.getD (k-1-i) 0=t at*;generalize hg0:ty.getD 0 0=t0 at*;generalize Hc:ty.getD 1 0=t1 at*;have HG0:=Z hg0;have XZ:=Z Hc;clear hg0 Hc;by_cases he:t0=t1
   ·subst he;have zU:=Z (show OTk ty k 3 (i+1)from⟨λ_ _=>HG0.o.trans XZ.o.symm,λe=>absurd rfl e⟩);clear HO HG0 XZ ha0;have e1:((t0:Int)!=(t0:Int))=false:=by simp
    clear hti ha1
    all_goals
     exact gi
   ·have HE:=Z (show bZ ⟨n,xa,xb,xc,xd⟩ ty=94 by
     rw[IG.o,aE];rw[VD.o];simp[he])
    clear HO IG HG0 XZ tR HL VD;have e1:((t1:Int)!=(t0:Int))=true:=by simp;omega
    clear hti ha1 ha0
    all_goals
     clear he;exact RE
  ·have afF:((n:Int)==19)=false:=by have:=λe=>NE (vS.1 e);simp;omega
   have ow:c=1\/c=2:=G;have HC3:=Z NE;clear NE vS hc;generalize ht9:ty.getD (k-1-i) 0=t at*;have HT9:=Z ht9;clear ht9 HTI;by_cases Et:t=c
   ·subst Et;clear hti;have zU:=Z (show OTk ty k t (i+1)from⟨λe=>absurd e HC3.o,λe j hj=>by
     by_cases e2:j=i
     ·subst e2;exact HT9.o
     ·exact HO.o.2 e j G⟩)
    clear HO;have e1:((t:Int)!=3)=true:=by simp;omega
    have e3:((t:Int)!=(t:Int))=false:=by simp
    have sV:t<=2:=G;clear ow
    all_goals
     exact gi
   ·have HE:=Z (show bZ ⟨n,xa,xb,xc,xd⟩ ty=94 by
     rw[IG.o,aE];have:jp (List.replicate k c) ty=false:=by
      cases hf:jp (List.replicate k c) ty with
      |false=>rfl
      |true=>exact absurd (HT9.o.symm.trans ((tR.o hkl HC3.o).1 hf (k-1-i) G)) Et
     rw[this];rfl)
    clear HO IG HT9 tR HL;have e1:((c:Int)!=3)=true:=by simp;omega
    have e2:((t:Int)!=(c:Int))=true:=by simp;omega
    have sV:t<=2:=G;clear ow hti
    all_goals
     clear Et;exact RE
 ·obtain rfl:i=k:=G;go_wp2_with fail
  first
  |exact dD _ _ ⟨rp rfl,HB,HP,HO⟩
  |exact⟨rp rfl,HB,HP,HO⟩
def NI{p:Prop}(h:p:=by
 obtain⟨i0,i1,i2,i3,i4,i5,i6,i7,i8,i9,i10,i11,i12⟩:=b9.sB;clear b9 f9;refine bR ?_ rfl ⟨⟨bg ⟨n,xa,xb,xc,xd⟩ ty,lo,ha⟩,rfl,λ_=>rfl,B9⟩;rw[HE.o];simp[results,results243,go_sem,i0,i1,i2,i3,i4,i5,i6,i7,i8,i9,i10,i11,i12,ey,de,HTV.o,DT.o,tY.o]):p:=h
def Sm{p:Prop}(h:p:=by
 go_wp2_with fail;have f9:aC [dl+1+1] w' _:=(((((((((((((((aC.refl [dl+1+1] w').setCell (p:=(I (dl+1+1) 0)) az (.bool th)).setCell (p:=(I (dl+1+1) 1)) az (.string tb)).setCell (p:=(I (dl+1+1) 2)) az (Y (lc 0))).setCell (p:=(I (dl+1+1) 3)) az (Y (lc 1))).setCell (p:=(I (dl+1+1) 4)) az (Y (lc 2))).setCell (p:=(I (dl+1+1) 5)) az (Y (lc 3))).setCell (p:=(I (dl+1+1) 6)) az (Y (lc 4))).setCell (p:=(I (dl+1+1) 7)) az (Y (lc 5))).setCell (p:=(I (dl+1+1) 8)) az (Y (lc 6))).setCell (p:=(I (dl+1+1) 9)) az (Y (lc 7))).setCell (p:=(I (dl+1+1) 10)) az (Y ln)).setCell (p:=(I (dl+1+1) 11)) az (Y ha)).setCell (p:=(I (dl+1+1) 12)) az (H ma mn mc)).alloc (Xe #[H ta k tc,Y g] 316));have b9:=(((((((((((((oD.o.r.set 0 (.bool th)).set 1 (.string tb)).set 2 (Y (lc 0))).set 3 (Y (lc 1))).set 4 (Y (lc 2))).set 5 (Y (lc 3))).set 6 (Y (lc 4))).set 7 (Y (lc 5))).set 8 (Y (lc 6))).set 9 (Y (lc 7))).set 10 (Y ln)).set 11 (Y ha)).set 12 (H ma mn mc));simp only[List.setIfInBounds_toArray,List.set_cons_zero,List.set_cons_succ]at b9;replace b9:=b9.alloc (Xe #[H ta k tc,Y g] 316);have B9:=Nz.o.trans (f9.below (B:=w.heap.size) Nz.o.size (by simp only[List.mem_singleton];intro k hk;have:=HXB.o;omega));generalize((((((((((((((w'.setCell (I (dl+1+1) 0) (.bool th)).setCell (I (dl+1+1) 1) (.string tb)).setCell (I (dl+1+1) 2) (Y (lc 0))).setCell (I (dl+1+1) 3) (Y (lc 1))).setCell (I (dl+1+1) 4) (Y (lc 2))).setCell (I (dl+1+1) 5) (Y (lc 3))).setCell (I (dl+1+1) 6) (Y (lc 4))).setCell (I (dl+1+1) 7) (Y (lc 5))).setCell (I (dl+1+1) 8) (Y (lc 6))).setCell (I (dl+1+1) 9) (Y (lc 7))).setCell (I (dl+1+1) 10) (Y ln)).setCell (I (dl+1+1) 11) (Y ha)).setCell (I (dl+1+1) 12) (H ma mn mc)).alloc (Xe #[H ta k tc,Y g] 316))=W9 at*;obtain⟨i0,i1,i2,i3,i4,i5,i6,i7,i8,i9,i10,i11,i12⟩:=b9.sB;clear b9 f9;refine bR ?_ rfl ⟨⟨ty,lo,ha⟩,rfl,λh=>(by rw[HE.o]at h;cases h),B9⟩;exact J7):p:=h
def aaI(w:ek){mv vv:to}(th:Bool){s:Std}{x:Ins}(h0:0<=x.op)(h41:x.op<=41)(hl:s.ty.length<=256)(ht:fy s.ty)(hm:∃a n c,mv=H a n c):
 Calls prog 243 #[vv,a_ x,ey th s mv] w (sL w th s mv x):=by
 obtain⟨op,xa,xb,xc,xd⟩:=x;obtain⟨ty,lo,ha⟩:=s;obtain⟨ma,mn,mc,rfl⟩:=hm;dsimp only at h0 h41 hl ht;obtain⟨n,rfl⟩:=eS h0;have Gx:n<42:=G;have HS:=Z (λV=>aaS V n Gx);obtain⟨k,c,hL,hk,hc,vS⟩:=aaL n;have hg:=aaP n Gx;have HT:=Z (show bZ ⟨n,xa,xb,xc,xd⟩ ty=if ty.length<k\/((n:Int)=0/\0<ty.length)\/(cP n≠0/\256<ty.length-k+1)then 93 else if !jp (List.replicate k c) ty||(decide ((n:Int)=19)&&ty.getD 0 0 !=ty.getD 1 0)then 94 else 0 by
  unfold bZ;dsimp only[Int.toNat_natCast];rw[hL,List.length_replicate])
 have HV:=Z (show bg ⟨n,xa,xb,xc,xd⟩ ty=if cP n=0 then ty.drop k else cP n::ty.drop k by unfold bg;dsimp only[Int.toNat_natCast];rw[hL,List.length_replicate]);have nO:=pU ty;have hB:=rH w;unfold a_ aK ey de sL;dsimp only;have sS:(cm n).length=k:=by rw[hL,List.length_replicate]
 have gen:∀(W:ek) (cx cs cr:Array to) (tx ts:TypeId),Below W.heap.size W (((W.alloc (Xe cx tx)).alloc (Xe cs ts)).alloc (Xe cr ts)):=λW cx cs cr tx ts=>(((aZ _ _).alloc (aL _) _).alloc az _).alloc (by simp only[aO];omega) _;go_enter func243,ntmps243;go_wp2_with fail;refine(HS.o _).mono ?_;rintro e w' ⟨tv,rfl,bC,X⟩;have yw:=(gen w _ _ _ _ _).trans (X.mono (by simp only[aO];omega));have kx:aH w' w.heap.size 40 #[Y n,Y xa,Y xb,Y xc,Y xd]:=(((aH.new w _ _).alloc _).alloc _).of (X.block _ (by simp only[aO];omega));have ks:aH w' (w.heap.size+1) 233 #[.bool th,.string (ir ty),Y (bO lo 0),Y (bO lo 1),Y (bO lo 2),Y (bO lo 3),Y (bO lo 4),Y (bO lo 5),Y (bO lo 6),Y (bO lo 7),Y lo.length,Y ha,H ma mn mc]:=((aH.bK az).alloc _).of (X.block _ (by simp only[aO];omega));have kr:aH w' (w.heap.size+1+1) 233 #[.bool false,.string ⟨#[]⟩,Y 0,Y 0,Y 0,Y 0,Y 0,Y 0,Y 0,Y 0,Y 0,Y 0,Xd]:=(aH.bK az).of (X.block _ (by simp only[aO];omega));obtain⟨ta,tc,rfl,t1,t2⟩:=bC.val;rw[sS]at bC t1;generalize me:w.heap.size=dl at*;rw[sS];rw[<-me]at yw;have zm:=yw.alloc yw.size (Xe #[H ta k tc,Y (cP n:Nat)] 316);have Ln:=Z (λV j (hj:j<ty.length)=>aaO ty V hj ht);have KL:=Z ht;have tR:=Z (λ(hk:k<=ty.length) (hc:c≠3)=>ac0 hk hc);have HL:=Z hL;have Tw:0<=n:=ck _;have Nz:=Z yw;have HXB:=Z me;clear yw X gen hB HS ht hL sS me;generalize kX:cP n=g at*;have HG:=Z kX;clear kX;generalize xF:ir ty=tb at*;have xG:=Z xF;clear xF;generalize Bk:bO lo=lc at*;have DT:=Z Bk;clear Bk;generalize Ag:lo.length=ln at*;have tY:=Z Ag;clear Ag;have HB:=Z zm;clear zm;have K0:Tn w' dl n xa xb xc xd th tb lc ln ha (H ma mn mc) (H ta k tc) k n:=⟨kx,ks,kr,bC⟩;have oD:=Z K0;clear kx ks kr bC;obtain⟨s0,s1,s2,s3,s4,s5,s6,s7,s8,s9,To,Om,Fy⟩:=K0.s.sB;obtain⟨z0,z1,z2,z3,z4,z5,z6,z7,z8,z9,z10,Vq,z12⟩:=K0.r.sB;have fz:=K0.r.frozen;have l0:=K0.x.lt;have l1:=K0.s.lt;have l2:=K0.r.lt;have c0:=K0.x.c1;by_cases hA1:ty.length<k
 ·all_goals
   have ny:((ty.length:Int) - (k:Int)<0)=True:=by simp;omega
   have HE:=Z (show bZ ⟨n,xa,xb,xc,xd⟩ ty=93 by rw[HT.o,aE (.inl hA1)]);clear Ln;exact Sm
 have w1:IntKind.i64.wrap ((ty.length:Int) - (k:Int))=((ty.length-k:Nat):Int):=by rw[bJ _ kS];omega
 have U_:((ty.length:Int) - (k:Int))=((ty.length-k:Nat):Int):=G;by_cases hA2:n=0/\0<ty.length
 ·all_goals
   obtain⟨rfl,Dx⟩:=hA2;have Jt:k=0:=by have:=HL.o;rw[show cm 0=[]from rfl]at this;exact(by simpa using bo List.length this.symm)
   have hp9:0<ty.length-k:=G;have HE:=Z (show bZ ⟨(0:Nat),xa,xb,xc,xd⟩ ty=93 by rw[HT.o,aE (.inr (.inl ⟨rfl,Dx⟩))]);clear Ln Jt Dx;exact Sm
 by_cases Bl:g≠0/\256<ty.length-k+1
 ·all_goals
   obtain⟨hg0,Hc⟩:=Bl;have Tw:0<n:=by
    rcases Nat.eq_zero_or_pos n with e|e
    ·subst e;exact absurd HG.o.symm hg0
    ·exact e
   have w2:IntKind.i64.wrap (((ty.length-k:Nat):Int)+1)=((ty.length-k:Nat):Int)+1:=bJ _ kS;have PN:((g:Int)!=0)=true:=by simp;omega
   have HE:=Z (show bZ ⟨n,xa,xb,xc,xd⟩ ty=93 by rw[HT.o,aE (.inr (.inr ⟨hg0,Hc⟩))]);clear Ln;exact Sm
 have hkl:k<=ty.length:=G;have IG:=Z (show bZ ⟨n,xa,xb,xc,xd⟩ ty=if(!jp (List.replicate k c) ty||(decide ((n:Int)=19)&&ty.getD 0 0 !=ty.getD 1 0))=true then 94 else 0 by
  rw[HT.o,ax];rintro(h|h|h)
  ·exact hA1 h
  ·exact hA2 ⟨G,h.2⟩
  ·exact Bl h)
 have Ap:(((n:Int)==0)=true/\decide (0<((ty.length-k:Nat):Int))=false/\decide (0<ty.length-k)=false/\((g:Int)!=0)=false)\/(0<n/\((g:Int)!=0)=false)\/(0<n/\0<g/\ty.length-k+1<=256):=by
  rcases Nat.eq_zero_or_pos n with e|e
  ·left;have hg0:g=0:=by rw[<-HG.o,e];rfl
   have hl0:ty.length-k=0:=G;exact⟨by rw[e];rfl,by rw[hl0];rfl,by rw[hl0];rfl,by rw[hg0];rfl⟩
  ·rcases Nat.eq_zero_or_pos g with e2|e2
   ·exact .inr (.inl ⟨e,by rw[e2];rfl⟩)
   ·exact .inr (.inr ⟨e,e2,by have:¬(g≠0/\256<ty.length-k+1):=Bl;omega⟩)
 have w2:IntKind.i64.wrap (((ty.length-k:Nat):Int)+1)=((ty.length-k:Nat):Int)+1:=bJ _ kS;have l9:dl+1+1<w'.heap.size:=l2;clear hA1 hA2 Bl HT;rcases Ap with⟨b1,b2,b3,b4⟩|⟨b1,b2⟩|⟨b1,b2,b3⟩
 all_goals
  go_wp2;refine Mk.aM (Jv w dl (dl+1) (dl+1+1) w'.heap.size (ty.length-k) (H ta k tc) k (λW=>Tn W dl n xa xb xc xd th tb lc ln ha (H ma mn mc) (H ta k tc) k n/\aH W w'.heap.size 316 #[H ta k tc,Y g]) (OTk ty k c)) (k+1) ?start ?zero ?round
  case start=>exact⟨0,ck _,G,rp rfl,HB,Z ⟨oD.o.aG ((aC.refl [] w').alloc _),aH.new _ _ _⟩,Z ⟨λ_ h=>absurd h G,λ_ j h=>absurd h G⟩⟩
  case zero=>exact λa W hh=>by obtain⟨q,h1,h2,_⟩:=hh;omega
  generalize w'.heap.size=X at*;clear s0 s1 s2 s3 s4 s5 s6 s7 s8 s9 To Om Fy z0 z1 z2 z3 z4 z5 z6 z7 z8 z9 z10 Vq z12 fz c0 l0 l1 l2 HB oD Nz K0 w'
  case round=>
   intro m a W h;refine aaJ (lo:=lo) (mn:=mn) HXB Ln KL xG DT tY IG tR HL vS hc hk hkl hl l9 ?_ ?_ h
   ·exact λa W h=>h
   clear h;clear a W m;intro a W h;obtain⟨⟨J,rfl⟩,HB,HP,HO⟩:=h;obtain⟨K1,kh⟩:=HP.o;obtain⟨h0,h1⟩:=kh.c2;have lh:=kh.lt;clear kh;obtain⟨s0,s1,s2,s3,s4,s5,s6,s7,s8,s9,To,Om,Fy⟩:=K1.s.sB;obtain⟨z0,z1,z2,z3,z4,z5,z6,z7,z8,z9,z10,Vq,z12⟩:=K1.r.sB;have fz:=K1.r.frozen;have l0:=K1.x.lt;have l1:=K1.s.lt;have l2:=K1.r.lt;have c0:=K1.x.c1;have HE:=Z (show bZ ⟨n,xa,xb,xc,xd⟩ ty=0 by
    rw[IG.o,ax];by_cases NE:c=3
    ·have xS:k=2:=G;have hn:n=19:=vS.2 NE;have ho:=HO.o.1 NE G;rw[ho,NE,xS];have Tj:2<=ty.length:=G
     match ty,Tj with
     |a::b::r,_=>simp[jp,List.replicate]
    ·have hf:=(tR.o hkl NE).2 (λj hj=>by have:=HO.o.2 NE (k-1-j) G;rw[show k-1 - (k-1-j)=j by omega]at this;exact this);have hn:¬n=19:=λe=>NE (vS.1 e);rw[hf];simp;omega)
   clear HO IG tR HL hc vS;have He:(convert 318 9 (H (O (I W.heap.size 0)) 1 1)).run prog ((W.setCell (I (dl+1) 1) (.string (tb.extract 0 (ty.length-k)))).alloc (Xe #[.int .u8 g] 5))= .ok (.string ⟨#[UInt8.ofNat g]⟩) ((W.setCell (I (dl+1) 1) (.string (tb.extract 0 (ty.length-k)))).alloc (Xe #[.int .u8 g] 5)):=by
    refine run_convert_bytes_back _ _ _ _ (I W.heap.size 0) 1 [UInt8.ofNat g] underlying318 underlying5 underlying9 (λj hj=>?_);obtain rfl:j=0:=by simpa using hj
    have hg3:g=0\/g=1\/g=2:=G;have hk9:aH ((W.setCell (I (dl+1) 1) (.string (tb.extract 0 (ty.length-k)))).alloc (Xe #[.int .u8 g] 5)) W.heap.size 5 #[.int .u8 g]:=aH.bK az;have hc9:=hk9.cell 0;refine hc9.trans ?_;rcases hg3 with e|e|e<;>subst e<;>rfl
   have HPR:=Z K1.r;have fs:=K1.s.frozen;have HTD:=Z (PW ty k);rw[xG.o]at HTD;clear K1 HP Ln;by_cases hgz:((g:Int)!=0)=true
   ·(try (have hq:((g:Int)!=0)=false:=cJ;exact absurd (hgz.symm.trans hq) bz))
    all_goals
     have HTV:=Z (show ir (bg ⟨n,xa,xb,xc,xd⟩ ty)=tb.extract 0 (ty.length-k)++⟨#[UInt8.ofNat g]⟩by
      rw[HV.o,ax (λe=>by subst e;simp at hgz),<-PV,HTD.o])
     go_wp2_with fail;have f9:aC [dl+1,dl+1+1] W _:=(((((((((((((((((aC.refl [dl+1,dl+1+1] W).setCell (p:=(I (dl+1) 1)) az (.string (tb.extract 0 (ty.length-k)))).setCell (p:=(I (dl+1) 1)) az (.string (tb.extract 0 (ty.length-k)++⟨#[UInt8.ofNat g]⟩))).setCell (p:=(I (dl+1+1) 0)) az (.bool th)).setCell (p:=(I (dl+1+1) 1)) az (.string (tb.extract 0 (ty.length-k)++⟨#[UInt8.ofNat g]⟩))).setCell (p:=(I (dl+1+1) 2)) az (Y (lc 0))).setCell (p:=(I (dl+1+1) 3)) az (Y (lc 1))).setCell (p:=(I (dl+1+1) 4)) az (Y (lc 2))).setCell (p:=(I (dl+1+1) 5)) az (Y (lc 3))).setCell (p:=(I (dl+1+1) 6)) az (Y (lc 4))).setCell (p:=(I (dl+1+1) 7)) az (Y (lc 5))).setCell (p:=(I (dl+1+1) 8)) az (Y (lc 6))).setCell (p:=(I (dl+1+1) 9)) az (Y (lc 7))).setCell (p:=(I (dl+1+1) 10)) az (Y ln)).setCell (p:=(I (dl+1+1) 11)) az (Y ha)).setCell (p:=(I (dl+1+1) 12)) az (H ma mn mc)).alloc (Xe #[.int .u8 g] 5));have b9:=(((((((((((((((HPR.o.other (c:=dl+1) G 1 (.string (tb.extract 0 (ty.length-k)))).other (c:=dl+1) G 1 (.string (tb.extract 0 (ty.length-k)++⟨#[UInt8.ofNat g]⟩))).set 0 (.bool th)).set 1 (.string (tb.extract 0 (ty.length-k)++⟨#[UInt8.ofNat g]⟩))).set 2 (Y (lc 0))).set 3 (Y (lc 1))).set 4 (Y (lc 2))).set 5 (Y (lc 3))).set 6 (Y (lc 4))).set 7 (Y (lc 5))).set 8 (Y (lc 6))).set 9 (Y (lc 7))).set 10 (Y ln)).set 11 (Y ha)).set 12 (H ma mn mc));simp only[List.setIfInBounds_toArray,List.set_cons_zero,List.set_cons_succ]at b9;replace b9:=b9.alloc (Xe #[.int .u8 g] 5);have B9:=HB.o.trans (f9.below (B:=w.heap.size) HB.o.size (by simp only[ep,List.mem_singleton,List.not_mem_nil,or_false];intro k hk;have:=HXB.o;omega));generalize((((((((((((((((W.setCell (I (dl+1) 1) (.string (tb.extract 0 (ty.length-k)))).setCell (I (dl+1) 1) (.string (tb.extract 0 (ty.length-k)++⟨#[UInt8.ofNat g]⟩))).setCell (I (dl+1+1) 0) (.bool th)).setCell (I (dl+1+1) 1) (.string (tb.extract 0 (ty.length-k)++⟨#[UInt8.ofNat g]⟩))).setCell (I (dl+1+1) 2) (Y (lc 0))).setCell (I (dl+1+1) 3) (Y (lc 1))).setCell (I (dl+1+1) 4) (Y (lc 2))).setCell (I (dl+1+1) 5) (Y (lc 3))).setCell (I (dl+1+1) 6) (Y (lc 4))).setCell (I (dl+1+1) 7) (Y (lc 5))).setCell (I (dl+1+1) 8) (Y (lc 6))).setCell (I (dl+1+1) 9) (Y (lc 7))).setCell (I (dl+1+1) 10) (Y ln)).setCell (I (dl+1+1) 11) (Y ha)).setCell (I (dl+1+1) 12) (H ma mn mc)).alloc (Xe #[.int .u8 g] 5))=W9 at*;exact NI
   ·(try (have hgp:0<g:=cJ;exact hgz kZ))
    all_goals
     have afG:((g:Int)!=0)=false:=by simpa using hgz
     have HTV:=Z (show ir (bg ⟨n,xa,xb,xc,xd⟩ ty)=tb.extract 0 (ty.length-k)by
      rw[HV.o,aE (by simpa using afG),HTD.o])
     clear hgz He;go_wp2_with fail;have f9:aC [dl+1,dl+1+1] W _:=(((((((((((((((aC.refl [dl+1,dl+1+1] W).setCell (p:=(I (dl+1) 1)) az (.string (tb.extract 0 (ty.length-k)))).setCell (p:=(I (dl+1+1) 0)) az (.bool th)).setCell (p:=(I (dl+1+1) 1)) az (.string (tb.extract 0 (ty.length-k)))).setCell (p:=(I (dl+1+1) 2)) az (Y (lc 0))).setCell (p:=(I (dl+1+1) 3)) az (Y (lc 1))).setCell (p:=(I (dl+1+1) 4)) az (Y (lc 2))).setCell (p:=(I (dl+1+1) 5)) az (Y (lc 3))).setCell (p:=(I (dl+1+1) 6)) az (Y (lc 4))).setCell (p:=(I (dl+1+1) 7)) az (Y (lc 5))).setCell (p:=(I (dl+1+1) 8)) az (Y (lc 6))).setCell (p:=(I (dl+1+1) 9)) az (Y (lc 7))).setCell (p:=(I (dl+1+1) 10)) az (Y ln)).setCell (p:=(I (dl+1+1) 11)) az (Y ha)).setCell (p:=(I (dl+1+1) 12)) az (H ma mn mc));have b9:=((((((((((((((HPR.o.other (c:=dl+1) G 1 (.string (tb.extract 0 (ty.length-k)))).set 0 (.bool th)).set 1 (.string (tb.extract 0 (ty.length-k)))).set 2 (Y (lc 0))).set 3 (Y (lc 1))).set 4 (Y (lc 2))).set 5 (Y (lc 3))).set 6 (Y (lc 4))).set 7 (Y (lc 5))).set 8 (Y (lc 6))).set 9 (Y (lc 7))).set 10 (Y ln)).set 11 (Y ha)).set 12 (H ma mn mc));simp only[List.setIfInBounds_toArray,List.set_cons_zero,List.set_cons_succ]at b9;have B9:=HB.o.trans (f9.below (B:=w.heap.size) HB.o.size (by simp only[ep,List.mem_singleton,List.not_mem_nil,or_false];intro k hk;have:=HXB.o;omega));generalize((((((((((((((W.setCell (I (dl+1) 1) (.string (tb.extract 0 (ty.length-k)))).setCell (I (dl+1+1) 0) (.bool th)).setCell (I (dl+1+1) 1) (.string (tb.extract 0 (ty.length-k)))).setCell (I (dl+1+1) 2) (Y (lc 0))).setCell (I (dl+1+1) 3) (Y (lc 1))).setCell (I (dl+1+1) 4) (Y (lc 2))).setCell (I (dl+1+1) 5) (Y (lc 3))).setCell (I (dl+1+1) 6) (Y (lc 4))).setCell (I (dl+1+1) 7) (Y (lc 5))).setCell (I (dl+1+1) 8) (Y (lc 6))).setCell (I (dl+1+1) 9) (Y (lc 7))).setCell (I (dl+1+1) 10) (Y ln)).setCell (I (dl+1+1) 11) (Y ha)).setCell (I (dl+1+1) 12) (H ma mn mc))=W9 at*;exact NI
def nG:Code->List Code
 | .loop c=>[c]
 | .seq a b=>nG a++nG b
 | .block _ c=>nG c
 | .scope c=>nG c
 | .cond _ a b=>nG a++nG b
 |_=>[]
noncomputable def lkL(k:Nat):Code:=((nG (Proofs.Tryz.f173.body.getD .skip))[k]?).getD .skip
def FK(J:Nat->to):Act:={tmps:=#[J 0,J 1,J 2,J 3,J 4,J 5,J 6,J 7,J 8,J 9,J 10,J 11,J 12,J 13,J 14,J 15,J 16,J 17,J 18,J 19,J 20,J 21,J 22,J 23,J 24,J 25,J 26,J 27,J 28,J 29,J 30,J 31,J 32,J 33,J 34,J 35,J 36,J 37,J 38,J 39,J 40,J 41,J 42,J 43,J 44,J 45,J 46,J 47,J 48,J 49,J 50,J 51,J 52,J 53,J 54,J 55,J 56,J 57,J 58,J 59,J 60,J 61,J 62,J 63,J 64,J 65,J 66,J 67,J 68,J 69,J 70,J 71,J 72,J 73,J 74,J 75,J 76,J 77,J 78,J 79,J 80,J 81,J 82,J 83,J 84,J 85,J 86,J 87,J 88,J 89,J 90,J 91,J 92,J 93,J 94,J 95,J 96,J 97,J 98,J 99,J 100,J 101,J 102,J 103,J 104,J 105,J 106,J 107,J 108,J 109,J 110,J 111,J 112,J 113,J 114,J 115,J 116,J 117,J 118,J 119,J 120,J 121,J 122,J 123,J 124,J 125,J 126,J 127,J 128,J 129,J 130,J 131,J 132,J 133,J 134,J 135,J 136,J 137,J 138,J 139,J 140,J 141,J 142,J 143,J 144,J 145,J 146,J 147,J 148,J 149,J 150,J 151,J 152,J 153,J 154,J 155,J 156],defers:=[]}
def FK.of(A:Array to)(h:A=(FK λk=>A.getD k undef).tmps):({tmps:=A,defers:=[]}:Act)=FK λk=>A.getD k undef:=by rw[h];rfl
variable {w1:ek}{lo:Nat}{sv lv:to}{l:List (Nat×Std)}{xH:Nat->to}{Q:Exit->Act->ek->Prop}
def jt.Pk{W:ek}(h:jt W lo sv lv l xH){i:Nat}(hi:i<l.length):∃b off cap ma mc,lv=H (O (I b off)) l.length cap/\l.length<=cap/\cap<=maxLen/\b<W.heap.size/\xH i=H ma ((l.getD i e_).2.lo.length-8) mc/\
 Xf W (I b (off+i*14))=O (Y (l.getD i e_).1)/\Xf W (I b (off+i*14+1))=O (.bool true)/\Xf W (I b (off+i*14+2))=O (.string (ir (l.getD i e_).2.ty))/\Xf W (I b (off+i*14+3))=O (Y (bO (l.getD i e_).2.lo 0))/\Xf W (I b (off+i*14+4))=O (Y (bO (l.getD i e_).2.lo 1))/\Xf W (I b (off+i*14+5))=O (Y (bO (l.getD i e_).2.lo 2))/\Xf W (I b (off+i*14+6))=O (Y (bO (l.getD i e_).2.lo 3))/\Xf W (I b (off+i*14+7))=O (Y (bO (l.getD i e_).2.lo 4))/\Xf W (I b (off+i*14+8))=O (Y (bO (l.getD i e_).2.lo 5))/\Xf W (I b (off+i*14+9))=O (Y (bO (l.getD i e_).2.lo 6))/\Xf W (I b (off+i*14+10))=O (Y (bO (l.getD i e_).2.lo 7))/\Xf W (I b (off+i*14+11))=O (Y (l.getD i e_).2.lo.length)/\Xf W (I b (off+i*14+12))=O (Y (l.getD i e_).2.ha)/\Xf W (I b (off+i*14+13))=O (xH i):=by
 obtain⟨b,off,cap,rfl,h1,h2,h3,hc⟩:=h.row.some G G;obtain⟨ma,mc,hm,-,-⟩:=aY.val (h.more i hi);have key:∀k,k<14->Xf W (I b (off+i*14+k))=O ((vK (l.getD i e_).1 (l.getD i e_).2 (xH i)).getD k undef):=λk hk=>by have e:=hc (i*14+k) G;rw[<-Nat.add_assoc]at e;rw[e];unfold wyC;rw[show(i*14+k) / 14=i by omega,show(i*14+k) % 14=k by omega]
 exact⟨b,off,cap,ma,mc,rfl,h1,h2,h3,hm,key 0 G,key 1 G,key 2 G,key 3 G,key 4 G,key 5 G,key 6 G,key 7 G,key 8 G,key 9 G,key 10 G,key 11 G,key 12 G,key 13 G⟩
def jt.aG{W W':ek}(h:jt W lo sv lv l xH)(f:aC [] W W'):jt W' lo sv lv l xH:=⟨h.row.aG f,λi hi=>(h.more i hi).aG f,h.off⟩
def L1(w1:ek)(vb:Nat)(pc:Nat)(lv:to)(n:Nat)(m:Nat)(a:Act)(W:ek):Prop:=
 ∃(J:Nat->to) (i:Nat),a=FK J/\J 0=Oi vb/\J 1=Y pc/\J 8=lv/\J 71=lv/\J 72=Y n/\J 73=Y i/\i<=n/\m+i=n+1/\Hid (Below w1.heap.size w1 W)
def lk1{pc:Nat}(HP:Hid (gM w1 K p))(HV:Hid (aH w1 vb 230 (uf K p jN)))(HY:Hid (jt w1 lo sv lv l xH))(hl:l.length<=2)
 (jD:∀(A:Array to) W,A.getD 4 undef=Y 98->Below w1.heap.size w1 W->(∃i,i<l.length/\p.code.length<=(l.getD i e_).1)->Q .ret {tmps:=A,defers:=[]} W)
 (dD:∀(J:Nat->to) W,J 0=Oi vb->J 1=Y pc->J 8=lv->Below w1.heap.size w1 W->(∀i,i<l.length->(l.getD i e_).1<p.code.length)->Q (.exit 0) (FK J) W)
 {a:Act} {W:ek} (h:L1 w1 vb pc lv l.length (l.length+1) a W):(Code.loop (lkL 0)).wp prog Q a W:=by
 refine Mk.aM (λm a W=>L1 w1 vb pc lv l.length m a W/\∀i,i+m<=l.length->(l.getD i e_).1<p.code.length) (l.length+1) ⟨h,λi hi=>G⟩ ?_ ?_
 ·rintro a W ⟨⟨J,i,-,-,-,-,-,-,-,h1,h2,-⟩,-⟩;omega
 rintro m a0 W ⟨⟨J,i,rfl,j0,j1,j8,j71,j72,j73,hi,hm,HB⟩,hA⟩;have Ms:∀k,k<i->(l.getD k e_).1<p.code.length:=λk hk=>hA k G;have HA:=Z Ms;clear hA Ms;unfold FK
 conv=>arg 2;whnf
 have w2:=mr i G;rw[j0,j1,j8,j71,j72,j73];have HJ:=Z (And.intro j0 (And.intro j1 j8));clear j0 j1 j8 j71 j72 j73;by_cases be:i<l.length
 ·obtain⟨b,off,cap,ma,mc,Lp,q1,q2,lb,em,c0,c1,c2,c3,c4,c5,c6,c7,c8,c9,c10,c11,c12,sB⟩:=(HY.o.aG (aC.ai HB.o)).Pk be;rw[em]at sB;have Yt:=Z em;have HE:=Z Lp;have hv:=HV.o.of (HB.o.block _ HV.o.lt);have v5:Xf W (I vb 5)=O K.c:=hv.cell 5;obtain⟨ca,cc,kc,-,-⟩:=aY.val HP.o.cd;rw[kc]at v5;have lv0:=hv.lt;have ed:(l.getD i e_).1<p.code.length\/p.code.length<=(l.getD i e_).1:=G;have Yu:=Z (show∀z,(l.getD i e_).1=z->(p.code.length<=z->∃i,i<l.length/\p.code.length<=(l.getD i e_).1)/\(z<p.code.length->∀k,k<i+1->(l.getD k e_).1<p.code.length)from λz hz=>⟨λhh=>⟨i,be,G⟩,λhh k hk=>by
   by_cases e:k=i
   ·subst e;omega
   ·exact HA.o k G⟩)
  obtain⟨z,hz⟩:∃z,(l.getD i e_).1=z:=⟨_,rfl⟩;have HWB:=Z (Yu.o z hz);rw[hz]at ed c0;clear em Lp hv Yu hz kc;generalize ir (l.getD i e_).2.ty=tb at*;generalize bO (l.getD i e_).2.lo=lc at*;generalize(l.getD i e_).2.ha=ha at*;generalize(l.getD i e_).2.lo.length=ln at*;generalize DM:ln-8=n8 at*;have Tm:=Z DM;clear DM;rw[HE.o];rcases ed with ed|ed
  ·go_wp2;go_quiet (fail);go_wp2;refine⟨⟨_,i+1,FK.of _ rfl,rfl,rfl,rfl,rfl,rfl,rfl,be,G,Z ((HB.o.alloc HB.o.size _).trans (aA _ _ _))⟩,λk hk=>(HWB.o.2 ed k G)⟩
  ·go_wp2;go_quiet (fail);go_wp2;exact jD _ _ rfl ((HB.o.alloc HB.o.size _).trans (aA _ _ _)) (HWB.o.1 ed)
 ·obtain rfl:i=l.length:=G;clear be;go_wp2;exact Eq.mpr (bo (λa=>Q (.exit 0) a W) (FK.of _ rfl)) (dD _ _ rfl rfl rfl HB.o HA.o)
noncomputable def lkI:Code:=((nG (lkL 1))[0]?).getD .skip
def WOk(l:List (Nat×Std)):Prop:=∀i,i<l.length->fy (l.getD i e_).2.ty/\(l.getD i e_).2.lo.length<=1000000000
def L3(w1:ek)(vb:Nat)(pc:Nat)(lv:to)(l:List (Nat×Std))(xH:Nat->to)(i bx:Nat)(sv:to)(m:Nat)(a:Act)(W:ek):Prop:=
 ∃(J:Nat->to) (j:Nat),a=FK J/\J 0=Oi vb/\J 1=Y pc/\J 8=lv/\J 12=Oi bx/\J 87=lv/\J 88=Y l.length/\J 89=Y i/\J 96=sv/\J 97=Y i/\J 98=Y j/\j<=i/\m+j=i+1/\Hid (Below w1.heap.size w1 W)/\Hid (w1.heap.size<=bx/\aH W bx 279 (vK (l.getD i e_).1 (l.getD i e_).2 (xH i)))
def lk3{pc i bx b off cap:Nat}(HY:Hid (jt w1 lo sv lv l xH))(HW:Hid (WOk l))(hl:l.length<=2)(OD:i<l.length)(Hh:Hid (lv=H (O (I b off)) l.length cap))
 (jD:∀(A:Array to) W,A.getD 4 undef=Y 94->Below w1.heap.size w1 W->(∃j,j<i/\(l.getD j e_).1=(l.getD i e_).1/\(l.getD j e_).2≠(l.getD i e_).2)->Q .ret {tmps:=A,defers:=[]} W)
 (dD:∀(J:Nat->to) W,J 0=Oi vb->J 1=Y pc->J 8=lv->J 12=Oi bx->J 87=lv->J 88=Y l.length->J 89=Y i->Below w1.heap.size w1 W->aH W bx 279 (vK (l.getD i e_).1 (l.getD i e_).2 (xH i))->(∀j,j<i->(l.getD j e_).1=(l.getD i e_).1->(l.getD j e_).2=(l.getD i e_).2)->Q (.exit 4) (FK J) W)
 {a:Act} {W:ek} (h:L3 w1 vb pc lv l xH i bx (H (O (I b off)) i cap) (i+1) a W):(Code.loop lkI).wp prog Q a W:=by
 refine Mk.aM (λm a W=>L3 w1 vb pc lv l xH i bx (H (O (I b off)) i cap) m a W/\∀j,j+m<=i->(l.getD j e_).1=(l.getD i e_).1->(l.getD j e_).2=(l.getD i e_).2) (i+1) ⟨h,λi hi=>G⟩ ?_ ?_
 ·rintro a W ⟨⟨J,j,-,-,-,-,-,-,-,-,-,-,-,h1,h2,-⟩,-⟩;omega
 rintro m a0 W ⟨⟨J,j,rfl,j0,j1,j8,h_,Yv,Yw,Yx,j96,j97,j98,hj,hm,HB,HX⟩,hA⟩;have Ms:∀k,k<j->(l.getD k e_).1=(l.getD i e_).1->(l.getD k e_).2=(l.getD i e_).2:=λk hk=>hA k G;have HA:=Z Ms;clear hA Ms;unfold FK
 conv=>arg 2;whnf
 have w2:IntKind.i64.wrap ((j:Int)+1)=((j+1:Nat):Int):=by rw[bJ _ kS];omega
 rw[j0,j1,j8,h_,Yv,Yw,Yx,j96,j97,j98];clear j0 j1 j8 h_ Yv Yw Yx j96 j97 j98;by_cases be:j<i
 ·obtain⟨b',Ef,pq,ma,mc,Lp,q1,q2,lb,em,c0,c1,c2,c3,c4,c5,c6,c7,c8,c9,c10,c11,c12,sB⟩:=(HY.o.aG (aC.ai HB.o)).Pk (i:=j) G;obtain⟨-,-,-,ma',mc',-,-,-,-,Yy,-⟩:=(HY.o.aG (aC.ai HB.o)).Pk OD;rw[Hh.o]at Lp;simp only[cL,iI,Addr.mk.injEq]at Lp;obtain⟨⟨rfl,rfl,-⟩,-,rfl⟩:=Lp;have nB:∀k,Xf W (I bx k)=(vK (l.getD i e_).1 (l.getD i e_).2 (xH i))[k]? :=λk=>HX.o.2.cell k;have lx:=HX.o.2.lt;have Tp:=HX.o.1;rw[Yy]at nB;have d0:=nB 0;have d1:=nB 1;have d2:=nB 2;have d3:=nB 3;have d4:=nB 4;have d5:=nB 5;have d6:=nB 6;have d7:=nB 7;have d8:=nB 8;have d9:=nB 9;have d10:=nB 10;have d11:=nB 11;have d12:=nB 12;have d13:=nB 13;clear nB;unfold vK at d0 d1 d2 d3 d4 d5 d6 d7 d8 d9 d10 d11 d12 d13;simp only[List.getElem?_toArray,List.getElem?_cons_zero,List.getElem?_cons_succ]at d0 d1 d2 d3 d4 d5 d6 d7 d8 d9 d10 d11 d12 d13;have yp:=Z (λV (X:Below w1.heap.size w1 V)=>Jq (w:=V) true true ((HY.o.more j G).aG (aC.ai X)) ((HY.o.more i OD).aG (aC.ai X)) (HW.o j G).1 (HW.o i OD).1 (HW.o j G).2 (HW.o i OD).2);have Ao:∃z,decide ((l.getD j e_).2=(l.getD i e_).2)=z:=⟨_,rfl⟩;obtain⟨dd,Ao⟩:=Ao;rw[Ao]at yp;have HDD:=Z Ao;clear Ao;rw[em]at sB;rw[em,Yy]at yp;unfold ey de at yp;have Yt:=Z em;have Oa:=Z Yy;clear em Yy;have HZ:=Z (rfl:(l.getD j e_).1=(l.getD j e_).1);obtain⟨zj,hzj⟩:∃z,(l.getD j e_).1=z:=⟨_,rfl⟩;obtain⟨zi,EY⟩:∃z,(l.getD i e_).1=z:=⟨_,rfl⟩;rw[hzj]at c0;rw[EY]at d0;have HZJ:=Z hzj;have Tq:=Z EY;clear HZ hzj EY;generalize xF:ir (l.getD j e_).2.ty=tb at*;have xG:=Z xF;generalize Bk:bO (l.getD j e_).2.lo=lc at*;have DT:=Z Bk;generalize DW:(l.getD j e_).2.ha=ha at*;have OI:=Z DW;generalize Ag:(l.getD j e_).2.lo.length=ln at*;have tY:=Z Ag;generalize DM:ln-8=n8 at*;have Tm:=Z DM;clear xF Bk DW Ag DM;generalize RB:ir (l.getD i e_).2.ty=tb' at*;have agm:=Z RB;generalize NH:bO (l.getD i e_).2.lo=lc' at*;have agn:=Z NH;generalize J9:(l.getD i e_).2.ha=ha' at*;have ago:=Z J9;generalize RA:(l.getD i e_).2.lo.length=ln' at*;have agp:=Z RA;generalize Rx:ln'-8=n8' at*;have agq:=Z Rx;clear RB NH J9 RA Rx;have dm:=Z be;by_cases hz:zj=zi
  ·subst hz;go_wp2_with fail
   with_reducible refine(yp.o _ (HB.o.alloc HB.o.size _)).mono ?_
   rintro e W1 ⟨rfl,X⟩;have Ky:Hid (Below w1.heap.size w1 W1):=Z ((HB.o.alloc HB.o.size _).trans (X.mono (by simp only[aO];have:=HB.o.size;omega)));have hX1:Hid (w1.heap.size<=bx/\aH W1 bx 279 (vK (l.getD i e_).1 (l.getD i e_).2 (xH i))):=Z ⟨Tp,(HX.o.2.alloc _).of (X.block _ (by simp only[aO];omega))⟩;clear X c0 d0 c1 d1 c2 d2 c3 d3 c4 d4 c5 d5 c6 d6 c7 d7 c8 d8 c9 d9 c10 d10 c11 d11 c12 d12 sB d13;cases dd with
   |false=>go_wp2_with fail;exact jD _ _ rfl Ky.o ⟨j,dm.o,by rw[HZJ.o,Tq.o],λh=>by have h2:=HDD.o;rw[rQ]at h2;exact h2 h⟩
   |true=>
    go_wp2;refine⟨⟨_,j+1,FK.of _ rfl,rfl,rfl,rfl,rfl,rfl,rfl,rfl,rfl,rfl,rfl,dm.o,G,Ky,hX1⟩,λk hk hz=>?_⟩;by_cases e:k=j
    ·subst e;exact xj HDD.o
    ·exact HA.o k G hz
  ·have hz':((zj:Int)==(zi:Int))=false:=by simp;omega
   have af:=Z hz;go_wp2;refine⟨⟨_,j+1,FK.of _ rfl,rfl,rfl,rfl,rfl,rfl,rfl,rfl,rfl,rfl,rfl,dm.o,G,Z (HB.o.alloc HB.o.size _),Z ⟨Tp,HX.o.2.alloc _⟩⟩,λk hk hz=>?_⟩;by_cases e:k=j
   ·subst e;exact absurd (HZJ.o.symm.trans (hz.trans Tq.o)) af.o
   ·exact HA.o k G hz
 ·obtain rfl:j=i:=G;clear be;go_wp2;exact Eq.mpr (bo (λa=>Q (.exit 4) a W) (FK.of _ rfl)) (dD _ _ rfl rfl rfl rfl rfl rfl rfl HB.o HX.o.2 HA.o)
def sM{W W':ek}{S:List Nat}{size n:Nat}{v:to}{g:Nat->to}(h:aY W size v n g)(f:aC S W W')(X:∀b,v.ownBlock=O b->b∉S):aY W' size v n g:=by
 rcases h with h|⟨a,cap,rfl,h1,h2,h3⟩
 ·exact .inl h
 ·refine .inr ⟨a,cap,rfl,h1,h2,λo ho=>⟨(h3 o ho).1,?_⟩⟩;have hc:=(h3 o ho).2;refine Eq.trans ?_ hc;exact aR (f.block a.block (ay hc) (X _ rfl))
def ad0{W:ek}{E:TypeId}{A cap n z:Nat}{g:Nat->to}(h:Row W E 13 (H (O (I A 0)) n cap) n g)(hz:z<n)(v0 v1 v2 v3 v4 v5 v6 v7 v8 v9 v10 v11 v12:to):
 Row (((((((((((((W.setCell (I A (z*13)) (v0)).setCell (I A (z*13+1)) (v1)).setCell (I A (z*13+2)) (v2)).setCell (I A (z*13+3)) (v3)).setCell (I A (z*13+4)) (v4)).setCell (I A (z*13+5)) (v5)).setCell (I A (z*13+6)) (v6)).setCell (I A (z*13+7)) (v7)).setCell (I A (z*13+8)) (v8)).setCell (I A (z*13+9)) (v9)).setCell (I A (z*13+10)) (v10)).setCell (I A (z*13+11)) (v11)).setCell (I A (z*13+12)) (v12)) E 13 (H (O (I A 0)) n cap) n (λo=>if o / 13=z then #[v0,v1,v2,v3,v4,v5,v6,v7,v8,v9,v10,v11,v12].getD (o % 13) undef else g o):=by
 refine Row.congr (((((((((((((h.set (o:=z*13) G v0).set (o:=z*13+1) G v1).set (o:=z*13+2) G v2).set (o:=z*13+3) G v3).set (o:=z*13+4) G v4).set (o:=z*13+5) G v5).set (o:=z*13+6) G v6).set (o:=z*13+7) G v7).set (o:=z*13+8) G v8).set (o:=z*13+9) G v9).set (o:=z*13+10) G v10).set (o:=z*13+11) G v11).set (o:=z*13+12) G v12) ?_;intro o ho;by_cases e:o / 13=z
 ·rw[aE e];obtain⟨k,hk,rfl⟩:∃k,k<13/\o=z*13+k:=⟨o % 13,G,G⟩;rw[show(z*13+k) % 13=k by omega];have:k=0\/k=1\/k=2\/k=3\/k=4\/k=5\/k=6\/k=7\/k=8\/k=9\/k=10\/k=11\/k=12:=G;rcases this with rfl|rfl|rfl|rfl|rfl|rfl|rfl|rfl|rfl|rfl|rfl|rfl|rfl<;>simp
 ·rw[ax e]
  repeat rw[ax G]
def aaB{W:ek}{A z:Nat}(v0 v1 v2 v3 v4 v5 v6 v7 v8 v9 v10 v11 v12:to):aC [A] W (((((((((((((W.setCell (I A (z*13)) (v0)).setCell (I A (z*13+1)) (v1)).setCell (I A (z*13+2)) (v2)).setCell (I A (z*13+3)) (v3)).setCell (I A (z*13+4)) (v4)).setCell (I A (z*13+5)) (v5)).setCell (I A (z*13+6)) (v6)).setCell (I A (z*13+7)) (v7)).setCell (I A (z*13+8)) (v8)).setCell (I A (z*13+9)) (v9)).setCell (I A (z*13+10)) (v10)).setCell (I A (z*13+11)) (v11)).setCell (I A (z*13+12)) (v12)):=
 ((((((((((((((aC.refl [A] W).setCell (p:=(I A (z*13))) az v0).setCell (p:=(I A (z*13+1))) az v1).setCell (p:=(I A (z*13+2))) az v2).setCell (p:=(I A (z*13+3))) az v3).setCell (p:=(I A (z*13+4))) az v4).setCell (p:=(I A (z*13+5))) az v5).setCell (p:=(I A (z*13+6))) az v6).setCell (p:=(I A (z*13+7))) az v7).setCell (p:=(I A (z*13+8))) az v8).setCell (p:=(I A (z*13+9))) az v9).setCell (p:=(I A (z*13+10))) az v10).setCell (p:=(I A (z*13+11))) az v11).setCell (p:=(I A (z*13+12))) az v12)
def js.put{W:ek}{A cap n z:Nat}{mv:Nat->to}{s:Std}{mz:to}(h:js W (H (O (I A 0)) n cap) n T mv)(hz:z<n)(hm:dF W mz s.lo)(ho:∀b,mz.ownBlock=O b->b≠A){W':ek}
 (e:W'=(((((((((((((W.setCell (I A (z*13)) ((de true s mz).getD 0 undef)).setCell (I A (z*13+1)) ((de true s mz).getD 1 undef)).setCell (I A (z*13+2)) ((de true s mz).getD 2 undef)).setCell (I A (z*13+3)) ((de true s mz).getD 3 undef)).setCell (I A (z*13+4)) ((de true s mz).getD 4 undef)).setCell (I A (z*13+5)) ((de true s mz).getD 5 undef)).setCell (I A (z*13+6)) ((de true s mz).getD 6 undef)).setCell (I A (z*13+7)) ((de true s mz).getD 7 undef)).setCell (I A (z*13+8)) ((de true s mz).getD 8 undef)).setCell (I A (z*13+9)) ((de true s mz).getD 9 undef)).setCell (I A (z*13+10)) ((de true s mz).getD 10 undef)).setCell (I A (z*13+11)) ((de true s mz).getD 11 undef)).setCell (I A (z*13+12)) ((de true s mz).getD 12 undef))):
 js W' (H (O (I A 0)) n cap) n (aS T z (O s)) (aS mv z mz)/\aC [A] W W':=by
 subst e;have f:=aaB (W:=W) (A:=A) (z:=z) ((de true s mz).getD 0 undef) ((de true s mz).getD 1 undef) ((de true s mz).getD 2 undef) ((de true s mz).getD 3 undef) ((de true s mz).getD 4 undef) ((de true s mz).getD 5 undef) ((de true s mz).getD 6 undef) ((de true s mz).getD 7 undef) ((de true s mz).getD 8 undef) ((de true s mz).getD 9 undef) ((de true s mz).getD 10 undef) ((de true s mz).getD 11 undef) ((de true s mz).getD 12 undef);refine⟨⟨(ad0 h.row hz _ _ _ _ _ _ _ _ _ _ _ _ _).congr λo ho=>?_,λi hi=>?_,λi hi b X=>?_⟩,f⟩
 ·unfold stC;by_cases e:o / 13=z
  ·rw[aE e,e,aw,show fO (aS T z (O s)) z=s by unfold fO;rw[aw];rfl,aw];have hk:o % 13<13:=Nat.mod_lt _ G;generalize o % 13=k at*;have:k=0\/k=1\/k=2\/k=3\/k=4\/k=5\/k=6\/k=7\/k=8\/k=9\/k=10\/k=11\/k=12:=G;rcases this with rfl|rfl|rfl|rfl|rfl|rfl|rfl|rfl|rfl|rfl|rfl|rfl|rfl<;>rfl
  ·rw[ax e,an _ _ e,show fO (aS T z (O s)) (o / 13)=fO T (o / 13)by unfold fO;rw[an _ _ e],an _ _ e]
 ·by_cases e:i=z
  ·subst e;rw[aw,show fO (aS T i (O s)) i=s by unfold fO;rw[aw];rfl];exact sM hm f (λb X=>by simpa using ho b X)
  ·rw[an _ _ e,show fO (aS T z (O s)) i=fO T i by unfold fO;rw[an _ _ e]];exact sM (h.more i hi) f (λb X=>by have:=h.off i hi b X;simp;intro e;subst e;exact this rfl)
 ·by_cases e:i=z
  ·subst e;rw[aw]at X;intro h2;exact ho b X (fT h2).symm
  ·rw[an _ _ e]at X;exact h.off i hi b X
def Cs:∀(l:List (Nat×Std)) (T:Map) (w:Nat×Std),rA T (l++[w])=aS (rA T l) w.1 (O w.2)
 |[],_,_=>rfl
 |_::l,T,w=>Cs l _ w
def adY{l:List (Nat×Std)}(T:Map){i:Nat}(h:i<l.length):rA T (l.take (i+1))=aS (rA T (l.take i)) (l.getD i e_).1 (O (l.getD i e_).2):=by rw[Kz h,Cs,dQ,ft h];rfl
def L4(w1:ek)(vb:Nat)(A cap n:Nat)(lv:to)(T:Map)(l:List (Nat×Std))(m:Nat)(a:Act)(W:ek):Prop:=
 ∃(J:Nat->to) (i:Nat),a=FK J/\J 0=Oi vb/\J 139=lv/\J 140=Y l.length/\J 141=Y i/\i<=l.length/\m+i=l.length+1/\Hid (aC [A] w1 W)/\∃mv,Hid (js W (H (O (I A 0)) n cap) n (rA T (l.take i)) mv)
def lk4{A Jz:Nat}(HV:Hid (aH w1 vb 230 (uf K p (H (O (I A 0)) p.code.length Jz))))(af:Hid (vb≠A))(HY:Hid (jt w1 lo sv lv l xH))(Vx:Hid (∀b,lv.ownBlock=O b->b≠A))(La:Hid (∀i,i<l.length->∀b,(xH i).ownBlock=O b->b≠A))(hA:A<w1.heap.size)(hl:l.length<=2)(mY:Hid (∀i,i<l.length->(l.getD i e_).1<p.code.length))
 (dD:∀(J:Nat->to) W mv,aC [A] w1 W->js W (H (O (I A 0)) p.code.length Jz) p.code.length (rA T l) mv->Q (.exit 6) (FK J) W)
 {a:Act} {W:ek} (h:L4 w1 vb A Jz p.code.length lv T l (l.length+1) a W):(Code.loop (lkL 2)).wp prog Q a W:=by
 refine Mk.aM (λm a W=>L4 w1 vb A Jz p.code.length lv T l m a W) (l.length+1) h ?_ ?_
 ·rintro a W ⟨J,i,-,-,-,-,-,h1,h2,-⟩;omega
 rintro m a0 W ⟨J,i,rfl,j0,u7,u6,u5,hi,hm,HB,mv,HS⟩;unfold FK
 conv=>arg 2;whnf
 have w2:=mr i G;rw[j0,u7,u6,u5];clear j0 u7 u6 u5;by_cases be:i<l.length
 ·have HY':jt W lo sv lv l xH:=⟨sM HY.o.row HB.o (λb X=>by have:=Vx.o b X;simpa using this),λi hi=>sM (HY.o.more i hi) HB.o (λb X=>by have:=La.o i hi b X;simpa using this),HY.o.off⟩;have HYW:=Z HY';obtain⟨b,off,cap,ma,mc,Lp,q1,q2,lb,em,c0,c1,c2,c3,c4,c5,c6,c7,c8,c9,c10,c11,c12,sB⟩:=HY'.Pk be;have Hh:=Z Lp;have dm:=Z be;have Yt:=Z em;rw[em]at sB;have hv:aH W vb 230 (uf K p (H (O (I A 0)) p.code.length Jz)):=HV.o.aG HB.o (by have:=af.o;simpa using this);have v6:Xf W (I vb 6)=O (H (O (I A 0)) p.code.length Jz):=hv.cell 6;have lv0:=hv.lt;have hAW:A<W.heap.size:=by have:=HB.o.size;omega
  have xz:∀o,W.frozen? (I A o)=false:=λo=>HS.o.row.frozen o;have fi:=mY.o i be;clear em Lp hv HY';obtain⟨zi,EY⟩:∃z,(l.getD i e_).1=z:=⟨_,rfl⟩;rw[EY]at c0 fi;have Tq:=Z EY;clear EY;generalize xF:ir (l.getD i e_).2.ty=tb at*;have xG:=Z xF;generalize Bk:bO (l.getD i e_).2.lo=lc at*;have DT:=Z Bk;generalize DW:(l.getD i e_).2.ha=ha at*;have OI:=Z DW;generalize Ag:(l.getD i e_).2.lo.length=ln at*;have tY:=Z Ag;generalize DM:ln-8=n8 at*;have Tm:=Z DM;clear xF Bk DW Ag DM;have HCS:=Z (show(de true (l.getD i e_).2 (xH i))=#[.bool true,.string tb,Y (lc 0),Y (lc 1),Y (lc 2),Y (lc 3),Y (lc 4),Y (lc 5),Y (lc 6),Y (lc 7),Y ln,Y ha,H ma n8 mc]by unfold de;rw[xG.o,DT.o,tY.o,OI.o,Yt.o]);have NG:=Z (λ(W3:ek) (X:Below W.heap.size W W3)=>js.put (W:=W3) (mv:=mv) (HS.o.aG (aC.ai X)) fi (HYW.o.more i dm.o |>.aG (aC.ai X)) (λb X=>La.o i dm.o b X) rfl);have dS:=Z ((aZ W.heap.size W).alloc (aL _) (Xe #[Y zi,.bool true,.string tb,Y (lc 0),Y (lc 1),Y (lc 2),Y (lc 3),Y (lc 4),Y (lc 5),Y (lc 6),Y (lc 7),Y ln,Y ha,H ma n8 mc] 279));have hold:∀k,k<13->∃v,Xf W (I A (zi*13+k))=O v:=λk hk=>⟨_,HS.o.row.cell (o:=zi*13+k) G⟩;obtain⟨u0,o0⟩:=hold 0 G;obtain⟨u1,o1⟩:=hold 1 G;obtain⟨u2,o2⟩:=hold 2 G;obtain⟨u3,o3⟩:=hold 3 G;obtain⟨u4,o4⟩:=hold 4 G;obtain⟨adX,o5⟩:=hold 5 G;obtain⟨aaA,o6⟩:=hold 6 G;obtain⟨adW,o7⟩:=hold 7 G;obtain⟨u8,o8⟩:=hold 8 G;obtain⟨u9,o9⟩:=hold 9 G;obtain⟨u10,o10⟩:=hold 10 G;obtain⟨u11,o11⟩:=hold 11 G;obtain⟨u12,o12⟩:=hold 12 G;have uh:=Z (And.intro o0 (And.intro o1 (And.intro o2 (And.intro o3 (And.intro o4 (And.intro o5 (And.intro o6 (And.intro o7 (And.intro o8 (And.intro o9 (And.intro o10 (And.intro o11 (o12)))))))))))));clear hold xz o0 o1 o2 o3 o4 o5 o6 o7 o8 o9 o10 o11 o12;have kx:aH (W.alloc (Xe #[Y zi,.bool true,.string tb,Y (lc 0),Y (lc 1),Y (lc 2),Y (lc 3),Y (lc 4),Y (lc 5),Y (lc 6),Y (lc 7),Y ln,Y ha,H ma n8 mc] 279)) W.heap.size 279 #[Y zi,.bool true,.string tb,Y (lc 0),Y (lc 1),Y (lc 2),Y (lc 3),Y (lc 4),Y (lc 5),Y (lc 6),Y (lc 7),Y ln,Y ha,H ma n8 mc]:=aH.new _ _ _;rw[Hh.o];go_wp2_with fail;obtain⟨W1,DX⟩:∃W1,W1=W.alloc (Xe #[Y zi,.bool true,.string tb,Y (lc 0),Y (lc 1),Y (lc 2),Y (lc 3),Y (lc 4),Y (lc 5),Y (lc 6),Y (lc 7),Y ln,Y ha,H ma n8 mc] 279):=⟨_,rfl⟩;rw[<-DX]at kx dS ⊢;obtain⟨d0,d1,d2,d3,d4,d5,d6,d7,d8,d9,d10,d11,d12,d13⟩:=kx.c14;have v6':Xf W1 (I vb 6)=O (H (O (I A 0)) p.code.length Jz):=(aR (dS.o.block _ lv0)).trans v6;clear DX kx v6 c0 c1 c2 c3 c4 c5 c6 c7 c8 c9 c10 c11 c12 sB;generalize gP:W.heap.size=bx at*;have lL:=Z gP;clear gP
  go_still_tail 9,bj
  change wpList _ _ _ _ _ (World.drewN _ 1);have dG:=dS.o.trans (aA _ W1 1);generalize World.drewN _ 1=V0 at*;have key:∀o v,Xf W (I A o)=O v->Xf V0 (I A o)=O v:=λo v h=>(aR (dG.block _ hAW)).trans h;obtain⟨o0,o1,o2,o3,o4,o5,o6,o7,o8,o9,o10,o11,o12⟩:=uh.o;replace o0:=key _ _ o0;replace o1:=key _ _ o1;replace o2:=key _ _ o2;replace o3:=key _ _ o3;replace o4:=key _ _ o4;replace o5:=key _ _ o5;replace o6:=key _ _ o6;replace o7:=key _ _ o7;replace o8:=key _ _ o8;replace o9:=key _ _ o9;replace o10:=key _ _ o10;replace o11:=key _ _ o11;replace o12:=key _ _ o12;have HP9:=Z (NG.o V0 dG);rw[<-lL.o]at dG;have xz:∀o,V0.frozen? (I A o)=false:=λo=>(HS.o.row.aG (aC.ai (S:=[]) dG) az).frozen o;simp only[Nat.add_zero]at o0;rw[HCS.o]at HP9;have fM:=Z dG;clear key NG dG;go_wp2_with fail
  try rw[<-Hh.o]
  refine⟨_,i+1,FK.of _ rfl,rfl,(by first|rfl|exact Hh.o),rfl,rfl,dm.o,G,Z (HB.o.trans ((aC.ai fM.o).trans (HP9.o.2))),aS mv zi (xH i),Z ?_⟩;rw[adY T dm.o,Tq.o];exact HP9.o.1
 ·obtain rfl:i=l.length:=G;clear be;go_wp2;exact Eq.mpr (bo (λa=>Q (.exit 6) a W) (FK.of _ rfl)) (dD _ _ mv HB.o (by have:=HS.o;rw[List.take_length]at this;exact this))
def adM(p:aU)(j:Nat):(dW p j).oneCell'=true:=by
 unfold dW;dsimp only
 repeat' split
 all_goals rfl
def adL(p:aU)(j:Nat):(cy p j).oneCell'=true:=by
 unfold cy;dsimp only
 repeat' split
 all_goals rfl
def Own(w W:ek)(E:TypeId)(size n:Nat)(v:to)(g:Nat->to):Prop:=Row W E size v n g/\nQ w.heap.size W.heap.size v
def Own.later{w W W':ek}{E:TypeId}{size n:Nat}{v:to}{g:Nat->to}(h:Own w W E size n v g)(b:Below W.heap.size W W'):Own w W' E size n v g:=
 ⟨h.1.aG (aC.ai (S:=[]) b) az,h.2.mono (aL _) b.size⟩
structure RM(w W:ek)(K:Kp)(p:aU):Prop where
 g:Own w W 4 1 p.ap.length K.g (λi=> .bool (p.ap.getD i false))
 v:Own w W 122 3 p.vars.length K.v (dW p)
 t:Own w W 3 1 p.aW.length K.t (bd p.aW)
 o:Own w W 3 1 p.on.length K.o (bd p.on)
 c:Own w W 40 5 p.code.length K.c (cy p)
def Own.fin{w W W':ek}{E T:TypeId}{size n:Nat}{v:to}{g:Nat->to}{cs:Array to}(h:Own w W E size n v g)(hz:aH W (w.heap.size+1) T cs)(ht:E≠T)(f:aC [w.heap.size+1] W W'):Own w W' E size n v g:=
 ⟨h.1.aG f (λb X hm=>Row.fx h.1 hz ht (by simp at hm;subst hm;exact X)),h.2.mono (aL _) f.size⟩
def GI(w:ek)(p:aU)(e:Ending)(w':ek):Prop:=∃K,e=Xc (pV K p)/\RM w w' K p/\Below w.heap.size w w'
def Mod(p:aU):Prop:=p.ap.length<=1000000000/\p.vars.length<=1000000000/\p.aW.length<=1000000000/\p.on.length<=1000000000/\p.code.length<=1000000000
def T6(w V:ek)(x0 x1 x2 x3 x4 x5:to):Prop:=Xf V (I w.heap.size 0)=O x0/\Xf V (I w.heap.size 1)=O x1/\Xf V (I w.heap.size 2)=O x2/\Xf V (I w.heap.size 3)=O x3/\Xf V (I w.heap.size 4)=O x4/\Xf V (I w.heap.size 5)=O x5
def ZB(w V:ek):Prop:=Below w.heap.size w V/\aH V (w.heap.size+1) 27 #[Xd,Xd,Xd,Xd,Y 0,Xd]
def ClT(w V:ek)(x0 x1 x2 x3 x4 x5:to)(E:TypeId)(size n:Nat)(g:Nat->to)(e:Ending)(V':ek):Prop:=(∃x y z,e=Xc (H x y z)/\Hid (Own w V' E size n (H x y z) g))/\T6 w V' x0 x1 x2 x3 x4 x5/\Hid (Below V.heap.size V V')/\Hid (ZB w V')/\Xf V' (I (w.heap.size+1) 0)=O Xd/\Xf V' (I (w.heap.size+1) 1)=O Xd/\Xf V' (I (w.heap.size+1) 2)=O Xd/\Xf V' (I (w.heap.size+1) 3)=O Xd/\Xf V' (I (w.heap.size+1) 4)=O (Y 0)/\Xf V' (I (w.heap.size+1) 5)=O Xd/\(∀o,V'.frozen? (I (w.heap.size+1) o)=false)/\w.heap.size+1<V'.heap.size
def cl1{w V:ek}{x0 x1 x2 x3 x4 x5 av:to}{f:FuncId}{E:TypeId}{size n:Nat}{g:Nat->to}(X:Hid (ZB w V))(hs:T6 w V x0 x1 x2 x3 x4 x5)(hc:Calls prog f #[av] V (ub V E size n g)):
 Calls prog f #[av] V (ClT w V x0 x1 x2 x3 x4 x5 E size n g):=by
 refine hc.mono ?_;rintro e V' ⟨v',rfl,hr,q_,hi⟩;obtain⟨x,y,z,rfl⟩:∃x y z,v'=H x y z:=by obtain⟨x,z,e,-⟩:=(aY.zA hr).val;exact⟨x,_,z,e⟩
 have hz:=X.o.2.of (q_.block _ X.o.2.lt);have key:∀i v,Xf V (I w.heap.size i)=O v->Xf V' (I w.heap.size i)=O v:=λi v hc=>(aR (q_.block _ (ay hc))).trans hc;exact⟨⟨x,y,z,rfl,Z ⟨hr,hi.mono X.o.1.size (aL _)⟩⟩,⟨key _ _ hs.1,key _ _ hs.2.1,key _ _ hs.2.2.1,key _ _ hs.2.2.2.1,key _ _ hs.2.2.2.2.1,key _ _ hs.2.2.2.2.2⟩,Z q_,Z ⟨X.o.1.trans (q_.mono X.o.1.size),hz⟩,hz.cell 0,hz.cell 1,hz.cell 2,hz.cell 3,hz.cell 4,hz.cell 5,hz.frozen,hz.lt⟩
def aaC(w:ek){K:Kp}{p:aU}(h:gM w K p)(hm:Mod p):Calls prog 54 #[pV K p] w (GI w p):=by
 obtain⟨⟨ga,gc,g1,g2,g3⟩,⟨va,vc,v1,v2,v3⟩,⟨ta,tc,t1,t2,t3⟩,⟨oa,oc,o1,o2,o3⟩,⟨ca,cc,c1,c2,c3⟩⟩:=h.sl;obtain⟨Kx,ul,hm3,hm4,YJ⟩:=hm;have a0g:=Z h;obtain⟨kg,kv,kt,ko,kc⟩:=K;dsimp only at g1 v1 t1 o1 c1;subst g1 v1 t1 o1 c1;have CL:∀{f:FuncId} {E:TypeId} {size n:Nat} {g:Nat->to} {av:to},(∀V,Below w.heap.size w V->Calls prog f #[av] V (ub V E size n g))->Hid (∀V,Hid (ZB w V)->T6 w V (H ga p.ap.length gc) (H va p.vars.length vc) (H ta p.aW.length tc) (H oa p.on.length oc) (Y p.aV) (H ca p.code.length cc)->Calls prog f #[av] V (ClT w V (H ga p.ap.length gc) (H va p.vars.length vc) (H ta p.aW.length tc) (H oa p.on.length oc) (Y p.aV) (H ca p.code.length cc) E size n g)):=λhc=>Z λV X hs=>cl1 X hs (hc V X.o.1);have C1:=CL (av:=H ga p.ap.length gc) λV b=>abw ((a0g.o.aG (aC.ai b)).g) G (λj _=>rfl);have C2:=CL (av:=H va p.vars.length vc) λV b=>aeR ((a0g.o.aG (aC.ai b)).v) G (λj _=>adM p j);have C3:=CL (av:=H ta p.aW.length tc) λV b=>qg ((a0g.o.aG (aC.ai b)).t) G (λj _=>rfl);have C4:=CL (av:=H oa p.on.length oc) λV b=>qg ((a0g.o.aG (aC.ai b)).o) G (λj _=>rfl);have C5:=CL (av:=H ca p.code.length cc) λV b=>aeP ((a0g.o.aG (aC.ai b)).cd) G (λj _=>adL p j);have dG:Below w.heap.size w (((w.alloc (Xe #[H ga p.ap.length gc,H va p.vars.length vc,H ta p.aW.length tc,H oa p.on.length oc,Y p.aV,H ca p.code.length cc] 27)).alloc (Xe #[Xd,Xd,Xd,Xd,Y 0,Xd] 27)).drew):=(((aZ _ _).alloc (aL _) _).alloc az _).trans (aA _ _ 1);have k0:aH (((w.alloc (Xe #[H ga p.ap.length gc,H va p.vars.length vc,H ta p.aW.length tc,H oa p.on.length oc,Y p.aV,H ca p.code.length cc] 27)).alloc (Xe #[Xd,Xd,Xd,Xd,Y 0,Xd] 27)).drew) w.heap.size 27 #[H ga p.ap.length gc,H va p.vars.length vc,H ta p.aW.length tc,H oa p.on.length oc,Y p.aV,H ca p.code.length cc]:=((aH.new w _ _).alloc _).drewN 1;have k1:aH (((w.alloc (Xe #[H ga p.ap.length gc,H va p.vars.length vc,H ta p.aW.length tc,H oa p.on.length oc,Y p.aV,H ca p.code.length cc] 27)).alloc (Xe #[Xd,Xd,Xd,Xd,Y 0,Xd] 27)).drew) (w.heap.size+1) 27 #[Xd,Xd,Xd,Xd,Y 0,Xd]:=(aH.bK az).drewN 1;have fM:=Z (And.intro dG k1);have qt:(((w.alloc (Xe #[H ga p.ap.length gc,H va p.vars.length vc,H ta p.aW.length tc,H oa p.on.length oc,Y p.aV,H ca p.code.length cc] 27)).alloc (Xe #[Xd,Xd,Xd,Xd,Y 0,Xd] 27)).drew).cell? (I w.heap.size 0)=O (H ga p.ap.length gc)/\(((w.alloc (Xe #[H ga p.ap.length gc,H va p.vars.length vc,H ta p.aW.length tc,H oa p.on.length oc,Y p.aV,H ca p.code.length cc] 27)).alloc (Xe #[Xd,Xd,Xd,Xd,Y 0,Xd] 27)).drew).cell? (I w.heap.size 1)=O (H va p.vars.length vc)/\(((w.alloc (Xe #[H ga p.ap.length gc,H va p.vars.length vc,H ta p.aW.length tc,H oa p.on.length oc,Y p.aV,H ca p.code.length cc] 27)).alloc (Xe #[Xd,Xd,Xd,Xd,Y 0,Xd] 27)).drew).cell? (I w.heap.size 2)=O (H ta p.aW.length tc)/\(((w.alloc (Xe #[H ga p.ap.length gc,H va p.vars.length vc,H ta p.aW.length tc,H oa p.on.length oc,Y p.aV,H ca p.code.length cc] 27)).alloc (Xe #[Xd,Xd,Xd,Xd,Y 0,Xd] 27)).drew).cell? (I w.heap.size 3)=O (H oa p.on.length oc)/\(((w.alloc (Xe #[H ga p.ap.length gc,H va p.vars.length vc,H ta p.aW.length tc,H oa p.on.length oc,Y p.aV,H ca p.code.length cc] 27)).alloc (Xe #[Xd,Xd,Xd,Xd,Y 0,Xd] 27)).drew).cell? (I w.heap.size 4)=O (Y p.aV)/\(((w.alloc (Xe #[H ga p.ap.length gc,H va p.vars.length vc,H ta p.aW.length tc,H oa p.on.length oc,Y p.aV,H ca p.code.length cc] 27)).alloc (Xe #[Xd,Xd,Xd,Xd,Y 0,Xd] 27)).drew).cell? (I w.heap.size 5)=O (H ca p.code.length cc):=⟨k0.cell 0,k0.cell 1,k0.cell 2,k0.cell 3,k0.cell 4,k0.cell 5⟩;clear k0 k1 dG h g2 g3 v2 v3 t2 t3 o2 o3 c2 c3;unfold pV;dsimp only;go_enter func54,ntmps54;go_wp2_with fail;generalize(w.alloc (Xe #[H ga p.ap.length gc,H va p.vars.length vc,H ta p.aW.length tc,H oa p.on.length oc,Y p.aV,H ca p.code.length cc] 27)).alloc (Xe #[Xd,Xd,Xd,Xd,Y 0,Xd] 27)=W0 at*;refine Gd.region [18] (λ_=>True) (λwx=>Xf wx (I w.heap.size 0)=O (H ga p.ap.length gc)/\Xf wx (I w.heap.size 1)=O (H va p.vars.length vc)/\Xf wx (I w.heap.size 2)=O (H ta p.aW.length tc)/\Xf wx (I w.heap.size 3)=O (H oa p.on.length oc)/\Xf wx (I w.heap.size 4)=O (Y p.aV)/\Xf wx (I w.heap.size 5)=O (H ca p.code.length cc)) bj ⟨trivial,qt⟩ (λau=>?_);generalize W0.drew=V0 at*;refine Mk.Eo 0 ?_;refine Mk.Eo 1 ?_;refine Mk.Eo 3 ?_;refine Mk.Eo 4 ?_;refine Mk.Eo 6 ?_;refine Mk.Eo 7 ?_;refine Mk.Eo 9 ?_;refine Mk.Eo 10 ?_;refine Mk.Eo 12 ?_;refine Mk.Eo 13 ?_;refine Mk.Eo 14 ?_;refine Mk.Eo 15 ?_;refine Gd.ready (rs:=[2]) bj az ?_;refine Gd.eJ.cons rfl (λK hK=>?_) Gd.eJ.nil;refine fL ?_;go_simp;go_at_call 98;refine(C1.o _ fM qt).mono ?_;rintro e w1 ⟨⟨x1,y1,z1,rfl,hO1⟩,yu,PO,hQ1,-⟩;clear C1;clear au;refine hK.out _ _ ⟨trivial,yu⟩ (λau=>?_);clear hK K;refine Mk.pt ?_;refine Gd.ready (rs:=[5]) bj az ?_;refine Gd.eJ.cons rfl (λK hK=>?_) Gd.eJ.nil;refine fL ?_;go_simp;go_at_call 99;refine(C2.o _ hQ1 yu).mono ?_;rintro e w2 ⟨⟨x2,y2,z2,rfl,hO2⟩,Ti,hL2,hQ2,-⟩;clear C2 hQ1;clear au;refine hK.out _ _ ⟨trivial,Ti⟩ (λau=>?_);clear hK K;refine Mk.pt ?_;refine Gd.ready (rs:=[8]) bj az ?_;refine Gd.eJ.cons rfl (λK hK=>?_) Gd.eJ.nil;refine fL ?_;go_simp;go_at_call 55;refine(C3.o _ hQ2 Ti).mono ?_;rintro e w3 ⟨⟨x3,y3,z3,rfl,hO3⟩,Gi,hL3,Td,-⟩;clear C3 hQ2;clear au;refine hK.out _ _ ⟨trivial,Gi⟩ (λau=>?_);clear hK K;refine Mk.pt ?_;refine Gd.ready (rs:=[11]) bj az ?_;refine Gd.eJ.cons rfl (λK hK=>?_) Gd.eJ.nil;refine fL ?_;go_simp;go_at_call 55;refine(C4.o _ Td Gi).mono ?_;rintro e w4 ⟨⟨x4,y4,z4,rfl,hO4⟩,XV,hL4,hQ4,-⟩;clear C4 Td;clear au;refine hK.out _ _ ⟨trivial,XV⟩ (λau=>?_);clear hK K;refine Mk.pt ?_;refine Gd.ready (rs:=[16]) bj az ?_;refine Gd.eJ.cons rfl (λK hK=>?_) Gd.eJ.nil;refine fL ?_;go_simp;go_at_call 100;refine(C5.o _ hQ4 XV).mono ?_;rintro e w5 ⟨⟨x5,y5,z5,rfl,hO5⟩,Hd,hL5,VI,je,mU,sT,hz3,hz4,hz5,hzf,hzl⟩;clear C5 hQ4;clear au;refine hK.out _ _ ⟨trivial,Hd⟩ (λau=>?_);clear hK K;refine Mk.pt ?_;refine Gd.ready (rs:=[17]) bj az ?_;refine Gd.eJ.cons rfl (λK hK=>?_) Gd.eJ.nil;refine fL ?_;go_simp;refine hK.out _ _ au (λau=>?_);clear hK K;refine Mk.pt ?_;refine Gd.ready (rs:=[18]) bj az ?_;refine Gd.eJ.last rfl bj (λK hK=>?_) Gd.eJ.nil;refine fL ?_;go_simp;refine hK.out _ _ trivial ?_;clear hK K;refine Mk.pt ?_;refine Gd.done bj ⟨rfl,?_⟩ _;clear au;go_wp2_with fail;have f9:aC [w.heap.size+1] w5 _:=(((((((aC.refl [w.heap.size+1] w5).setCell (p:=(I (w.heap.size+1) 0)) az (H x1 y1 z1)).setCell (p:=(I (w.heap.size+1) 1)) az (H x2 y2 z2)).setCell (p:=(I (w.heap.size+1) 2)) az (H x3 y3 z3)).setCell (p:=(I (w.heap.size+1) 3)) az (H x4 y4 z4)).setCell (p:=(I (w.heap.size+1) 4)) az (Y p.aV)).setCell (p:=(I (w.heap.size+1) 5)) az (H x5 y5 z5));have b9:=((((((VI.o.2.set 0 (H x1 y1 z1)).set 1 (H x2 y2 z2)).set 2 (H x3 y3 z3)).set 3 (H x4 y4 z4)).set 4 (Y p.aV)).set 5 (H x5 y5 z5));simp only[List.setIfInBounds_toArray,List.set_cons_zero,List.set_cons_succ]at b9;have L1:=(hL2.o.trans (hL3.o.mono hL2.o.size)).trans ((hL4.o.trans (hL5.o.mono hL4.o.size)).mono (bS hL2.o.size hL3.o.size));have L2:=(hL3.o.trans (hL4.o.mono hL3.o.size)).trans (hL5.o.mono (bS hL3.o.size hL4.o.size));have L3:=hL4.o.trans (hL5.o.mono hL4.o.size);have adK:RM w ((((((w5.setCell (I (w.heap.size+1) 0) (H x1 y1 z1)).setCell (I (w.heap.size+1) 1) (H x2 y2 z2)).setCell (I (w.heap.size+1) 2) (H x3 y3 z3)).setCell (I (w.heap.size+1) 3) (H x4 y4 z4)).setCell (I (w.heap.size+1) 4) (Y p.aV)).setCell (I (w.heap.size+1) 5) (H x5 y5 z5)) ⟨H x1 y1 z1,H x2 y2 z2,H x3 y3 z3,H x4 y4 z4,H x5 y5 z5⟩ p:=
  ⟨(hO1.o.later L1).fin VI.o.2 bz f9,(hO2.o.later L2).fin VI.o.2 bz f9,(hO3.o.later L3).fin VI.o.2 bz f9,(hO4.o.later hL5.o).fin VI.o.2 bz f9,hO5.o.fin VI.o.2 bz f9⟩
 have B9:=VI.o.1.trans (f9.below (B:=w.heap.size) VI.o.1.size az);generalize((((((w5.setCell (I (w.heap.size+1) 0) (H x1 y1 z1)).setCell (I (w.heap.size+1) 1) (H x2 y2 z2)).setCell (I (w.heap.size+1) 2) (H x3 y3 z3)).setCell (I (w.heap.size+1) 3) (H x4 y4 z4)).setCell (I (w.heap.size+1) 4) (Y p.aV)).setCell (I (w.heap.size+1) 5) (H x5 y5 z5))=W9 at*;obtain⟨i0,i1,i2,i3,i4,i5⟩:=b9.c6;clear b9 f9 L1 L2 L3 hO1 hO2 hO3 hO4 hO5 PO hL2 hL3 hL4 hL5 VI yu Ti Gi XV Hd je mU sT hz3 hz4 hz5 hzf hzl;refine bR ?_ rfl ⟨_,rfl,adK,B9⟩;simp[results,results54,go_sem,i0,i1,i2,i3,i4,i5,pV]
end
end Go.Vf
section
def qX2{p:Prop}(h:p:=by
 have y0:=key _ _ _ a3 s0;have y1:=key _ _ _ a3 s1;have y2:=key _ _ _ a3 s2;have y3:=key _ _ _ a3 s3;have y4:=key _ _ _ a3 s4;have y5:=key _ _ _ a3 s5;have aaH:=key _ _ _ a3 s6;have ad2:=key _ _ _ a3 s7;have y8:=key _ _ _ a3 s8;have y9:=key _ _ _ a3 s9;have y10:=key _ _ _ a3 To;have y11:=key _ _ _ a3 Om;have y12:=key _ _ _ a3 Fy;exact qZ):p:=h
namespace Go.Vf
open Go.RowKit al.Vm
open al hiding aS aw an
open Ma (dW cy bd vb aK a_)
section
variable {w1:ek}{K:Kp}{p:aU}{jN:to}{vb:Nat}{T:Map}{lo:Nat}{sv lv:to}{l:List (Nat×Std)}{xH:Nat->to}{Q:Exit->Act->ek->Prop}
def L2(w1:ek)(vb:Nat)(pc:Nat)(lv:to)(n:Nat)(m:Nat)(a:Act)(W:ek):Prop:=
 ∃(J:Nat->to) (i:Nat),a=FK J/\J 0=Oi vb/\J 1=Y pc/\J 8=lv/\J 87=lv/\J 88=Y n/\J 89=Y i/\i<=n/\m+i=n+1/\Hid (Below w1.heap.size w1 W)
def GB(T:Map)(l:List (Nat×Std))(i:Nat):Prop:=∀k,k<i->(∀j,j<k->(l.getD j e_).1=(l.getD k e_).1->(l.getD j e_).2=(l.getD k e_).2)/\(∀s,T (l.getD k e_).1=O s->s=(l.getD k e_).2)
def Jy{p:Prop}(h:p:=by
 intro wz fF;exact qZ):p:=h
def lk2{pc:Nat}{mv:Nat->to}(HV:Hid (aH w1 vb 230 (uf K p jN)))(HS:Hid (js w1 jN p.code.length T mv))(Yz:Hid (∀q s,T q=O s->fy s.ty/\s.lo.length<=1000000000))(HY:Hid (jt w1 lo sv lv l xH))(HW:Hid (WOk l))(hl:l.length<=2)(mY:Hid (∀i,i<l.length->(l.getD i e_).1<p.code.length))
 (jD:∀(A:Array to) W,A.getD 4 undef=Y 94->Below w1.heap.size w1 W->¬GB T l l.length->Q .ret {tmps:=A,defers:=[]} W)
 (dD:∀(J:Nat->to) W,J 0=Oi vb->J 1=Y pc->J 8=lv->Below w1.heap.size w1 W->GB T l l.length->Q (.exit 2) (FK J) W)
 {a:Act} {W:ek} (h:L2 w1 vb pc lv l.length (l.length+1) a W):(Code.loop (lkL 1)).wp prog Q a W:=by
 refine Mk.aM (λm a W=>L2 w1 vb pc lv l.length m a W/\GB T l (l.length+1-m)) (l.length+1) ⟨h,λi hi=>G⟩ ?_ ?_
 ·rintro a W ⟨⟨J,i,-,-,-,-,-,-,-,h1,h2,-⟩,-⟩;omega
 rintro m a0 W ⟨⟨J,i,rfl,j0,j1,j8,Yv,Yw,Yx,hi,hm,HB⟩,hA⟩;rw[show l.length+1 - (m+1)=i by omega]at hA;have HA:=Z hA;clear hA;unfold FK
 conv=>arg 2;whnf
 have w2:=mr i G;rw[j0,j1,j8,Yv,Yw,Yx];clear j0 j1 j8 Yv Yw Yx;by_cases be:i<l.length
 ·obtain⟨b,off,cap,ma,mc,Lp,q1,q2,lb,em,c0,c1,c2,c3,c4,c5,c6,c7,c8,c9,c10,c11,c12,sB⟩:=(HY.o.aG (aC.ai HB.o)).Pk be;have Hh:=Z Lp;have dm:=Z be;have Yt:=Z em;rw[em]at sB;have vW:i<=cap:=G;clear em Lp;obtain⟨zi,EY⟩:∃z,(l.getD i e_).1=z:=⟨_,rfl⟩;rw[EY]at c0;have Tq:=Z EY;clear EY;generalize xF:ir (l.getD i e_).2.ty=tb at*;have xG:=Z xF;generalize Bk:bO (l.getD i e_).2.lo=lc at*;have DT:=Z Bk;generalize DW:(l.getD i e_).2.ha=ha at*;have OI:=Z DW;generalize Ag:(l.getD i e_).2.lo.length=ln at*;have tY:=Z Ag;generalize DM:ln-8=n8 at*;have Tm:=Z DM;clear xF Bk DW Ag DM;have HCS:=Z (show(vK (l.getD i e_).1 (l.getD i e_).2 (xH i))=#[Y zi,.bool true,.string tb,Y (lc 0),Y (lc 1),Y (lc 2),Y (lc 3),Y (lc 4),Y (lc 5),Y (lc 6),Y (lc 7),Y ln,Y ha,H ma n8 mc]by unfold vK;rw[Tq.o,xG.o,DT.o,tY.o,OI.o,Yt.o]);rw[Hh.o];go_wp2_with fail;rw[<-Hh.o];refine lk3 (w1:=w1) (pc:=pc) (bx:=W.heap.size) (off:=off) (cap:=cap) HY HW hl dm.o Hh (λA W3 Bl Ap hex=>?_) (λJ3 W3 j0 j1 j8 h_ Yv Yw Yx Ap hX3 Bl=>?_) ⟨_,0,FK.of _ rfl,rfl,rfl,rfl,rfl,rfl,rfl,rfl,rfl,rfl,rfl,ck _,rfl,Z (HB.o.alloc HB.o.size _),Z ⟨HB.o.size,?_⟩⟩
  ·refine jD A W3 Bl Ap (λhm=>?_);obtain⟨j,hj,e1,e2⟩:=hex;exact e2 ((hm i dm.o).1 j hj e1)
  ·unfold FK;rw[j0,j1,j8,h_,Yv,Yw,Yx];clear j0 j1 j8 h_ Yv Yw Yx;have fi:zi<p.code.length:=by rw[<-Tq.o];exact mY.o i dm.o
   have wk:=Z Bl;have hv:=HV.o.of (Ap.block _ HV.o.lt);have v6:Xf W3 (I vb 6)=O jN:=hv.cell 6;have lv0:=hv.lt;have wF:=(HS.o.aG (aC.ai Ap));obtain⟨A,r8,eat,a1,a2,a3,s0,s1,s2,s3,s4,s5,s6,s7,s8,s9,To,Om,Fy⟩:=wF.Yr fi;obtain⟨ma',mc',Yy,-,-⟩:=aY.val (wF.more zi fi);rw[eat]at v6;rw[Yy]at Fy;have Oa:=Z Yy;have hx:=hX3;rw[HCS.o]at hx;obtain⟨d0,d1,d2,d3,d4,d5,d6,d7,d8,d9,d10,d11,d12,d13⟩:=hx.c14;have lx:=hx.lt;have mM:=Z Ap;clear hx hX3 wF hv eat Yy Ap Bl c0 c1 c2 c3 c4 c5 c6 c7 c8 c9 c10 c11 c12 sB;generalize W.heap.size=bx at*;cases hT:T zi with
   |none=>
    rw[hT]at s0;have HT:=Z hT;clear hT s1 s2 s3 s4 s5 s6 s7 s8 s9 To Om Fy;simp only[Option.isSome_none]at s0;go_wp2;go_quiet (fail);go_wp2;refine⟨⟨_,i+1,FK.of _ rfl,rfl,rfl,(by first|rfl|exact Hh.o),(by first|rfl|exact Hh.o),rfl,rfl,dm.o,G,Z (mM.o.trans (aA _ _ _))⟩,?_⟩;rw[show l.length+1-m=i+1 by omega];intro k hk;by_cases e:k=i
    ·subst e;refine⟨wk.o,λs hs=>?_⟩;rw[Tq.o,HT.o]at hs;cases hs
    ·exact HA.o k G
   |some s=>
    have HT:=Z hT;have fY:fO T zi=s:=by unfold fO;rw[hT];rfl
    have l_:=Z fY;rw[hT]at s0;rw[fY]at s1 s2 s3 s4 s5 s6 s7 s8 s9 To Om Fy Oa;simp only[Option.isSome_some]at s0;have yp:=Z (λV (X:Below w1.heap.size w1 V)=>Jq (w:=V) true true (s:=s) (s2:=(l.getD i e_).2) (by rw[<-l_.o];exact((HS.o.more zi fi).aG (aC.ai X))) ((HY.o.more i dm.o).aG (aC.ai X)) (Yz.o zi s HT.o).1 (HW.o i dm.o).1 (Yz.o zi s HT.o).2 (HW.o i dm.o).2);obtain⟨dd,Ao⟩:∃z,decide (s=(l.getD i e_).2)=z:=⟨_,rfl⟩;rw[Ao]at yp;have HDD:=Z Ao;rw[Yt.o,Oa.o]at yp;unfold ey de at yp;rw[xG.o,DT.o,tY.o,OI.o]at yp;have iw:Hid (∀n,Below w1.heap.size w1 (W3.drewN n)):=Z λn=>mM.o.trans (aA _ _ n);clear hT fY Ao;generalize ir s.ty=tb' at*;generalize bO s.lo=lc' at*;generalize s.ha=ha' at*;generalize s.lo.length=ln' at*;generalize ln'-8=n8' at*;go_wp2;go_quiet (fail);go_wp2;refine Mk.bq (S:=λwx=>Below W3.heap.size W3 wx) bj ((aA _ W3 _).trans (aA _ _ 1)) (λau=>?_);generalize World.drew _=V0 at*;refine Mk.tk 0 (v:=?_) rfl ?_ cJ ?_;rotate_left
    ·exact Jy
    refine Mk.pt ?_;refine Mk.tk 1 (v:=?_) rfl ?_ cJ ?_;rotate_left
    ·exact Jy
    refine Mk.pt ?_;refine Mk.tk 2 (v:=?_) rfl ?_ cJ ?_;rotate_left
    ·exact Jy
    refine Mk.pt ?_;refine Mk.tk 3 (v:=?_) rfl ?_ cJ ?_;rotate_left
    ·intro wz fF;have key:∀b i v,b<W3.heap.size->Xf W3 (I b i)=O v->Xf wz (I b i)=O v:=λb i v X hc=>(aR (fF.block _ X)).trans hc;have y0:=key _ _ _ lv0 v6;exact qZ
    refine Mk.pt ?_;refine Mk.tk 4 (v:=?_) rfl ?_ cJ ?_;rotate_left
    ·exact Jy
    refine Mk.pt ?_;refine Mk.tk 5 (v:=?_) rfl ?_ cJ ?_;rotate_left
    ·intro wz fF;have key:∀b i v,b<W3.heap.size->Xf W3 (I b i)=O v->Xf wz (I b i)=O v:=λb i v X hc=>(aR (fF.block _ X)).trans hc;have y0:=key _ _ _ lx d0;exact qZ
    refine Mk.pt ?_;refine Mk.tk 6 (v:=?_) rfl ?_ cJ ?_;rotate_left
    ·exact Jy
    refine Mk.pt ?_;refine Mk.tk 7 (v:=?_) rfl ?_ cJ ?_;rotate_left
    ·intro wz fF;have key:∀b i v,b<W3.heap.size->Xf W3 (I b i)=O v->Xf wz (I b i)=O v:=λb i v X hc=>(aR (fF.block _ X)).trans hc;exact qX2
    refine Mk.pt ?_;refine Mk.tk 8 (v:=?_) rfl ?_ cJ ?_;rotate_left
    ·exact Jy
    refine Mk.pt ?_;refine Mk.tk 9 (v:=?_) rfl ?_ cJ ?_;rotate_left
    ·intro wz fF;have key:∀b i v,b<W3.heap.size->Xf W3 (I b i)=O v->Xf wz (I b i)=O v:=λb i v X hc=>(aR (fF.block _ X)).trans hc;have y0:=key _ _ _ lx d1;have y1:=key _ _ _ lx d2;have y2:=key _ _ _ lx d3;have y3:=key _ _ _ lx d4;have y4:=key _ _ _ lx d5;have y5:=key _ _ _ lx d6;have aaH:=key _ _ _ lx d7;have ad2:=key _ _ _ lx d8;have y8:=key _ _ _ lx d9;have y9:=key _ _ _ lx d10;have y10:=key _ _ _ lx d11;have y11:=key _ _ _ lx d12;have y12:=key _ _ _ lx d13;exact qZ
    refine Mk.pt ?_;refine dM (rs:=[10]) bj az ?_;refine bX rfl (λK hK=>?_) cz;refine fL ?_;go_simp;go_at_call 248
    with_reducible refine(yp.o _ (mM.o.trans (au.mono mM.o.size))).mono ?_
    rintro e w5 ⟨rfl,re⟩;have Hd:=au.trans (re.mono au.size);clear au;refine hK.out _ _ Hd (λau=>?_);clear hK K;refine Mk.pt ?_;refine Mk.tk 11 (v:=?_) rfl ?_ cJ ?_;rotate_left
    ·exact Jy
    refine Mk.pt ?_;refine eT bj ⟨rfl,?_⟩ _;clear au;cases dd with
    |false=>go_wp2_with fail;refine jD _ _ rfl (mM.o.trans (Hd.mono mM.o.size)) (λhm=>?_);have h2:=HDD.o;rw[rQ]at h2;exact h2 ((hm i dm.o).2 s (by rw[Tq.o];exact HT.o))
    |true=>
     go_wp2;refine⟨⟨_,i+1,FK.of _ rfl,rfl,rfl,(by first|rfl|exact Hh.o),(by first|rfl|exact Hh.o),rfl,rfl,dm.o,G,Z (mM.o.trans (Hd.mono mM.o.size))⟩,?_⟩;rw[show l.length+1-m=i+1 by omega];intro k hk;by_cases e:k=i
     ·subst e;refine⟨wk.o,λs' hs=>?_⟩;rw[Tq.o,HT.o]at hs;cases hs;exact xj HDD.o
     ·exact HA.o k G
  ·rw[HCS.o];exact aH.new _ _ _
 ·obtain rfl:i=l.length:=G;clear be;go_wp2;exact Eq.mpr (bo (λa=>Q (.exit 2) a W) (FK.of _ rfl)) (dD _ _ rfl rfl rfl HB.o HA.o)
end
end Go.Vf
end
namespace Go.Vf
open Go.RowKit al.Vm
open al hiding aS aw an
open Ma (dW cy bd vb aK a_)
def aaz(w:ek)(jN:to)(p:aU)(T:Map)(pc:Nat)(e:Ending)(w':ek):Prop:=
 e=Xc (Y (dt p T pc))/\aC jN.ownBlock.toList w w'/\(dt p T pc=0->∃mv,js w' jN p.code.length (jQ p T pc) mv)
def xI{P:Program}{fn:Func}{R:Ending->ek->Prop}{A:Array to}{w:ek}{t:Tmp}(h:fn.results=#[.tmp t])(hR:R (Xc (A.getD t undef)) w):Exit.noGoto (bodyPost P fn R) .ret {tmps:=A,defers:=[]} w:=by rw[jO];exact eF h hR
def Ry{p:aU}{x:Ins}(fi:iU p x=true)(h:x.op=34\/x.op=35\/x.op=32\/x.op=40\/x.op=41\/x.op=38\/x.op=39):tC p x.a:=by
 have key:∀k,x.op.toNat=k->(cM k).getD 0 0=1->tC p x.a:=λk e e1=>by have:=(gU fi e).1;rw[e1]at this;have:=dx this;exact⟨this.1,this.2.1⟩
 rcases h with h|h|h|h|h|h|h
 ·exact key 34 (by rw[h];rfl) rfl
 ·exact key 35 (by rw[h];rfl) rfl
 ·exact key 32 (by rw[h];rfl) rfl
 ·exact key 40 (by rw[h];rfl) rfl
 ·exact key 41 (by rw[h];rfl) rfl
 ·exact key 38 (by rw[h];rfl) rfl
 ·exact key 39 (by rw[h];rfl) rfl
def YA{p:aU}{x:Ins}(fi:iU p x=true)(h:x.op=38\/x.op=39):tC p x.c:=by
 have key:∀k,x.op.toNat=k->(cM k).getD 2 0=1->tC p x.c:=λk e e1=>by have:=(gU fi e).2.2.1;rw[e1]at this;have:=dx this;exact⟨this.1,this.2.1⟩
 rcases h with h|h
 ·exact key 38 (by rw[h];rfl) rfl
 ·exact key 39 (by rw[h];rfl) rfl
def Rz{p:aU}{x:Ins}(fi:iU p x=true)(h:x.op=22\/x.op=23\/x.op=25\/x.op=26):0<=x.a/\x.a<p.code.length:=by
 have key:∀k,x.op.toNat=k->(cM k).getD 0 0=8->0<=x.a/\x.a<p.code.length:=λk e e1=>by have:=(gU fi e).1;rw[e1]at this;exact lG this
 rcases h with h|h|h|h
 ·exact key 22 (by rw[h];rfl) rfl
 ·exact key 23 (by rw[h];rfl) rfl
 ·exact key 25 (by rw[h];rfl) rfl
 ·exact key 26 (by rw[h];rfl) rfl
def Aq:(prog.info? 233).map (·.size)=O 13:=by kernel_rfl
def As(th:Bool)(s:Std)(a:Option Addr)(n c:Nat):∀v∈(de th s (H a n c)).toList,v.oneCell'=true:=by simp[de,Value.oneCell']
def adT{p:aU}{T:Map}{pc:Nat}{x:Ins}{ty lo:List Nat}(h:cZ p T pc x ty lo=true)(TF:x.op=26):0<lo.length:=by
 cases lo with
 |cons t l=>simp
 |nil=>exfalso;unfold cZ at h;simp[TF]at h
def zu(pc:Nat)(x:Ins)(s:Std):(cT pc x s).length<=2:=by
 unfold cT
 repeat' split
 all_goals simp
def aaw{pc:Nat}{x:Ins}{s:Std}{w:Nat×Std}(h:w∈cT pc x s):w.2.lo.length<=s.lo.length+1:=by
 unfold cT at h
 repeat' split at h
 all_goals (simp at h)
 all_goals (first|(rcases h with rfl|rfl<;>simp)|(subst h;simp)|skip)
 all_goals omega
def DY{n:Nat}(l:List (Nat×Std)):(l.any λw=>decide (n<=w.1))=true↔∃i,i<l.length/\n<=(l.getD i e_).1:=by
 rw[List.any_eq_true];constructor
 ·rintro⟨w,hw,h⟩;obtain⟨i,hi,e⟩:=rZ hw;refine⟨i,hi,?_⟩;rw[dQ,ft hi];simp only[Option.getD_some,e];simpa using h
 ·rintro⟨i,hi,h⟩;rw[dQ,ft hi]at h;exact⟨_,il hi,by simpa using h⟩
def Ct(T:Map)(l:List (Nat×Std)):(lu l&&nW T l)=true↔GB T l l.length:=by
 have at_:∀(l:List (Nat×Std)) k,(hk:k<l.length)->l.getD k e_=l[k]:=λl k hk=>by rw[dQ,ft hk];rfl
 have self:∀l:List (Nat×Std),lu l=true↔∀k,k<l.length->∀j,j<k->(l.getD j e_).1=(l.getD k e_).1->(l.getD j e_).2=(l.getD k e_).2:=by
  intro l
  induction l with
  |nil=>simp[lu]
  |cons w l ih=>
   rw[lu,fh,ih,rB];constructor
   ·rintro⟨h1,h2⟩ k hk j hj;cases k with
    |zero=>omega
    |succ k=>
     have qW:k<l.length:=by simpa using hk
     cases j with
     |zero=>
      intro e;have:=h1 l[k] (il qW);simp only[Bool.or_eq_true,beq_iff_eq,rQ,fj]at this;rw[List.getD_cons_succ,at_ l k qW]at e ⊢;simp only[List.getD_cons_zero]at e ⊢;rcases this with h|h
      ·exact absurd e.symm h
      ·exact h.symm
     |succ j=>rw[List.getD_cons_succ,List.getD_cons_succ];exact h2 k qW j G
   ·intro h;refine⟨λv hv=>?_,λk hk j hj=>by have:=h (k+1) (by simpa using hk) (j+1) G;rwa[List.getD_cons_succ,List.getD_cons_succ]at this⟩;obtain⟨k,hk,e⟩:=rZ hv;have:=h (k+1) (by simpa using hk) 0 G;rw[List.getD_cons_succ,List.getD_cons_zero,at_ l k hk,e]at this;simp only[Bool.or_eq_true,beq_iff_eq,rQ,fj];by_cases e2:v.1=w.1
    ·exact .inr (this e2.symm).symm
    ·exact .inl e2
 rw[fh,self];unfold nW GB;rw[rB];constructor
 ·rintro⟨h1,h2⟩ k hk;refine⟨h1 k hk,λs hs=>?_⟩;have:=h2 l[k] (il hk);rw[at_ l k hk]at hs ⊢;rw[hs]at this;simpa using this
 ·intro h;refine⟨λk hk=>(h k hk).1,λv hv=>?_⟩;obtain⟨k,hk,e⟩:=rZ hv;have:=(h k hk).2;rw[at_ l k hk,e]at this;cases hT:T v.1 with
  |none=>rfl
  |some s=>simpa using this s hT
def RL1(w:ek)(vb pc:Nat)(cx cs:Array to)(a:Act)(W:ek):Prop:=
 ∃(J:Nat->to) (bx bs:Nat),a=FK J/\J 0=Oi vb/\J 1=Y pc/\J 5=Oi bx/\J 6=Oi bs/\Hid (aH W bx 40 cx)/\Hid (aH W bs 233 cs)/\Hid (bx≠bs/\w.heap.size<=bx/\w.heap.size<=bs)/\Hid (Below w.heap.size w W)
section
variable {w:ek}{K:Kp}{p:aU}{jN:to}{vb:Nat}{T:Map}{mv:Nat->to}{pc:Nat}
def NF{p:Prop}(h:p:=by
 refine xI rfl ?_;rw[hA];exact⟨by rw[HE.o],aC.ai (HW.o.trans (sV.mono HW.o.size)),λh=>by rw[HE.o]at h;cases h⟩):p:=h
def Au{p:Prop}(h:p:=by
 intro wz fF;exact qZ):p:=h
def Vy{p:Prop}(h:p:=by
 go_wp2_with fail;refine xI rfl ?_;exact⟨by rw[HE.o];rfl,aC.ai HW.o,λh=>by rw[HE.o]at h;cases h⟩):p:=h
def JA(h:gM w K p)(hv:aH w vb 230 (uf K p jN))(hs:js w jN p.code.length T mv)(tk:TOk p T)(pN:pc<p.code.length)(hlen:p.code.length<=262144)(dO:jX (ak p pc)=true)(fi:iU p (ak p pc)=true):
 Calls prog 173 #[Oi vb,Y pc] w (aaz w jN p T pc):=by
 obtain⟨cb,An,Du,kc,q1,q2,ccb,c0,c1,c2,c3,c4⟩:∃b off cap,K.c=H (O (I b off)) p.code.length cap/\p.code.length<=cap/\cap<=maxLen/\b<w.heap.size/\
  Xf w (I b (off+pc*5))=O (Y (ak p pc).op)/\Xf w (I b (off+pc*5+1))=O (Y (ak p pc).a)/\Xf w (I b (off+pc*5+2))=O (Y (ak p pc).b)/\Xf w (I b (off+pc*5+3))=O (Y (ak p pc).c)/\Xf w (I b (off+pc*5+4))=O (Y (ak p pc).d):=by
  obtain⟨b,off,cap,e,h1,h2,c0,c1,c2,c3,c4⟩:=h.ins pN;exact⟨b,off,cap,e,h1,h2,ay c0,c0,c1,c2,c3,c4⟩
 obtain⟨A,cap,rfl,a1,a2,a3,s0,s1,s2,s3,s4,s5,s6,s7,s8,s9,To,Om,Fy⟩:=hs.Yr pN;obtain⟨ma,mc,hmv,-,-⟩:=aY.val (hs.more pc pN);obtain⟨-,-,-,-,-,v5,v6⟩:=hv.c7;have lv:=hv.lt;rw[kc]at v5;rw[hmv]at Fy;have a0g:=Z h;have HV:=Z hv;have HS:=Z hs;have TK:=Z tk;have KK:=Z hmv;clear h hv hs tk hmv;generalize hx:ak p pc=x at*;have HX:=Z hx;clear hx;generalize fY:fO T pc=s at*;have l_:=Z fY;have wF:=Z fY;have Ht:=Z pN;clear fY;have hB:=Mi w;generalize xF:ir s.ty=tb at*;have xG:=Z xF;clear xF;generalize Bk:bO s.lo=lc at*;have DT:=Z Bk;clear Bk;generalize Ag:s.lo.length=ln at*;have tY:=Z Ag;clear Ag;generalize DW:s.ha=ha at*;have OI:=Z DW;clear DW;generalize DM:ln-8=n8 at*;have Tm:=Z DM;clear DM;go_enter func173,ntmps173;go_wp2;go_step3;go_wp2;refine wp_mono (Q:=λe a W=>e=Exit.normal/\RL1 w vb pc #[Y x.op,Y x.a,Y x.b,Y x.c,Y x.d] #[.bool (T pc).isSome,.string tb,Y (lc 0),Y (lc 1),Y (lc 2),Y (lc 3),Y (lc 4),Y (lc 5),Y (lc 6),Y (lc 7),Y ln,Y ha,H ma n8 mc] a W) ?_ ?_
 ·refine Mk.bq (S:=λwx=>Below w.heap.size w wx) bj (aA _ w 1) (λau=>?_);refine Mk.tk 0 (v:=?_) rfl ?_ cJ ?_;rotate_left
  ·exact Au
  refine Mk.pt ?_;refine Mk.tk 1 (v:=?_) rfl ?_ cJ ?_;rotate_left
  ·exact Au
  refine Mk.pt ?_;refine Mk.tk 2 (v:=?_) rfl ?_ cJ ?_;rotate_left
  ·exact Au
  refine Mk.pt ?_;refine Mk.tk 3 (v:=?_) rfl ?_ cJ ?_;rotate_left
  ·exact Au
  refine Mk.pt ?_;refine Mk.tk 4 (v:=?_) rfl ?_ cJ ?_;rotate_left
  ·intro wz fF;have key:∀b i v,b<w.heap.size->Xf w (I b i)=O v->Xf wz (I b i)=O v:=λb i v X hc=>(aR (fF.block _ X)).trans hc;have y0:=key _ _ _ lv v5;exact qZ
  refine Mk.pt ?_;refine Mk.tk 5 (v:=?_) rfl ?_ cJ ?_;rotate_left
  ·exact Au
  refine Mk.pt ?_;refine Mk.tk 6 (v:=?_) rfl ?_ cJ ?_;rotate_left
  ·exact Au
  refine Mk.pt ?_;refine Mk.tk 7 (v:=?_) rfl ?_ cJ ?_;rotate_left
  ·intro wz fF;have key:∀b i v,b<w.heap.size->Xf w (I b i)=O v->Xf wz (I b i)=O v:=λb i v X hc=>(aR (fF.block _ X)).trans hc;have y0:=key _ _ _ ccb c0;have y1:=key _ _ _ ccb c1;have y2:=key _ _ _ ccb c2;have y3:=key _ _ _ ccb c3;have y4:=key _ _ _ ccb c4;exact qZ
  refine Mk.pt ?_;refine Mk.tk 8 (v:=?_) rfl ?_ cJ ?_;rotate_left
  ·exact Au
  refine Mk.pt ?_;refine Mk.tk 9 (v:=?_) rfl ?_ cJ ?_;rotate_left
  ·exact Au
  refine Mk.pt ?_;refine Mk.tk 10 (v:=?_) rfl ?_ cJ ?_;rotate_left
  ·exact Au
  refine Mk.pt ?_;refine Mk.tk 11 (v:=?_) rfl ?_ cJ ?_;rotate_left
  ·intro wz fF;have key:∀b i v,b<w.heap.size->Xf w (I b i)=O v->Xf wz (I b i)=O v:=λb i v X hc=>(aR (fF.block _ X)).trans hc;have y0:=key _ _ _ lv v6;exact qZ
  refine Mk.pt ?_;refine Mk.tk 12 (v:=?_) rfl ?_ cJ ?_;rotate_left
  ·exact Au
  refine Mk.pt ?_;refine Mk.tk 13 (v:=?_) rfl ?_ cJ ?_;rotate_left
  ·exact Au
  refine Mk.pt ?_;refine Mk.tk 14 (v:=?_) rfl ?_ cJ ?_;rotate_left
  ·intro wz fF;have key:∀b i v,b<w.heap.size->Xf w (I b i)=O v->Xf wz (I b i)=O v:=λb i v X hc=>(aR (fF.block _ X)).trans hc;exact qX2
  refine Mk.pt ?_;refine dM (rs:=[15,16]) bj az ?_;refine bX rfl (λK hK=>?_) (bX rfl (λK hK=>?_) cz);refine fL ?_;go_simp;refine hK.out _ _ (au.alloc au.size _) (λau=>?_);clear hK K;refine Mk.pt ?_;refine dM (rs:=[16]) bj az ?_;refine bX rfl (λK hK=>?_) cz;refine fL ?_;go_simp;refine hK.out _ _ (au.alloc au.size _) (λau=>?_);clear hK K;refine Mk.pt ?_;refine dM (rs:=[17]) bj az ?_;refine bX rfl (λK hK=>?_) cz;refine fL ?_;go_simp;refine hK.out _ _ (((aA _ w 1).alloc (aL _) _).alloc az _) (λau=>?_);clear hK K;refine Mk.pt ?_;refine dM (rs:=[18]) bj az ?_;refine bX rfl (λK hK=>?_) cz;refine fL ?_;go_simp;refine hK.out _ _ (((aA _ w 1).alloc (aL _) _).alloc az _) (λau=>?_);clear hK K;refine Mk.pt ?_;refine eT bj ⟨rfl,?_⟩ _;clear au;rotate_left;refine fL ?_;go_simp;refine hK.out _ _ (au.alloc au.size _) (λau=>?_);clear hK K;refine Mk.pt ?_;refine dM (rs:=[15]) bj az ?_;refine bX rfl (λK hK=>?_) cz;refine fL ?_;go_simp;refine hK.out _ _ (au.alloc au.size _) (λau=>?_);clear hK K;refine Mk.pt ?_;refine dM (rs:=[17]) bj az ?_;refine bX rfl (λK hK=>?_) cz;refine fL ?_;go_simp;refine hK.out _ _ (((aA _ w 1).alloc (aL _) _).alloc az _) (λau=>?_);clear hK K;refine Mk.pt ?_;refine dM (rs:=[18]) bj az ?_;refine bX rfl (λK hK=>?_) cz;refine fL ?_;go_simp;refine hK.out _ _ (((aA _ w 1).alloc (aL _) _).alloc az _) (λau=>?_);clear hK K;refine Mk.pt ?_;refine eT bj ⟨rfl,?_⟩ _;clear au
  all_goals
   refine⟨rfl,?_⟩
   first
   |exact⟨_,w.heap.size,w.heap.size+1,FK.of _ rfl,rfl,rfl,rfl,rfl,Z (((aH.new w _ _).alloc _).drewN 1),Z ((aH.bK az).drewN 1),Z ⟨G,G,G⟩,Z ((hB _ _ _ _).trans (aA _ _ 1))⟩
   |exact⟨_,w.heap.size+1,w.heap.size,FK.of _ rfl,rfl,rfl,rfl,rfl,Z ((aH.bK az).drewN 1),Z (((aH.new w _ _).alloc _).drewN 1),Z ⟨G,G,G⟩,Z ((hB _ _ _ _).trans (aA _ _ 1))⟩
 ·rintro e a W ⟨rfl,J,bx,bs,rfl,j0,j1,j5,j6,KX,KS,vh,HW⟩;have af:=Z vh.o.1;have Da:=Z vh.o.2.2;unfold FK;rw[j0,j1,j5,j6];clear j0 j1 j5 j6 vh v5 v6 lv pN ccb a3 c0 c1 c2 c3 c4 s0 s1 s2 s3 s4 s5 s6 s7 s8 s9 To Om Fy q1 q2 kc hB;cases hT:T pc with
  |none=>have HE:=Z (show dt p T pc=99 by unfold dt;rw[hT]);rw[hT]at KS;change Hid (aH W bs 233 #[.bool false,.string tb,Y (lc 0),Y (lc 1),Y (lc 2),Y (lc 3),Y (lc 4),Y (lc 5),Y (lc 6),Y (lc 7),Y ln,Y ha,H ma n8 mc])at KS;obtain⟨d0,d1,d2,d3,d4⟩:=KX.o.c5;obtain⟨e0,e1,e2,e3,e4,e5,e6,e7,e8,e9,Hq,Hr,Hs⟩:=KS.o.sB;have lx:=KX.o.lt;have ls:=KS.o.lt;have fs:=KS.o.frozen;exact Vy
  |some st=>
   have hss:fO T pc=st:=by unfold fO;rw[hT];rfl
   obtain rfl:st=s:=hss.symm.trans l_.o;rw[hT]at KS;change Hid (aH W bs 233 #[.bool true,.string tb,Y (lc 0),Y (lc 1),Y (lc 2),Y (lc 3),Y (lc 4),Y (lc 5),Y (lc 6),Y (lc 7),Y ln,Y ha,H ma n8 mc])at KS;have hle:dt p T pc=if !eL p x st.ha then 96 else if bZ x st.ty≠0 then bZ x st.ty else if !cK p x then 92 else if !cZ p T pc x (bg x st.ty) st.lo then 95 else if(cT pc x ⟨bg x st.ty,st.lo,br p x st.ha⟩).any (λw=>decide (p.code.length<=w.1))then 98 else if !(lu (cT pc x ⟨bg x st.ty,st.lo,br p x st.ha⟩)&&nW T (cT pc x ⟨bg x st.ty,st.lo,br p x st.ha⟩))then 94 else 0:=by unfold dt;rw[hT,HX.o]
   have Ex:jQ p T pc=rA T (cT pc x ⟨bg x st.ty,st.lo,br p x st.ha⟩):=by unfold jQ;rw[hT,HX.o]
   have GC:=Z hle;have HLM:=Z Ex;have Vz:0<=x.op/\x.op<=41:=by unfold jX aP at dO;simpa using dO
   have HQA:=Z (λh=>Ry fi h);have HQC:=Z (λh=>YA fi h);have HXA:=Z (λh=>Rz fi h);have tlo:=TK.o.loops pc st hT;have tty:=TK.o.ty pc st hT;have Vw:=TK.o.len pc st hT;have tha:=TK.o.ha pc st hT;have OJ:=Z (λV (X:Below w.heap.size w V)=>aaY (x:=x) (ha:=st.ha) (a0g.o.aG (aC.ai X)) (HV.o.of (X.block _ HV.o.lt)) (λh=>HQA.o (by simp[h])) tha);have hmr:∃a n c,mv pc=H a n c:=⟨_,_,_,KK.o⟩;have VA:=Z (λV=>aaI V (vv:=Oi vb) (mv:=mv pc) true (s:=st) (x:=x) Vz.1 Vz.2 Vw tty hmr);have HKI:=Z (λV (X:Below w.heap.size w V)=>aec (x:=x) (a0g.o.aG (aC.ai X)) (HV.o.of (X.block _ HV.o.lt)) (λh=>HQA.o (by rcases h with h|h|h|h|h<;>simp[h])) (λh=>HQC.o h));have JB:=Z (λV (X:Below w.heap.size w V) (ht:fy (bg x st.ty))=>DQ (s:=⟨bg x st.ty,st.lo,st.ha⟩) (x:=x) (pc:=pc) (T:=T) (smv:=mv pc) (a0g.o.aG (aC.ai X)) (HV.o.of (X.block _ HV.o.lt)) (HS.o.aG (aC.ai X)) (by have h1:=HS.o.more pc Ht.o;rw[wF.o]at h1;exact h1.aG (aC.ai X)) ⟨Ht.o,Vz.1,λh=>HXA.o h,tlo,ht,λq s hq=>⟨TK.o.loops q s hq,TK.o.ty q s hq⟩,hlen⟩);have HHO:=Z (λV (X:Below w.heap.size w V)=>aai (x:=x) (ha:=st.ha) (a0g.o.aG (aC.ai X)) (HV.o.of (X.block _ HV.o.lt)) (λh=>HQA.o (by simp[h])));have HMM:=Z (show dF w (mv pc) st.lo from by have h1:=HS.o.more pc Ht.o;rw[wF.o]at h1;exact h1);have zM:=Z (Lm TK.o.loops st.lo pc tlo);have Al:=Z (GA (x:=x) (ty:=st.ty) G tty);have HTH:=Z tha;have HT:=Z hT;rw[KK.o]at VA JB;rw[OI.o]at OJ JB HHO;unfold a_ aK at OJ HKI HHO;unfold a_ aK ey de at VA JB;dsimp only at JB;rw[xG.o,DT.o,tY.o,OI.o]at VA;rw[DT.o,tY.o]at JB;rw[OI.o]at GC HLM;clear hle Ex hT hss l_ hmr tlo tty Vw tha dO fi;obtain⟨d0,d1,d2,d3,d4⟩:=KX.o.c5;obtain⟨e0,e1,e2,e3,e4,e5,e6,e7,e8,e9,Hq,Hr,Hs⟩:=KS.o.sB;have lx:=KX.o.lt;have ls:=KS.o.lt;have fs:=KS.o.frozen;cases hh:eL p x ha with
   |false=>
    have HE:=Z (show dt p T pc=96 by rw[GC.o,hh];rfl);rw[hh]at OJ;go_wp2_with fail
    with_reducible refine(OJ.o _ HW.o).mono ?_
    rintro e W1 ⟨rfl,X⟩;clear d0 d1 d2 d3 d4 e0 e1 e2 e3 e4 e5 e6 e7 e8 e9 Hq Hr Hs lx ls fs;replace KX:=Z (KX.o.of (X.block _ KX.o.lt));replace KS:=Z (KS.o.of (X.block _ KS.o.lt));replace HW:=Z (HW.o.trans (X.mono HW.o.size));clear X;exact Vy
   |true=>
    have OK:=Z hh;rw[hh]at OJ;go_wp2_with fail
    with_reducible refine(OJ.o _ HW.o).mono ?_
    rintro e W1 ⟨rfl,X⟩;clear d0 d1 d2 d3 d4 e0 e1 e2 e3 e4 e5 e6 e7 e8 e9 Hq Hr Hs lx ls fs;replace KX:=Z (KX.o.of (X.block _ KX.o.lt));replace KS:=Z (KS.o.of (X.block _ KS.o.lt));replace HW:=Z (HW.o.trans (X.mono HW.o.size));clear X;obtain⟨d0,d1,d2,d3,d4⟩:=KX.o.c5;obtain⟨e0,e1,e2,e3,e4,e5,e6,e7,e8,e9,Hq,Hr,Hs⟩:=KS.o.sB;have lx:=KX.o.lt;have ls:=KS.o.lt;have fs:=KS.o.frozen;go_wp2_with fail
    with_reducible refine(VA.o _).mono ?_
    rintro e W2 ⟨s',rfl,nX,X⟩;clear d0 d1 d2 d3 d4 e0 e1 e2 e3 e4 e5 e6 e7 e8 e9 Hq Hr Hs lx ls fs;replace KX:=Z (KX.o.of (X.block _ KX.o.lt));replace KS:=Z (KS.o.of (X.block _ KS.o.lt));replace HW:=Z (HW.o.trans (X.mono HW.o.size));clear X;obtain⟨d0,d1,d2,d3,d4⟩:=KX.o.c5;obtain⟨e0,e1,e2,e3,e4,e5,e6,e7,e8,e9,Hq,Hr,Hs⟩:=KS.o.sB;have lx:=KX.o.lt;have ls:=KS.o.lt;have fs:=KS.o.frozen;by_cases YB:bZ x st.ty=0
    case neg=>
     have agr:(bZ x st.ty !=0)=true:=by simpa using YB
     have HE:=Z (show dt p T pc=bZ x st.ty by rw[GC.o,OK.o];simp[YB]);have HNZ:=Z YB;unfold ey;generalize bZ x st.ty=te at*;clear nX YB e0 e1 e2 e3 e4 e5 e6 e7 e8 e9 Hq Hr Hs fs;go_wp2_with (refine g_ rfl 233 (.tmp 6) (.tmp 46) rfl bs (de true s' (H ma n8 mc)) rfl rfl KS.o rfl Aq (As _ _ _ _ _) ?_;intro W3 mV Ew);refine xI rfl ?_;exact⟨by rw[HE.o];rfl,aC.ai (HW.o.trans (Ew.below HW.o.size (by have:=Da.o;simp;exact this))),λh=>absurd (HE.o.symm.trans h) HNZ.o⟩
    case pos=>
     obtain rfl:=nX YB;rw[YB];have HTE:=Z YB;clear nX YB;unfold ey;have Vv:=Z (show de true ⟨bg x st.ty,st.lo,st.ha⟩ (H ma n8 mc)=#[.bool true,.string (ir (bg x st.ty)),Y (lc 0),Y (lc 1),Y (lc 2),Y (lc 3),Y (lc 4),Y (lc 5),Y (lc 6),Y (lc 7),Y ln,Y ha,H ma n8 mc]from by unfold de;rw[DT.o,tY.o,OI.o]);generalize y7:ir (bg x st.ty)=tb2 at*;have y6:=Z y7;clear y7 e0 e1 e2 e3 e4 e5 e6 e7 e8 e9 Hq Hr Hs fs;cases hk:cK p x with
     |false=>
      have HE:=Z (show dt p T pc=92 by rw[GC.o,OK.o,HTE.o,hk];rfl);rw[hk]at HKI;go_wp2_with ((refine g_ rfl 233 (.tmp 6) (.tmp 46) rfl bs (de true ⟨bg x st.ty,st.lo,st.ha⟩ (H ma n8 mc)) rfl rfl KS.o rfl Aq (As _ _ _ _ _) ?_;intro W3 mV Ew;rw[Vv.o]at mV;replace KX:=Z (KX.o.aG Ew (by have:=af.o;simp;exact this));replace HW:=Z (HW.o.trans (Ew.below HW.o.size (by have:=Da.o;simp;exact this)));replace KS:=Z mV;replace d0:Xf W3 (I bx 0)=O (Y x.op):=KX.o.cell 0;replace d1:Xf W3 (I bx 1)=O (Y x.a):=KX.o.cell 1;replace d2:Xf W3 (I bx 2)=O (Y x.b):=KX.o.cell 2;replace d3:Xf W3 (I bx 3)=O (Y x.c):=KX.o.cell 3;replace d4:Xf W3 (I bx 4)=O (Y x.d):=KX.o.cell 4;replace lx:=KX.o.lt;clear mV Ew ls))
      with_reducible refine(HKI.o _ HW.o).mono ?_
      rintro e W4 ⟨rfl,X⟩;clear d0 d1 d2 d3 d4 lx;replace KX:=Z (KX.o.of (X.block _ KX.o.lt));replace KS:=Z (KS.o.of (X.block _ KS.o.lt));replace HW:=Z (HW.o.trans (X.mono HW.o.size));clear X;exact Vy
     |true=>
      have HKT:=Z hk;rw[hk]at HKI;go_wp2_with ((refine g_ rfl 233 (.tmp 6) (.tmp 46) rfl bs (de true ⟨bg x st.ty,st.lo,st.ha⟩ (H ma n8 mc)) rfl rfl KS.o rfl Aq (As _ _ _ _ _) ?_;intro W3 mV Ew;rw[Vv.o]at mV;replace KX:=Z (KX.o.aG Ew (by have:=af.o;simp;exact this));replace HW:=Z (HW.o.trans (Ew.below HW.o.size (by have:=Da.o;simp;exact this)));replace KS:=Z mV;replace d0:Xf W3 (I bx 0)=O (Y x.op):=KX.o.cell 0;replace d1:Xf W3 (I bx 1)=O (Y x.a):=KX.o.cell 1;replace d2:Xf W3 (I bx 2)=O (Y x.b):=KX.o.cell 2;replace d3:Xf W3 (I bx 3)=O (Y x.c):=KX.o.cell 3;replace d4:Xf W3 (I bx 4)=O (Y x.d):=KX.o.cell 4;replace lx:=KX.o.lt;clear mV Ew ls))
      with_reducible refine(HKI.o _ HW.o).mono ?_
      rintro e W4 ⟨rfl,X⟩;clear d0 d1 d2 d3 d4 lx;replace KX:=Z (KX.o.of (X.block _ KX.o.lt));replace KS:=Z (KS.o.of (X.block _ KS.o.lt));replace HW:=Z (HW.o.trans (X.mono HW.o.size));clear X;obtain⟨d0,d1,d2,d3,d4⟩:=KX.o.c5;obtain⟨e0,e1,e2,e3,e4,e5,e6,e7,e8,e9,Hq,Hr,Hs⟩:=KS.o.sB;have lx:=KX.o.lt;have ls:=KS.o.lt;have fs:=KS.o.frozen;obtain⟨jb,hjb⟩:∃z,cZ p T pc x (bg x st.ty) st.lo=z:=⟨_,rfl⟩;have HJB:=Z hjb;rw[hjb]at JB;clear hjb;cases jb with
      |false=>
       have HE:=Z (show dt p T pc=95 by rw[GC.o,OK.o,HTE.o,HKT.o,HJB.o];rfl);go_wp2_with fail
       with_reducible refine(JB.o _ HW.o Al.o).mono ?_
       rintro e W5 ⟨rfl,X⟩;clear d0 d1 d2 d3 d4 e0 e1 e2 e3 e4 e5 e6 e7 e8 e9 Hq Hr Hs lx ls fs;replace KX:=Z (KX.o.of (X.block _ KX.o.lt));replace KS:=Z (KS.o.of (X.block _ KS.o.lt));replace HW:=Z (HW.o.trans (X.mono HW.o.size));clear X;exact Vy
      |true=>
       go_wp2_with fail
       with_reducible refine(JB.o _ HW.o Al.o).mono ?_
       rintro e W5 ⟨rfl,X⟩;clear d0 d1 d2 d3 d4 e0 e1 e2 e3 e4 e5 e6 e7 e8 e9 Hq Hr Hs lx ls fs;replace KX:=Z (KX.o.of (X.block _ KX.o.lt));replace KS:=Z (KS.o.of (X.block _ KS.o.lt));replace HW:=Z (HW.o.trans (X.mono HW.o.size));clear X;obtain⟨d0,d1,d2,d3,d4⟩:=KX.o.c5;obtain⟨e0,e1,e2,e3,e4,e5,e6,e7,e8,e9,Hq,Hr,Hs⟩:=KS.o.sB;have lx:=KX.o.lt;have ls:=KS.o.lt;have fs:=KS.o.frozen;have Lq:=Z (λV (X:Below w.heap.size w V)=>aao V (pc:=pc) (x:=x) (s:=⟨bg x st.ty,st.lo,br p x ha⟩) (smv:=H ma n8 mc) (by rw[<-KK.o];exact HMM.o.aG (aC.ai X)) (by have:=Ht.o;omega) Vz.1 (λh=>(HXA.o h).1) (by show st.lo.length<=_;have:=zM.o;have:=Ht.o;omega) (λh=>adT HJB.o h));unfold a_ aK ey de at Lq;dsimp only at Lq;rw[y6.o,DT.o,tY.o]at Lq
       try rw[Tm.o]at Lq
       rw[<-OI.o]at Lq;rw[OI.o]at Lq;have Wm:=zu pc x ⟨bg x st.ty,st.lo,br p x ha⟩;have DV:WOk (cT pc x ⟨bg x st.ty,st.lo,br p x ha⟩):=λi hi=>by
        have hm:(cT pc x ⟨bg x st.ty,st.lo,br p x ha⟩).getD i e_∈cT pc x ⟨bg x st.ty,st.lo,br p x ha⟩:=by rw[dQ,ft hi];exact il hi
        refine⟨by rw[(DU hm).1];exact Al.o,?_⟩;have h1:=aaw hm;have h2:=zM.o;have h3:=Ht.o;show _<=_;dsimp only at h1;omega
       have afH:=Z DV;generalize cT pc x ⟨bg x st.ty,st.lo,br p x ha⟩=wl at*;clear DV;go_wp2_with fail
       with_reducible refine(HHO.o _ HW.o).mono ?_
       rintro e W6 ⟨rfl,X⟩;clear d0 d1 d2 d3 d4 e0 e1 e2 e3 e4 e5 e6 e7 e8 e9 Hq Hr Hs lx ls fs;replace KX:=Z (KX.o.of (X.block _ KX.o.lt));replace KS:=Z (KS.o.of (X.block _ KS.o.lt));replace HW:=Z (HW.o.trans (X.mono HW.o.size));clear X;obtain⟨d0,d1,d2,d3,d4⟩:=KX.o.c5;obtain⟨e0,e1,e2,e3,e4,e5,e6,e7,e8,e9,Hq,Hr,Hs⟩:=KS.o.sB;have lx:=KX.o.lt;have ls:=KS.o.lt;have fs:=KS.o.frozen;generalize hhd:br p x ha=hd9 at*;clear hhd;go_wp2_with fail;have hB7:Below w.heap.size w (W6.setCell (I bs 11) (Y hd9)):=HW.o.setCell (p:=(I bs 11)) Da.o _;generalize(W6.setCell (I bs 11) (Y hd9))=W7 at*;replace HW:=Z hB7;clear hB7 KX KS;clear d0 d1 d2 d3 d4 e0 e1 e2 e3 e4 e5 e6 e7 e8 e9 Hq Hr Hs lx ls fs
       with_reducible refine(Lq.o _ HW.o).mono ?_
       rintro e W8 ⟨lv,xH,rfl,hy,X,gT⟩;obtain⟨la,Wl,Lp,-,-⟩:=hy.row.val;subst Lp;have HY:=Z hy;have h67:=HW.o.size;have afI:=Z (λb X=>bS h67 (gT b X));replace HW:=Z (HW.o.trans (X.mono HW.o.size));have HP8:=Z (a0g.o.aG (aC.ai HW.o));have HV8:=Z (HV.o.of (HW.o.block _ HV.o.lt));have HS8:=Z (HS.o.aG (aC.ai HW.o));have Yz:Hid (∀q s,T q=O s->fy s.ty/\s.lo.length<=1000000000):=Z λq s hq=>⟨TK.o.ty q s hq,by
        have h1:=Lm TK.o.loops s.lo q (TK.o.loops q s hq);have h2:=TK.o.lt q s hq;omega⟩
       have La:Hid (∀i,i<wl.length->∀b,(xH i).ownBlock=O b->b≠A):=Z λi hi b X e=>by
        subst e;rcases HY.o.off i hi _ X with h1|h1
        ·exact HS.o.off pc Ht.o b (by rw[KK.o];exact h1) rfl
        ·have h2:b<w.heap.size:=(HS.o.row.slice).2.2.2;omega
       have Vx:Hid (∀b,(Value.slice la wl.length Wl).ownBlock=O b->b≠A):=Z λb X e=>by subst e;have h1:=afI.o b X;have h2:b<w.heap.size:=(HS.o.row.slice).2.2.2;omega
       have HVA:Hid (vb≠A):=Z λe=>by subst e;exact HS.o.row.fx HV.o bz rfl
       clear hy X gT h67 HS a0g HMM OJ VA HKI JB HHO Lq;go_wp2_with fail;refine lk1 (w1:=W8) (pc:=pc) HP8 HV8 HY Wm (λA9 W9 hA sV hex=>?_) (λadS W9 j0 j1 j8 sV Jw=>?_) ⟨_,0,FK.of _ rfl,rfl,rfl,rfl,rfl,rfl,rfl,ck _,rfl,Z (aZ _ _)⟩
       ·have HE:=Z (show dt p T pc=98 from by rw[GC.o,OK.o,HTE.o,HKT.o,HJB.o,(DY wl).2 hex];rfl);exact NF
       ·have VB:=Z Jw;have qN:=Z sV;unfold FK;rw[j0,j1,j8];clear j0 j1 j8 Jw sV;go_wp2;go_step3;go_wp2_with fail;refine lk2 (w1:=W8) (pc:=pc) (mv:=mv) HV8 HS8 Yz HY afH Wm VB ?_ ?_ ?_;rotate_left 2
        ·exact⟨_,0,FK.of _ rfl,rfl,rfl,rfl,rfl,rfl,rfl,ck _,rfl,qN⟩
        ·intro A9 W10 hA sV hex;have HAN:=Z (show wl.any (λw=>decide (p.code.length<=w.1))=false from by
          rw[xi];intro h;obtain⟨i,hi,h2⟩:=(DY wl).1 h;have:=VB.o i hi;omega)
         have HE:=Z (show dt p T pc=94 from by
          rw[GC.o,OK.o,HTE.o,HKT.o,HJB.o,HAN.o,show(lu wl&&nW T wl)=false from by rw[xi];exact λh=>hex ((Ct T wl).1 h)];rfl)
         exact NF
        ·intro J10 W10 j0 j1 j8 sV Bm;have Qd:=Z Bm;have r_:=Z sV;unfold FK;rw[j0,j8];clear j0 j1 j8 Bm sV;go_wp2_with fail;have afJ:=Z (HV8.o.of (r_.o.block _ HV8.o.lt));have zP:=Z (HY.o.aG (aC.ai r_.o));refine lk4 (w1:=W10) afJ HVA zP Vx La (by have h2:=(HS8.o.row.slice).2.2.2;have:=r_.o.size;omega) Wm VB (λJ11 W11 Ro hF hS=>?_) ⟨_,0,FK.of _ rfl,rfl,rfl,rfl,rfl,ck _,rfl,Z (aC.refl _ _),mv,Z (by rw[List.take_zero];exact HS8.o.aG (aC.ai r_.o))⟩;have HF:=Z hF;have afK:=Z hS;unfold FK;clear hF hS;go_wp2_with fail;refine xI rfl ?_;have HAN:=Z (show wl.any (λw=>decide (p.code.length<=w.1))=false from by
          rw[xi];intro h;obtain⟨i,hi,h2⟩:=(DY wl).1 h;have:=VB.o i hi;omega)
         have HE:=Z (show dt p T pc=0 from by
          rw[GC.o,OK.o,HTE.o,HKT.o,HJB.o,HAN.o,(Ct T wl).2 Qd.o];rfl)
         exact⟨by rw[HE.o];rfl,(aC.ai (HW.o.trans (r_.o.mono HW.o.size))).trans HF.o,λ_=>⟨Ro,by rw[HLM.o];exact afK.o⟩⟩
end
end Go.Vf
