import Derived.Test.YtblkblclmbhjiaaGreatM11
set_option linter.unusedVariables false
set_option linter.unusedSimpArgs false
set_option maxHeartbeats 40000000
set_option maxRecDepth 100000
open Go.Proofs.Tryz
namespace Go.Proofs.YtblkblclmbhjiaaGreat.Vf
open Go.RowKit ak.Vm
open ak hiding aL an aj
open Ma (dx bQ aU vb aA aQ)
def StI (w V:World) (x0 x1 x2 x3 x4 x5 x6 x7 x8 x9 Ot x11 WA x13:Value):Prop:=V.cell? (π w.heap.size 1)=some x0/\V.cell? (π (w.heap.size+1) 0)=some x1/\V.cell? (π (w.heap.size+1) 1)=some x2/\V.cell? (π (w.heap.size+1) 2)=some x3/\V.cell? (π (w.heap.size+1) 3)=some x4/\V.cell? (π (w.heap.size+1) 4)=some x5/\V.cell? (π (w.heap.size+1) 5)=some x6/\V.cell? (π (w.heap.size+1) 6)=some x7/\V.cell? (π (w.heap.size+1) 7)=some x8/\V.cell? (π (w.heap.size+1) 8)=some x9/\V.cell? (π (w.heap.size+1) 9)=some Ot/\V.cell? (π (w.heap.size+1) 10)=some x11/\V.cell? (π (w.heap.size+1) 11)=some WA/\V.cell? (π (w.heap.size+1) 12)=some x13
def StK (w V:World) (x0 x1 x2 x3 x4 x5 x6 x7 x8 x9 Ot x11 WA x13:Value) (q:Addr) (y:Value):Prop:=V.cell? (π w.heap.size 1)=some x0/\V.cell? (π (w.heap.size+1) 0)=some x1/\V.cell? (π (w.heap.size+1) 1)=some x2/\V.cell? (π (w.heap.size+1) 2)=some x3/\V.cell? (π (w.heap.size+1) 3)=some x4/\V.cell? (π (w.heap.size+1) 4)=some x5/\V.cell? (π (w.heap.size+1) 5)=some x6/\V.cell? (π (w.heap.size+1) 6)=some x7/\V.cell? (π (w.heap.size+1) 7)=some x8/\V.cell? (π (w.heap.size+1) 8)=some x9/\V.cell? (π (w.heap.size+1) 9)=some Ot/\V.cell? (π (w.heap.size+1) 10)=some x11/\V.cell? (π (w.heap.size+1) 11)=some WA/\V.cell? (π (w.heap.size+1) 12)=some x13/\V.cell? q=some y
def TG:Std:=⟨[],[],0⟩
def eV (T:Map) (i:Nat):Std:=(T i).getD TG
def stC (T:Map) (mv:Nat->Value) (o:Nat):Value:=(bU (T (o / 13)).isSome (eV T (o / 13)) (mv (o / 13))).getD (o % 13) undef
structure ii (w:World) (iz:Value) (n:Nat) (T:Map) (mv:Nat->Value):Prop where
 row:Row w 233 13 iz n (stC T mv)
 more:∀i,i < n->cZ w (mv i) (eV T i).lo
 off:∀i,i < n->∀b,(mv i).ownBlock=some b->iz.ownBlock≠some b
section
variable {w w':World} {iz:Value} {n:Nat} {T:Map} {mv:Nat->Value}
theorem ii.aB (h:ii w iz n T mv) (f:da [] w w'):ii w' iz n T mv:=⟨h.row.aB f smm,fun i hi=>(h.more i hi).aB f,h.off⟩
theorem ii.RD (h:ii w iz n T mv) {i:Nat} (hi:i < n):∃b cap,iz= .slice (some (π b 0)) n cap/\n<=cap/\cap<=maxLen/\b < w.heap.size/\
 w.cell? (π b (i*13))=some (.bool (T i).isSome)/\w.cell? (π b (i*13+1))=some (.string (fH (eV T i).ty))/\
 w.cell? (π b (i*13+2))=some (ι (bE (eV T i).lo 0))/\w.cell? (π b (i*13+3))=some (ι (bE (eV T i).lo 1))/\w.cell? (π b (i*13+4))=some (ι (bE (eV T i).lo 2))/\
 w.cell? (π b (i*13+5))=some (ι (bE (eV T i).lo 3))/\w.cell? (π b (i*13+6))=some (ι (bE (eV T i).lo 4))/\w.cell? (π b (i*13+7))=some (ι (bE (eV T i).lo 5))/\
 w.cell? (π b (i*13+8))=some (ι (bE (eV T i).lo 6))/\w.cell? (π b (i*13+9))=some (ι (bE (eV T i).lo 7))/\w.cell? (π b (i*13+10))=some (ι (eV T i).lo.length)/\
 w.cell? (π b (i*13+11))=some (ι (eV T i).ha)/\w.cell? (π b (i*13+12))=some (mv i):=by
 obtain ⟨b,cap,rfl,h1,h2,h3⟩:=h.row.some omm;have key:∀k,k < 13->w.cell? (π b (i*13+k))=some ((bU (T i).isSome (eV T i) (mv i)).getD k undef):=fun k hk=>by have e:=h.row.cell (o:=i*13+k) omm;rw [e];unfold stC;rw [show (i*13+k) / 13=i by omega,show (i*13+k) % 13=k by omega]
 exact ⟨b,cap,rfl,h1,h2,h3,key 0 omm,key 1 omm,key 2 omm,key 3 omm,key 4 omm,key 5 omm,key 6 omm,key 7 omm,key 8 omm,key 9 omm,key 10 omm,key 11 omm,key 12 omm⟩
theorem Gy {p:aO} {T:Map} (hT:∀q s,T q=some s->de p T q s.lo):∀(l:List Nat) (q:Nat),de p T q l->l.length<=q:=by
 intro l
 induction l with
 |nil=>intro q _;exact afO _
 |cons t l ih=>intro q h;obtain ⟨h1,-,s,h2,rfl⟩:=h;have:=ih t (hT t s h2);simp only [List.length_cons];omega
theorem TH (p:aO) (n:Int):Aa p.on.length (fun i=>p.on.getD i 0) n=p.on.contains n:=by
 unfold Aa;rw [af7];simp only [Bool.not_eq_true',agc,List.contains_iff_mem];constructor
 ·intro h;apply Classical.byContradiction;intro hn;refine h fun i hi e=>hn ?_;rw [<-e,afS,afP hi];exact af6 hi
 ·intro h hn;obtain ⟨i,hi,e⟩:=agd h;refine hn i hi ?_;rw [afS,afP hi];exact e
def Mb (p:aO) (xa:Int):List Nat->Bool
 |[]=>false
 |t::_=>decide (xa=(ai p t).a)
def EL (T:Map) (xa:Int) (ty:List Nat):List Nat->Bool
 |[]=>false
 |t::l=>decide (xa=t)&&(match T t with|some s=>decide (s.ty=ty/\s.lo=l)|none=>decide (ty=[]/\l=[]))
structure aaA (p:aO) (T:Map) (pc:Nat) (x:Ins) (s:Std):Prop where
 nj:pc < p.code.length
 cW:0<=x.op
 wT:x.op=22\/x.op=23\/x.op=25\/x.op=26->0<=x.a/\x.a < p.code.length
 iF:de p T pc s.lo
 Vu:eI s.ty
 hT:∀q st,T q=some st->de p T q st.lo/\eI st.ty
 len:p.code.length<=262144
variable {K:Kp} {p:aO} {vb:Nat} {pc:Nat} {x:Ins} {s:Std} {smv:Value}
theorem agW {p:Prop} (h:p:=by
 unfold aQ aA cT bU;dsimp only;rw [HF.o];generalize fH ty=tb;generalize bE lo=lc;rcases hj with rfl|rfl|rfl|rfl
 all_goals
  exact aco):p:=h
theorem adF {p:Prop} (h:p:=by
 unfold aQ aA cT bU;dsimp only;generalize fH ty=tb;generalize bE lo=lc;exact aco):p:=h
theorem aco {p:Prop} (h:p:=by
 go_enter func245,ntmps245;go_wp2_with fail;refine eP rfl ?_;exact ⟨rfl,hB _ _ _ _⟩):p:=h
theorem acn {p:Prop} (h:p:=by
 intro wz bR
 (try dsimp only at bR)
 exact qU):p:=h
theorem Ac (h:fP w K p) (hv:ay w vb 230 (qR K p iz)) (hs:ii w iz p.code.length T mv) (hm:cZ w smv s.lo) (J:aaA p T pc x s):
 Calls prog 245 #[ρ vb,ι pc,aQ x,cT true s smv] w (fun e w'=>e= .returned (.bool (cC p T pc x s.ty s.lo))/\Below w.heap.size w w'):=by
 obtain ⟨op,xa,xb,xc,xd⟩:=x;obtain ⟨ty,lo,ha⟩:=s;obtain ⟨nj,cW,wT,iF,Vu,hT,hlen⟩:=J;dsimp only at cW wT iF Vu hm;obtain ⟨ma,mc,rfl,m1,m2⟩:=aV.val hm;have Hh:=Gy (fun q s h=>(hT q s h).1) lo pc iF;have X9:pc < 262144:=omm;have hB:=ag7 w;obtain ⟨v0,-,-,v3,v4,v5,v6⟩:=hv.c7;have lv:=hv.lt;obtain ⟨cb,wk,zF,kc,q1,q2,lcb,-⟩:=h.cd.some omm omm;have INS:∀i,i < p.code.length->w.cell? (π cb (wk+i*5))=some (ι (ai p i).op)/\w.cell? (π cb (wk+i*5+1))=some (ι (ai p i).a):=by intro i hi;obtain ⟨b,off,cap,hv,-,-,c0,c1,-⟩:=h.ins hi;rw [kc] at hv;simp only [afH,af5,Addr.mk.injEq] at hv;obtain ⟨⟨rfl,rfl,-⟩,-,-⟩:=hv;exact ⟨c0,c1⟩
 have IM:=ae INS;rw [kc] at v5;clear INS;by_cases hj:op=22\/op=23\/op=25\/op=26
 ·obtain ⟨a0,a1⟩:=wT hj;obtain ⟨m,rfl⟩:=afN a0;have Fo:m < p.code.length:=omm;obtain ⟨c0,-⟩:=IM.o m Fo;by_cases h1:m<=pc
  ·have HF:=ae (show cC p T pc ⟨op,m,xb,xc,xd⟩ ty lo=false by unfold cC;rw [afE ⟨hj,.inl (by dsimp only;omega)⟩]);clear hv hs hm iF hT h q1 q2 m1 m2;exact agW
  ·have yq:cC p T pc ⟨op,m,xb,xc,xd⟩ ty lo=if (ai p m).op=25 then false else if op=25 then decide (0 < pc)&&decide ((ai p (pc - 1)).op=24)&&decide (p.aJ≠pc)&& !p.on.contains (pc:Int) else if op=26 then Mb p m lo else true:=by
    unfold cC;dsimp only [Int.toNat_natCast];by_cases e:(ai p m).op=25
    ·rw [afE ⟨hj,.inr e⟩,afE e]
    ·rw [abH (by rintro ⟨-,h'|h'⟩;omega;exact e h'),abH (show ¬op=24 by omega),abH e];rcases hj with rfl|rfl|rfl|rfl<;>cases lo<;>rfl
   by_cases h2:(ai p m).op=25
   ·have HF:=ae (show cC p T pc ⟨op,m,xb,xc,xd⟩ ty lo=false by rw [yq,afE h2]);rw [h2] at c0;clear hv hs iF hT h q1 q2 m1 m2 yq h2;exact agW
   rw [abH h2] at yq;generalize (ai p m).op=om at c0 h2;rw [yq];have HT:=ae hT;have HM:=ae hm;have HH:=ae h;clear yq hT h hs;by_cases o5:op=25
   ·subst o5;rw [afE rfl];by_cases hp0:pc=0
    ·subst hp0;unfold aQ aA cT bU;dsimp only;generalize fH ty=tb;generalize bE lo=lc;go_enter func245,ntmps245;go_wp2_with fail;refine eP rfl ?_;exact ⟨smm,hB _ _ _ _⟩
    ·have w2:IntKind.i64.wrap ((pc:Int) - 1)=((pc - 1:Nat):Int):=by rw [afU _ coo];omega
     have e1:decide (0 < pc)=true:=by simp<;>omega
     have hpp:0 < pc:=omm;have TI:pc - 1 < p.code.length:=omm;rw [e1];generalize pc - 1=k at*;obtain ⟨d0,-⟩:=IM.o k TI;by_cases d24:(ai p k).op=24
     ·rw [d24] at d0;rw [d24];by_cases hmi:p.aJ=(pc:Int)
      ·have hr:∀b:Bool,(true&&decide ((24:Int)=24)&&decide (p.aJ≠(pc:Int))&&b)=false:=fun b=>by simp [hmi]
       rw [hr];rw [hmi] at v4;exact adF
      ·have hr:∀b:Bool,(true&&decide ((24:Int)=24)&&decide (p.aJ≠(pc:Int))&&b)=b:=fun b=>by have e9:decide (p.aJ≠(pc:Int))=true:=agx hmi;rw [e9];cases b<;>rfl
       rw [hr,<-TH];have PJ:=ae (fun V (f:da [] w V)=>Ab (w:=V) (f:=fun i=>p.on.getD i 0) (HH.o.aB f).o (pc:Int));obtain ⟨oa,oc,ko,-,-⟩:=HH.o.o.val;rw [ko] at v3 PJ;generalize p.aJ=pm at*;generalize Aa p.on.length (fun i=>p.on.getD i 0) (pc:Int)=hb at*;unfold aQ aA cT bU;dsimp only;generalize fH ty=tb;generalize bE lo=lc;go_enter func245,ntmps245;go_wp2_with fail;refine (PJ.o _ ((da.ah (hB _ _ _ _)))).mono ?_;rintro e w' ⟨rfl,rfl⟩;cases hb
       ·go_wp2_with fail;refine eP rfl ?_;have e9:(pm !=(pc:Int))=true:=by simp [hmi]
        exact ⟨by rw [show (!false)=true from rfl,<-e9];rfl,hB _ _ _ _⟩
       ·go_wp2_with fail;refine eP rfl ?_;exact ⟨rfl,hB _ _ _ _⟩
     ·have hr:∀b c:Bool,(true&&decide ((ai p k).op=24)&&b&&c)=false:=fun b c=>by simp [d24]
      rw [hr];generalize (ai p k).op=ok at d0 d24;unfold aQ aA cT bU;dsimp only;generalize fH ty=tb;generalize bE lo=lc;go_enter func245,ntmps245;go_wp2_with fail;refine eP rfl ?_;exact ⟨by simp [d24],hB _ _ _ _⟩
   rw [abH o5];by_cases o6:op=26
   ·subst o6;rw [afE rfl];have iM:Hid (∀V,Below w.heap.size w V->Calls prog 300 #[cT true ⟨ty,lo,ha⟩ (.slice ma (lo.length - 8) mc)] V (fun e w'=>e= .returned (ι (ov lo))/\Below V.heap.size V w')):=ae (fun V hb=>Gv V true (s:=⟨ty,lo,ha⟩) (aV.aB HM.o (da.ah hb)) (by dsimp only;omega));clear v0 v3 v4 v6 HM;unfold aQ aA cT bU;dsimp only;unfold cT bU at iM;dsimp only at iM;generalize fH ty=tb at*;cases lo with
    |nil=>
     rw [show Mb p m []=false from rfl];rw [show ov []= -1 from rfl] at iM;generalize bE []=lc at*;generalize ([]:List Nat).length=ln at*;generalize ln - 8=n8 at*;have Cj:ay (((w.alloc (.cells #[ι 26,ι m,ι xb,ι xc,ι xd] 40)).alloc (.cells #[.bool true,.string tb,ι (lc 0),ι (lc 1),ι (lc 2),ι (lc 3),ι (lc 4),ι (lc 5),ι (lc 6),ι (lc 7),ι ln,ι ha,.slice ma n8 mc] 233)).drew) w.heap.size 40 #[ι 26,ι m,ι xb,ι xc,ι xd]:=((ay.new w _ _).alloc _).drewN 1;have fq:ay (((w.alloc (.cells #[ι 26,ι m,ι xb,ι xc,ι xd] 40)).alloc (.cells #[.bool true,.string tb,ι (lc 0),ι (lc 1),ι (lc 2),ι (lc 3),ι (lc 4),ι (lc 5),ι (lc 6),ι (lc 7),ι ln,ι ha,.slice ma n8 mc] 233)).drew) (w.heap.size+1) 233 #[.bool true,.string tb,ι (lc 0),ι (lc 1),ι (lc 2),ι (lc 3),ι (lc 4),ι (lc 5),ι (lc 6),ι (lc 7),ι ln,ι ha,.slice ma n8 mc]:=(ay.a_ smm).drewN 1;have sS:StI w (((w.alloc (.cells #[ι 26,ι m,ι xb,ι xc,ι xd] 40)).alloc (.cells #[.bool true,.string tb,ι (lc 0),ι (lc 1),ι (lc 2),ι (lc 3),ι (lc 4),ι (lc 5),ι (lc 6),ι (lc 7),ι ln,ι ha,.slice ma n8 mc] 233)).drew) (ι m) (.bool true) (.string tb) (ι (lc 0)) (ι (lc 1)) (ι (lc 2)) (ι (lc 3)) (ι (lc 4)) (ι (lc 5)) (ι (lc 6)) (ι (lc 7)) (ι ln) (ι ha) (.slice ma n8 mc):=⟨Cj.cell 1,fq.cell 0,fq.cell 1,fq.cell 2,fq.cell 3,fq.cell 4,fq.cell 5,fq.cell 6,fq.cell 7,fq.cell 8,fq.cell 9,fq.cell 10,fq.cell 11,fq.cell 12⟩;have gp:Hid (Below w.heap.size w ((w.alloc (.cells #[ι 26,ι m,ι xb,ι xc,ι xd] 40)).alloc (.cells #[.bool true,.string tb,ι (lc 0),ι (lc 1),ι (lc 2),ι (lc 3),ι (lc 4),ι (lc 5),ι (lc 6),ι (lc 7),ι ln,ι ha,.slice ma n8 mc] 233)).drew):=ae ((hB #[ι 26,ι m,ι xb,ι xc,ι xd] 40 #[.bool true,.string tb,ι (lc 0),ι (lc 1),ι (lc 2),ι (lc 3),ι (lc 4),ι (lc 5),ι (lc 6),ι (lc 7),ι ln,ι ha,.slice ma n8 mc] 233).trans (au _ _ 1));have C1:Hid (∀V:World,Hid (Below w.heap.size w V)->(StI w V (ι m) (.bool true) (.string tb) (ι (lc 0)) (ι (lc 1)) (ι (lc 2)) (ι (lc 3)) (ι (lc 4)) (ι (lc 5)) (ι (lc 6)) (ι (lc 7)) (ι ln) (ι ha) (.slice ma n8 mc))->Calls prog 300 #[.agg #[.bool true,.string tb,ι (lc 0),ι (lc 1),ι (lc 2),ι (lc 3),ι (lc 4),ι (lc 5),ι (lc 6),ι (lc 7),ι ln,ι ha,.slice ma n8 mc]] V fun e V'=>e= .returned (ι (-1))/\(StI w V' (ι m) (.bool true) (.string tb) (ι (lc 0)) (ι (lc 1)) (ι (lc 2)) (ι (lc 3)) (ι (lc 4)) (ι (lc 5)) (ι (lc 6)) (ι (lc 7)) (ι ln) (ι ha) (.slice ma n8 mc))/\Hid (Below w.heap.size w V')):=by refine ae fun V hb hs=>(iM.o V hb.o).mono ?_;rintro e V' ⟨rfl,qq⟩;have key:∀b i v,V.cell? (π b i)=some v->V'.cell? (π b i)=some v:=fun b i v hc=>(afG (qq.block _ (aS hc))).trans hc;exact ⟨rfl,⟨key _ _ _ hs.1,key _ _ _ hs.2.1,key _ _ _ hs.2.2.1,key _ _ _ hs.2.2.2.1,key _ _ _ hs.2.2.2.2.1,key _ _ _ hs.2.2.2.2.2.1,key _ _ _ hs.2.2.2.2.2.2.1,key _ _ _ hs.2.2.2.2.2.2.2.1,key _ _ _ hs.2.2.2.2.2.2.2.2.1,key _ _ _ hs.2.2.2.2.2.2.2.2.2.1,key _ _ _ hs.2.2.2.2.2.2.2.2.2.2.1,key _ _ _ hs.2.2.2.2.2.2.2.2.2.2.2.1,key _ _ _ hs.2.2.2.2.2.2.2.2.2.2.2.2.1,key _ _ _ hs.2.2.2.2.2.2.2.2.2.2.2.2.2⟩,ae (hb.o.trans (qq.mono hb.o.size))⟩
     clear Cj fq iM;go_enter func245,ntmps245;go_wp2_with fail;refine Mk.bF (S:=(fun wx=>wx.cell? (π w.heap.size 1)=some (ι m)/\wx.cell? (π (w.heap.size+1) 0)=some (.bool true)/\wx.cell? (π (w.heap.size+1) 1)=some (.string tb)/\wx.cell? (π (w.heap.size+1) 2)=some (ι (lc 0))/\wx.cell? (π (w.heap.size+1) 3)=some (ι (lc 1))/\wx.cell? (π (w.heap.size+1) 4)=some (ι (lc 2))/\wx.cell? (π (w.heap.size+1) 5)=some (ι (lc 3))/\wx.cell? (π (w.heap.size+1) 6)=some (ι (lc 4))/\wx.cell? (π (w.heap.size+1) 7)=some (ι (lc 5))/\wx.cell? (π (w.heap.size+1) 8)=some (ι (lc 6))/\wx.cell? (π (w.heap.size+1) 9)=some (ι (lc 7))/\wx.cell? (π (w.heap.size+1) 10)=some (ι ln)/\wx.cell? (π (w.heap.size+1) 11)=some (ι ha)/\wx.cell? (π (w.heap.size+1) 12)=some (.slice ma n8 mc))) krr sS (fun al=>?_);generalize World.drew _=V0 at*;refine Mk.tk 0 (v:=?_) rfl ?_ aas ?_;rotate_left
     ·exact acn
     refine Mk.pt ?_;refine afR (rs:=[1]) krr smm ?_;refine afJ rfl (fun K hK=>?_) af1;refine QX ?_;go_simp;go_at_call 300;refine (C1.o _ gp sS).mono ?_;rintro e w1 ⟨rfl,yz,VH⟩;clear al;refine hK.out _ _ yz (fun al=>?_);clear hK K;refine Mk.pt ?_;refine Mk.tk 2 (v:=?_) rfl ?_ aas ?_;rotate_left
     ·exact acn
     refine Mk.pt ?_;refine Mk.tk 3 (v:=?_) rfl ?_ aas ?_;rotate_left
     ·exact acn
     refine Mk.pt ?_;refine Mk.OV 4 ?_;refine Mk.OV 5 ?_;refine Mk.OV 6 ?_;refine Mk.OV 7 ?_;refine Mk.OV 8 ?_;refine Mk.OV 9 ?_;refine Mk.OV 10 ?_;refine Mk.OV 11 ?_;refine Mk.OV 12 ?_;refine Mk.tk 13 (v:=?_) rfl ?_ aas ?_;rotate_left
     ·exact acn
     refine Mk.pt ?_;refine Mk.tk 14 (v:=?_) rfl ?_ aas ?_;rotate_left
     ·exact acn
     refine Mk.pt ?_;refine afZ krr ⟨rfl,?_⟩ _;clear al;go_wp2_with fail;refine eP rfl ?_;exact ⟨rfl,VH.o⟩
    |cons t l=>
     have htl:=iF.1;obtain ⟨-,ca0⟩:=IM.o t omm;rw [show Mb p m (t::l)=decide ((m:Int)=(ai p t).a) from rfl];rw [show ov (t::l)=(t:Int) from rfl] at iM;have VB:t < p.code.length:=omm;clear iF;generalize bE (t::l)=lc at*;generalize (t::l).length=ln at*;generalize ln - 8=n8 at*;generalize (ai p t).a=ca at*;have Cj:ay (((w.alloc (.cells #[ι 26,ι m,ι xb,ι xc,ι xd] 40)).alloc (.cells #[.bool true,.string tb,ι (lc 0),ι (lc 1),ι (lc 2),ι (lc 3),ι (lc 4),ι (lc 5),ι (lc 6),ι (lc 7),ι ln,ι ha,.slice ma n8 mc] 233)).drew) w.heap.size 40 #[ι 26,ι m,ι xb,ι xc,ι xd]:=((ay.new w _ _).alloc _).drewN 1;have fq:ay (((w.alloc (.cells #[ι 26,ι m,ι xb,ι xc,ι xd] 40)).alloc (.cells #[.bool true,.string tb,ι (lc 0),ι (lc 1),ι (lc 2),ι (lc 3),ι (lc 4),ι (lc 5),ι (lc 6),ι (lc 7),ι ln,ι ha,.slice ma n8 mc] 233)).drew) (w.heap.size+1) 233 #[.bool true,.string tb,ι (lc 0),ι (lc 1),ι (lc 2),ι (lc 3),ι (lc 4),ι (lc 5),ι (lc 6),ι (lc 7),ι ln,ι ha,.slice ma n8 mc]:=(ay.a_ smm).drewN 1;have jd:(((w.alloc (.cells #[ι 26,ι m,ι xb,ι xc,ι xd] 40)).alloc (.cells #[.bool true,.string tb,ι (lc 0),ι (lc 1),ι (lc 2),ι (lc 3),ι (lc 4),ι (lc 5),ι (lc 6),ι (lc 7),ι ln,ι ha,.slice ma n8 mc] 233)).drew).cell? (π cb (wk+t*5+1))=some (ι ca):=(afG (((hB _ _ _ _).trans (au _ _ 1)).block _ lcb)).trans ca0;have sS:StK w (((w.alloc (.cells #[ι 26,ι m,ι xb,ι xc,ι xd] 40)).alloc (.cells #[.bool true,.string tb,ι (lc 0),ι (lc 1),ι (lc 2),ι (lc 3),ι (lc 4),ι (lc 5),ι (lc 6),ι (lc 7),ι ln,ι ha,.slice ma n8 mc] 233)).drew) (ι m) (.bool true) (.string tb) (ι (lc 0)) (ι (lc 1)) (ι (lc 2)) (ι (lc 3)) (ι (lc 4)) (ι (lc 5)) (ι (lc 6)) (ι (lc 7)) (ι ln) (ι ha) (.slice ma n8 mc) (π cb (wk+t*5+1)) (ι ca):=⟨Cj.cell 1,fq.cell 0,fq.cell 1,fq.cell 2,fq.cell 3,fq.cell 4,fq.cell 5,fq.cell 6,fq.cell 7,fq.cell 8,fq.cell 9,fq.cell 10,fq.cell 11,fq.cell 12,jd⟩;have gp:Hid (Below w.heap.size w ((w.alloc (.cells #[ι 26,ι m,ι xb,ι xc,ι xd] 40)).alloc (.cells #[.bool true,.string tb,ι (lc 0),ι (lc 1),ι (lc 2),ι (lc 3),ι (lc 4),ι (lc 5),ι (lc 6),ι (lc 7),ι ln,ι ha,.slice ma n8 mc] 233)).drew):=ae ((hB #[ι 26,ι m,ι xb,ι xc,ι xd] 40 #[.bool true,.string tb,ι (lc 0),ι (lc 1),ι (lc 2),ι (lc 3),ι (lc 4),ι (lc 5),ι (lc 6),ι (lc 7),ι ln,ι ha,.slice ma n8 mc] 233).trans (au _ _ 1));have C1:Hid (∀V:World,Hid (Below w.heap.size w V)->(StK w V (ι m) (.bool true) (.string tb) (ι (lc 0)) (ι (lc 1)) (ι (lc 2)) (ι (lc 3)) (ι (lc 4)) (ι (lc 5)) (ι (lc 6)) (ι (lc 7)) (ι ln) (ι ha) (.slice ma n8 mc) (π cb (wk+t*5+1)) (ι ca))->Calls prog 300 #[.agg #[.bool true,.string tb,ι (lc 0),ι (lc 1),ι (lc 2),ι (lc 3),ι (lc 4),ι (lc 5),ι (lc 6),ι (lc 7),ι ln,ι ha,.slice ma n8 mc]] V fun e V'=>e= .returned (ι (t))/\(StK w V' (ι m) (.bool true) (.string tb) (ι (lc 0)) (ι (lc 1)) (ι (lc 2)) (ι (lc 3)) (ι (lc 4)) (ι (lc 5)) (ι (lc 6)) (ι (lc 7)) (ι ln) (ι ha) (.slice ma n8 mc) (π cb (wk+t*5+1)) (ι ca))/\Hid (Below w.heap.size w V')):=by refine ae fun V hb hs=>(iM.o V hb.o).mono ?_;rintro e V' ⟨rfl,qq⟩;have key:∀b i v,V.cell? (π b i)=some v->V'.cell? (π b i)=some v:=fun b i v hc=>(afG (qq.block _ (aS hc))).trans hc;exact ⟨rfl,⟨key _ _ _ hs.1,key _ _ _ hs.2.1,key _ _ _ hs.2.2.1,key _ _ _ hs.2.2.2.1,key _ _ _ hs.2.2.2.2.1,key _ _ _ hs.2.2.2.2.2.1,key _ _ _ hs.2.2.2.2.2.2.1,key _ _ _ hs.2.2.2.2.2.2.2.1,key _ _ _ hs.2.2.2.2.2.2.2.2.1,key _ _ _ hs.2.2.2.2.2.2.2.2.2.1,key _ _ _ hs.2.2.2.2.2.2.2.2.2.2.1,key _ _ _ hs.2.2.2.2.2.2.2.2.2.2.2.1,key _ _ _ hs.2.2.2.2.2.2.2.2.2.2.2.2.1,key _ _ _ hs.2.2.2.2.2.2.2.2.2.2.2.2.2.1,key _ _ _ hs.2.2.2.2.2.2.2.2.2.2.2.2.2.2⟩,ae (hb.o.trans (qq.mono hb.o.size))⟩
     clear Cj fq jd iM;go_enter func245,ntmps245;go_wp2_with fail;refine Mk.bF (S:=(fun wx=>wx.cell? (π w.heap.size 1)=some (ι m)/\wx.cell? (π (w.heap.size+1) 0)=some (.bool true)/\wx.cell? (π (w.heap.size+1) 1)=some (.string tb)/\wx.cell? (π (w.heap.size+1) 2)=some (ι (lc 0))/\wx.cell? (π (w.heap.size+1) 3)=some (ι (lc 1))/\wx.cell? (π (w.heap.size+1) 4)=some (ι (lc 2))/\wx.cell? (π (w.heap.size+1) 5)=some (ι (lc 3))/\wx.cell? (π (w.heap.size+1) 6)=some (ι (lc 4))/\wx.cell? (π (w.heap.size+1) 7)=some (ι (lc 5))/\wx.cell? (π (w.heap.size+1) 8)=some (ι (lc 6))/\wx.cell? (π (w.heap.size+1) 9)=some (ι (lc 7))/\wx.cell? (π (w.heap.size+1) 10)=some (ι ln)/\wx.cell? (π (w.heap.size+1) 11)=some (ι ha)/\wx.cell? (π (w.heap.size+1) 12)=some (.slice ma n8 mc)/\wx.cell? (π cb (wk+t*5+1))=some (ι ca))) krr sS (fun al=>?_);generalize World.drew _=V0 at*;refine Mk.tk 0 (v:=?_) rfl ?_ aas ?_;rotate_left
     ·exact acn
     refine Mk.pt ?_;refine afR (rs:=[1]) krr smm ?_;refine afJ rfl (fun K hK=>?_) af1;refine QX ?_;go_simp;go_at_call 300;refine (C1.o _ gp sS).mono ?_;rintro e w1 ⟨rfl,yz,VH⟩;clear al;refine hK.out _ _ yz (fun al=>?_);clear hK K;refine Mk.pt ?_;refine Mk.tk 2 (v:=?_) rfl ?_ aas ?_;rotate_left
     ·exact acn
     refine Mk.pt ?_;refine Mk.tk 3 (v:=?_) rfl ?_ aas ?_;rotate_left
     ·exact acn
     refine Mk.pt ?_;refine Mk.tk 4 (v:=?_) rfl ?_ aas ?_;rotate_left
     ·exact acn
     refine Mk.pt ?_;refine Mk.tk 5 (v:=?_) rfl ?_ aas ?_;rotate_left
     ·exact acn
     refine Mk.pt ?_;refine Mk.tk 6 (v:=?_) rfl ?_ aas ?_;rotate_left
     ·exact acn
     refine Mk.pt ?_;refine Mk.tk 7 (v:=?_) rfl ?_ aas ?_;rotate_left
     ·exact acn
     refine Mk.pt ?_;refine afR (rs:=[8]) krr smm ?_;refine afJ rfl (fun K hK=>?_) af1;refine QX ?_;go_simp;go_at_call 300;refine (C1.o _ VH yz).mono ?_;rintro e w2 ⟨rfl,Ck,hQ2⟩;clear al;refine hK.out _ _ Ck (fun al=>?_);clear hK K;refine Mk.pt ?_;refine Mk.tk 9 (v:=?_) rfl ?_ aas ?_;rotate_left
     ·exact acn
     refine Mk.pt ?_;refine Mk.tk 10 (v:=?_) rfl ?_ aas ?_;rotate_left
     ·exact acn
     refine Mk.pt ?_;refine Mk.tk 11 (v:=?_) rfl ?_ aas ?_;rotate_left
     ·exact acn
     refine Mk.pt ?_;refine Mk.tk 12 (v:=?_) rfl ?_ aas ?_;rotate_left
     ·exact acn
     refine Mk.pt ?_;refine Mk.tk 13 (v:=?_) rfl ?_ aas ?_;rotate_left
     ·exact acn
     refine Mk.pt ?_;refine Mk.tk 14 (v:=?_) rfl ?_ aas ?_;rotate_left
     ·exact acn
     refine Mk.pt ?_;refine afZ krr ⟨rfl,?_⟩ _;clear al;go_wp2_with fail;refine eP rfl ?_;exact ⟨show Ending.returned (.bool ((m:Int)==ca))=_ by congr 2,hQ2.o⟩
   ·rw [abH o6];have ho:op=22\/op=23:=omm;unfold aQ aA cT bU;dsimp only;generalize fH ty=tb;generalize bE lo=lc;rcases ho with rfl|rfl
    all_goals
     exact aco
 ·have n22:¬op=22:=fun e=>hj (.inl e);have n23:¬op=23:=fun e=>hj (.inr (.inl e));have n25:¬op=25:=fun e=>hj (.inr (.inr (.inl e)));have n26:¬op=26:=fun e=>hj (.inr (.inr (.inr e)));have yq:cC p T pc ⟨op,xa,xb,xc,xd⟩ ty lo=if op=24 then decide (pc+1 < p.code.length)&&decide ((ai p (pc+1)).op=25) else if op=27 then EL T xa ty lo else if op=0 then lo.isEmpty else true:=by unfold cC;dsimp only;rw [abH (by rintro ⟨h',-⟩;exact hj h'),abH n25,abH n26];cases lo<;>rfl
  rw [yq];have HT:=ae hT;have HM:=ae hm;have HH:=ae h;clear yq hT h hj wT;by_cases o4:op=24
  ·subst o4;rw [afE rfl];have w2:IntKind.i64.wrap ((pc:Int)+1)=((pc+1:Nat):Int):=by rw [afU _ coo];omega
   by_cases a8:pc+1 < p.code.length
   ·obtain ⟨d0,-⟩:=IM.o (pc+1) a8;have e1:decide (pc+1 < p.code.length)=true:=by simp [a8]
    rw [e1];generalize (ai p (pc+1)).op=ok at d0 ⊢;by_cases ho:ok=25
    ·subst ho;exact adF
    ·have hr:(true&&decide (ok=25))=false:=by simp [ho]
     rw [hr];unfold aQ aA cT bU;dsimp only;generalize fH ty=tb;generalize bE lo=lc;go_enter func245,ntmps245;go_wp2_with fail;refine eP rfl ?_;exact ⟨by simp [ho],hB _ _ _ _⟩
   ·have hr:∀b:Bool,(decide (pc+1 < p.code.length)&&b)=false:=fun b=>by simp [a8]
    rw [hr];exact adF
  rw [abH o4];by_cases o7:op=27
  ·subst o7;rw [afE rfl];have iM:Hid (∀V,Below w.heap.size w V->Calls prog 300 #[cT true ⟨ty,lo,ha⟩ (.slice ma (lo.length - 8) mc)] V (fun e w'=>e= .returned (ι (ov lo))/\Below V.heap.size V w')):=ae (fun V hb=>Gv V true (s:=⟨ty,lo,ha⟩) (aV.aB HM.o (da.ah hb)) (by dsimp only;omega));cases lo with
   |nil=>rw [show EL T xa ty []=false from rfl];rw [show ov []= -1 from rfl] at iM;clear HM HT HH IM hs v0 v3 v4 v6;unfold aQ aA cT bU;dsimp only;unfold cT bU at iM;dsimp only at iM;generalize fH ty=tb at*;generalize bE []=lc at*;generalize ([]:List Nat).length=ln at*;generalize ln - 8=n8 at*;go_enter func245,ntmps245;go_wp2_with fail;refine (iM.o _ (hB _ _ _ _)).mono ?_;rintro e w1 ⟨rfl,hb⟩;have dC:=ae ((hB _ _ _ _).trans (hb.mono (show w.heap.size<=_ by simp only [aE];omega)));clear hb;go_wp2_with fail;refine eP rfl ?_;exact ⟨rfl,dC.o⟩
   |cons t l=>
    rw [show ov (t::l)=(t:Int) from rfl] at iM;obtain ⟨htp,-,st,fj,KT⟩:=id iF;have htn:t < p.code.length:=omm;have hag:EL T xa ty (t::l)=(decide (xa=t)&&decide (st.ty=ty/\st.lo=l)):=by show (decide (xa=t)&&(match T t with|some s=>decide (s.ty=ty/\s.lo=l)|none=>decide (ty=[]/\l=[])))=_;rw [fj]
    rw [hag];have hsa:eV T t=st:=by unfold eV;rw [fj];rfl
    have his:(T t).isSome=true:=by rw [fj];rfl
    have kV:=ae (fun V (hb:Below w.heap.size w V)=>(ii.aB hs (da.ah hb)).RD htn);have HMR:=ae (fun V (hb:Below w.heap.size w V)=>(hs.more t htn).aB (da.ah hb));rw [his,hsa] at kV;rw [hsa] at HMR;have VI:Hid (∀V,Below w.heap.size w V->Calls prog 301 #[cT true ⟨ty,t::l,ha⟩ (.slice ma ((t::l).length - 8) mc)] V (ow V (.slice ma ((t::l).length - 8) mc) true ⟨ty,l,ha⟩)):=ae (fun V hb=>yy V true (s:=⟨ty,t::l,ha⟩) (cZ.aB HM.o (da.ah hb)) smm (by dsimp only;omega));have Xa:=(HT.o t st fj).2;have nT:=Gy (fun q s h=>(HT.o q s h).1) st.lo t (HT.o t st fj).1;have TJ:=ae (fun (V:World) (Dk TC:Value) (h1:cZ V Dk st.lo) (h2:cZ V TC l)=>EK (w:=V) true true (s:=st) (s2:=⟨ty,l,st.ha⟩) h1 h2 Xa Vu omm (by simp only [List.length_cons] at Hh;dsimp only;omega));have wm:decide (st=(⟨ty,l,st.ha⟩:Std))=decide (st.ty=ty/\st.lo=l):=by
     rw [decide_eq_decide];constructor
     ·intro h;rw [h];exact ⟨rfl,rfl⟩
     ·rintro ⟨h1,h2⟩;cases st;dsimp only at h1 h2 ⊢;rw [h1,h2]
    rw [wm] at TJ;generalize decide (st.ty=ty/\st.lo=l)=res at*;have HV:Hid (∀V,Below w.heap.size w V->V.cell? (π vb 6)=some iz/\vb < V.heap.size):=ae (fun V hb=>by have:=hv.of (hb.block _ hv.lt);exact ⟨this.cell 6,this.lt⟩);have iW:=ae (fun V (hb:Below w.heap.size w V)=>HM.o.aB (da.ah hb));clear hag hsa his fj KT HM HT HH IM hs v0 v3 v4 v6 Xa nT wm iF Vu hv hlen nj X9 Hh;unfold aQ aA cT bU;dsimp only;unfold cT bU at iM VI TJ;dsimp only at iM VI TJ;generalize tO:fH ty=tb at*;have qX:=ae tO;clear tO;generalize bE (t::l)=lc at*;generalize (t::l).length=ln at*;generalize ln - 8=n8 at*;go_enter func245,ntmps245;go_wp2_with fail;refine (iM.o _ (hB _ _ _ _)).mono ?_;rintro e w1 ⟨rfl,hb⟩;have FU:Below w.heap.size w w1:=(hB _ _ _ _).trans (hb.mono (show w.heap.size<=_ by simp only [aE];omega));have kx:ay w1 w.heap.size 40 #[ι 27,ι xa,ι xb,ι xc,ι xd]:=((ay.new w _ _).alloc _).of (hb.block _ (by simp only [aE];omega));have ks:ay w1 (w.heap.size+1) 233 #[.bool true,.string tb,ι (lc 0),ι (lc 1),ι (lc 2),ι (lc 3),ι (lc 4),ι (lc 5),ι (lc 6),ι (lc 7),ι ln,ι ha,.slice ma n8 mc]:=(ay.a_ smm).of (hb.block _ (by simp only [aE];omega));have d1:w1.cell? (π w.heap.size 1)=some (ι xa):=kx.cell 1;have lx:=kx.lt;have ly:=ks.lt;obtain ⟨e0,e1,e2,e3,e4,e5,e6,e7,e8,e9,Dl,Dm,Dn⟩:=ks.nN;have dC:=ae FU;clear hb FU kx ks iM;by_cases hx:xa=(t:Int)
    ·obtain ⟨v6,VJ⟩:=HV.o w1 dC.o;obtain ⟨A,cap,rfl,a1,a2,a3,g0,g1,g2,g3,g4,g5,g6,g7,g8,g9,g10,g11,g12⟩:=kV.o w1 dC.o;have Db:=HMR.o w1 dC.o;obtain ⟨ka,Cl,VK,-,-⟩:=aV.val Db;rw [VK] at g12 Db HMR;have HXT:=ae (show (decide (xa=(t:Int))&&res)=res by simp [hx]);rw [hx] at d1;clear hx VK Db;generalize fH st.ty=tb2 at*;generalize bE st.lo=mW at*;generalize st.lo.length=RE at*;generalize st.ha=Gx at*;go_wp2_with fail;refine (VI.o _ ((dC.o.alloc dC.o.size _))).mono ?_;rintro e w2 ⟨TC,rfl,qV,dn,-⟩;obtain ⟨na,nc,Ad,-,-⟩:=aV.val qV;rw [Ad] at qV;dsimp only at qV Ad;subst Ad;have kin:ay w2 w1.heap.size 233 #[.bool true,.string tb2,ι (mW 0),ι (mW 1),ι (mW 2),ι (mW 3),ι (mW 4),ι (mW 5),ι (mW 6),ι (mW 7),ι RE,ι Gx,.slice ka (RE - 8) Cl]:=(ay.new w1 _ _).of (dn.block _ smm);obtain ⟨f0,f1,f2,f3,f4,f5,f6,f7,f8,f9,f10,f11,f12⟩:=kin.nN;have Xc:=kin.lt;have fg:=ae ((dC.o.alloc dC.o.size _).trans (dn.mono (afM dC.o.size smm)));have Mc:=ae qV;have Pc:=ae (HMR.o w2 fg.o);generalize w1.heap.size=ib at*;unfold cT bU;dsimp only;generalize bE l=lcm at*;generalize l.length=lm at*;generalize lm - 8=n9 at*;rw [qX.o];go_wp2_with fail;refine (TJ.o _ _ _ (cZ.aB Pc.o ((da.refl [] w2).alloc _)) (cZ.aB Mc.o ((da.refl [] w2).alloc _))).mono ?_;rintro e w3 ⟨rfl,wN⟩;have ki:=ae ((fg.o.alloc fg.o.size _).trans (wN.mono (afM fg.o.size smm)));clear wN;go_wp2_with fail;refine eP rfl ?_;exact ⟨by rw [HXT.o];rfl,ki.o⟩
    ·have HXT:=ae (show (decide (xa=(t:Int))&&res)=false by simp [hx]);have aba:(xa !=(t:Int))=true:=by simp [hx]
     go_wp2_with fail;refine eP rfl ?_;exact ⟨by rw [HXT.o];rfl,dC.o⟩
  rw [abH o7];by_cases o0:op=0
  ·subst o0;rw [afE rfl];cases lo with
   |nil=>unfold aQ aA cT bU;dsimp only;generalize fH ty=tb;generalize bE []=lc;exact aco
   |cons t l=>
    have bz:(((t::l).length:Nat):Int)≠0:=by simp<;>omega
    unfold aQ aA cT bU;dsimp only;generalize fH ty=tb;generalize bE (t::l)=lc;have X_:(t::l).isEmpty=false:=rfl;rw [X_];generalize (t::l).length=ln at*;have Md:¬ln=0:=omm;go_enter func245,ntmps245;go_wp2_with fail;refine eP rfl ?_;exact ⟨by simp [Md],hB _ _ _ _⟩
  ·rw [abH o0];exact adF
def sg (a:Nat) (s:Std) (mv:Value):Array Value:=
 #[ι a,.bool true,.string (fH s.ty),ι (bE s.lo 0),ι (bE s.lo 1),ι (bE s.lo 2),ι (bE s.lo 3),ι (bE s.lo 4),ι (bE s.lo 5),ι (bE s.lo 6),ι (bE s.lo 7),ι s.lo.length,ι s.ha,mv]
def eh:Nat×Std:=(0,TG)
def wyC (l:List (Nat×Std)) (mv:Nat->Value) (o:Nat):Value:=(sg (l.getD (o / 14) eh).1 (l.getD (o / 14) eh).2 (mv (o / 14))).getD (o % 14) undef
structure gV (w:World) (lo:Nat) (sv lv:Value) (l:List (Nat×Std)) (mv:Nat->Value):Prop where
 row:aV w 14 lv l.length (wyC l mv)
 more:∀i,i < l.length->cZ w (mv i) (l.getD i eh).2.lo
 off:∀i,i < l.length->∀b,(mv i).ownBlock=some b->sv.ownBlock=some b\/lo<=b
def Mf (w:World) (sv:Value) (l:List (Nat×Std)) (e:Ending) (w':World):Prop:=∃lv mv,e= .returned lv/\gV w' w.heap.size sv lv l mv/\Below w.heap.size w w'/\∀b,lv.ownBlock=some b->w.heap.size<=b
theorem gV.nil (w:World) (lo:Nat) (sv:Value):gV w lo sv ν [] (fun _=>undef):=⟨.inl ⟨rfl,rfl⟩,fun i hi=>absurd hi smm,fun i hi=>absurd hi smm⟩
theorem gV.one {W:World} {lo b:Nat} {sv:Value} {a:Nat} {s:Std} {mv:Value} {cs:Array Value} (hb:ay W b 279 cs) (e:cs=sg a s mv) (hm:cZ W mv s.lo) (ho:∀b,mv.ownBlock=some b->sv.ownBlock=some b\/lo<=b):
 gV W lo sv (.slice (some (π b 0)) 1 1) [(a,s)] (fun _=>mv):=by
 subst e;refine ⟨.inr ⟨_,_,rfl,afF _,dee,fun o h=>⟨rfl,?_⟩⟩,fun i hi=>?_,fun i hi=>?_⟩
 ·have ho:o < 14:=by simpa using h
  rw [Nat.zero_add];have hc:=hb.cell o;rw [hc];unfold wyC;rw [show o / 14=0 by omega,show o % 14=o by omega];show _=some ((sg a s mv).getD o undef);rw [agn,ago (show o < (sg a s mv).size from ho)];rfl
 ·obtain rfl:i=0:=by simpa using hi
  exact hm
 ·exact ho
theorem gV.two {W:World} {lo b:Nat} {sv:Value} {a a':Nat} {s s':Std} {mv Mg:Value} {cs:Array Value} (hb:ay W b 279 cs) (e:cs=sg a s mv++sg a' s' Mg) (hm:cZ W mv s.lo) (ho:∀b,mv.ownBlock=some b->sv.ownBlock=some b\/lo<=b) (iR:cZ W Mg s'.lo) (ho':∀b,Mg.ownBlock=some b->sv.ownBlock=some b\/lo<=b):
 gV W lo sv (.slice (some (π b 0)) 2 2) [(a,s),(a',s')] (fun i=>if i=0 then mv else Mg):=by
 subst e;have z1:(sg a s mv).size=14:=rfl;have z2:(sg a' s' Mg).size=14:=rfl;refine ⟨.inr ⟨_,_,rfl,afF _,dee,fun o h=>⟨rfl,?_⟩⟩,fun i hi=>?_,fun i hi=>?_⟩
 ·have ho:o < 28:=by simpa using h
  rw [Nat.zero_add];have hc:=hb.cell o;rw [hc];unfold wyC;by_cases h14:o < 14
  ·rw [show o / 14=0 by omega,show o % 14=o by omega];show _=some ((sg a s mv).getD o undef);rw [agn,Array.getElem?_append_left (by rw [z1];exact h14),ago (show o < (sg a s mv).size by rw [z1];exact h14)];rfl
  ·rw [show o / 14=1 by omega,show o % 14=o - 14 by omega];show _=some ((sg a' s' Mg).getD (o - 14) undef);rw [agn,Array.getElem?_append_right (by rw [z1];omega),z1,ago (show o - 14 < (sg a' s' Mg).size by rw [z2];omega)];rfl
 ·have:i=0\/i=1:=by have:i < 2:=hi;omega
  rcases this with rfl|rfl
  ·exact hm
  ·exact iR
 ·have:i=0\/i=1:=by have:i < 2:=hi;omega
  rcases this with rfl|rfl
  ·exact ho
  ·exact ho'
theorem agX {p:Prop} (h:p:=by
 go_enter func247,ntmps247;go_wp2_with fail;go_ret;exact ⟨_,fun _=> .slice ma (s.lo.length - 8) mc,rfl,gV.one (ay.a_ smm) EA.o.symm (HM.o.aB (da.ah ((hB _ _ _ _).alloc (by simp only [aE];omega) _))) (fun _ hb=> .inl hb),(hB _ _ _ _).alloc (by simp only [aE];omega) _,fun b hb=>by have h1:_=b:=af0 hb;simp only [aE] at h1 ⊢;omega⟩):p:=h
theorem adI {p:Prop} (h:p:=by
 refine ae fun V V' qq hs=>?_;have key:∀b i v,V.cell? (π b i)=some v->V'.cell? (π b i)=some v:=fun b i v hc=>(afG (qq.block _ (aS hc))).trans hc;exact ⟨key _ _ _ (hs.1),key _ _ _ (hs.2.1),key _ _ _ (hs.2.2.1),key _ _ _ (hs.2.2.2.1),key _ _ _ (hs.2.2.2.2.1),key _ _ _ (hs.2.2.2.2.2.1),key _ _ _ (hs.2.2.2.2.2.2.1),key _ _ _ (hs.2.2.2.2.2.2.2.1),key _ _ _ (hs.2.2.2.2.2.2.2.2.1),key _ _ _ (hs.2.2.2.2.2.2.2.2.2.1),key _ _ _ (hs.2.2.2.2.2.2.2.2.2.2.1),key _ _ _ (hs.2.2.2.2.2.2.2.2.2.2.2.1),key _ _ _ (hs.2.2.2.2.2.2.2.2.2.2.2.2.1),key _ _ _ (hs.2.2.2.2.2.2.2.2.2.2.2.2.2)⟩):p:=h
theorem adH {p:Prop} (h:p:=by
 intro wz bR
 (try dsimp only at bR)
 exact qU):p:=h
theorem TN (w:World) {pc:Nat} {x:Ins} {s:Std} {smv:Value} (hm:cZ w smv s.lo) (nj:pc < 262144) (h0:0<=x.op) (ha:x.op=22\/x.op=23\/x.op=25\/x.op=26->0<=x.a) (hl:s.lo.length<=262144) (hq:x.op=26->0 < s.lo.length):
 Calls prog 247 #[ι pc,aQ x,cT true s smv] w (Mf w smv (cm pc x s)):=by
 obtain ⟨op,xa,xb,xc,xd⟩:=x;dsimp only at h0 ha hq;obtain ⟨ma,mc,rfl,m1,m2⟩:=aV.val hm;have HM:=ae hm;have hB:=ag7 w;have w1:IntKind.i64.wrap ((pc:Int)+1)=((pc+1:Nat):Int):=by rw [afU _ coo];omega
 by_cases o1:op=0\/op=27
 ·have hf:cm pc ⟨op,xa,xb,xc,xd⟩ s=[]:=by unfold cm;rw [afE o1]
  rw [hf];clear hf hm ha hq;unfold aQ aA cT bU;dsimp only;generalize fH s.ty=tb;generalize bE s.lo=lc;rcases o1 with rfl|rfl
  all_goals
   go_enter func247,ntmps247;go_wp2_with fail;go_ret;exact ⟨ν,fun _=>undef,rfl,gV.nil _ _ _,hB _ _ _ _,fun b hb=>by cases hb⟩
 by_cases o2:op=22
 ·subst o2;obtain ⟨m,rfl⟩:=afN (ha smm);have hf:cm pc ⟨22,m,xb,xc,xd⟩ s=[(m,s)]:=rfl;rw [hf];clear hf hm ha hq o1 h0;unfold aQ aA cT bU;dsimp only;have EA:Hid (sg (m) s (.slice ma (s.lo.length - 8) mc)=#[ι (m:Nat),.bool true,.string (fH s.ty),ι (bE s.lo 0),ι (bE s.lo 1),ι (bE s.lo 2),ι (bE s.lo 3),ι (bE s.lo 4),ι (bE s.lo 5),ι (bE s.lo 6),ι (bE s.lo 7),ι s.lo.length,ι s.ha,.slice ma (s.lo.length - 8) mc]):=ae rfl;generalize fH s.ty=tb at*;generalize bE s.lo=lc at*;exact agX
 by_cases o3:op=23
 ·subst o3;obtain ⟨m,rfl⟩:=afN (ha smm);have hf:cm pc ⟨23,m,xb,xc,xd⟩ s=[(pc+1,s),(m,s)]:=rfl;rw [hf];clear hf hm ha hq o1 h0 o2;unfold aQ aA cT bU;dsimp only;have EA:Hid (sg (pc+1) s (.slice ma (s.lo.length - 8) mc)=#[ι (pc+1:Nat),.bool true,.string (fH s.ty),ι (bE s.lo 0),ι (bE s.lo 1),ι (bE s.lo 2),ι (bE s.lo 3),ι (bE s.lo 4),ι (bE s.lo 5),ι (bE s.lo 6),ι (bE s.lo 7),ι s.lo.length,ι s.ha,.slice ma (s.lo.length - 8) mc]):=ae rfl;have nC:Hid (sg (m) s (.slice ma (s.lo.length - 8) mc)=#[ι (m:Nat),.bool true,.string (fH s.ty),ι (bE s.lo 0),ι (bE s.lo 1),ι (bE s.lo 2),ι (bE s.lo 3),ι (bE s.lo 4),ι (bE s.lo 5),ι (bE s.lo 6),ι (bE s.lo 7),ι s.lo.length,ι s.ha,.slice ma (s.lo.length - 8) mc]):=ae rfl;generalize fH s.ty=tb at*;generalize bE s.lo=lc at*;go_enter func247,ntmps247;go_wp2_with fail;go_ret;exact ⟨_,fun i=>if i=0 then .slice ma (s.lo.length - 8) mc else .slice ma (s.lo.length - 8) mc,rfl,gV.two (ay.a_ smm) (by rw [EA.o,nC.o];rfl) (HM.o.aB (da.ah ((hB _ _ _ _).alloc (by simp only [aE];omega) _))) (fun _ hb=> .inl hb) (HM.o.aB (da.ah ((hB _ _ _ _).alloc (by simp only [aE];omega) _))) (fun _ hb=> .inl hb),(hB _ _ _ _).alloc (by simp only [aE];omega) _,fun b hb=>by have h1:_=b:=af0 hb;simp only [aE] at h1 ⊢;omega⟩
 by_cases o4:op=25
 ·subst o4;obtain ⟨m,rfl⟩:=afN (ha smm);have hf:cm pc ⟨25,m,xb,xc,xd⟩ s=[(pc+1,{s with lo:=pc::s.lo}),(m,s)]:=rfl;rw [hf];have HW:=ae (fun V (hb:Below w.heap.size w V)=>TL V true (s:=s) pc (cZ.aB HM.o (da.ah hb)) omm);clear hf hm ha hq o1 h0;unfold aQ aA cT bU;dsimp only;unfold cT bU at HW;have EA:Hid (∀(a:Nat),sg a s (.slice ma (s.lo.length - 8) mc)=#[ι a,.bool true,.string (fH s.ty),ι (bE s.lo 0),ι (bE s.lo 1),ι (bE s.lo 2),ι (bE s.lo 3),ι (bE s.lo 4),ι (bE s.lo 5),ι (bE s.lo 6),ι (bE s.lo 7),ι s.lo.length,ι s.ha,.slice ma (s.lo.length - 8) mc]):=ae fun _=>rfl;have nC:Hid (∀(a:Nat) (mv:Value),sg a {s with lo:=pc::s.lo} mv=#[ι a,.bool true,.string (fH s.ty),ι (bE (pc::s.lo) 0),ι (bE (pc::s.lo) 1),ι (bE (pc::s.lo) 2),ι (bE (pc::s.lo) 3),ι (bE (pc::s.lo) 4),ι (bE (pc::s.lo) 5),ι (bE (pc::s.lo) 6),ι (bE (pc::s.lo) 7),ι (pc::s.lo).length,ι s.ha,mv]):=ae fun _ _=>rfl;generalize tO:fH s.ty=tb at*;have qX:=ae tO;clear tO;generalize bE s.lo=lc at*;generalize Ae:s.lo.length=ln at*;generalize ln - 8=n8 at*;have Cj:ay (((w.alloc (.cells #[ι 25,ι m,ι xb,ι xc,ι xd] 40)).alloc (.cells #[.bool true,.string tb,ι (lc 0),ι (lc 1),ι (lc 2),ι (lc 3),ι (lc 4),ι (lc 5),ι (lc 6),ι (lc 7),ι ln,ι s.ha,.slice ma n8 mc] 233)).drew) w.heap.size 40 #[ι 25,ι m,ι xb,ι xc,ι xd]:=((ay.new w _ _).alloc _).drewN 1;have fq:ay (((w.alloc (.cells #[ι 25,ι m,ι xb,ι xc,ι xd] 40)).alloc (.cells #[.bool true,.string tb,ι (lc 0),ι (lc 1),ι (lc 2),ι (lc 3),ι (lc 4),ι (lc 5),ι (lc 6),ι (lc 7),ι ln,ι s.ha,.slice ma n8 mc] 233)).drew) (w.heap.size+1) 233 #[.bool true,.string tb,ι (lc 0),ι (lc 1),ι (lc 2),ι (lc 3),ι (lc 4),ι (lc 5),ι (lc 6),ι (lc 7),ι ln,ι s.ha,.slice ma n8 mc]:=(ay.a_ smm).drewN 1;have sS:StI w (((w.alloc (.cells #[ι 25,ι m,ι xb,ι xc,ι xd] 40)).alloc (.cells #[.bool true,.string tb,ι (lc 0),ι (lc 1),ι (lc 2),ι (lc 3),ι (lc 4),ι (lc 5),ι (lc 6),ι (lc 7),ι ln,ι s.ha,.slice ma n8 mc] 233)).drew) (ι m) (.bool true) (.string tb) (ι (lc 0)) (ι (lc 1)) (ι (lc 2)) (ι (lc 3)) (ι (lc 4)) (ι (lc 5)) (ι (lc 6)) (ι (lc 7)) (ι ln) (ι s.ha) (.slice ma n8 mc):=⟨Cj.cell 1,fq.cell 0,fq.cell 1,fq.cell 2,fq.cell 3,fq.cell 4,fq.cell 5,fq.cell 6,fq.cell 7,fq.cell 8,fq.cell 9,fq.cell 10,fq.cell 11,fq.cell 12⟩;have dQ:Below w.heap.size w (((w.alloc (.cells #[ι 25,ι m,ι xb,ι xc,ι xd] 40)).alloc (.cells #[.bool true,.string tb,ι (lc 0),ι (lc 1),ι (lc 2),ι (lc 3),ι (lc 4),ι (lc 5),ι (lc 6),ι (lc 7),ι ln,ι s.ha,.slice ma n8 mc] 233)).drew):=(hB _ _ _ _).trans (au _ _ 1);have gp:=ae dQ;have KA:Hid (∀V V':World,Below V.heap.size V V'->(StI w V (ι m) (.bool true) (.string tb) (ι (lc 0)) (ι (lc 1)) (ι (lc 2)) (ι (lc 3)) (ι (lc 4)) (ι (lc 5)) (ι (lc 6)) (ι (lc 7)) (ι ln) (ι s.ha) (.slice ma n8 mc))->(StI w V' (ι m) (.bool true) (.string tb) (ι (lc 0)) (ι (lc 1)) (ι (lc 2)) (ι (lc 3)) (ι (lc 4)) (ι (lc 5)) (ι (lc 6)) (ι (lc 7)) (ι ln) (ι s.ha) (.slice ma n8 mc))):=by exact adI
  clear Cj fq dQ;go_enter func247,ntmps247;go_wp2_with fail;refine Mk.bF (S:=fun wx=>wx.cell? (π w.heap.size 1)=some (ι m)/\wx.cell? (π (w.heap.size+1) 0)=some (.bool true)/\wx.cell? (π (w.heap.size+1) 1)=some (.string tb)/\wx.cell? (π (w.heap.size+1) 2)=some (ι (lc 0))/\wx.cell? (π (w.heap.size+1) 3)=some (ι (lc 1))/\wx.cell? (π (w.heap.size+1) 4)=some (ι (lc 2))/\wx.cell? (π (w.heap.size+1) 5)=some (ι (lc 3))/\wx.cell? (π (w.heap.size+1) 6)=some (ι (lc 4))/\wx.cell? (π (w.heap.size+1) 7)=some (ι (lc 5))/\wx.cell? (π (w.heap.size+1) 8)=some (ι (lc 6))/\wx.cell? (π (w.heap.size+1) 9)=some (ι (lc 7))/\wx.cell? (π (w.heap.size+1) 10)=some (ι ln)/\wx.cell? (π (w.heap.size+1) 11)=some (ι s.ha)/\wx.cell? (π (w.heap.size+1) 12)=some (.slice ma n8 mc)) krr sS (fun al=>?_);generalize World.drew _=V0 at*;refine Mk.tk 0 (v:=?_) rfl ?_ aas ?_;rotate_left
  ·exact adH
  refine Mk.pt ?_;refine Mk.tk 1 (v:=?_) rfl ?_ aas ?_;rotate_left
  ·exact adH
  refine Mk.pt ?_;refine Mk.tk 2 (v:=?_) rfl ?_ aas ?_;rotate_left
  ·exact adH
  refine Mk.pt ?_;refine Mk.tk 3 (v:=?_) rfl ?_ aas ?_;rotate_left
  ·exact adH
  refine Mk.pt ?_;refine Mk.tk 6 (v:=?_) rfl ?_ aas ?_;rotate_left
  ·exact adH
  refine Mk.pt ?_;refine Mk.tk 7 (v:=?_) rfl ?_ aas ?_;rotate_left
  ·exact adH
  refine Mk.pt ?_;refine Mk.tk 8 (v:=?_) rfl ?_ aas ?_;rotate_left
  ·exact adH
  refine Mk.pt ?_;refine Mk.tk 9 (v:=?_) rfl ?_ aas ?_;rotate_left
  ·exact adH
  refine Mk.pt ?_;refine afR (rs:=[4]) krr smm ?_;refine afJ rfl (fun K hK=>?_) af1;refine QX ?_;go_simp;go_at_call 302;refine (HW.o _ gp.o).mono ?_;rintro e w2 ⟨TC,rfl,qV,dn,zN⟩;obtain ⟨na,nc,Ad,-,-⟩:=aV.val qV;dsimp only at qV Ad;subst Ad;have yz:=KA.o _ _ dn sS;have Mc:=ae qV;have fg:=ae (gp.o.trans (dn.mono gp.o.size));have ux:=ae zN;have LJ:=ae dn;clear qV dn zN HW;unfold cT bU;dsimp only;rw [qX.o];generalize (pc::s.lo).length - 8=n9 at*;generalize bE (pc::s.lo)=mW at*;generalize (pc::s.lo).length=RE at*;clear al;refine hK.out _ _ yz (fun al=>?_);clear hK K;refine Mk.pt ?_;refine Mk.tk 5 (v:=?_) rfl ?_ aas ?_;rotate_left
  ·exact adH
  refine Mk.pt ?_;refine afR (rs:=[10]) krr smm ?_;refine afJ rfl (fun K hK=>?_) af1;refine QX ?_;go_simp;refine hK.out _ _ (KA.o _ _ ((afL _ _).alloc (afF _) _) yz) (fun al=>?_);clear hK K;refine Mk.pt ?_;refine Mk.tk 11 (v:=?_) rfl ?_ aas ?_;rotate_left
  ·exact adH
  refine Mk.pt ?_;refine afZ krr ⟨rfl,?_⟩ _;clear al;go_wp2_with fail;refine eP rfl ?_;have BF:=fg.o.alloc fg.o.size (.cells #[ι ((pc:Int)+1),.bool true,.string tb,ι (mW 0),ι (mW 1),ι (mW 2),ι (mW 3),ι (mW 4),ι (mW 5),ι (mW 6),ι (mW 7),ι RE,ι s.ha,.slice na n9 nc,ι m,.bool true,.string tb,ι (lc 0),ι (lc 1),ι (lc 2),ι (lc 3),ι (lc 4),ι (lc 5),ι (lc 6),ι (lc 7),ι ln,ι s.ha,.slice ma n8 mc] 279);have KB:=ay.new w2 279 #[ι ((pc:Int)+1),.bool true,.string tb,ι (mW 0),ι (mW 1),ι (mW 2),ι (mW 3),ι (mW 4),ι (mW 5),ι (mW 6),ι (mW 7),ι RE,ι s.ha,.slice na n9 nc,ι m,.bool true,.string tb,ι (lc 0),ι (lc 1),ι (lc 2),ι (lc 3),ι (lc 4),ι (lc 5),ι (lc 6),ι (lc 7),ι ln,ι s.ha,.slice ma n8 mc];exact ⟨_,fun i=>if i=0 then .slice na n9 nc else .slice ma n8 mc,rfl,gV.two KB (by rw [nC.o,EA.o];rfl) (Mc.o.aB ((da.refl [] w2).alloc _)) (fun b hb=>(ux.o b hb).imp id (fun h=>afM gp.o.size h)) (HM.o.aB (da.ah BF)) (fun _ hb=> .inl hb),BF,fun b hb=>by have h1:w2.heap.size=b:=af0 hb;have h2:=fg.o.size;omega⟩
 by_cases o5:op=26
 ·subst o5;obtain ⟨m,rfl⟩:=afN (ha smm);have hf:cm pc ⟨26,m,xb,xc,xd⟩ s=[(pc+1,s),(m,{s with lo:=s.lo.tail})]:=rfl;rw [hf];have HW:=ae (fun V (hb:Below w.heap.size w V)=>yy V true (s:=s) (cZ.aB HM.o (da.ah hb)) (hq rfl) omm);clear hf hm ha hq o1 h0;unfold aQ aA cT bU;dsimp only;unfold cT bU at HW;have EA:Hid (∀(a:Nat),sg a s (.slice ma (s.lo.length - 8) mc)=#[ι a,.bool true,.string (fH s.ty),ι (bE s.lo 0),ι (bE s.lo 1),ι (bE s.lo 2),ι (bE s.lo 3),ι (bE s.lo 4),ι (bE s.lo 5),ι (bE s.lo 6),ι (bE s.lo 7),ι s.lo.length,ι s.ha,.slice ma (s.lo.length - 8) mc]):=ae fun _=>rfl;have nC:Hid (∀(a:Nat) (mv:Value),sg a {s with lo:=s.lo.tail} mv=#[ι a,.bool true,.string (fH s.ty),ι (bE s.lo.tail 0),ι (bE s.lo.tail 1),ι (bE s.lo.tail 2),ι (bE s.lo.tail 3),ι (bE s.lo.tail 4),ι (bE s.lo.tail 5),ι (bE s.lo.tail 6),ι (bE s.lo.tail 7),ι s.lo.tail.length,ι s.ha,mv]):=ae fun _ _=>rfl;generalize tO:fH s.ty=tb at*;have qX:=ae tO;clear tO;generalize bE s.lo=lc at*;generalize Ae:s.lo.length=ln at*;generalize ln - 8=n8 at*;have Cj:ay (((w.alloc (.cells #[ι 26,ι m,ι xb,ι xc,ι xd] 40)).alloc (.cells #[.bool true,.string tb,ι (lc 0),ι (lc 1),ι (lc 2),ι (lc 3),ι (lc 4),ι (lc 5),ι (lc 6),ι (lc 7),ι ln,ι s.ha,.slice ma n8 mc] 233)).drew) w.heap.size 40 #[ι 26,ι m,ι xb,ι xc,ι xd]:=((ay.new w _ _).alloc _).drewN 1;have fq:ay (((w.alloc (.cells #[ι 26,ι m,ι xb,ι xc,ι xd] 40)).alloc (.cells #[.bool true,.string tb,ι (lc 0),ι (lc 1),ι (lc 2),ι (lc 3),ι (lc 4),ι (lc 5),ι (lc 6),ι (lc 7),ι ln,ι s.ha,.slice ma n8 mc] 233)).drew) (w.heap.size+1) 233 #[.bool true,.string tb,ι (lc 0),ι (lc 1),ι (lc 2),ι (lc 3),ι (lc 4),ι (lc 5),ι (lc 6),ι (lc 7),ι ln,ι s.ha,.slice ma n8 mc]:=(ay.a_ smm).drewN 1;have sS:StI w (((w.alloc (.cells #[ι 26,ι m,ι xb,ι xc,ι xd] 40)).alloc (.cells #[.bool true,.string tb,ι (lc 0),ι (lc 1),ι (lc 2),ι (lc 3),ι (lc 4),ι (lc 5),ι (lc 6),ι (lc 7),ι ln,ι s.ha,.slice ma n8 mc] 233)).drew) (ι m) (.bool true) (.string tb) (ι (lc 0)) (ι (lc 1)) (ι (lc 2)) (ι (lc 3)) (ι (lc 4)) (ι (lc 5)) (ι (lc 6)) (ι (lc 7)) (ι ln) (ι s.ha) (.slice ma n8 mc):=⟨Cj.cell 1,fq.cell 0,fq.cell 1,fq.cell 2,fq.cell 3,fq.cell 4,fq.cell 5,fq.cell 6,fq.cell 7,fq.cell 8,fq.cell 9,fq.cell 10,fq.cell 11,fq.cell 12⟩;have dQ:Below w.heap.size w (((w.alloc (.cells #[ι 26,ι m,ι xb,ι xc,ι xd] 40)).alloc (.cells #[.bool true,.string tb,ι (lc 0),ι (lc 1),ι (lc 2),ι (lc 3),ι (lc 4),ι (lc 5),ι (lc 6),ι (lc 7),ι ln,ι s.ha,.slice ma n8 mc] 233)).drew):=(hB _ _ _ _).trans (au _ _ 1);have gp:=ae dQ;have KA:Hid (∀V V':World,Below V.heap.size V V'->(StI w V (ι m) (.bool true) (.string tb) (ι (lc 0)) (ι (lc 1)) (ι (lc 2)) (ι (lc 3)) (ι (lc 4)) (ι (lc 5)) (ι (lc 6)) (ι (lc 7)) (ι ln) (ι s.ha) (.slice ma n8 mc))->(StI w V' (ι m) (.bool true) (.string tb) (ι (lc 0)) (ι (lc 1)) (ι (lc 2)) (ι (lc 3)) (ι (lc 4)) (ι (lc 5)) (ι (lc 6)) (ι (lc 7)) (ι ln) (ι s.ha) (.slice ma n8 mc))):=by exact adI
  clear Cj fq dQ;go_enter func247,ntmps247;go_wp2_with fail;refine Mk.bF (S:=fun wx=>wx.cell? (π w.heap.size 1)=some (ι m)/\wx.cell? (π (w.heap.size+1) 0)=some (.bool true)/\wx.cell? (π (w.heap.size+1) 1)=some (.string tb)/\wx.cell? (π (w.heap.size+1) 2)=some (ι (lc 0))/\wx.cell? (π (w.heap.size+1) 3)=some (ι (lc 1))/\wx.cell? (π (w.heap.size+1) 4)=some (ι (lc 2))/\wx.cell? (π (w.heap.size+1) 5)=some (ι (lc 3))/\wx.cell? (π (w.heap.size+1) 6)=some (ι (lc 4))/\wx.cell? (π (w.heap.size+1) 7)=some (ι (lc 5))/\wx.cell? (π (w.heap.size+1) 8)=some (ι (lc 6))/\wx.cell? (π (w.heap.size+1) 9)=some (ι (lc 7))/\wx.cell? (π (w.heap.size+1) 10)=some (ι ln)/\wx.cell? (π (w.heap.size+1) 11)=some (ι s.ha)/\wx.cell? (π (w.heap.size+1) 12)=some (.slice ma n8 mc)) krr sS (fun al=>?_);generalize World.drew _=V0 at*;refine Mk.tk 0 (v:=?_) rfl ?_ aas ?_;rotate_left
  ·exact adH
  refine Mk.pt ?_;refine Mk.tk 1 (v:=?_) rfl ?_ aas ?_;rotate_left
  ·exact adH
  refine Mk.pt ?_;refine Mk.tk 2 (v:=?_) rfl ?_ aas ?_;rotate_left
  ·exact adH
  refine Mk.pt ?_;refine Mk.tk 3 (v:=?_) rfl ?_ aas ?_;rotate_left
  ·exact adH
  refine Mk.pt ?_;refine Mk.tk 4 (v:=?_) rfl ?_ aas ?_;rotate_left
  ·exact adH
  refine Mk.pt ?_;refine Mk.tk 5 (v:=?_) rfl ?_ aas ?_;rotate_left
  ·exact adH
  refine Mk.pt ?_;refine Mk.tk 6 (v:=?_) rfl ?_ aas ?_;rotate_left
  ·exact adH
  refine Mk.pt ?_;refine afR (rs:=[7]) krr smm ?_;refine afJ rfl (fun K hK=>?_) af1;refine QX ?_;go_simp;go_at_call 301;refine (HW.o _ gp.o).mono ?_;rintro e w2 ⟨TC,rfl,qV,dn,zN⟩;obtain ⟨na,nc,Ad,-,-⟩:=aV.val qV;dsimp only at qV Ad;subst Ad;have yz:=KA.o _ _ dn sS;have Mc:=ae qV;have fg:=ae (gp.o.trans (dn.mono gp.o.size));have ux:=ae zN;have LJ:=ae dn;clear qV dn zN HW;unfold cT bU;dsimp only;rw [qX.o];generalize s.lo.tail.length - 8=n9 at*;generalize bE s.lo.tail=mW at*;generalize s.lo.tail.length=RE at*;clear al;refine hK.out _ _ yz (fun al=>?_);clear hK K;refine Mk.pt ?_;refine Mk.tk 8 (v:=?_) rfl ?_ aas ?_;rotate_left
  ·exact adH
  refine Mk.pt ?_;refine afR (rs:=[9]) krr smm ?_;refine afJ rfl (fun K hK=>?_) af1;refine QX ?_;go_simp;refine hK.out _ _ (KA.o _ _ ((afL _ _).alloc (afF _) _) yz) (fun al=>?_);clear hK K;refine Mk.pt ?_;refine Mk.tk 10 (v:=?_) rfl ?_ aas ?_;rotate_left
  ·exact adH
  refine Mk.pt ?_;refine afZ krr ⟨rfl,?_⟩ _;clear al;go_wp2_with fail;refine eP rfl ?_;have BF:=fg.o.alloc fg.o.size (.cells #[ι ((pc:Int)+1),.bool true,.string tb,ι (lc 0),ι (lc 1),ι (lc 2),ι (lc 3),ι (lc 4),ι (lc 5),ι (lc 6),ι (lc 7),ι ln,ι s.ha,.slice ma n8 mc,ι m,.bool true,.string tb,ι (mW 0),ι (mW 1),ι (mW 2),ι (mW 3),ι (mW 4),ι (mW 5),ι (mW 6),ι (mW 7),ι RE,ι s.ha,.slice na n9 nc] 279);have KB:=ay.new w2 279 #[ι ((pc:Int)+1),.bool true,.string tb,ι (lc 0),ι (lc 1),ι (lc 2),ι (lc 3),ι (lc 4),ι (lc 5),ι (lc 6),ι (lc 7),ι ln,ι s.ha,.slice ma n8 mc,ι m,.bool true,.string tb,ι (mW 0),ι (mW 1),ι (mW 2),ι (mW 3),ι (mW 4),ι (mW 5),ι (mW 6),ι (mW 7),ι RE,ι s.ha,.slice na n9 nc];exact ⟨_,fun i=>if i=0 then .slice ma n8 mc else .slice na n9 nc,rfl,gV.two KB (by rw [nC.o,EA.o];rfl) (HM.o.aB (da.ah BF)) (fun _ hb=> .inl hb) (Mc.o.aB ((da.refl [] w2).alloc _)) (fun b hb=>(ux.o b hb).imp id (fun h=>afM gp.o.size h)),BF,fun b hb=>by have h1:w2.heap.size=b:=af0 hb;have h2:=fg.o.size;omega⟩
 ·have hf:cm pc ⟨op,xa,xb,xc,xd⟩ s=[(pc+1,s)]:=by unfold cm;dsimp only;rw [abH o1,abH o2,abH o3,abH o4,abH o5]
  rw [hf];have o6:¬op=0:=fun e=>o1 (.inl e);have o7:¬op=27:=fun e=>o1 (.inr e);clear hf hm ha hq o1;unfold aQ aA cT bU;dsimp only;have EA:Hid (sg (pc+1) s (.slice ma (s.lo.length - 8) mc)=#[ι (pc+1:Nat),.bool true,.string (fH s.ty),ι (bE s.lo 0),ι (bE s.lo 1),ι (bE s.lo 2),ι (bE s.lo 3),ι (bE s.lo 4),ι (bE s.lo 5),ι (bE s.lo 6),ι (bE s.lo 7),ι s.lo.length,ι s.ha,.slice ma (s.lo.length - 8) mc]):=ae rfl;generalize fH s.ty=tb at*;generalize bE s.lo=lc at*;exact agX
def Mh (op:Nat) (i:Nat):Value:=ι ((bO op).getD i 0:Nat)
def IN (w:World) (op:Nat) (e:Ending) (w':World):Prop:=∃tv,e= .returned (.agg #[tv,ι (aR op:Nat)])/\aV w' 1 tv (bO op).length (Mh op)/\Below w.heap.size w w'
theorem EN {W:World} {b:Nat} {x:Value} {g:Nat->Value} (h:ay W b 3 #[x]) (e:g 0=x):aV W 1 (.slice (some (π b 0)) 1 1) 1 g:=
 .inr ⟨_,_,rfl,afF _,by unfold maxLen;omega,fun o ho=>⟨rfl,by
   obtain rfl:o=0:=omm;rw [e];exact h.cell 0⟩⟩
theorem Af {W:World} {b:Nat} {x y:Value} {g:Nat->Value} (h:ay W b 3 #[x,y]) (e:g 0=x) (e2:g 1=y):aV W 1 (.slice (some (π b 0)) 2 2) 2 g:=
 .inr ⟨_,_,rfl,afF _,by unfold maxLen;omega,fun o ho=>⟨rfl,by
   have:o=0\/o=1:=omm;rcases this with rfl|rfl
   ·rw [e];exact h.cell 0
   ·rw [e2];exact h.cell 1⟩⟩
theorem Mi (w:World) (op:Nat) (cW:op < 42):Calls prog 298 #[ι op] w (IN w op):=by
 have hB:=ag6 w;have e:op=0\/op=1\/op=2\/op=3\/op=4\/op=5\/op=6\/op=7\/op=8\/op=9\/op=10\/op=11\/op=12\/op=13\/op=14\/op=15\/op=16\/op=17\/op=18\/op=19\/op=20\/op=21\/op=22\/op=23\/op=24\/op=25\/op=26\/op=27\/op=28\/op=29\/op=30\/op=31\/op=32\/op=33\/op=34\/op=35\/op=36\/op=37\/op=38\/op=39\/op=40\/op=41:=omm;rcases e with rfl|rfl|rfl|rfl|rfl|rfl|rfl|rfl|rfl|rfl|rfl|rfl|rfl|rfl|rfl|rfl|rfl|rfl|rfl|rfl|rfl|rfl|rfl|rfl|rfl|rfl|rfl|rfl|rfl|rfl|rfl|rfl|rfl|rfl|rfl|rfl|rfl|rfl|rfl|rfl|rfl|rfl
 all_goals
  go_enter func298,ntmps298;go_wp2_with fail
  first
  |(refine afI ?_ rfl ⟨.slice none 0 0,rfl,.inl ⟨rfl,rfl⟩,hB _ _⟩;simp [results,results298,go_sem,aR];done)
  |(refine afI ?_ rfl ⟨.slice (some ⟨w.heap.size+1,0,none⟩) 2 2,rfl,Af (ay.a_ smm) rfl rfl,(hB _ _).alloc (by simp only [aE];omega) _⟩;simp [results,results298,go_sem,aR];done)
  |(refine afI ?_ rfl ⟨.slice (some ⟨w.heap.size+1,0,none⟩) 1 1,rfl,EN (ay.a_ smm) rfl,(hB _ _).alloc (by simp only [aE];omega) _⟩;simp [results,results298,go_sem,aR];done)
end
end Go.Proofs.YtblkblclmbhjiaaGreat.Vf
