import Derived.Test.YtblkblclmbhjiaaGreatZ7
import Derived.Maps.OwnSet
import Derived.Maps.OwnIn
import Derived.RangeFuncOwn
set_option linter.all false
set_option maxHeartbeats 40000000
set_option maxRecDepth 100000
open Go.Proofs.Tryz
open Option renaming some->O,none->Xb
open Go renaming Value->to,World->ek
open Go.Value renaming slice->H
open Go.Obj renaming cells->Xe
open Go.Ending renaming returned->Xc
open Go.World renaming cell?->Xf
namespace al
open Go Go.RowKit Go.ChangeMaps Go.WideShapes
open Go.Maps (Keyed)
section
structure Typed(P:Program)(t k e:TypeId)(qk qe:IntKind):Prop where
 ht:P.underlying t=some (.map k e)
 hk:P.underlying k=some (.int qk)
 he:P.underlying e=some (.int qe)
 hz:∀w,(zeroValue e).run P w= .ok (.int qe 0) w
def Lz(q:IntKind)(x:Int):Prop:=(Lit.int q x).wf=true
def mS(P:Program)(k e:TypeId)(qk qe:IntKind)(W:World)(B:Nat)(f:Int->Option Int)(c:Nat):Prop:=
 ∃D:DataW Unit,W.ownsMap P k (plainElem P e) B c D/\Maps.size D=c/\∀x,Lz qk x->Maps.has D (.int qk x)=(f x).isSome/\∀v,f x=some v->∀z,D.atKey (.int qk x) z= .lit (.int qe v)
def RX(f:Int->Option Int)(x v:Int):Int->Option Int:=λy=>if y=x then some v else f y
variable {P:Program}{t k e:TypeId}{qk qe:IntKind}{W:World}{B c:Nat}{f:Int->Option Int}
def tight{D:DataW Unit}{R:Value->Option (DataW Unit×List MemPlace)}{n:Nat}(h:W.ownsMap P k R B n D):W.ownsMap P k R B (Maps.size D) D:=by obtain⟨es,clock,X,F,hs,rfl⟩:=h;exact⟨es,clock,X,F,by simp[Maps.size,length_sorted],rfl⟩
def isKey(qk:IntKind)(x:Int):WideAt.IsKeyLit (.int qk x):=trivial
def mS.made(W:World):mS P k e qk qe (W.alloc (.map #[] 0)) W.heap.size (λ_=>none) 0:=
 ⟨.map [],World.ownsMap_made W P k _,rfl,λx hx=>⟨rfl,λv h=>by simp at h⟩⟩
def mS.lt(h:mS P k e qk qe W B f c):B<W.heap.size:=by obtain⟨D,h,_⟩:=h;exact h.lt
def mS.mD{W':World}(h:mS P k e qk qe W B f c)(X:W'.heap[B]? =W.heap[B]?):mS P k e qk qe W' B f c:=by obtain⟨D,⟨es,clock,h1,h2⟩,r⟩:=h;exact⟨D,⟨es,clock,X.trans h1,h2⟩,r⟩
def mS.look_ok(T:Typed P t k e qk qe)(h:mS P k e qk qe W B f c){x:Int}(hx:Lz qk x):
 (Instr.lookup t (.map (some B)) (.int qk x) true).run P W= .ok (.tuple #[.int qe ((f x).getD 0),.bool (f x).isSome]) W:=by
 obtain⟨D,h,_,r⟩:=h;obtain⟨r1,r2⟩:=r x hx;obtain⟨v,adj,ri,hv⟩:=h.look_ok (Maps.int_keyed T.hk) T.ht (T.hz W) (plainElem_int T.he (by cases qe<;>decide)) (Maps.keyOf_int_mk T.hk hx);obtain⟨a,rfl,ha,_⟩:=plainElem_int_inv T.he hv;simp only[Prod.mk.injEq]at ha;rw[ri,r1];cases hf:f x with
 |none=>rw[hf]at r1;have:=Maps.atKey_of_not_has r1 (.lit (.int qe 0));rw[this]at ha;have:=ha.1;simp at this;simp[this]
 |some u=>have:=r2 u hf (.lit (.int qe 0));rw[this]at ha;have:=ha.1;simp at this;simp[this]
def mS.store(T:Typed P t k e qk qe)(h:mS P k e qk qe W B f c)(hc:c<maxLen){x v:Int}(hx:Lz qk x)(hv:Lz qe v):
 ∃W',(Instr.mapUpdate t (.map (some B)) (.int qk x) (.int qe v)).run P W= .ok () W'/\mS P k e qk qe W' B (RX f x v) (if(f x).isSome then c else c+1)/\W.grownBy W' (some B)/\∀a,W'.frozen? a=W.frozen? a:=by
 obtain⟨D,h,hs,r⟩:=h;obtain⟨W',ri,h',ht⟩:=h.store (Maps.int_keyed T.hk) T.ht hc (Maps.keyOf_int_mk T.hk hx) (plainElem_int T.he hv);have nO:=Maps.size_put (k:= .int qk x) (h.tidy (Maps.int_keyed T.hk)) (.lit (.int qe v));refine⟨W',ri,⟨_,by have:=tight h';rw[nO,(r x hx).1,hs]at this;exact this,by rw[nO,(r x hx).1,hs],λy hy=>?_⟩,ht.grown,ht.frozen⟩;unfold RX;by_cases e1:y=x
 ·subst e1;rw[if_pos rfl];exact⟨by rw[Maps.has_put_same h.isMap (isKey _ _)];rfl,λu hu z=>by cases hu;rw[Maps.atKey_put_same h.isMap (isKey _ _)]⟩
 ·rw[if_neg e1];have bt:Lit.int qk y≠.int qk x:=λe'=>e1 (by simpa using e');exact⟨by rw[Maps.has_put_other bt];exact(r y hy).1,λu hu z=>by rw[Maps.atKey_put_other bt];exact(r y hy).2 u hu z⟩
section
variable (w:World){ops:Array Oper}{rest:List Oper}{o:Oper}{a:Act}{Q:Exit->Act->World->Prop}
def aaf(hg:o.guard=none)(m x:Operand)(t:TypeId)(dO:o.op=Op.lookup t m x true)(T:Typed P t k e qk qe)(B c:Nat)(f:Int->Option Int)
 (hm:a.eval m= .map (some B)) (h:mS P k e qk qe w B f c) (key:Int) (hx:a.eval x= .int qk key) (Yo:Lz qk key)
 (hK:wpList P ops Q rest (a.put o.dst (.tuple #[.int qe ((f key).getD 0),.bool (f key).isSome])) w):wpList P ops Q (o::rest) a w:=by
 refine wpList_plain hg λK' WN=>?_;unfold Oper.wp;simp[execOp,dO,hm,hx,h.look_ok T Yo,Result.andThen];exact WN _ _ hK
def lC(hg:o.guard=none)(m x:Operand)(t:TypeId)(dO:o.op=Op.lookup t m x true)(T:Typed P t k e qk qe)(B c:Nat)(f:Int->Option Int)
 (hm:a.eval m= .map (some B)) (h:mS P k e qk qe w B f c) (key:Int) (hx:a.eval x= .int qk key) (Yo:Lz qk key) (v:Int) (hv:f key=some v)
 (hK:wpList P ops Q rest (a.put o.dst (.tuple #[.int qe v,.bool true])) w):wpList P ops Q (o::rest) a w:=
 aaf w hg m x t dO T B c f hm h key hx Yo (by rw[hv];exact hK)
def aae(hg:o.guard=none)(m x v:Operand)(t:TypeId)(dO:o.op=Op.mapUpdate t m x v)(T:Typed P t k e qk qe)(B c:Nat)(f:Int->Option Int)
 (hm:a.eval m= .map (some B)) (h:mS P k e qk qe w B f c) (hc:c<maxLen) (key val:Int) (hx:a.eval x= .int qk key) (hv:a.eval v= .int qe val) (Yo:Lz qk key) (hwv:Lz qe val)
 (hK:∀w',mS P k e qk qe w' B (RX f key val) (if(f key).isSome then c else c+1)->w.grownBy w' (some B)->(∀a,w'.frozen? a=w.frozen? a)->wpList P ops Q rest (a.put o.dst undef) w'):wpList P ops Q (o::rest) a w:=by
 refine wpList_plain hg λK' WN=>?_;obtain⟨w',ri,r1,r2,r3⟩:=h.store T hc Yo hwv;unfold Oper.wp;simp[execOp,dO,hm,hx,hv,ri,Result.andThen];exact WN _ _ (hK w' r1 r2 r3)
variable {F:Fence}{a1o:Nat}
end
end
end al
namespace Go.Ma
open Go.RowKit al.Vm
open al hiding aS aw an
def JO:Typed prog 67 46 3 .u64 .i64:=⟨underlying67,underlying46,underlying3,λw=>by kernel_rfl⟩
abbrev NQ:=mS prog 46 3 .u64 .i64
def D_{k:Nat}(h:k<18446744073709551616):Lz .u64 (k:Int):=by unfold Lz;exact WalkArith.wf_u64 G
def aad{n:Nat}(h:n<=4194304):Lz .i64 (n:Int):=by unfold Lz;exact WalkArith.wf_i64 G
def ej{w w':ek}{B:Nat}(h:w.grownBy w' (O B)):aC [B] w w':=⟨h.os,h.tape,h.output,h.size,λk hk hs=>h.block k hk (λe=>hs (by cases e;simp))⟩
section
variable {W2:ek}{sv mv a b c d:to}{i0 lb B:Nat}{L:List (Nat×Nat)}{Q:Exit->Act->ek->Prop}
def ab5{i:Nat}(h:i<L.length):((L.map (·.1)).getD i 0,(L.map (·.2)).getD i 0)∈L:=by
 have:((L.map (·.1)).getD i 0,(L.map (·.2)).getD i 0)=L[i]:=by simp[List.getD,h]
 rw[this];exact il h
def FD(J:Nat->to):Act:={tmps:=#[J 0,J 1,J 2,J 3,J 4,J 5,J 6,J 7,J 8,J 9,J 10,J 11,J 12,J 13,J 14,J 15,J 16,J 17,J 18,J 19,J 20,J 21,J 22,J 23,J 24,J 25,J 26,J 27,J 28,J 29,J 30,J 31,J 32,J 33,J 34,J 35,J 36,J 37,J 38,J 39,J 40,J 41,J 42,J 43,J 44,J 45,J 46,J 47,J 48,J 49,J 50,J 51,J 52,J 53,J 54,J 55,J 56,J 57,J 58,J 59,J 60,J 61,J 62,J 63,J 64,J 65,J 66,J 67,J 68,J 69,J 70,J 71,J 72,J 73,J 74,J 75,J 76,J 77,J 78,J 79,J 80,J 81,J 82,J 83,J 84,J 85,J 86,J 87,J 88,J 89,J 90,J 91,J 92,J 93,J 94,J 95,J 96,J 97,J 98,J 99,J 100,J 101,J 102,J 103,J 104,J 105,J 106,J 107,J 108,J 109,J 110,J 111,J 112,J 113,J 114,J 115,J 116,J 117,J 118,J 119,J 120,J 121,J 122,J 123,J 124,J 125,J 126,J 127,J 128,J 129,J 130,J 131,J 132,J 133,J 134,J 135,J 136,J 137,J 138,J 139,J 140,J 141,J 142,J 143,J 144,J 145,J 146,J 147,J 148,J 149,J 150,J 151,J 152,J 153,J 154,J 155,J 156,J 157,J 158,J 159,J 160,J 161,J 162,J 163,J 164,J 165,J 166,J 167,J 168,J 169,J 170,J 171,J 172,J 173,J 174,J 175,J 176,J 177,J 178,J 179,J 180,J 181,J 182,J 183,J 184,J 185,J 186,J 187,J 188,J 189,J 190,J 191,J 192,J 193,J 194,J 195,J 196,J 197,J 198,J 199,J 200,J 201,J 202,J 203,J 204,J 205,J 206,J 207,J 208,J 209,J 210,J 211,J 212,J 213,J 214,J 215,J 216,J 217,J 218,J 219,J 220,J 221,J 222,J 223,J 224,J 225,J 226,J 227,J 228,J 229,J 230,J 231,J 232,J 233,J 234,J 235,J 236,J 237,J 238,J 239,J 240,J 241,J 242,J 243],defers:=[]}
def FD.of(A:Array to)(h:A=(FD λk=>A.getD k undef).tmps):({tmps:=A,defers:=[]}:Act)=FD λk=>A.getD k undef:=by rw[h];rfl
noncomputable def ld1:Code:=Mk.gI Proofs.Tryz.f25.body 0
noncomputable def ld2:Code:=Mk.gI Proofs.Tryz.f25.body 1
noncomputable def ld3:Code:=Mk.gI (O ld2) 0
noncomputable def ld4:Code:=Mk.gI Proofs.Tryz.f25.body 2
noncomputable def ld5:Code:=Mk.gI Proofs.Tryz.f25.body 3
structure LD(W:ek)(T:List Nat)(bl bs:Nat)(aa ba ca da qa:Option Addr)(ac bc cc dc qc:Nat)(vv:to)(Ls:List (List Nat))(Fr:List Nat)(L:List (Nat×Nat))(kf:Nat->Nat)(lo h1 h2 hi hj:Nat)(lv lw:Nat->to)(tw:Nat->Nat->to)(Qs:List (List PE)):Prop where
 kl:aH W bl 52 #[H aa Ls.length ac,H ba Fr.length bc,H ca L.length cc,H da L.length dc]
 ks:aH W bs 56 #[H qa Ls.length qc,vv]
 la:nj W lo h1 h2 hi (H aa Ls.length ac) (H ba Fr.length bc) (H ca L.length cc) (H da L.length dc) ⟨Ls,Fr,L.map (·.1),jm (L.map (·.2))⟩ lv
 qs:oK W lo hj (H qa Ls.length qc) Qs lw tw
 ql:Qs.length=Ls.length
 qn:∀q,q<Ls.length->(Qs.getD q []).length=(Ls.getD q []).length
 qk:∀q i,q<Ls.length->i<(Ls.getD q []).length->((Qs.getD q []).getD i ⟨0,[]⟩).key=kf ((Ls.getD q []).getD i 0)
 t:∀x,x∈T->hi<=x/\hj<=x/\x≠bl/\x≠bs
variable {W W':ek}{T:List Nat}{bl bs:Nat}{aa ba ca da qa:Option Addr}{ac bc cc dc qc:Nat}{vv:to}{Ls:List (List Nat)}{Fr:List Nat}{kf:Nat->Nat}{lo h1 h2 hi hj:Nat}{lv lw:Nat->to}{tw:Nat->Nat->to}{Qs:List (List PE)}
def LD.aG(h:LD W T bl bs aa ba ca da qa ac bc cc dc qc vv Ls Fr L kf lo h1 h2 hi hj lv lw tw Qs)(f:aC T W W'):LD W' T bl bs aa ba ca da qa ac bc cc dc qc vv Ls Fr L kf lo h1 h2 hi hj lv lw tw Qs:=
 ⟨h.kl.aG f (λhc=>(h.t _ hc).2.2.1 rfl),h.ks.aG f (λhc=>(h.t _ hc).2.2.2 rfl),h.la.off f (kD.range λb X=> .inr (h.t b X).1),h.qs.off f (kD.range λb X=> .inr (h.t b X).2.1),h.ql,h.qn,h.qk,h.t⟩
def LD.at_(h:LD W T bl bs aa ba ca da qa ac bc cc dc qc vv Ls Fr L kf lo h1 h2 hi hj lv lw tw Qs){q:Nat}(hq:q<Ls.length):∃xa ya ua la va wa lc wc,aa=O (I xa 0)/\qa=O (I ya 0)/\Xf W (I xa q)=O (H la (Ls.getD q []).length lc)/\Xf W (I ya q)=O (H wa (Ls.getD q []).length wc)/\ua=0/\va=0/\xa<W.heap.size/\ya<W.heap.size/\
 (Ls.getD q []).length<=maxLen/\∀i,i<(Ls.getD q []).length->∃xl xw,la=O (I xl 0)/\wa=O (I xw 0)/\Xf W (I xl i)=O (Y ((Ls.getD q []).getD i 0:Nat))/\Xf W (I xw (i*2))=O (.int .u64 (kf ((Ls.getD q []).getD i 0):Nat)):=by
 have r1:Row W 24 1 (H aa Ls.length ac) Ls.length lv:=h.la.ls.row;have r2:=h.qs.row;rw[h.ql]at r2;obtain⟨xa,xc,ea,-,-,l1⟩:=r1.some (Nat.lt_of_le_of_lt (ck q) hq);obtain⟨ya,yc,eb,-,-,l2⟩:=r2.some (Nat.lt_of_le_of_lt (ck q) hq);simp only[cL]at ea eb;obtain⟨rfl,-,rfl⟩:=ea;obtain⟨rfl,-,rfl⟩:=eb;have c1:=r1.cell (o:=q) G;have c2:=r2.cell (o:=q) G;have i1:Row W 3 1 (lv q) (jm (Ls.getD q [])).length (bd (jm (Ls.getD q []))):=(h.la.ls.q q hq).row;have i2:=(h.qs.q q (by rw[h.ql];exact hq)).row;rw[gB]at i1;rw[h.qn q hq]at i2;obtain⟨la,lc,e1,m1,m2⟩:=fW i1;obtain⟨wa,wc,e2,m2,-⟩:=fW i2;rw[e1]at c1 i1;rw[e2]at c2 i2;refine⟨xa,ya,0,la,0,wa,lc,wc,rfl,rfl,c1,c2,rfl,rfl,l1,l2,G,λi hi=>?_⟩;obtain⟨xl,lc',e3,-,-,-⟩:=i1.some G;obtain⟨xw,wc',e4,-,-,-⟩:=i2.some G;simp only[cL]at e3 e4;obtain⟨rfl,-,rfl⟩:=e3;obtain⟨rfl,-,rfl⟩:=e4;have d1:=i1.cell (o:=i) G;have d2:=i2.cell (o:=i*2) G;unfold bd at d1;rw[sJ]at d1;unfold QT at d2;rw[aE G,show i*2 / 2=i by omega,h.qk q i hq hi]at d2;exact⟨xl,xw,rfl,rfl,d1,d2⟩
def SM(V W:ek)(sb B nn:Nat)(kf:Nat->Nat)(D:List Nat):Prop:=aC [sb,B] V W/\Row W 4 1 (H (O (I sb 0)) nn nn) nn (λj=> .bool (decide (j∈D)))/\∃f c,NQ W B f c/\c<=D.length/\∀m,m∈D->f (kf m)=O (m:Int)
def SM.drewN{V W:ek}{sb B nn:Nat}{D:List Nat}(h:SM V W sb B nn kf D)(k:Nat):SM V (W.drewN k) sb B nn kf D:=⟨h.1.drewN k,h.2.1.drewN k,h.2.2⟩
end
section
variable {W0:ek}{Q:Exit->Act->ek->Prop}{x4 x5 gv qv:to}{bc:Nat}{p:aU}{c:Cp}
open Vf (pA rm)
def LC(h:pn p c)(hg:p.ap.length<=16){k:Nat}(hk:k<=p.ap.length):pA p c k<=16777216/\rm p c k<=16777216:=by
 have key:∀f:Nat->Nat,(∀i,i<k->f i<=1048576)->cR k f<=16777216:=λf hf=>bS (qI k f hf) G;constructor
 ·refine key _ λi hi=>?_;have:=h.q1 i G;split<;>omega
 ·refine key _ λi hi=>?_;have:=h.q1 i G;split<;>omega
def D1(W0:ek)(x4 x5 gv:to)(bc:Nat)(p:aU)(c:Cp)(m:Nat)(a:Act)(W:ek):Prop:=∃(J:Nat->to) (i:Nat),a=FD J/\J 2=gv/\J 4=x4/\J 5=x5/\J 7=Oi bc/\J 9=Y (pA p c i:Nat)/\J 10=Y (rm p c i:Nat)/\J 11=Y i/\i<=p.ap.length/\m+i=p.ap.length+1/\W=W0
def aaZ(hg:Vf.aY W0 1 gv p.ap.length (λi=> .bool (p.ap.getD i false)))(hq:Vf.aY W0 1 qv c.aF.length (bd c.aF))(X:aH W0 bc 29 #[Y c.size,qv])(hC:pn p c)(Ad:p.ap.length<=16)
 (dD:∀(J:Nat->to),J 4=x4->J 5=x5->J 7=Oi bc->J 9=Y (pA p c p.ap.length:Nat)->J 10=Y (rm p c p.ap.length:Nat)->Q (.exit 0) (FD J) W0)
 {a:Act} {W:ek} (h0:D1 W0 x4 x5 gv bc p c (p.ap.length+1) a W):(Code.loop ld1).wp prog Q a W:=by
 obtain⟨ga,gc,rfl,-,-⟩:=hg.val;obtain⟨qa,qc,rfl,-,-⟩:=hq.val;have Eu:=Z hg;have HQR:=Z hq;clear hg hq;refine Mk.aM (λm a W=>D1 W0 x4 x5 (H ga p.ap.length gc) bc p c m a W) (p.ap.length+1) h0 ?_ ?_
 ·exact SD
 rintro m a0 W ⟨J,i,rfl,j2,j4,j5,j7,j9,gN,GP,hi,hm,rfl⟩;unfold FD
 conv=>arg 2;whnf
 rw[j2,j4,j5,j7,j9,gN,GP];clear j2 j4 j5 j7 j9 gN GP;by_cases be:i<p.ap.length
 ·have w2:=mr i G;have k1:Xf W (I bc 1)=O (H qa c.aF.length qc):=X.cell 1;have lb:=X.lt;have CF:=hC.len;obtain⟨gb,go,gc',e1,-,-,lg,R0⟩:=Eu.o.some G G;obtain⟨qb,ada,qc',e2,-,-,a1p,Ha⟩:=HQR.o.some G G;simp only[cL]at e1 e2;obtain⟨rfl,-,rfl⟩:=e1;obtain⟨rfl,-,rfl⟩:=e2;have c0:Xf W (I gb (go+i))=O (.bool (p.ap.getD i false)):=R0 i G;have c1:Xf W (I qb (ada+i))=O (Y (c.aF.getD i 0)):=Ha i G;obtain⟨r1,r2⟩:=LC hC Ad (k:=i) G;have vW:=hC.q1 i be;have eR:pA p c (i+1)=pA p c i+(if p.ap.getD i false then 0 else(c.aF.getD i 0).toNat):=rfl;have eG:rm p c (i+1)=rm p c i+(if p.ap.getD i false then(c.aF.getD i 0).toNat else 0):=rfl;have dm:=Z be;have zQ:0<=(i:Int):=G;have Aw:(i:Int)<(c.aF.length:Int):=G;have AP:(i:Int)<(p.ap.length:Int):=G;have zN:(i:Int).toNat=i:=G;generalize c.aF.getD i 0=z at*;generalize pA p c i=R at*;generalize rm p c i=a0e at*;have w3:IntKind.i64.wrap ((R:Int)+z)=(R:Int)+z:=bJ _ kS;have w4:IntKind.i64.wrap ((a0e:Int)+z)=(a0e:Int)+z:=bJ _ kS;have HR:=Z eR;have HG:=Z eG;have HZ:=Z vW;clear eR eG vW r1 r2 R0 Ha;cases xx:p.ap.getD i false with
  |true=>
   have H1:=HR.o;have H2:=HG.o;rw[xx]at c0 H1 H2;rw[aE rfl]at H1 H2;have HH:=Z (show _/\_ from⟨H1,H2⟩);clear H1 H2;go_wp2;refine⟨_,i+1,FD.of _ rfl,rfl,rfl,rfl,rfl,?_,?_,?_,dm.o,G,rfl⟩
   ·rw[HH.o.1];rfl
   ·refine bo (Value.int .i64) ?_;rw[HH.o.2];have:=HZ.o;omega
   ·first|rfl|exact bo (Value.int .i64) (show(i:Int)+1=((i+1:Nat):Int)by omega)
  |false=>
   have H1:=HR.o;have H2:=HG.o;rw[xx]at c0 H1 H2;rw[ax bz]at H1 H2;have HH:=Z (show _/\_ from⟨H1,H2⟩);clear H1 H2;go_wp2;refine⟨_,i+1,FD.of _ rfl,rfl,rfl,rfl,rfl,?_,?_,?_,dm.o,G,rfl⟩
   ·refine bo (Value.int .i64) ?_;rw[HH.o.1];have:=HZ.o;omega
   ·rw[HH.o.2];rfl
   ·first|rfl|exact bo (Value.int .i64) (show(i:Int)+1=((i+1:Nat):Int)by omega)
 ·obtain rfl:i=p.ap.length:=G;clear be;go_wp2;exact Eq.mpr (bo (λa=>Q (.exit 0) a W) (FD.of _ rfl)) (dD (λk=>Array.getD _ k undef) rfl rfl rfl rfl rfl)
end
section
variable {V:ek}{Q:Exit->Act->ek->Prop}{bl bs sb B nn:Nat}{aa ba ca da qa:Option Addr}{ac bc cc dc qc:Nat}{vv:to}{Ls:List (List Nat)}{Fr:List Nat}{L:List (Nat×Nat)}{kf:Nat->Nat}{lo h1 h2 hi hj:Nat}{lv lw:Nat->to}{tw:Nat->Nat->to}{Qs:List (List PE)}
def SM.put{W W1 W2:ek}{D:List Nat}{x:Nat}{f:Int->Option Int}{cn:Nat}(bt:sb≠B)(h1:aC [sb,B] V W)(hf:aC [sb] W W1)(hr:Row W1 4 1 (H (O (I sb 0)) nn nn) nn (λj=>if j=x then .bool true else .bool (decide (j∈D))))
 (hm:NQ W2 B (RX f (kf x) x) (if(f (kf x)).isSome then cn else cn+1)) (hg:W1.grownBy W2 (O B)) (hc:cn<=D.length) (T4:∀m,m∈D->f (kf m)=O (m:Int)) (hk:∀m,m∈D->kf m≠kf x):SM V W2 sb B nn kf (D++[x]):=by
 have Z5:=ej hg;refine⟨(h1.trans (hf.mono az)).trans (Z5.mono az),?_,_,_,hm,?_,λm jw=>?_⟩
 ·refine(hr.aG Z5 (λb X=>?_)).congr λj _=>?_
  ·simp[Value.ownBlock]at X;subst X;simpa using bt
  ·by_cases e:j=x
   ·rw[aE e];simp[e]
   ·rw[ax e];simp[e]
 ·rw[mT,Cm];split<;>omega
 ·unfold RX;rcases List.mem_append.1 jw with h|h
  ·rw[ax (by have:=hk m h;omega)];exact T4 m h
  ·simp at h;subst h;rw[aE rfl]
def D3(V:ek)(bl bs sb B nn:Nat)(kf:Nat->Nat)(Ls:List (List Nat))(q:Nat)(m:Nat)(a:Act)(W:ek):Prop:=∃(J:Nat->to) (i:Nat),a=FD J/\J 4=Oi bl/\J 5=Oi bs/\J 10=Y nn/\J 12=H (O (I sb 0)) nn nn/\J 13= .map (O B)/\J 14=Y (ci Ls q i).length/\J 15=Y q/\J 16=Y i/\i<=(Ls.getD q []).length/\m+i=(Ls.getD q []).length+1/\Hid (SM V W sb B nn kf (ci Ls q i))
def aaa(HL:lO Ls Fr L kf nn){q i:Nat}(hq:q<Ls.length)(hi:i<(Ls.getD q []).length):(ci Ls q i).length<nn:=by obtain⟨t,e⟩:=oZ hq hi;have h1:=HL.Ki;have:=bo List.length e;simp only[mT,List.length_cons]at this;omega
def ac9(HD:Hid (LD V [sb,B] bl bs aa ba ca da qa ac bc cc dc qc vv Ls Fr L kf lo h1 h2 hi hj lv lw tw Qs))(HL:Hid (lO Ls Fr L kf nn))(HK:Hid (∀m,m∈Ls.flatten->kf m<18446744073709551616))(hn:nn<=4194304)(bt:sb≠B){q:Nat}(hq:q<Ls.length)
 (dD:∀(J:Nat->to) W,J 4=Oi bl->J 5=Oi bs->J 10=Y nn->J 12=H (O (I sb 0)) nn nn->J 13= .map (O B)->J 14=Y (ci Ls q (Ls.getD q []).length).length->J 15=Y q->SM V W sb B nn kf (ci Ls q (Ls.getD q []).length)->Q (.exit 4) (FD J) W)
 {a:Act} {W:ek} (h0:D3 V bl bs sb B nn kf Ls q ((Ls.getD q []).length+1) a W):(Code.loop ld3).wp prog Q a W:=by
 refine Mk.aM (λm a W=>D3 V bl bs sb B nn kf Ls q m a W) ((Ls.getD q []).length+1) h0 ?_ ?_
 ·rintro a W ⟨J,i,-,-,-,-,-,-,-,-,-,h1,h2,-⟩;omega
 rintro m a0 W ⟨J,i,rfl,j4,j5,gN,h_,sW,xJ,mE,pf,hi,hm,HW⟩;unfold FD
 conv=>arg 2;whnf
 rw[j4,j5,gN,h_,sW,xJ,mE,pf];clear j4 j5 gN h_ sW xJ mE pf;have oz:=Z (HD.o.aG HW.o.1);obtain⟨xa,ya,ua,la,va,wa,lc,wc,rfl,rfl,c1,c2,-,-,l1,l2,Ex,iJ⟩:=oz.o.at_ hq;have HC:=Z iJ;clear iJ;have k0:=oz.o.kl.c1;have lb:=oz.o.kl.lt;have zQ:0<=(q:Int):=G;have Aw:(q:Int)<(Ls.length:Int):=G;by_cases be:i<(Ls.getD q []).length
 ·obtain⟨xl,xw,rfl,rfl,d1,d2⟩:=HC.o i be;have w2:IntKind.i64.wrap ((i:Int)+1)=((i+1:Nat):Int):=by unfold maxLen at Ex;rw[bJ _ kS];omega
  obtain⟨f1,f2,f3,f4⟩:=HL.o.fresh hq be;have f5:=aaa HL.o hq be;have w3:IntKind.i64.wrap (((ci Ls q i).length:Int)+1)=(((ci Ls q i).length+1:Nat):Int):=by rw[bJ _ kS];omega
  obtain⟨-,bC,f,cn,yo,SY,T4⟩:=HW.o;have s0:Xf W (I sb ((Ls.getD q []).getD i 0))=O (.bool false):=by have:=bC.cell (o:=(Ls.getD q []).getD i 0) G;rwa[decide_eq_false f1]at this
  have ls:=(gW bC sb rfl).2;have fz:=Row.frozen bC ((Ls.getD q []).getD i 0);have Jl:=Z (show aC [sb] W (W.setCell (I sb ((Ls.getD q []).getD i 0)) (.bool true))from(aC.refl [sb] W).setCell az _);have Em:=Z (bC.set (o:=(Ls.getD q []).getD i 0) G (.bool true));have xT:=Z (show NQ (W.setCell (I sb ((Ls.getD q []).getD i 0)) (.bool true)) B f cn from mS.mD yo (Jl.o.block _ (mS.lt yo) (by simpa using Ne.symm bt)));have Bj:=oz.o.aG (Jl.o.mono az);have y0:(W.setCell (I sb ((Ls.getD q []).getD i 0)) (.bool true)).cell? (I bs 0)=O (H (O (I ya 0)) Ls.length qc):=Bj.ks.cell 0;have lbs:=Bj.ks.lt;obtain⟨xa1,ya1,-,la1,-,wa1,lc1,wc1,e1,e2,-,y1,-,-,-,l3,-,R4⟩:=Bj.at_ hq;obtain rfl:ya1=ya:=by simpa using e2.symm
  obtain⟨xl1,xw1,-,rfl,-,y2⟩:=R4 i be;have l4:=ay y2;clear R4 Bj e1 e2;have HFD:=Z T4;have HKX:=Z (HK.o _ f3);have af:=Z (show∀m,m∈ci Ls q i->kf m≠kf ((Ls.getD q []).getD i 0)from λm hm e=>f1 (by rw[<-HL.o.inj _ _ (f4 m hm) f3 e];exact hm));have l_:=Z (qJ (Ls:=Ls) be);have dm:=Z be;have Ot:=Z f2;have tR:=Z HW.o.1;have HCN:=Z SY;have PH:=Z f5;clear bC yo T4 f1 f3 f4 HC SY;generalize(Ls.getD q []).getD i 0=x at*;generalize ci Ls q i=D at*;generalize xY:(Ls.getD q []).length=nq at*;have Hv:=Z xY;clear xY;have Lt:decide ((x:Int)<0)=false:=decide_eq_false G;have wo:decide ((nn:Int)<=(x:Int))=false:=decide_eq_false G;have IC:0<=(x:Int):=G;have hx4:(x:Int)<(nn:Int):=G;have mU:0<=(i:Int):=G;have sT:(i:Int)<(nq:Int):=G;have hz3:(i:Int).toNat=i:=G;have hz4:(x:Int).toNat=x:=G;have lxl:=ay d1;clear f2 f5 d2 c2 l2 Ex;go_wp2_with (refine aae _ rfl _ _ _ _ rfl JO B cn f rfl (mS.mD xT.o rfl) (by have:=HCN.o;have:=PH.o;unfold maxLen;omega) (kf x) x rfl rfl (D_ HKX.o) (aad (by have:=Ot.o;omega)) (λw' r1 r2 r3=>?_));rename_i w' r1 r2 r3;have um:=Z (show _/\_ from⟨r1,r2⟩);clear r1 r2 r3 y0 y1 y2 lbs l3 l4 fz s0;go_wp2;refine⟨_,i+1,FD.of _ rfl,rfl,rfl,rfl,rfl,rfl,?_,rfl,?_,by rw[Hv.o];exact dm.o,by rw[Hv.o];omega,?_⟩
  ·rw[l_.o];refine bo (Value.int .i64) ?_;simp
  ·first|rfl|exact bo (Value.int .i64) (show(i:Int)+1=((i+1:Nat):Int)by omega)
  ·rw[l_.o];exact Z (SM.put bt tR.o Jl.o Em.o um.o.1 um.o.2 HCN.o HFD.o af.o)
 ·obtain rfl:i=(Ls.getD q []).length:=G;have HS:=Z HW.o;clear be HC;generalize xY:(Ls.getD q []).length=nq at*;clear Ex xY;go_wp2;exact Eq.mpr (bo (λa=>Q (.exit 4) a W) (FD.of _ rfl)) (dD (λk=>Array.getD _ k undef) W rfl rfl rfl rfl rfl rfl rfl HS.o)
def D2(V:ek)(bl bs sb B nn:Nat)(kf:Nat->Nat)(Ls:List (List Nat))(m:Nat)(a:Act)(W:ek):Prop:=∃(J:Nat->to) (q:Nat),a=FD J/\J 4=Oi bl/\J 5=Oi bs/\J 10=Y nn/\J 12=H (O (I sb 0)) nn nn/\J 13= .map (O B)/\J 14=Y (ci Ls q 0).length/\J 15=Y q/\q<=Ls.length/\m+q=Ls.length+1/\Hid (SM V W sb B nn kf (ci Ls q 0))
def aa1(HD:Hid (LD V [sb,B] bl bs aa ba ca da qa ac bc cc dc qc vv Ls Fr L kf lo h1 h2 hi hj lv lw tw Qs))(HL:Hid (lO Ls Fr L kf nn))(HK:Hid (∀m,m∈Ls.flatten->kf m<18446744073709551616))(hn:nn<=4194304)(bt:sb≠B)(pE:Ls.length<=16)
 (dD:∀(J:Nat->to) W,J 4=Oi bl->J 5=Oi bs->J 10=Y nn->J 12=H (O (I sb 0)) nn nn->J 13= .map (O B)->J 14=Y Ls.flatten.length->SM V W sb B nn kf Ls.flatten->Q (.exit 2) (FD J) W)
 {a:Act} {W:ek} (h0:D2 V bl bs sb B nn kf Ls (Ls.length+1) a W):(Code.loop ld2).wp prog Q a W:=by
 refine Mk.aM (λm a W=>D2 V bl bs sb B nn kf Ls m a W) (Ls.length+1) h0 ?_ ?_
 ·exact SD
 rintro m a0 W ⟨J,q,rfl,j4,j5,gN,h_,sW,xJ,mE,hi,hm,HW⟩;unfold FD
 conv=>arg 2;whnf
 rw[j4,j5,gN,h_,sW,xJ,mE];clear j4 j5 gN h_ sW xJ mE;have oz:=Z (HD.o.aG HW.o.1);have k0:=oz.o.kl.c1;have lb:=oz.o.kl.lt;by_cases be:q<Ls.length
 ·have w2:=mr q G;have m0:=oz.o.ks.c1;have lbs:=oz.o.ks.lt;obtain⟨xa,ya,ua,la,va,wa,lc,wc,rfl,rfl,c1,c2,-,-,l1,l2,Ex,-⟩:=oz.o.at_ be;have zQ:0<=(q:Int):=G;have Aw:(q:Int)<(Ls.length:Int):=G;have dm:=Z be;have zq:=Z (Ah be);go_wp2;go_quiet (fail);go_wp2_with fail;refine ac9 HD HL HK hn bt be (λJ W1 j4 j5 gN h_ sW xJ mE En=>?_) ⟨_,0,FD.of _ rfl,rfl,rfl,rfl,rfl,rfl,rfl,rfl,rfl,ck _,G,Z (by first|exact HW.o|exact HW.o.drewN _)⟩;simp only[Exit.inBlock,Exit.then]
  apply_assumption
  have yp:=Z En;clear En k0 lb m0 lbs c1 c2 l1 l2;have HJ:=Z xJ;clear xJ;unfold FD;rw[j4,j5,gN,h_,sW,mE];clear j4 j5 gN h_ sW mE;go_wp2;refine⟨_,q+1,FD.of _ rfl,rfl,rfl,rfl,rfl,rfl,?_,?_,dm.o,G,?_⟩
  ·rw[<-zq.o,<-HJ.o];rfl
  ·first|rfl|exact bo (Value.int .i64) (show(q:Int)+1=((q+1:Nat):Int)by omega)
  ·rw[<-zq.o];exact yp
 ·obtain rfl:q=Ls.length:=G;have HS:=Z HW.o;clear be;rw[sK]at HS;rw[sK];have HO:=Z dD;clear dD;generalize hfl:Ls.flatten.length=fl at*;clear hfl;go_wp2;exact Eq.mpr (bo (λa=>Q (.exit 2) a W) (FD.of _ rfl)) (HO.o (λk=>Array.getD _ k undef) W rfl rfl rfl rfl rfl rfl HS.o)
def SE(V W:ek)(sb B nn:Nat)(kf:Nat->Nat)(D E:List Nat):Prop:=aC [sb,B] V W/\Row W 4 1 (H (O (I sb 0)) nn nn) nn (λj=> .bool (decide (j∈D++E)))/\∃f c,NQ W B f c/\∀m,m∈D->f (kf m)=O (m:Int)
def SM.ac8{W:ek}{D:List Nat}(h:SM V W sb B nn kf D):SE V W sb B nn kf D []:=⟨h.1,h.2.1.congr λj _=>by simp,by obtain⟨f,c,h1,-,h2⟩:=h.2.2;exact⟨f,c,h1,h2⟩⟩
def SE.put{W:ek}{D E:List Nat}{x:Nat}(bt:sb≠B)(h:SE V W sb B nn kf D E)(hx:x<nn):SE V (W.setCell (I sb x) (.bool true)) sb B nn kf D (E++[x]):=by
 obtain⟨h1,h2,f,c,h3,h4⟩:=h;have hf:aC [sb] W (W.setCell (I sb x) (.bool true)):=(aC.refl [sb] W).setCell az _;refine⟨h1.trans (hf.mono az),(h2.set (o:=x) G (.bool true)).congr λj _=>?_,f,c,mS.mD h3 (hf.block _ (mS.lt h3) (by simpa using Ne.symm bt)),h4⟩;by_cases e:j=x
 ·rw[aE e];simp[e]
 ·rw[ax e];simp[e]
def D4(V:ek)(bl bs sb B nn k:Nat)(kf:Nat->Nat)(D:List Nat)(Fr:List Nat)(m:Nat)(a:Act)(W:ek):Prop:=∃(J:Nat->to) (i:Nat),a=FD J/\J 4=Oi bl/\J 5=Oi bs/\J 10=Y nn/\J 12=H (O (I sb 0)) nn nn/\J 13= .map (O B)/\J 14=Y k/\J 18=Y i/\i<=Fr.length/\m+i=Fr.length+1/\Hid (SE V W sb B nn kf D (Fr.take i))
def ac7{k:Nat}(HD:Hid (LD V [sb,B] bl bs aa ba ca da qa ac bc cc dc qc vv Ls Fr L kf lo h1 h2 hi hj lv lw tw Qs))(HL:Hid (lO Ls Fr L kf nn))(hn:nn<=4194304)(bt:sb≠B)
 (dD:∀(J:Nat->to) W,J 4=Oi bl->J 5=Oi bs->J 10=Y nn->J 12=H (O (I sb 0)) nn nn->J 13= .map (O B)->J 14=Y k->SE V W sb B nn kf Ls.flatten Fr->Q (.exit 6) (FD J) W)
 {a:Act} {W:ek} (h0:D4 V bl bs sb B nn k kf Ls.flatten Fr (Fr.length+1) a W):(Code.loop ld4).wp prog Q a W:=by
 refine Mk.aM (λm a W=>D4 V bl bs sb B nn k kf Ls.flatten Fr m a W) (Fr.length+1) h0 ?_ ?_
 ·exact SD
 rintro m a0 W ⟨J,i,rfl,j4,j5,gN,h_,sW,xJ,j18,hi,hm,HW⟩;unfold FD
 conv=>arg 2;whnf
 rw[j4,j5,gN,h_,sW,xJ,j18];clear j4 j5 gN h_ sW xJ j18;have oz:=Z (HD.o.aG HW.o.1);have k1:Xf W (I bl 1)=O (H ba Fr.length bc):=oz.o.kl.cell 1;have lb:=oz.o.kl.lt;by_cases be:i<Fr.length
 ·have uA:Row W 3 1 (H ba Fr.length bc) (jm Fr).length (bd (jm Fr)):=oz.o.la.fr.row;rw[gB]at uA;obtain⟨fb,fc,e,f1,f2,lf⟩:=uA.some G;simp only[cL]at e;obtain⟨rfl,-,rfl⟩:=e;have c1:Xf W (I fb i)=O (Y (Fr.getD i 0:Nat)):=by have:=uA.cell (o:=i) G;unfold bd at this;rwa[sJ]at this
  have w2:IntKind.i64.wrap ((i:Int)+1)=((i+1:Nat):Int):=by unfold maxLen at f2;rw[bJ _ kS];omega
  have w3:IntKind.i64.wrap ((i:Int) - 1)=(i:Int) - 1:=by unfold maxLen at f2;rw[bJ _ kS]
  obtain⟨g1,g2,g3⟩:=HL.o.free be;have bC:=HW.o.2.1;have s0:Xf W (I sb (Fr.getD i 0))=O (.bool false):=by have:=bC.cell (o:=Fr.getD i 0) G;rwa[decide_eq_false g1]at this
  have fz:=Row.frozen bC (Fr.getD i 0);have ls:=(gW bC sb rfl).2;have HSE:=Z (HW.o.put bt g2);have KL:=Z (show Fr.take (i+1)=Fr.take i++[Fr.getD i 0]by rw[List.take_add_one,dQ,ft be];rfl);have dm:=Z be;have mU:0<=(i:Int):=G;have sT:(i:Int)<(Fr.length:Int):=G;have hz3:(i:Int).toNat=i:=G;have Ot:=Z g2;by_cases OD:i=0
  ·subst OD;clear g1 g2 g3 uA bC f1 f2;generalize Fr.getD 0 0=x at*;have IC:0<=(x:Int):=G;have hx4:(x:Int)<(nn:Int):=by have:=Ot.o;omega
   have hz4:(x:Int).toNat=x:=G;go_wp2;refine⟨_,0+1,FD.of _ rfl,rfl,rfl,rfl,rfl,rfl,rfl,?_,dm.o,G,?_⟩
   ·rfl
   ·rw[KL.o];exact HSE
  ·have c2:Xf W (I fb (i-1))=O (Y (Fr.getD (i-1) 0:Nat)):=by have:=uA.cell (o:=i-1) G;unfold bd at this;rwa[sJ]at this
   have g4:=g3 G;have hgt:(0:Int)<(i:Int):=G;have hz5:0<=(i:Int) - 1:=G;have hz6:(i:Int) - 1<(Fr.length:Int):=G;have hz7:((i:Int) - 1).toNat=i-1:=G;clear g1 g2 g3 uA bC f1 f2;generalize Fr.getD i 0=x at*;generalize Fr.getD (i-1) 0=y at*;have IC:0<=(x:Int):=G;have hx4:(x:Int)<(nn:Int):=by have:=Ot.o;omega
   have hz4:(x:Int).toNat=x:=G;go_wp2;refine⟨_,i+1,FD.of _ rfl,rfl,rfl,rfl,rfl,rfl,rfl,?_,dm.o,G,?_⟩
   ·first|rfl|exact bo (Value.int .i64) (show(i:Int)+1=((i+1:Nat):Int)by omega)
   ·rw[KL.o];exact HSE
 ·obtain rfl:i=Fr.length:=G;have HS:=Z HW.o;rw[List.take_length]at HS;clear be;go_wp2;exact Eq.mpr (bo (λa=>Q (.exit 6) a W) (FD.of _ rfl)) (dD (λk=>Array.getD _ k undef) W rfl rfl rfl rfl rfl rfl HS.o)
def AH(w:ek)(a:Option Addr)(n:Nat):Prop:=
 n<=maxLen/\∀i,i<n->∃b off,a=O (I b off)/\∃(kind:Int) (key:Nat),key<18446744073709551616/\Xf w (I b (off+i*2))=O (Y kind)/\Xf w (I b (off+i*2+1))=O (.int .u64 key)
def AH.later{w w':ek}{a:Option Addr}{n:Nat}(h:AH w a n)(X:Below w.heap.size w w'):AH w' a n:=by refine⟨h.1,λi hi=>?_⟩;obtain⟨b,off,e,kind,key,hk,h1,h2⟩:=h.2 i hi;exact⟨b,off,e,kind,key,hk,(aR (X.block _ (ay h1))).trans h1,(aR (X.block _ (ay h2))).trans h2⟩
variable {w w':ek}{C:Co}{p:aU}{c:Cp}{s:St}{t:fG}{used:Int}
variable {sa:Option Addr}{sn sc mb:Nat}
end
open Vf (pA rm)
section
variable {V:ek}{Q:Exit->Act->ek->Prop}{bl bs sb B nn:Nat}{aa ba ca da qa:Option Addr}{ac bc cc dc qc:Nat}{vv:to}{Ls:List (List Nat)}{Fr:List Nat}{L:List (Nat×Nat)}{kf:Nat->Nat}{lo h1 h2 hi hj:Nat}{lv lw:Nat->to}{tw:Nat->Nat->to}{Qs:List (List PE)}
def D5(V:ek)(bl B nn k:Nat)(n:Nat)(m:Nat)(a:Act)(W:ek):Prop:=∃(J:Nat->to) (i:Nat),a=FD J/\J 4=Oi bl/\J 10=Y nn/\J 13= .map (O B)/\J 14=Y k/\J 20=Y i/\i<=n/\m+i=n+1/\Hid (∃d,W=V.drewN d)
def ac4{k:Nat}{f:Int->Option Int}{cn:Nat}(HD:Hid (LD V [sb,B] bl bs aa ba ca da qa ac bc cc dc qc vv Ls Fr L kf lo h1 h2 hi hj lv lw tw Qs))(HL:Hid (lO Ls Fr L kf nn))(HM:Hid (NQ V B f cn))(HF:Hid (∀m,m∈Ls.flatten->f (kf m)=O (m:Int)))(HK:Hid (∀m,m∈Ls.flatten->kf m<18446744073709551616))(hn:nn<=4194304)
 (dD:∀(J:Nat->to) W,J 4=Oi bl->J 10=Y nn->J 13= .map (O B)->J 14=Y k->(∃d,W=V.drewN d)->Q (.exit 8) (FD J) W)
 {a:Act} {W:ek} (h0:D5 V bl B nn k L.length (L.length+1) a W):(Code.loop ld5).wp prog Q a W:=by
 refine Mk.aM (λm a W=>D5 V bl B nn k L.length m a W) (L.length+1) h0 ?_ ?_
 ·exact AZ
 rintro m a0 W ⟨J,i,rfl,j4,gN,sW,xJ,tD,hi,hm,HW⟩;obtain⟨d,rfl⟩:=HW.o;unfold FD
 conv=>arg 2;whnf
 rw[j4,gN,sW,xJ,tD];clear j4 gN sW xJ tD;have k2:Xf V (I bl 2)=O (H ca L.length cc):=HD.o.kl.cell 2;have lb:=HD.o.kl.lt;by_cases be:i<L.length
 ·have k3:Xf V (I bl 3)=O (H da L.length dc):=HD.o.kl.cell 3;have Hw:Row V 46 1 (H ca L.length cc) (L.map (·.1)).length (ni (L.map (·.1))):=HD.o.la.ks.row;have Xv:Row V 3 1 (H da L.length dc) (jm (L.map (·.2))).length (bd (jm (L.map (·.2)))):=HD.o.la.ns.row;rw[List.length_map]at Hw;rw[gB,List.length_map]at Xv;obtain⟨xa,xc,ea,f1,f2,la⟩:=Hw.some G;obtain⟨ya,yc,eb,-,-,lb'⟩:=Xv.some G;simp only[cL]at ea eb;obtain⟨rfl,-,rfl⟩:=ea;obtain⟨rfl,-,rfl⟩:=eb;have q0:Xf V (I xa i)=O (.int .u64 ((L.map (·.1)).getD i 0:Nat)):=Hw.cell (o:=i) G;have q1:Xf V (I ya i)=O (Y ((L.map (·.2)).getD i 0:Nat)):=by have:=Xv.cell (o:=i) G;unfold bd at this;rwa[sJ]at this
  have w2:IntKind.i64.wrap ((i:Int)+1)=((i+1:Nat):Int):=by unfold maxLen at f2;rw[bJ _ kS];omega
  have w3:IntKind.i64.wrap ((i:Int) - 1)=(i:Int) - 1:=by unfold maxLen at f2;rw[bJ _ kS]
  obtain⟨g1,g2⟩:=HL.o.mem _ _ (ab5 be);have HFN:=Z (show f (((L.map (·.1)).getD i 0:Nat):Int)=O (((L.map (·.2)).getD i 0:Nat):Int)by rw[<-g2];exact HF.o _ g1);have xW:=Z (show(L.map (·.1)).getD i 0<18446744073709551616 by rw[<-g2];exact HK.o _ g1);have dm:=Z be;have mU:0<=(i:Int):=G;have sT:(i:Int)<(L.length:Int):=G;have hz3:(i:Int).toNat=i:=G;by_cases OD:i=0
  ·subst OD;clear g1 g2 Hw Xv f1 f2;generalize(L.map (·.1)).getD 0 0=kx at*;generalize(L.map (·.2)).getD 0 0=nx at*;go_wp2_with (at_lookup;refine lC _ rfl _ _ _ rfl JO B cn f rfl (mS.mD HM.o rfl) _ rfl (D_ xW.o) _ HFN.o ?_);go_quiet (fail);go_wp2;refine⟨_,0+1,FD.of _ rfl,rfl,rfl,rfl,rfl,?_,dm.o,G,Z ⟨_,by first|rfl|rw[wZ]⟩⟩;rfl
  ·have q2:Xf V (I xa (i-1))=O (.int .u64 ((L.map (·.1)).getD (i-1) 0:Nat)):=Hw.cell (o:=i-1) G;have g4:=HL.o.keys G be;have hgt:0<i:=G;have KH:decide (0<i)=true:=ti hgt;have agw:decide ((0:Int)<(i:Int))=true:=ti G;have hz5:0<=(i:Int) - 1:=G;have hz6:(i:Int) - 1<(L.length:Int):=G;have hz7:((i:Int) - 1).toNat=i-1:=G;clear g1 g2 Hw Xv f1 f2;generalize(L.map (·.1)).getD i 0=kx at*;generalize(L.map (·.1)).getD (i-1) 0=ky at*;generalize(L.map (·.2)).getD i 0=nx at*;go_wp2_with (at_lookup;refine lC _ rfl _ _ _ rfl JO B cn f rfl (mS.mD HM.o rfl) _ rfl (D_ xW.o) _ HFN.o ?_);go_quiet (fail);go_wp2;refine⟨_,i+1,FD.of _ rfl,rfl,rfl,rfl,rfl,?_,dm.o,G,Z ⟨_,by first|rfl|rw[wZ]⟩⟩
   first|rfl|exact bo (Value.int .i64) (show(i:Int)+1=((i+1:Nat):Int)by omega)
 ·obtain rfl:i=L.length:=G;clear be;go_wp2;exact Eq.mpr (bo (λa=>Q (.exit 8) a (V.drewN d)) (FD.of _ rfl)) (dD (λk=>Array.getD _ k undef) _ rfl rfl rfl rfl ⟨d,rfl⟩)
end
section
variable {w:ek}{p:aU}{c:Cp}{gv zv a b c1 d qv vv:to}{Ls:List (List Nat)}{Fr:List Nat}{L:List (Nat×Nat)}{kf:Nat->Nat}{h1 h2 hi hj:Nat}{lv lw:Nat->to}{tw:Nat->Nat->to}{Qs:List (List PE)}
def DA9(bl bs R a0e:Nat)(W0:ek)(a:Act)(V:ek):Prop:=V=W0/\∃J:Nat->to,a=FD J/\J 4=Oi bl/\J 5=Oi bs/\J 9=Y R/\J 10=Y a0e
def Jr{p:Prop}(h:p:=by
 have HE9:=Z e9;clear e9 hR9;go_wp2;exact⟨rfl,_,FD.of _ rfl,rfl,rfl,HE9.o,rfl⟩):p:=h
def aa2(hg:Vf.aY w 1 gv p.ap.length (λi=> .bool (p.ap.getD i false)))(hz:Vf.aY w 1 zv c.aF.length (bd c.aF))(hC:pn p c)(Ad:p.ap.length<=16)
 (hl:nj w 0 h1 h2 hi a b c1 d ⟨Ls,Fr,L.map (·.1),jm (L.map (·.2))⟩ lv) (hq:oK w 0 hj qv Qs lw tw) (hhi:hi<=w.heap.size) (hhj:hj<=w.heap.size) (HL:Hid (lO Ls Fr L kf (dE (aB p c)))) (U_:dE (aB p c)<=4194304)
 (HK:Hid (∀m,m∈Ls.flatten->kf m<18446744073709551616)) (pE:Ls.length<=16) (ql:Qs.length=Ls.length) (qn:∀q,q<Ls.length->(Qs.getD q []).length=(Ls.getD q []).length) (qk:∀q i,q<Ls.length->i<(Ls.getD q []).length->((Qs.getD q []).getD i ⟨0,[]⟩).key=kf ((Ls.getD q []).getD i 0)):
 Calls prog 25 #[.agg #[a,b,c1,d],.agg #[qv,vv],gv,Vf.cV c zv] w (λe w'=>e=Xc (.bool true)/\Below w.heap.size w w'):=by
 have l1:Row w 24 1 a Ls.length lv:=hl.ls.row;have l2:Row w 3 1 b (jm Fr).length (bd (jm Fr)):=hl.fr.row;have l3:Row w 46 1 c1 (L.map (·.1)).length (ni (L.map (·.1))):=hl.ks.row;have l4:Row w 3 1 d (jm (L.map (·.2))).length (bd (jm (L.map (·.2)))):=hl.ns.row;have l5:=hq.row;rw[gB]at l2;rw[List.length_map]at l3;rw[gB,List.length_map]at l4;rw[ql]at l5;obtain⟨aa,ac,rfl,-,-⟩:=fW l1;obtain⟨ba,bc,rfl,-,-⟩:=fW l2;obtain⟨ca,cc,rfl,-,-⟩:=fW l3;obtain⟨da,dc,rfl,-,-⟩:=fW l4;obtain⟨qa,qc,rfl,-,-⟩:=fW l5;obtain⟨za,zc,rfl,-,-⟩:=hz.val;clear l1 l2 l3 l4 l5;obtain⟨W0,jM⟩:∃W0,W0=((w.alloc (Xe #[H aa Ls.length ac,H ba Fr.length bc,H ca L.length cc,H da L.length dc] 52)).alloc (Xe #[H qa Ls.length qc,vv] 56)).alloc (Xe #[Y c.size,H za c.aF.length zc] 29):=⟨_,rfl⟩;have qt:W0.heap.size=w.heap.size+3:=by rw[jM];simp
 have dG:Below w.heap.size w W0:=by rw[jM];exact(((aZ _ _).alloc (aL _) _).alloc az _).alloc kZ _
 have kl:aH W0 w.heap.size 52 #[H aa Ls.length ac,H ba Fr.length bc,H ca L.length cc,H da L.length dc]:=by rw[jM];exact((aH.new _ _ _).alloc _).alloc _
 have ks:aH W0 (w.heap.size+1) 56 #[H qa Ls.length qc,vv]:=by rw[jM];exact(aH.bK az).alloc _
 have kc:aH W0 (w.heap.size+2) 29 #[Y c.size,H za c.aF.length zc]:=by rw[jM];exact aH.bK az
 have HG:=Z (hg.aG (aC.ai dG));have HZ:=Z (hz.aG (aC.ai dG));have HX:=Z (show _/\_/\_ from⟨kl,ks,kc⟩);have HY:=Z (show _/\_ from⟨hl.off (aC.ai (S:=[]) dG) (kD.nil _ _ _ _),hq.off (aC.ai (S:=[]) dG) (kD.nil _ _ _ _)⟩);have fM:=Z (show _/\_ from⟨dG,qt⟩);have HQ:=Z (show _/\_/\_ from⟨ql,qn,qk⟩);have HCP:=Z hC;clear hg hz hl hq dG qt kl ks kc ql qn qk hC;unfold Vf.cV;go_enter func25,ntmps25;go_wp2_with fail;rw[<-jM];clear jM;refine aaZ HG.o HZ.o HX.o.2.2 HCP.o Ad (λJ j4 j5 j7 j9 gN=>?_) ⟨_,0,FD.of _ rfl,rfl,rfl,rfl,rfl,rfl,rfl,rfl,ck _,G,rfl⟩;simp only[Exit.inBlock,Exit.then]
 apply_assumption
 obtain⟨r1,r2⟩:=LC HCP.o Ad (aL _);have nB:=HCP.o.s1;have afU:=HCP.o.s2;have iE:dE (aB p c)=min (pA p c p.ap.length) c.size.toNat+rm p c p.ap.length:=Vf.GH p c;have k0:=HX.o.2.2.c1;have lk:=HX.o.2.2.lt;generalize dE (aB p c)=nn at*;generalize pA p c p.ap.length=R at*;generalize rm p c p.ap.length=a0e at*;have Ot:=Z iE;have fR:=Z (show _/\_/\_ from⟨r1,r2,U_⟩);have xN:= @run_makeMap prog;have QG:=Z (show 1*nn<=281474976710656/\nn<=maxLen by unfold maxLen;omega);obtain⟨R9,hR9⟩:∃R9,R9=min R c.size.toNat:=⟨_,rfl⟩;have Og:=Z hR9;refine wp_seq ?_;refine wp_mono (Q:=λe a V=>e=Exit.normal/\DA9 w.heap.size (w.heap.size+1) R9 a0e W0 a V) ?_ ?_
 ·unfold FD;rw[j4,j5,j7,j9,gN];clear j4 j5 j7 j9 gN iE;by_cases hgt:c.size<(R:Int)
  ·have e9:Y c.size=Y (R9:Nat):=bo _ G;exact Jr
  ·have e9:Y (R:Nat)=Y (R9:Nat):=bo _ G;exact Jr
 clear j4 j5 j7 j9 gN iE hR9 k0 lk nB afU;rintro e a V ⟨rfl,rfl,J,rfl,j4,j5,j9,gN⟩;simp only[Exit.then];have w9:IntKind.i64.wrap ((a0e:Int)+(R9:Int))=(nn:Int):=by have:=Ot.o;have:=Og.o;rw[bJ _ kS];omega
 clear r1 r2 U_;unfold FD;rw[j4,j5,j9,gN];clear j4 j5 j9 gN;go_wp2_with (refine jU rfl (.tmp 56) (.tmp 56) 22 rfl 4 underlying22 Vf.ud rfl .i64 .i64 _ _ nn rfl rfl rfl rfl QG.o.1 QG.o.2 ?_);intro W1 Bd fS;obtain⟨V1,LF⟩:∃V1,V1=W1.alloc (.map #[] 0):=⟨_,rfl⟩;have DP:V.heap.size<W1.heap.size:=(gW Bd V.heap.size rfl).2;have T5:Below V.heap.size V V1:=by rw[LF];exact fS.alloc fS.size _
 have hf:=aC.ai (S:=[]) T5;have YM:=Z (show LD V1 [V.heap.size,W1.heap.size] w.heap.size (w.heap.size+1) aa ba ca da qa ac bc cc dc qc vv Ls Fr L kf 0 h1 h2 hi hj lv lw tw Qs from
  ⟨HX.o.1.aG hf az,HX.o.2.1.aG hf az,HY.o.1.off hf (kD.nil _ _ _ _),HY.o.2.off hf (kD.nil _ _ _ _),HQ.o.1,HQ.o.2.1,HQ.o.2.2,λx hx=>by
    have:=fM.o.2;simp only[ep,List.not_mem_nil,or_false]at hx;rcases hx with rfl|rfl
    ·refine⟨?_,?_,?_,?_⟩<;>omega
    ·refine⟨?_,?_,?_,?_⟩<;>omega⟩)
 have HMM:=Z (show NQ V1 W1.heap.size (λ_=>Xb) 0 by rw[LF];exact mS.made (P:=prog) (k:=46) (e:=3) (qk:= .u64) (qe:= .i64) W1);have HRR:=Z (show Row V1 4 1 (H (O (I V.heap.size 0)) nn nn) nn (λj=> .bool (decide (j∈ci Ls 0 0)))by
  refine(Bd.aG ((aC.refl [] W1).alloc (.map #[] 0)) az).congr ?_ |> λh=>LF▸h;intro j _;simp[ci])
 have Ey:=Z (show _/\_ from⟨(fM.o.1.trans (T5.mono fM.o.1.size)),DP⟩);have k0:(W1.alloc (.map #[] 0)).cell? (I w.heap.size 0)=O (H aa Ls.length ac):=by rw[<-LF];exact YM.o.kl.cell 0
 have k2:(W1.alloc (.map #[] 0)).cell? (I w.heap.size 2)=O (H ca L.length cc):=by rw[<-LF];exact YM.o.kl.cell 2
 have k3:(W1.alloc (.map #[] 0)).cell? (I w.heap.size 3)=O (H da L.length dc):=by rw[<-LF];exact YM.o.kl.cell 3
 have m0:(W1.alloc (.map #[] 0)).cell? (I (w.heap.size+1) 0)=O (H qa Ls.length qc):=by rw[<-LF];exact YM.o.ks.cell 0
 have lk:w.heap.size+1<W1.heap.size:=by have:=fM.o.2;omega
 clear Bd fS T5 hf DP;go_wp2_with fail;rw[<-LF];clear LF xN;generalize V.heap.size=sb at*;generalize W1.heap.size=B at*;clear k0 k2 k3 m0 lk w9;have af:=Z (show sb≠B by have:=Ey.o.2;omega);refine aa1 YM HL HK fR.o.2.2 af.o pE (λJ W2 j4 j5 gN h_ sW xJ En=>?_) ⟨_,0,FD.of _ rfl,rfl,rfl,rfl,rfl,rfl,rfl,rfl,ck _,G,Z ⟨aC.refl _ _,HRR.o,_,_,HMM.o,ck _,λm hm=>by simp[ci]at hm⟩⟩;simp only[Exit.inBlock,Exit.then]
 apply_assumption
 have yp:=Z En;clear En;generalize hfl:Ls.flatten.length=fl at*;have HFL:=Z hfl;clear hfl;unfold FD;rw[j4,j5,gN,h_,sW,xJ];clear j4 j5 gN h_ sW xJ;go_wp2_with fail;refine ac7 YM HL fR.o.2.2 af.o (λJ W3 j4 j5 gN h_ sW xJ hse=>?_) ⟨_,0,FD.of _ rfl,rfl,rfl,rfl,rfl,rfl,rfl,rfl,ck _,G,Z yp.o.ac8⟩;simp only[Exit.inBlock,Exit.then]
 apply_assumption
 have HSE:=Z hse;clear hse;unfold FD;rw[j4,gN,sW,xJ];clear j4 j5 gN h_ sW xJ;go_wp2_with fail;obtain⟨f3,h3,f,cn,hm3,Ew⟩:=HSE.o;have NA:=Z (YM.o.aG f3);have Iw:=Z f3;clear f3 h3;refine ac4 NA HL (Z hm3) (Z Ew) HK fR.o.2.2 (λJ W4 j4 gN sW xJ hd=>?_) ⟨_,0,FD.of _ rfl,rfl,rfl,rfl,rfl,rfl,ck _,G,Z ⟨0,rfl⟩⟩;obtain⟨dd,rfl⟩:=hd;simp only[Exit.inBlock,Exit.then]
 apply_assumption
 obtain⟨-,k1,k2⟩:=NA.o.kl.c3;have lk:=NA.o.kl.lt;have Tk:=Z (show fl=L.length/\fl+Fr.length=nn from⟨by rw[<-HFL.o];exact HL.o.len.symm,by rw[<-HFL.o];exact HL.o.Ki⟩);have oJ:=Z (show Below w.heap.size w (W3.drewN dd)from(Ey.o.1.trans (Iw.o.below (B:=w.heap.size) Ey.o.1.size (λb X=>by
  have h1:=(YM.o.t b X);have h2:=fM.o.2;have h3:=Ey.o.2;simp only[ep,List.not_mem_nil,or_false]at X;omega))).trans (aA _ _ dd))
 obtain rfl:=Tk.o.1;have e2:=Tk.o.2;have w8:IntKind.i64.wrap ((L.length:Int)+(Fr.length:Int))=(nn:Int):=by have:=fR.o.2.2;rw[bJ _ kS];omega
 unfold FD;rw[j4,gN,sW,xJ];clear j4 gN sW xJ e2;go_wp2
 first|refine Vf.eF (P:=prog) (fn:=Proofs.Tryz.f25) rfl ?_|(rw[jO];refine Vf.eF (P:=prog) (fn:=Proofs.Tryz.f25) rfl ?_)
 exact⟨rfl,oJ.o⟩
end
end Go.Ma
namespace Go.Ma
open Go.RowKit al.Vm Go Go.ChangeMaps Go.WideShapes
open al hiding aS aw an
def jh(W:ek)(B:Nat)(P:Nat->Prop)(c:Nat):Prop:=∃D:DataW Unit,W.ownsMap prog 46 (plainElem prog 4) B c D/\∀k:Nat,k<18446744073709551616->∃b,D.atKey (.int .u64 k) (.lit (.bool false))= .lit (.bool b)/\(b=true↔P k)
def acF{P:Program}{e:TypeId}(he:P.underlying e=O .bool){v:to}{z:DataW Unit×List MemPlace}(h:plainElem P e v=O z):∃a,v= .bool a/\z=(.lit (.bool a),[]):=by unfold plainElem at h;rw[he]at h;cases v<;>simp at h;exact⟨_,rfl,h.symm⟩
def GV{k:Nat}(h:k<18446744073709551616):Lz .u64 (k:Int):=by unfold Lz;exact WalkArith.wf_u64 G
def R_:Go.Maps.Keyed prog 46:=Maps.int_keyed (q:= .u64) underlying46
def sN(W:ek):jh (W.alloc (.map #[] 0)) W.heap.size (λ_=>False) 0:=⟨.map [],World.ownsMap_made W _ _ _,λk _=>⟨false,Maps.atKey_of_not_has rfl _,az⟩⟩
def acD(w:ek):(zeroValue 4).run prog w= .ok (.bool false) w:=by kernel_rfl
section
variable {W W':ek}{B c:Nat}{P:Nat->Prop}
def jh.lt(h:jh W B P c):B<W.heap.size:=by obtain⟨D,h,-⟩:=h;exact h.lt
def jh.mD(h:jh W B P c)(X:W'.heap[B]? =W.heap[B]?):jh W' B P c:=by obtain⟨D,⟨es,clock,h1,h2⟩,r⟩:=h;exact⟨D,⟨es,clock,X.trans h1,h2⟩,r⟩
def jh.aG{S:List Nat}(h:jh W B P c)(f:aC S W W')(hs:B∉S):jh W' B P c:=h.mD (f.block _ h.lt hs)
def jh.look(h:jh W B P c){k:Nat}(hk:k<18446744073709551616){b:Bool}(X:b=true↔P k):(Instr.lookup 140 (.map (O B)) (.int .u64 k) false).run prog W= .ok (.bool b) W:=by
 obtain⟨D,h,r⟩:=h;obtain⟨b',Ep,lJ⟩:=r k hk;obtain⟨v,adj,ri,hv⟩:=h.lookup R_ underlying140 (acD W) (plainElem_bool underlying4 false) (Maps.keyOf_int_mk underlying46 (GV hk));rw[Ep]at hv;obtain⟨a,rfl,hz⟩:=acF underlying4 hv;simp only[Prod.mk.injEq,DataW.lit.injEq,Lit.bool.injEq]at hz;rw[ri,<-hz.1];have:b'=b:=by rw[jH,lJ,X]
 rw[this]
def jh.store(h:jh W B P c)(hc:c<maxLen){k:Nat}(hk:k<18446744073709551616)(b:Bool){P':Nat->Prop}(hP:∀j,P' j↔if j=k then b=true else P j):
 ∃W',(Instr.mapUpdate 140 (.map (O B)) (.int .u64 k) (.bool b)).run prog W= .ok () W'/\jh W' B P' (c+1)/\aC [B] W W':=by
 obtain⟨D,h,r⟩:=h;obtain⟨W',ri,h',hg⟩:=h.update R_ underlying140 hc (Maps.keyOf_int_mk underlying46 (GV hk)) (plainElem_bool underlying4 b);refine⟨W',ri,⟨_,h',λj hj=>?_⟩,ej hg⟩;by_cases e:j=k
 ·subst e;exact⟨b,Maps.atKey_put_same h.isMap (isKey _ _) _ _,by rw[hP,aE rfl]⟩
 ·obtain⟨b',h1,h2⟩:=r j hj;have bt:Lit.int .u64 (j:Int)≠.int .u64 (k:Int):=λe'=>e (by simp at e';omega);exact⟨b',(Maps.atKey_put_other bt _ _).trans h1,by rw[hP,ax e];exact h2⟩
def kO{ops:Array Oper}{rest:List Oper}{o:Oper}{a:Act}{Q:Exit->Act->ek->Prop}{w:ek}{B c:Nat}{P:Nat->Prop}(hg:o.guard=Xb)(m x v:Operand)(dO:o.op=Op.mapUpdate 140 m x v)
 (hm:a.eval m= .map (O B)) (h:jh w B P c) (hc:c<maxLen) {k:Nat} (hx:a.eval x= .int .u64 k) (hk:k<18446744073709551616) (b:Bool) (hv:a.eval v= .bool b) {P':Nat->Prop} (hP:∀j,P' j↔if j=k then b=true else P j)
 (hK:∀w',jh w' B P' (c+1)->aC [B] w w'->wpList prog ops Q rest (a.put o.dst undef) w'):wpList prog ops Q (o::rest) a w:=by
 refine wpList_plain hg λK' WN=>?_;obtain⟨w',ri,r1,r2⟩:=h.store hc hk b hP;unfold Oper.wp;simp[execOp,dO,hm,hx,hv,ri,Result.andThen];exact WN _ _ (hK w' r1 r2)
end
end Go.Ma
namespace Go.Ma
open Go.RowKit al.Vm
open al hiding aS aw an
def oK.at_{W:ek}{lo hi n cap:Nat}{qa:Option Addr}{Qs:List (List PE)}{lw:Nat->to}{tw:Nat->Nat->to}(h:oK W lo hi (H qa n cap) Qs lw tw){q:Nat}(hq:q<Qs.length):∃ya wa wc,qa=O (I ya 0)/\Xf W (I ya q)=O (H wa (Qs.getD q []).length wc)/\ya<W.heap.size/\
 (Qs.getD q []).length<=maxLen/\∀i,i<(Qs.getD q []).length->∃xw,wa=O (I xw 0)/\Xf W (I xw (i*2))=O (.int .u64 ((Qs.getD q []).getD i ⟨0,[]⟩).key):=by
 have r2:=h.row;obtain⟨ya,yc,eb,-,-,l2⟩:=r2.some (Nat.lt_of_le_of_lt (ck q) hq);simp only[cL]at eb;obtain⟨rfl,rfl,rfl⟩:=eb;have c2:=r2.cell (o:=q) G;have i2:=(h.q q hq).row;obtain⟨wa,wc,e2,m2,m3⟩:=fW i2;rw[e2]at c2 i2;refine⟨ya,wa,wc,rfl,c2,l2,G,λi hi=>?_⟩;obtain⟨xw,wc',e4,-,-,-⟩:=i2.some G;simp only[cL]at e4;obtain⟨rfl,-,rfl⟩:=e4;have d2:=i2.cell (o:=i*2) G;unfold QT at d2;rw[aE G,show i*2 / 2=i by omega]at d2;exact⟨xw,rfl,d2⟩
def FT(J:Nat->to):Act:={tmps:=#[J 0,J 1,J 2,J 3,J 4,J 5,J 6,J 7,J 8,J 9,J 10,J 11,J 12,J 13,J 14,J 15,J 16,J 17,J 18,J 19,J 20,J 21,J 22,J 23,J 24,J 25,J 26],defers:=[]}
def FT.of(A:Array to)(h:A=(FT λk=>A.getD k undef).tmps):({tmps:=A,defers:=[]}:Act)=FT λk=>A.getD k undef:=by rw[h];rfl
noncomputable def tt1:Code:=Mk.gI Proofs.Tryz.f69.body 0
def T1(W0:ek)(gv:to)(bs a0e:Nat)(gh:Nat->Bool)(Qs:List (List PE))(m:Nat)(a:Act)(W:ek):Prop:=∃(J:Nat->to) (i:Nat),a=FT J/\J 1=gv/\J 2=Oi bs/\J 5=Y (qm gh Qs i:Nat)/\J 6=Y i/\i<=a0e/\m+i=a0e+1/\W=W0
section
variable {W0:ek}{Q:Exit->Act->ek->Prop}{gv vv:to}{bs a0e lo hi qc:Nat}{qa:Option Addr}{gh:Nat->Bool}{Qs:List (List PE)}{lw:Nat->to}{tw:Nat->Nat->to}
def aft(hg:Vf.aY W0 1 gv a0e (λi=> .bool (gh i)))(hq:oK W0 lo hi (H qa Qs.length qc) Qs lw tw)(X:aH W0 bs 56 #[H qa Qs.length qc,vv])(hl:Qs.length=a0e)(hG:a0e<=16)(ht:qm gh Qs a0e<=16777216)
 (dD:∀(J:Nat->to),J 5=Y (qm gh Qs a0e:Nat)->Q (.exit 0) (FT J) W0)
 {a:Act} {W:ek} (h0:T1 W0 gv bs a0e gh Qs (a0e+1) a W):(Code.loop tt1).wp prog Q a W:=by
 obtain⟨ga,gc,rfl,-,-⟩:=hg.val;have Eu:=Z hg;have HQ:=Z hq;clear hg hq;refine Mk.aM (λm a W=>T1 W0 (H ga a0e gc) bs a0e gh Qs m a W) (a0e+1) h0 ?_ ?_
 ·rintro a W ⟨J,i,-,-,-,-,-,h1,h2,-⟩;omega
 rintro m a0 W ⟨J,i,rfl,j1,j2,j5,j6,hi,hm,rfl⟩;unfold FT
 conv=>arg 2;whnf
 rw[j1,j2,j5,j6];clear j1 j2 j5 j6;by_cases be:i<a0e
 ·have w2:=mr i G;obtain⟨ya,wa,wc,rfl,c1,l1,-,-⟩:=HQ.o.at_ (q:=i) G;have k0:=X.c1;have lb:=X.lt;obtain⟨gb,go,gc',e1,-,-,lg,R0⟩:=Eu.o.some G G;simp only[cL]at e1;obtain⟨rfl,-,rfl⟩:=e1;have c0:Xf W (I gb (go+i))=O (.bool (gh i)):=R0 i G;have Al:=Z (show qm gh Qs (i+1)=qm gh Qs i+(if gh i then 0 else(Qs.getD i []).length)from rfl);have hle:=bS (acI (gh:=gh) (Qs:=Qs) (show i+1<=a0e from be)) ht;rw[Al.o]at hle;have dm:=Z be;have zQ:0<=(i:Int):=G;have Aw:(i:Int)<(Qs.length:Int):=G;have AP:(i:Int)<(a0e:Int):=G;have zN:(i:Int).toNat=i:=G;clear R0;generalize qm gh Qs i=R at*;generalize(Qs.getD i []).length=nq at*;cases xx:gh i with
  |true=>
   rw[xx]at c0;have HH:=Z (show qm gh Qs (i+1)=R by rw[Al.o,xx];rfl);clear hle;go_wp2;refine⟨_,i+1,FT.of _ rfl,rfl,rfl,?_,?_,dm.o,G,rfl⟩
   ·rw[HH.o];rfl
   ·first|rfl|exact bo (Value.int .i64) (show(i:Int)+1=((i+1:Nat):Int)by omega)
  |false=>
   rw[xx]at c0 hle;have HH:=Z (show qm gh Qs (i+1)=R+nq by rw[Al.o,xx];rfl);have w3:IntKind.i64.wrap ((R:Int)+(nq:Int))=((R+nq:Nat):Int):=by rw[ax bz]at hle;rw[bJ _ kS];omega
   clear hle;go_wp2;refine⟨_,i+1,FT.of _ rfl,rfl,rfl,?_,?_,dm.o,G,rfl⟩
   ·rw[HH.o];first|rfl|exact bo (Value.int .i64) (show(R:Int)+(nq:Int)=((R+nq:Nat):Int)by omega)
   ·first|rfl|exact bo (Value.int .i64) (show(i:Int)+1=((i+1:Nat):Int)by omega)
 ·obtain rfl:i=a0e:=G;clear be ht;generalize qm gh Qs i=R at*;go_wp2;exact Eq.mpr (bo (λa=>Q (.exit 0) a W) (FT.of _ rfl)) (dD (λk=>Array.getD _ k undef) rfl)
def afs{w:ek}{qv:to}(hg:Vf.aY w 1 gv a0e (λi=> .bool (gh i)))(hq:oK w lo hi qv Qs lw tw)(hl:Qs.length=a0e)(hG:a0e<=16)(ht:qm gh Qs a0e<=16777216):
 Calls prog 69 #[.agg #[qv,vv],gv] w (λe w'=>e=Xc (Y (qm gh Qs a0e:Nat))/\Below w.heap.size w w'):=by
 obtain⟨qa,qc,rfl,-,-⟩:=fW hq.row;obtain⟨W0,jM⟩:∃W0,W0=w.alloc (Xe #[H qa Qs.length qc,vv] 56):=⟨_,rfl⟩;have dG:Below w.heap.size w W0:=by rw[jM];exact(aZ _ _).alloc (aL _) _
 have HX:=Z (show aH W0 w.heap.size 56 #[H qa Qs.length qc,vv]/\Vf.aY W0 1 gv a0e (λi=> .bool (gh i))/\oK W0 lo hi (H qa Qs.length qc) Qs lw tw from⟨by rw[jM];exact aH.new _ _ _,hg.aG (aC.ai dG),hq.off (aC.ai (S:=[]) dG) (kD.nil _ _ _ _)⟩);have HB:=Z dG;have HT:=Z ht;have HL:=Z hl;clear hg hq dG ht hl;go_enter func69,ntmps69;go_wp2_with fail;rw[<-jM];clear jM;refine aft HX.o.2.1 HX.o.2.2 HX.o.1 HL.o hG HT.o (λJ j5=>?_) ⟨_,0,FT.of _ rfl,rfl,rfl,rfl,rfl,ck _,G,rfl⟩;simp only[Exit.inBlock,Exit.then]
 apply_assumption
 generalize hR:qm gh Qs a0e=R at*;have HR:=Z hR;clear hR;unfold FT;rw[j5];clear j5;go_wp2
 first|refine Vf.eF (P:=prog) (fn:=Proofs.Tryz.f69) rfl ?_|(rw[Exit.noGoto_ret];refine Vf.eF (P:=prog) (fn:=Proofs.Tryz.f69) rfl ?_)
 exact⟨by rw[HR.o];rfl,HB.o⟩
structure MD(W:ek)(bb bn bc ba:Nat)(za qb qn ea:Option Addr)(gv ah tr vb vn:to)(zc cb cn ec:Nat)(p:aU)(c:Cp)(Qb Qn:List (List PE))(told:List Nat)(lb ln:Nat->to)(tb tn:Nat->Nat->to):Prop where
 kb:aH W bb 56 #[H qb Qb.length cb,vb]
 kn:aH W bn 56 #[H qn Qn.length cn,vn]
 kc:aH W bc 29 #[Y c.size,H za c.aF.length zc]
 ka:aH W ba 44 #[ah,H ea told.length ec,tr]
 qb:oK W 0 W.heap.size (H qb Qb.length cb) Qb lb tb
 qn:oK W 0 W.heap.size (H qn Qn.length cn) Qn ln tn
 gr:Vf.aY W 1 gv p.ap.length (λi=> .bool (p.ap.getD i false))
 zr:Vf.aY W 1 (H za c.aF.length zc) c.aF.length (bd c.aF)
 er:Vf.aY W 1 (H ea told.length ec) told.length (ni told)
variable {W W':ek}{bb bn bc ba:Nat}{za qb qn ea:Option Addr}{ah tr vb vn:to}{zc cb cn ec:Nat}{p:aU}{c:Cp}{Qb Qn:List (List PE)}{told:List Nat}{lb ln:Nat->to}{tb tn:Nat->Nat->to}
def MD.later(h:MD W bb bn bc ba za qb qn ea gv ah tr vb vn zc cb cn ec p c Qb Qn told lb ln tb tn)(b:Below W.heap.size W W'):MD W' bb bn bc ba za qb qn ea gv ah tr vb vn zc cb cn ec p c Qb Qn told lb ln tb tn:=
 have f:=aC.ai (S:=[]) b
 ⟨h.kb.aG f az,h.kn.aG f az,h.kc.aG f az,h.ka.aG f az,(h.qb.off f (kD.nil _ _ _ _)).mono (aL _) b.size,(h.qn.off f (kD.nil _ _ _ _)).mono (aL _) b.size,h.gr.aG f,h.zr.aG f,h.er.aG f⟩
def aei{Ls:List (List Nat)}{q i:Nat}(hq:q<Ls.length)(hi:i<(Ls.getD q []).length):(ci Ls q i).length<Ls.flatten.length:=by obtain⟨t,e⟩:=oZ hq hi;have:=bo List.length e;simp only[mT,List.length_cons]at this;omega
def jh.drewN{W:ek}{B c:Nat}{P:Nat->Prop}(h:jh W B P c)(k:Nat):jh (W.drewN k) B P c:=h.mD rfl
def jh.iff{W:ek}{B c:Nat}{P P':Nat->Prop}(h:jh W B P c)(e:∀k,P k↔P' k):jh W B P' c:=by obtain⟨D,h1,h2⟩:=h;refine⟨D,h1,λk hk=>?_⟩;obtain⟨b,h3,h4⟩:=h2 k hk;exact⟨b,h3,h4.trans (e k)⟩
def MD.nk(h:MD W bb bn bc ba za qb qn ea gv ah tr vb vn zc cb cn ec p c Qb Qn told lb ln tb tn){q i:Nat}(hq:q<Qn.length)(hi:i<(Qn.getD q []).length):∃ya wa wc xw,qn=O (I ya 0)/\wa=O ((I xw 0):Addr)/\Xf W (I ya q)=O (H wa (Qn.getD q []).length wc)/\Xf W (I xw (i*2))=O (.int .u64 ((Qn.getD q []).getD i ⟨0,[]⟩).key)/\ya<W.heap.size/\xw<W.heap.size/\(Qn.getD q []).length<=maxLen:=by obtain⟨ya,wa,wc,e,h1,h2,h3,h4⟩:=h.qn.at_ hq;obtain⟨xw,e2,h5⟩:=h4 i hi;exact⟨ya,wa,wc,xw,e,e2,h1,h5,h2,ay h5,h3⟩
def MD.acC(h:MD W bb bn bc ba za qb qn ea gv ah tr vb vn zc cb cn ec p c Qb Qn told lb ln tb tn){q i:Nat}(hq:q<Qb.length)(hi:i<(Qb.getD q []).length):∃ya wa wc xw,qb=O (I ya 0)/\wa=O ((I xw 0):Addr)/\Xf W (I ya q)=O (H wa (Qb.getD q []).length wc)/\Xf W (I xw (i*2))=O (.int .u64 ((Qb.getD q []).getD i ⟨0,[]⟩).key)/\ya<W.heap.size/\xw<W.heap.size/\(Qb.getD q []).length<=maxLen:=by obtain⟨ya,wa,wc,e,h1,h2,h3,h4⟩:=h.qb.at_ hq;obtain⟨xw,e2,h5⟩:=h4 i hi;exact⟨ya,wa,wc,xw,e,e2,h1,h5,h2,ay h5,h3⟩
def FM(J:Nat->to):Act:={tmps:=#[J 0,J 1,J 2,J 3,J 4,J 5,J 6,J 7,J 8,J 9,J 10,J 11,J 12,J 13,J 14,J 15,J 16,J 17,J 18,J 19,J 20,J 21,J 22,J 23,J 24,J 25,J 26,J 27,J 28,J 29,J 30,J 31,J 32,J 33,J 34,J 35,J 36,J 37,J 38,J 39,J 40,J 41,J 42,J 43,J 44,J 45,J 46,J 47,J 48,J 49,J 50,J 51,J 52,J 53,J 54,J 55,J 56,J 57,J 58,J 59,J 60,J 61,J 62,J 63,J 64,J 65,J 66,J 67,J 68,J 69,J 70,J 71,J 72,J 73,J 74,J 75,J 76,J 77,J 78,J 79,J 80,J 81,J 82,J 83,J 84,J 85,J 86,J 87,J 88,J 89,J 90,J 91,J 92,J 93,J 94,J 95,J 96,J 97,J 98,J 99,J 100,J 101,J 102,J 103,J 104,J 105,J 106,J 107,J 108,J 109,J 110,J 111,J 112,J 113,J 114,J 115,J 116,J 117,J 118,J 119,J 120,J 121,J 122,J 123,J 124,J 125,J 126,J 127,J 128,J 129,J 130,J 131,J 132,J 133,J 134,J 135,J 136,J 137,J 138,J 139,J 140,J 141,J 142,J 143,J 144,J 145,J 146,J 147,J 148,J 149,J 150,J 151,J 152,J 153,J 154,J 155,J 156,J 157,J 158,J 159,J 160,J 161,J 162,J 163,J 164,J 165,J 166,J 167,J 168,J 169,J 170,J 171,J 172,J 173,J 174,J 175,J 176,J 177,J 178,J 179,J 180,J 181,J 182,J 183,J 184,J 185,J 186,J 187,J 188,J 189,J 190,J 191,J 192,J 193,J 194,J 195,J 196,J 197,J 198,J 199,J 200,J 201,J 202,J 203,J 204,J 205,J 206,J 207,J 208,J 209,J 210,J 211,J 212,J 213,J 214,J 215,J 216,J 217,J 218,J 219,J 220,J 221,J 222,J 223,J 224,J 225,J 226,J 227,J 228,J 229,J 230],defers:=[]}
def FM.of(A:Array to)(h:A=(FM λk=>A.getD k undef).tmps):({tmps:=A,defers:=[]}:Act)=FM λk=>A.getD k undef:=by rw[h];rfl
noncomputable def mw1:Code:=Mk.gI Proofs.Tryz.f30.body 0
noncomputable def mw2:Code:=Mk.gI (O mw1) 0
noncomputable def mw3:Code:=Mk.gI Proofs.Tryz.f30.body 1
noncomputable def mw4:Code:=Mk.gI Proofs.Tryz.f30.body 2
noncomputable def mw5:Code:=Mk.gI (O mw4) 0
noncomputable def mw6:Code:=Mk.gI Proofs.Tryz.f30.body 3
noncomputable def mw7:Code:=Mk.gI (O mw6) 0
def M2(V W:ek)(B1 B2:Nat)(gh:Nat->Bool)(Qn:List (List PE))(q i:Nat):Prop:=Below V.heap.size V W/\∃c1 c2,jh W B1 (· ∈ci (cY Qn) q i) c1/\jh W B2 (· ∈ci (iS gh Qn) q i) c2/\c1<=(ci (cY Qn) q i).length/\c2<=(ci (cY Qn) q i).length
def ME(V W:ek)(B1 B2:Nat)(gh:Nat->Bool)(Qn:List (List PE)):Prop:=Below V.heap.size V W/\(∃c1,jh W B1 (· ∈(cY Qn).flatten) c1)/\∃c2,jh W B2 (· ∈(iS gh Qn).flatten) c2
def M3(V W:ek)(B1 B2 B3:Nat)(gh:Nat->Bool)(Qn:List (List PE))(told:List Nat)(i:Nat):Prop:=ME V W B1 B2 gh Qn/\∃c3,jh W B3 (· ∈told.take i) c3/\c3<=i
def M4(V W:ek)(B1 B2 B3 B4:Nat)(gh:Nat->Bool)(Qb Qn:List (List PE))(told:List Nat)(q i:Nat):Prop:=ME V W B1 B2 gh Qn/\(∃c3,jh W B3 (· ∈told) c3)/\∃c4,jh W B4 (· ∈ci (iS gh Qb) q i) c4/\c4<=(ci (cY Qb) q i).length
def M5(V W:ek)(B1 B2 B3 B4:Nat)(gh:Nat->Bool)(Qb Qn:List (List PE))(told:List Nat):Prop:=ME V W B1 B2 gh Qn/\(∃c3,jh W B3 (· ∈told) c3)/\∃c4,jh W B4 (· ∈(iS gh Qb).flatten) c4
variable {V:ek}{B1 B2 B3 B4 x:Nat}{rem:Bool}
def ME.aG{W W':ek}{gh:Nat->Bool}{B:Nat}(h:ME V W B1 B2 gh Qn)(f:aC [B] W W')(hB:V.heap.size<=B)(h1:B1≠B)(h2:B2≠B):ME V W' B1 B2 gh Qn:=by obtain⟨b,⟨c1,s1⟩,c2,s2⟩:=h;exact⟨b.trans (f.below b.size λy hy=>by simp only[List.mem_singleton]at hy;omega),⟨c1,s1.aG f (by simpa using h1)⟩,c2,s2.aG f (by simpa using h2)⟩
def LG{Ls:List (List Nat)}{q n:Nat}(hq:q<Ls.length)(h:(Ls.getD q []).length<=n):ci Ls q n=ci Ls (q+1) 0:=by rw[<-Ah hq];unfold ci;rw[List.take_of_length_le h,List.take_length]
def acB{gh:Nat->Bool}{Qs:List (List PE)}{q:Nat}(hq:q<Qs.length):((iS gh Qs).getD q []).length<=(Qs.getD q []).length:=by
 rw[nS hq];split
 ·exact ck _
 ·rw[List.length_map];exact aL _
def GW{Qs:List (List PE)}{q:Nat}(hq:q<Qs.length):ci (cY Qs) q (Qs.getD q []).length=ci (cY Qs) (q+1) 0:=LG (by rw[jo];exact hq) (by rw[gO,List.length_map];exact aL _)
def GX{gh:Nat->Bool}{Qs:List (List PE)}{q:Nat}(hq:q<Qs.length):ci (iS gh Qs) q (Qs.getD q []).length=ci (iS gh Qs) (q+1) 0:=LG (by rw[pg];exact hq) (acB hq)
def acA{Qs:List (List PE)}:ci (cY Qs) Qs.length 0=(cY Qs).flatten:=by rw[<-jo,sK]
def LH{gh:Nat->Bool}{Qs:List (List PE)}:ci (iS gh Qs) Qs.length 0=(iS gh Qs).flatten:=by rw[<-pg (gh:=gh),sK]
def LI{Qs:List (List PE)}{q i:Nat}(hi:i<(Qs.getD q []).length):(ci (cY Qs) q (i+1)).length=(ci (cY Qs) q i).length+1:=by rw[qJ (by rw[gO,List.length_map];exact hi),mT,Cm]
def Sb{Qs:List (List PE)}{q i:Nat}(hq:q<Qs.length)(hi:i<(Qs.getD q []).length):(ci (cY Qs) q i).length<(cY Qs).flatten.length:=aei (by rw[jo];exact hq) (by rw[gO,List.length_map];exact hi)
def N2(x:Nat)(rem:Bool)(gv:to)(bb bn bc ba B1 B2:Nat)(q n:Nat)(uh:Nat->ek->Prop)(m:Nat)(a:Act)(W:ek):Prop:=∃(J:Nat->to) (i:Nat),a=FM J/\J 2=gv/\J 4= .int .u64 (x:Nat)/\J 6= .bool rem/\J 7=Oi bb/\J 8=Oi bn/\J 10=Oi bc/\J 12=Oi ba/\J 15= .map (O B1)/\J 16= .map (O B2)/\J 17=Y (q:Nat)/\J 18=Y (i:Nat)/\i<=n/\m+i=n+1/\Hid (uh i W)
def aa5(HD:Hid (MD V bb bn bc ba za qb qn ea gv ah tr vb vn zc cb cn ec p c Qb Qn told lb ln tb tn))(HO:Hid (GU (λq=>p.ap.getD q false) Qb Qn told x rem))(HK:Hid (∀k,k∈(cY Qn).flatten->k<18446744073709551616))(hf:(cY Qn).flatten.length<=maxLen)(h1:V.heap.size<=B1)(h2:V.heap.size<=B2)(bt:B1≠B2)(hl:Qn.length=p.ap.length)(AT:Qn.length<=16){q:Nat}(hq:q<Qn.length)
 (dD:∀(J:Nat->to) W,J 2=gv->J 4= .int .u64 (x:Nat)->J 6= .bool rem->J 7=Oi bb->J 8=Oi bn->J 10=Oi bc->J 12=Oi ba->J 15= .map (O B1)->J 16= .map (O B2)->J 17=Y (q:Nat)->M2 V W B1 B2 (λq=>p.ap.getD q false) Qn q (Qn.getD q []).length->Q (.exit 2) (FM J) W)
 {a:Act} {W:ek} (h0:N2 x rem gv bb bn bc ba B1 B2 q (Qn.getD q []).length (λi W=>M2 V W B1 B2 (λq=>p.ap.getD q false) Qn q i) ((Qn.getD q []).length+1) a W):(Code.loop mw2).wp prog Q a W:=by
 refine Mk.aM (λm a W=>N2 x rem gv bb bn bc ba B1 B2 q (Qn.getD q []).length (λi W=>M2 V W B1 B2 (λq=>p.ap.getD q false) Qn q i) m a W) ((Qn.getD q []).length+1) h0 ?_ ?_
 ·rintro a W ⟨J,i,-,-,-,-,-,-,-,-,-,-,-,-,h1,h2,-⟩;omega
 rintro m a0 W ⟨J,i,rfl,j2,j4,j6,j7,j8,gN,h_,mE,pf,YN,j18,hi,hm,HW⟩;unfold FM
 conv=>arg 2;whnf
 rw[j2,j4,j6,j7,j8,gN,h_,mE,pf,YN,j18];clear j2 j4 j6 j7 j8 gN h_ mE pf YN j18;have oz:=Z (HD.o.later HW.o.1);have k0:=oz.o.kn.c1;have lbn:=oz.o.kn.lt;have zQ:0<=(q:Int):=G;have Aw:(q:Int)<(Qn.length:Int):=G;have zN:(q:Int).toNat=q:=G;by_cases be:i<(Qn.getD q []).length
 ·obtain⟨ya,wa,wc,xw,rfl,rfl,d1,d2,l1,l2,lm⟩:=oz.o.nk hq be;have w2:IntKind.i64.wrap ((i:Int)+1)=((i+1:Nat):Int):=by unfold maxLen at lm;rw[bJ _ kS];omega
  obtain⟨T5,c1,c2,s1,s2,n1,n2⟩:=HW.o;have hlen:=Sb hq be;have HSL:=Z (LI be);have HNW:=Z (Cy HO.o.ndn hq be);have sE:=Z (λk=>acK (k:=k) be);have Ho:=Z (λk=>GS (gh:=(λq=>p.ap.getD q false)) (k:=k) HO.o.ndn hq be);have xW:=Z (HK.o _ (AB (gh:=(λq=>p.ap.getD q false)) hq be).1);have HC:=Z (show c1<maxLen/\c2<maxLen/\c1+1<=(ci (cY Qn) q (i+1)).length/\c2+1<=(ci (cY Qn) q (i+1)).length by rw[HSL.o];omega);have HB:=Z T5;have Hn:=Z s1;have HSB:=Z s2;have dm:=Z be;have mU:0<=(i:Int):=G;have sT:(i:Int)<((Qn.getD q []).length:Int):=G;have hz3:(i:Int).toNat=i:=G;clear T5 s1 s2 n1 n2 hlen lm hf;generalize((Qn.getD q []).getD i ⟨0,[]⟩).key=k at*;have Lb:=Hn.o.look xW.o (b:=false) ⟨λh=>(by cases h),λh=>absurd h HNW.o⟩;generalize xY:(Qn.getD q []).length=nq at*;have Hv:=Z xY;clear xY;go_wp2_with (refine kO rfl _ _ _ rfl rfl Hn.o HC.o.1 rfl xW.o true rfl sE.o ?_);intro w' r1 r2;have afV:=Z r1;have Jl:=Z r2;have afW:=Z (HSB.o.aG r2 (by simpa using Ne.symm bt));have dS:=Z (HB.o.trans (r2.below HB.o.size λy hy=>by simp only[List.mem_singleton]at hy;omega));have Bj:=Z (HD.o.later dS.o);obtain⟨gb,go,gc',rfl,-,-,lg,R0⟩:=Bj.o.gr.some G G;have c0:Xf w' (I gb (go+q))=O (.bool (p.ap.getD q false)):=R0 q G;have PN:(q:Int)<(p.ap.length:Int):=G;clear R0 r1 r2 k0 lbn d1 d2 l1 l2 Lb;generalize p.ap.getD q false=g at*;go_wp2_with (refine kO rfl _ _ _ rfl rfl afW.o HC.o.2.1 rfl xW.o (!g) rfl Ho.o ?_);intro w2' r1 r2;have Br:=Z (show M2 V w2' B1 B2 (λq=>p.ap.getD q false) Qn q (i+1)from⟨dS.o.trans (r2.below dS.o.size λy hy=>by simp only[List.mem_singleton]at hy;omega),_,_,afV.o.aG r2 (by simpa using bt),r1,HC.o.2.2.1,HC.o.2.2.2⟩);clear r1 r2 c0;go_wp2;refine⟨_,i+1,FM.of _ rfl,rfl,rfl,rfl,rfl,rfl,rfl,rfl,rfl,rfl,rfl,?_,(by first|exact dm.o|(rw[Hv.o];exact dm.o)),(by first|omega|(rw[Hv.o];omega)),Br⟩
  first|rfl|exact bo (Value.int .i64) (show(i:Int)+1=((i+1:Nat):Int)by omega)
 ·obtain rfl:i=(Qn.getD q []).length:=G;have HS:=Z HW.o;obtain⟨ya,wa,wc,rfl,c1,l1,lm,-⟩:=oz.o.qn.at_ hq;clear be hf;generalize xY:(Qn.getD q []).length=nq at*;clear lm xY;go_wp2;exact Eq.mpr (bo (λa=>Q (.exit 2) a W) (FM.of _ rfl)) (dD (λk=>Array.getD _ k undef) W rfl rfl rfl rfl rfl rfl rfl rfl rfl rfl HS.o)
def N1(x:Nat)(rem:Bool)(gv:to)(bb bn bc ba B1 B2:Nat)(n:Nat)(uh:Nat->ek->Prop)(m:Nat)(a:Act)(W:ek):Prop:=∃(J:Nat->to) (i:Nat),a=FM J/\J 2=gv/\J 4= .int .u64 (x:Nat)/\J 6= .bool rem/\J 7=Oi bb/\J 8=Oi bn/\J 10=Oi bc/\J 12=Oi ba/\J 15= .map (O B1)/\J 16= .map (O B2)/\J 17=Y (i:Nat)/\i<=n/\m+i=n+1/\Hid (uh i W)
def aa6(HD:Hid (MD V bb bn bc ba za qb qn ea gv ah tr vb vn zc cb cn ec p c Qb Qn told lb ln tb tn))(HO:Hid (GU (λq=>p.ap.getD q false) Qb Qn told x rem))(HK:Hid (∀k,k∈(cY Qn).flatten->k<18446744073709551616))(hf:(cY Qn).flatten.length<=maxLen)(h1:V.heap.size<=B1)(h2:V.heap.size<=B2)(bt:B1≠B2)(hl:Qn.length=p.ap.length)(Bk:Qn.length=c.aF.length)(AT:Qn.length<=16)
 (HQ:Hid (∀q,q<Qn.length->((Qn.getD q []).length:Int)<=c.aF.getD q 0))
 (dD:∀(J:Nat->to) W,J 2=gv->J 4= .int .u64 (x:Nat)->J 6= .bool rem->J 7=Oi bb->J 8=Oi bn->J 10=Oi bc->J 12=Oi ba->J 15= .map (O B1)->J 16= .map (O B2)->ME V W B1 B2 (λq=>p.ap.getD q false) Qn->Q (.exit 0) (FM J) W)
 {a:Act} {W:ek} (h0:N1 x rem gv bb bn bc ba B1 B2 Qn.length (λi W=>M2 V W B1 B2 (λq=>p.ap.getD q false) Qn i 0) (Qn.length+1) a W):(Code.loop mw1).wp prog Q a W:=by
 refine Mk.aM (λm a W=>N1 x rem gv bb bn bc ba B1 B2 Qn.length (λi W=>M2 V W B1 B2 (λq=>p.ap.getD q false) Qn i 0) m a W) (Qn.length+1) h0 ?_ ?_
 ·rintro a W ⟨J,i,-,-,-,-,-,-,-,-,-,-,-,h1,h2,-⟩;omega
 rintro m a0 W ⟨J,q,rfl,j2,j4,j6,j7,j8,gN,h_,mE,pf,YN,hi,hm,HW⟩;unfold FM
 conv=>arg 2;whnf
 rw[j2,j4,j6,j7,j8,gN,h_,mE,pf,YN];clear j2 j4 j6 j7 j8 gN h_ mE pf YN;have oz:=Z (HD.o.later HW.o.1);have k0:=oz.o.kn.c1;have lbn:=oz.o.kn.lt;by_cases be:q<Qn.length
 ·obtain⟨ya,wa,wc,rfl,d1,l1,lm,-⟩:=oz.o.qn.at_ be;have w2:=mr q G;have k1:Xf W (I bc 1)=O (H za c.aF.length zc):=oz.o.kc.cell 1;have lbc:=oz.o.kc.lt;obtain⟨zb,acz,zc',e2,-,-,lz,hcz⟩:=oz.o.zr.some G G;simp only[cL]at e2;obtain⟨rfl,-,rfl⟩:=e2;have z1:Xf W (I zb (acz+q))=O (Y (c.aF.getD q 0)):=hcz q G;have zQ:0<=(q:Int):=G;have Aw:(q:Int)<(Qn.length:Int):=G;have AP:(q:Int)<(c.aF.length:Int):=G;have zN:(q:Int).toNat=q:=G;have vW:decide (c.aF.getD q 0<((Qn.getD q []).length:Int))=false:=decide_eq_false (by have:=HQ.o q be;omega);have dm:=Z be;have zq:=Z (show _/\_ from⟨GW be,GX (gh:=(λq=>p.ap.getD q false)) be⟩);clear hcz lm;generalize xY:(Qn.getD q []).length=nq at*;generalize c.aF.getD q 0=z at*;go_wp2;go_quiet (fail);go_wp2_with fail;subst xY;refine aa5 HD HO HK hf h1 h2 bt hl AT dm.o (λJ W1 j2 j4 j6 j7 j8 gN h_ mE pf YN En=>?_) ⟨_,0,FM.of _ rfl,rfl,rfl,rfl,rfl,rfl,rfl,rfl,rfl,rfl,rfl,rfl,ck _,G,Z (by obtain⟨b,c1,c2,s1,s2,n⟩:=HW.o;exact⟨b.trans (aA _ W _),c1,c2,s1.drewN _,s2.drewN _,n⟩)⟩;simp only[Exit.inBlock,Exit.then]
  apply_assumption
  have yp:=Z En;clear En k0 lbn d1 l1 k1 lbc z1 vW lz;unfold FM;rw[j2,j4,j6,j7,j8,gN,h_,mE,pf,YN];clear j2 j4 j6 j7 j8 gN h_ mE pf YN;go_wp2;refine⟨_,q+1,FM.of _ rfl,rfl,rfl,rfl,rfl,rfl,rfl,rfl,rfl,rfl,?_,dm.o,G,Z ?_⟩
  ·first|rfl|exact bo (Value.int .i64) (show(q:Int)+1=((q+1:Nat):Int)by omega)
  ·have:=yp.o;unfold M2 at this ⊢;rw[zq.o.1,zq.o.2]at this;exact this
 ·obtain rfl:q=Qn.length:=G;have HS:=Z (show ME V W B1 B2 (λq=>p.ap.getD q false) Qn by
   obtain⟨b,c1,c2,s1,s2,-⟩:=HW.o;rw[acA]at s1;rw[LH]at s2;exact⟨b,⟨c1,s1⟩,c2,s2⟩)
  clear be hf;go_wp2;exact Eq.mpr (bo (λa=>Q (.exit 0) a W) (FM.of _ rfl)) (dD (λk=>Array.getD _ k undef) W rfl rfl rfl rfl rfl rfl rfl rfl rfl HS.o)
def N3(x:Nat)(rem:Bool)(gv:to)(bb bn bc ba B1 B2 B3:Nat)(n:Nat)(uh:Nat->ek->Prop)(m:Nat)(a:Act)(W:ek):Prop:=∃(J:Nat->to) (i:Nat),a=FM J/\J 2=gv/\J 4= .int .u64 (x:Nat)/\J 6= .bool rem/\J 7=Oi bb/\J 8=Oi bn/\J 10=Oi bc/\J 12=Oi ba/\J 15= .map (O B1)/\J 16= .map (O B2)/\J 20= .map (O B3)/\J 21=Y (i:Nat)/\i<=n/\m+i=n+1/\Hid (uh i W)
def acy(HD:Hid (MD V bb bn bc ba za qb qn ea gv ah tr vb vn zc cb cn ec p c Qb Qn told lb ln tb tn))(HK:Hid (∀k,k∈told->k<18446744073709551616))(h3:V.heap.size<=B3)(uy:B1≠B3)(tB:B2≠B3)
 (dD:∀(J:Nat->to) W,J 2=gv->J 4= .int .u64 (x:Nat)->J 6= .bool rem->J 7=Oi bb->J 8=Oi bn->J 10=Oi bc->J 12=Oi ba->J 15= .map (O B1)->J 16= .map (O B2)->J 20= .map (O B3)->ME V W B1 B2 (λq=>p.ap.getD q false) Qn/\(∃c3,jh W B3 (· ∈told) c3)->Q (.exit 4) (FM J) W)
 {a:Act} {W:ek} (h0:N3 x rem gv bb bn bc ba B1 B2 B3 told.length (λi W=>M3 V W B1 B2 B3 (λq=>p.ap.getD q false) Qn told i) (told.length+1) a W):(Code.loop mw3).wp prog Q a W:=by
 refine Mk.aM (λm a W=>N3 x rem gv bb bn bc ba B1 B2 B3 told.length (λi W=>M3 V W B1 B2 B3 (λq=>p.ap.getD q false) Qn told i) m a W) (told.length+1) h0 ?_ ?_
 ·rintro a W ⟨J,i,-,-,-,-,-,-,-,-,-,-,-,-,h1,h2,-⟩;omega
 rintro m a0 W ⟨J,i,rfl,j2,j4,j6,j7,j8,gN,h_,mE,pf,tD,j21,hi,hm,HW⟩;unfold FM
 conv=>arg 2;whnf
 rw[j2,j4,j6,j7,j8,gN,h_,mE,pf,tD,j21];clear j2 j4 j6 j7 j8 gN h_ mE pf tD j21;have oz:=Z (HD.o.later HW.o.1.1);have k0:Xf W (I ba 1)=O (H ea told.length ec):=oz.o.ka.cell 1;have lba:=oz.o.ka.lt;by_cases be:i<told.length
 ·obtain⟨eb,eo,ec',e2,afX,Rh,le,hce⟩:=oz.o.er.some G G;simp only[cL]at e2;obtain⟨rfl,-,rfl⟩:=e2;have z1:Xf W (I eb (eo+i))=O (.int .u64 (told.getD i 0:Nat)):=hce i G;have hgi:told.getD i 0=told[i]:=by simp[List.getD,be]
  have xW:=Z (show told.getD i 0<18446744073709551616 from HK.o _ (by rw[hgi];exact il be));have HP:=Z (show∀j,j∈told.take (i+1)↔if j=told.getD i 0 then true=true else j∈told.take i from λj=>by
   rw[List.take_add_one,ft be,hgi,fE];split
   ·next e=>simp[e]
   ·next e=>simp[e])
  have w2:IntKind.i64.wrap ((i:Int)+1)=((i+1:Nat):Int):=by unfold maxLen at Rh;rw[bJ _ kS];omega
  obtain⟨Bm,c3,s3,n3⟩:=HW.o;have HC:=Z (show c3<maxLen/\c3+1<=i+1 by omega);have Nu:=Z s3;have Qd:=Z Bm;have dm:=Z be;have zQ:0<=(i:Int):=G;have Aw:(i:Int)<(told.length:Int):=G;have zN:(i:Int).toNat=i:=G;clear Bm s3 n3 hce hgi afX Rh;generalize told.getD i 0=k at*;go_wp2_with (refine kO rfl _ _ _ rfl rfl Nu.o HC.o.1 rfl xW.o true rfl HP.o ?_);intro w' r1 r2;have Br:=Z (show M3 V w' B1 B2 B3 (λq=>p.ap.getD q false) Qn told (i+1)from⟨Qd.o.aG r2 h3 uy tB,_,r1,HC.o.2⟩);clear r1 r2 z1 k0 lba;go_wp2;refine⟨_,i+1,FM.of _ rfl,rfl,rfl,rfl,rfl,rfl,rfl,rfl,rfl,rfl,rfl,?_,dm.o,G,Br⟩
  first|rfl|exact bo (Value.int .i64) (show(i:Int)+1=((i+1:Nat):Int)by omega)
 ·obtain rfl:i=told.length:=G;have HS:=Z (show ME V W B1 B2 (λq=>p.ap.getD q false) Qn/\(∃c3,jh W B3 (· ∈told) c3)by
   obtain⟨h1,c3,s3,-⟩:=HW.o;rw[List.take_length]at s3;exact⟨h1,c3,s3⟩)
  clear be;go_wp2;exact Eq.mpr (bo (λa=>Q (.exit 4) a W) (FM.of _ rfl)) (dD (λk=>Array.getD _ k undef) W rfl rfl rfl rfl rfl rfl rfl rfl rfl rfl HS.o)
def N5(x:Nat)(rem:Bool)(gv:to)(bb bn bc ba B1 B2 B3 B4:Nat)(q n:Nat)(uh:Nat->ek->Prop)(m:Nat)(a:Act)(W:ek):Prop:=∃(J:Nat->to) (i:Nat),a=FM J/\J 2=gv/\J 4= .int .u64 (x:Nat)/\J 6= .bool rem/\J 7=Oi bb/\J 8=Oi bn/\J 10=Oi bc/\J 12=Oi ba/\J 15= .map (O B1)/\J 16= .map (O B2)/\J 20= .map (O B3)/\J 22= .map (O B4)/\J 23=Y (q:Nat)/\J 24=Y (i:Nat)/\i<=n/\m+i=n+1/\Hid (uh i W)
def V3{p:Prop}(h:p:=by
 go_wp2;refine⟨_,i+1,FM.of _ rfl,rfl,rfl,rfl,rfl,rfl,rfl,rfl,rfl,rfl,rfl,rfl,rfl,?_,(by first|exact dm.o|(rw[Hv.o];exact dm.o)),(by first|omega|(rw[Hv.o];omega)),Br⟩
 first|rfl|exact bo (Value.int .i64) (show(i:Int)+1=((i+1:Nat):Int)by omega)):p:=h
def acx(HD:Hid (MD V bb bn bc ba za qb qn ea gv ah tr vb vn zc cb cn ec p c Qb Qn told lb ln tb tn))(HO:Hid (GU (λq=>p.ap.getD q false) Qb Qn told x rem))(HK:Hid (∀k,k∈(cY Qb).flatten->k<18446744073709551616))(hf:(cY Qb).flatten.length<=maxLen)(h4:V.heap.size<=B4)(uy:B1≠B4)(tB:B2≠B4)(hn3:B3≠B4)(hl:Qb.length=p.ap.length)(AT:Qb.length<=16){q:Nat}(hq:q<Qb.length)
 (dD:∀(J:Nat->to) W,J 2=gv->J 4= .int .u64 (x:Nat)->J 6= .bool rem->J 7=Oi bb->J 8=Oi bn->J 10=Oi bc->J 12=Oi ba->J 15= .map (O B1)->J 16= .map (O B2)->J 20= .map (O B3)->J 22= .map (O B4)->J 23=Y (q:Nat)->M4 V W B1 B2 B3 B4 (λq=>p.ap.getD q false) Qb Qn told q (Qb.getD q []).length->Q (.exit 8) (FM J) W)
 {a:Act} {W:ek} (h0:N5 x rem gv bb bn bc ba B1 B2 B3 B4 q (Qb.getD q []).length (λi W=>M4 V W B1 B2 B3 B4 (λq=>p.ap.getD q false) Qb Qn told q i) ((Qb.getD q []).length+1) a W):(Code.loop mw5).wp prog Q a W:=by
 refine Mk.aM (λm a W=>N5 x rem gv bb bn bc ba B1 B2 B3 B4 q (Qb.getD q []).length (λi W=>M4 V W B1 B2 B3 B4 (λq=>p.ap.getD q false) Qb Qn told q i) m a W) ((Qb.getD q []).length+1) h0 ?_ ?_
 ·rintro a W ⟨J,i,-,-,-,-,-,-,-,-,-,-,-,-,-,-,h1,h2,-⟩;omega
 rintro m a0 W ⟨J,i,rfl,j2,j4,j6,j7,j8,gN,h_,mE,pf,tD,AE,YO,j24,hi,hm,HW⟩;unfold FM
 conv=>arg 2;whnf
 rw[j2,j4,j6,j7,j8,gN,h_,mE,pf,tD,AE,YO,j24];clear j2 j4 j6 j7 j8 gN h_ mE pf tD AE YO j24;have oz:=Z (HD.o.later HW.o.1.1);have k0:=oz.o.kb.c1;have lbb:=oz.o.kb.lt;have zQ:0<=(q:Int):=G;have Aw:(q:Int)<(Qb.length:Int):=G;have zN:(q:Int).toNat=q:=G;by_cases be:i<(Qb.getD q []).length
 ·obtain⟨ya,wa,wc,xw,rfl,rfl,d1,d2,l1,l2,lm⟩:=oz.o.acC hq be;have w2:IntKind.i64.wrap ((i:Int)+1)=((i+1:Nat):Int):=by unfold maxLen at lm;rw[bJ _ kS];omega
  obtain⟨Bm,⟨c3,s3⟩,c4,s4,n4⟩:=HW.o;have hlen:=Sb hq be;have N0:=Z (λk=>GS (gh:=(λq=>p.ap.getD q false)) (k:=k) HO.o.ndb hq be);have hkf:=AB (gh:=(λq=>p.ap.getD q false)) hq be;have Qu:=Z hkf.2;have xW:=Z (HK.o _ hkf.1);have HC:=Z (show c4<maxLen/\c4+1<=(ci (cY Qb) q (i+1)).length by rw[LI be];omega);have Qd:=Z Bm;have HSC:=Z s3;have HSD:=Z s4;have dm:=Z be;have mU:0<=(i:Int):=G;have sT:(i:Int)<((Qb.getD q []).length:Int):=G;have hz3:(i:Int).toNat=i:=G;obtain⟨gb,go,gc',rfl,-,-,lg,R0⟩:=oz.o.gr.some G G;have c0:Xf W (I gb (go+q))=O (.bool (p.ap.getD q false)):=R0 q G;have PN:(q:Int)<(p.ap.length:Int):=G;have HA:=Z (λh=>HO.o.a _ (Qu.o h));clear Bm s3 s4 n4 hlen lm hf hkf R0;generalize((Qb.getD q []).getD i ⟨0,[]⟩).key=k at*;generalize xY:(Qb.getD q []).length=nq at*;have Hv:=Z xY;clear xY;generalize rP:p.ap.getD q false=g at*;go_wp2_with (refine kO rfl _ _ _ rfl rfl HSD.o HC.o.1 rfl xW.o (!g) rfl N0.o ?_);intro w' r1 r2;have Br:=Z (show M4 V w' B1 B2 B3 B4 (λq=>p.ap.getD q false) Qb Qn told q (i+1)from⟨Qd.o.aG r2 h4 uy tB,⟨c3,HSC.o.aG r2 (by simpa using hn3)⟩,_,r1,HC.o.2⟩);have Bj:=Z (HD.o.later Br.o.1.1);obtain⟨gb',go',agx,e9,-,-,lg',Nw⟩:=Bj.o.gr.some G G;simp only[cL,iI,Addr.mk.injEq]at e9;obtain⟨⟨rfl,rfl,-⟩,-,rfl⟩:=e9;have c0':Xf w' (I gb (go+q))=O (.bool g):=by have:=Nw q G;rw[rP]at this;exact this
  clear r1 r2 k0 lbb d1 d2 l1 l2 c0 lg Nw;cases g with
  |true=>exact V3
  |false=>
   by_cases hkx:k=x
   ·subst hkx;exact V3
   ·have bt:((k:Int)==(x:Int))=false:=beq_eq_false_iff_ne.2 G;have Ju:((k:Int)!=(x:Int))=true:=by simp[bne,bt]
    have agy:decide ((k:Int)=(x:Int))=false:=decide_eq_false G;obtain⟨-,-,c2,s2⟩:=Br.o.1;obtain⟨c3',s3⟩:=Br.o.2.1;by_cases hr:k∈(iS (λq=>p.ap.getD q false) Qn).flatten
    ·have ht:=(HA.o rfl hkx).1 hr;have q1:=s2.look xW.o (b:=true) ⟨λ_=>hr,λ_=>rfl⟩;have q2:=s3.look xW.o (b:=false) ⟨λh=>(by cases h),λh=>absurd h ht⟩;clear s2 s3 ht hr rP;exact V3
    ·have ht:k∈told:=Classical.byContradiction λh=>hr ((HA.o rfl hkx).2 h);have q1:=s2.look xW.o (b:=false) ⟨λh=>(by cases h),λh=>absurd h hr⟩;have q2:=s3.look xW.o (b:=true) ⟨λ_=>ht,λ_=>rfl⟩;clear s2 s3 ht hr rP;exact V3
 ·obtain rfl:i=(Qb.getD q []).length:=G;have HS:=Z HW.o;obtain⟨ya,wa,wc,rfl,c1,l1,lm,-⟩:=oz.o.qb.at_ hq;clear be hf;generalize xY:(Qb.getD q []).length=nq at*;clear lm xY;go_wp2;exact Eq.mpr (bo (λa=>Q (.exit 8) a W) (FM.of _ rfl)) (dD (λk=>Array.getD _ k undef) W rfl rfl rfl rfl rfl rfl rfl rfl rfl rfl rfl rfl HS.o)
def N4(x:Nat)(rem:Bool)(gv:to)(bb bn bc ba B1 B2 B3 B4:Nat)(n:Nat)(uh:Nat->ek->Prop)(m:Nat)(a:Act)(W:ek):Prop:=∃(J:Nat->to) (i:Nat),a=FM J/\J 2=gv/\J 4= .int .u64 (x:Nat)/\J 6= .bool rem/\J 7=Oi bb/\J 8=Oi bn/\J 10=Oi bc/\J 12=Oi ba/\J 15= .map (O B1)/\J 16= .map (O B2)/\J 20= .map (O B3)/\J 22= .map (O B4)/\J 23=Y (i:Nat)/\i<=n/\m+i=n+1/\Hid (uh i W)
def acw(HD:Hid (MD V bb bn bc ba za qb qn ea gv ah tr vb vn zc cb cn ec p c Qb Qn told lb ln tb tn))(HO:Hid (GU (λq=>p.ap.getD q false) Qb Qn told x rem))(HK:Hid (∀k,k∈(cY Qb).flatten->k<18446744073709551616))(hf:(cY Qb).flatten.length<=maxLen)(h4:V.heap.size<=B4)(uy:B1≠B4)(tB:B2≠B4)(hn3:B3≠B4)(hl:Qb.length=p.ap.length)(AT:Qb.length<=16)
 (dD:∀(J:Nat->to) W,J 2=gv->J 4= .int .u64 (x:Nat)->J 6= .bool rem->J 7=Oi bb->J 8=Oi bn->J 10=Oi bc->J 12=Oi ba->J 15= .map (O B1)->J 16= .map (O B2)->J 20= .map (O B3)->J 22= .map (O B4)->M5 V W B1 B2 B3 B4 (λq=>p.ap.getD q false) Qb Qn told->Q (.exit 6) (FM J) W)
 {a:Act} {W:ek} (h0:N4 x rem gv bb bn bc ba B1 B2 B3 B4 Qb.length (λi W=>M4 V W B1 B2 B3 B4 (λq=>p.ap.getD q false) Qb Qn told i 0) (Qb.length+1) a W):(Code.loop mw4).wp prog Q a W:=by
 refine Mk.aM (λm a W=>N4 x rem gv bb bn bc ba B1 B2 B3 B4 Qb.length (λi W=>M4 V W B1 B2 B3 B4 (λq=>p.ap.getD q false) Qb Qn told i 0) m a W) (Qb.length+1) h0 ?_ ?_
 ·rintro a W ⟨J,i,-,-,-,-,-,-,-,-,-,-,-,-,-,h1,h2,-⟩;omega
 rintro m a0 W ⟨J,q,rfl,j2,j4,j6,j7,j8,gN,h_,mE,pf,tD,AE,YO,hi,hm,HW⟩;unfold FM
 conv=>arg 2;whnf
 rw[j2,j4,j6,j7,j8,gN,h_,mE,pf,tD,AE,YO];clear j2 j4 j6 j7 j8 gN h_ mE pf tD AE YO;have oz:=Z (HD.o.later HW.o.1.1);have k0:=oz.o.kb.c1;have lbb:=oz.o.kb.lt;by_cases be:q<Qb.length
 ·have w2:=mr q G;have dm:=Z be;have zq:=Z (show _/\_ from⟨GW be,GX (gh:=(λq=>p.ap.getD q false)) be⟩);go_wp2_with fail;refine acx HD HO HK hf h4 uy tB hn3 hl AT dm.o (λJ W1 j2 j4 j6 j7 j8 gN h_ mE pf tD AE YO En=>?_) ⟨_,0,FM.of _ rfl,rfl,rfl,rfl,rfl,rfl,rfl,rfl,rfl,rfl,rfl,rfl,rfl,rfl,ck _,G,Z HW.o⟩;simp only[Exit.inBlock,Exit.then]
  apply_assumption
  have yp:=Z En;clear En k0 lbb;unfold FM;rw[j2,j4,j6,j7,j8,gN,h_,mE,pf,tD,AE,YO];clear j2 j4 j6 j7 j8 gN h_ mE pf tD AE YO;go_wp2;refine⟨_,q+1,FM.of _ rfl,rfl,rfl,rfl,rfl,rfl,rfl,rfl,rfl,rfl,rfl,rfl,?_,dm.o,G,Z ?_⟩
  ·first|rfl|exact bo (Value.int .i64) (show(q:Int)+1=((q+1:Nat):Int)by omega)
  ·have:=yp.o;unfold M4 at this ⊢;rw[zq.o.1,zq.o.2]at this;exact this
 ·obtain rfl:q=Qb.length:=G;have HS:=Z (show M5 V W B1 B2 B3 B4 (λq=>p.ap.getD q false) Qb Qn told by
   obtain⟨h1,h2,c4,s4,-⟩:=HW.o;rw[LH]at s4;exact⟨h1,h2,c4,s4⟩)
  clear be hf;go_wp2;exact Eq.mpr (bo (λa=>Q (.exit 6) a W) (FM.of _ rfl)) (dD (λk=>Array.getD _ k undef) W rfl rfl rfl rfl rfl rfl rfl rfl rfl rfl rfl HS.o)
def N7(x:Nat)(rem:Bool)(gv:to)(bb bn bc ba B1 B2 B3 B4:Nat)(q n:Nat)(uh:Nat->ek->Prop)(m:Nat)(a:Act)(W:ek):Prop:=∃(J:Nat->to) (i:Nat),a=FM J/\J 2=gv/\J 4= .int .u64 (x:Nat)/\J 6= .bool rem/\J 7=Oi bb/\J 8=Oi bn/\J 10=Oi bc/\J 12=Oi ba/\J 15= .map (O B1)/\J 16= .map (O B2)/\J 20= .map (O B3)/\J 22= .map (O B4)/\J 26=Y (q:Nat)/\J 27=Y (i:Nat)/\i<=n/\m+i=n+1/\Hid (uh i W)
def Sk{p:Prop}(h:p:=by
 go_wp2;refine⟨_,i+1,FM.of _ rfl,rfl,rfl,rfl,rfl,rfl,rfl,rfl,rfl,rfl,rfl,rfl,rfl,?_,(by first|exact dm.o|(rw[Hv.o];exact dm.o)),(by first|omega|(rw[Hv.o];omega)),HW⟩
 first|rfl|exact bo (Value.int .i64) (show(i:Int)+1=((i+1:Nat):Int)by omega)):p:=h
def acv(HD:Hid (MD V bb bn bc ba za qb qn ea gv ah tr vb vn zc cb cn ec p c Qb Qn told lb ln tb tn))(HO:Hid (GU (λq=>p.ap.getD q false) Qb Qn told x rem))(HK:Hid (∀k,k∈(cY Qn).flatten->k<18446744073709551616))(AT:Qn.length<=16){q:Nat}(hq:q<Qn.length)
 (dD:∀(J:Nat->to) W,J 2=gv->J 4= .int .u64 (x:Nat)->J 6= .bool rem->J 7=Oi bb->J 8=Oi bn->J 10=Oi bc->J 12=Oi ba->J 15= .map (O B1)->J 16= .map (O B2)->J 20= .map (O B3)->J 22= .map (O B4)->J 26=Y (q:Nat)->M5 V W B1 B2 B3 B4 (λq=>p.ap.getD q false) Qb Qn told->Q (.exit 12) (FM J) W)
 {a:Act} {W:ek} (h0:N7 x rem gv bb bn bc ba B1 B2 B3 B4 q (Qn.getD q []).length (λ_ W=>M5 V W B1 B2 B3 B4 (λq=>p.ap.getD q false) Qb Qn told) ((Qn.getD q []).length+1) a W):(Code.loop mw7).wp prog Q a W:=by
 refine Mk.aM (λm a W=>N7 x rem gv bb bn bc ba B1 B2 B3 B4 q (Qn.getD q []).length (λ_ W=>M5 V W B1 B2 B3 B4 (λq=>p.ap.getD q false) Qb Qn told) m a W) ((Qn.getD q []).length+1) h0 ?_ ?_
 ·rintro a W ⟨J,i,-,-,-,-,-,-,-,-,-,-,-,-,-,-,h1,h2,-⟩;omega
 rintro m a0 W ⟨J,i,rfl,j2,j4,j6,j7,j8,gN,h_,mE,pf,tD,AE,YP,j27,hi,hm,HW⟩;unfold FM
 conv=>arg 2;whnf
 rw[j2,j4,j6,j7,j8,gN,h_,mE,pf,tD,AE,YP,j27];clear j2 j4 j6 j7 j8 gN h_ mE pf tD AE YP j27;have oz:=Z (HD.o.later HW.o.1.1);have k0:=oz.o.kn.c1;have lbn:=oz.o.kn.lt;have zQ:0<=(q:Int):=G;have Aw:(q:Int)<(Qn.length:Int):=G;have zN:(q:Int).toNat=q:=G;by_cases be:i<(Qn.getD q []).length
 ·obtain⟨ya,wa,wc,xw,rfl,rfl,d1,d2,l1,l2,lm⟩:=oz.o.nk hq be;have w2:IntKind.i64.wrap ((i:Int)+1)=((i+1:Nat):Int):=by unfold maxLen at lm;rw[bJ _ kS];omega
  obtain⟨⟨-,-,c2,s2⟩,-,c4,s4⟩:=HW.o;have xW:=Z (HK.o _ (AB (gh:=(λq=>p.ap.getD q false)) hq be).1);have dm:=Z be;have mU:0<=(i:Int):=G;have sT:(i:Int)<((Qn.getD q []).length:Int):=G;have hz3:(i:Int).toNat=i:=G;clear lm;generalize((Qn.getD q []).getD i ⟨0,[]⟩).key=k at*;generalize xY:(Qn.getD q []).length=nq at*;have Hv:=Z xY;clear xY;by_cases hr:k∈(iS (λq=>p.ap.getD q false) Qn).flatten
  ·have q1:=s2.look xW.o (b:=true) ⟨λ_=>hr,λ_=>rfl⟩;by_cases X:k∈(iS (λq=>p.ap.getD q false) Qb).flatten
   ·have q2:=s4.look xW.o (b:=true) ⟨λ_=>X,λ_=>rfl⟩;clear s2 s4 hr X;exact Sk
   ·have q2:=s4.look xW.o (b:=false) ⟨λh=>(by cases h),λh=>absurd h X⟩;obtain⟨rfl,VN⟩:=HO.o.b k hr X;subst VN;clear s2 s4 hr X;exact Sk
  ·have q1:=s2.look xW.o (b:=false) ⟨λh=>(by cases h),λh=>absurd h hr⟩;clear s2 s4 hr;exact Sk
 ·obtain rfl:i=(Qn.getD q []).length:=G;obtain⟨ya,wa,wc,rfl,c1,l1,lm,-⟩:=oz.o.qn.at_ hq;clear be;generalize xY:(Qn.getD q []).length=nq at*;clear lm xY;go_wp2;exact Eq.mpr (bo (λa=>Q (.exit 12) a W) (FM.of _ rfl)) (dD (λk=>Array.getD _ k undef) W rfl rfl rfl rfl rfl rfl rfl rfl rfl rfl rfl rfl HW.o)
def N6(x:Nat)(rem:Bool)(gv:to)(bb bn bc ba B1 B2 B3 B4:Nat)(n:Nat)(uh:Nat->ek->Prop)(m:Nat)(a:Act)(W:ek):Prop:=∃(J:Nat->to) (i:Nat),a=FM J/\J 2=gv/\J 4= .int .u64 (x:Nat)/\J 6= .bool rem/\J 7=Oi bb/\J 8=Oi bn/\J 10=Oi bc/\J 12=Oi ba/\J 15= .map (O B1)/\J 16= .map (O B2)/\J 20= .map (O B3)/\J 22= .map (O B4)/\J 26=Y (i:Nat)/\i<=n/\m+i=n+1/\Hid (uh i W)
def aa8(HD:Hid (MD V bb bn bc ba za qb qn ea gv ah tr vb vn zc cb cn ec p c Qb Qn told lb ln tb tn))(HO:Hid (GU (λq=>p.ap.getD q false) Qb Qn told x rem))(HK:Hid (∀k,k∈(cY Qn).flatten->k<18446744073709551616))(AT:Qn.length<=16)
 (dD:∀(J:Nat->to) W,J 2=gv->J 4= .int .u64 (x:Nat)->J 6= .bool rem->J 7=Oi bb->J 8=Oi bn->J 10=Oi bc->J 12=Oi ba->J 15= .map (O B1)->J 16= .map (O B2)->J 20= .map (O B3)->J 22= .map (O B4)->M5 V W B1 B2 B3 B4 (λq=>p.ap.getD q false) Qb Qn told->Q (.exit 10) (FM J) W)
 {a:Act} {W:ek} (h0:N6 x rem gv bb bn bc ba B1 B2 B3 B4 Qn.length (λ_ W=>M5 V W B1 B2 B3 B4 (λq=>p.ap.getD q false) Qb Qn told) (Qn.length+1) a W):(Code.loop mw6).wp prog Q a W:=by
 refine Mk.aM (λm a W=>N6 x rem gv bb bn bc ba B1 B2 B3 B4 Qn.length (λ_ W=>M5 V W B1 B2 B3 B4 (λq=>p.ap.getD q false) Qb Qn told) m a W) (Qn.length+1) h0 ?_ ?_
 ·rintro a W ⟨J,i,-,-,-,-,-,-,-,-,-,-,-,-,-,h1,h2,-⟩;omega
 rintro m a0 W ⟨J,q,rfl,j2,j4,j6,j7,j8,gN,h_,mE,pf,tD,AE,YP,hi,hm,HW⟩;unfold FM
 conv=>arg 2;whnf
 rw[j2,j4,j6,j7,j8,gN,h_,mE,pf,tD,AE,YP];clear j2 j4 j6 j7 j8 gN h_ mE pf tD AE YP;have oz:=Z (HD.o.later HW.o.1.1);have k0:=oz.o.kn.c1;have lbn:=oz.o.kn.lt;by_cases be:q<Qn.length
 ·have w2:=mr q G;have dm:=Z be;go_wp2_with fail;refine acv HD HO HK AT dm.o (λJ W1 j2 j4 j6 j7 j8 gN h_ mE pf tD AE YP En=>?_) ⟨_,0,FM.of _ rfl,rfl,rfl,rfl,rfl,rfl,rfl,rfl,rfl,rfl,rfl,rfl,rfl,rfl,ck _,G,HW⟩;simp only[Exit.inBlock,Exit.then]
  apply_assumption
  have yp:=Z En;clear En k0 lbn;unfold FM;rw[j2,j4,j6,j7,j8,gN,h_,mE,pf,tD,AE,YP];clear j2 j4 j6 j7 j8 gN h_ mE pf tD AE YP;go_wp2;refine⟨_,q+1,FM.of _ rfl,rfl,rfl,rfl,rfl,rfl,rfl,rfl,rfl,rfl,rfl,rfl,?_,dm.o,G,yp⟩
  first|rfl|exact bo (Value.int .i64) (show(q:Int)+1=((q+1:Nat):Int)by omega)
 ·obtain rfl:q=Qn.length:=G;clear be;go_wp2;exact Eq.mpr (bo (λa=>Q (.exit 10) a W) (FM.of _ rfl)) (dD (λk=>Array.getD _ k undef) W rfl rfl rfl rfl rfl rfl rfl rfl rfl rfl rfl HW.o)
variable {w:ek}{zv qvb qvn tv:to}{lob hib lon fi:Nat}
def ME.alloc{V W:ek}{B1 B2:Nat}{gh:Nat->Bool}(h:ME V W B1 B2 gh Qn)(o:Obj):ME V (W.alloc o) B1 B2 gh Qn:=by obtain⟨b,⟨c1,s1⟩,c2,s2⟩:=h;have f:=(aC.refl [] W).alloc o;exact⟨b.alloc b.size o,⟨c1,s1.aG f az⟩,c2,s2.aG f az⟩
def ME.lt{V W:ek}{B1 B2:Nat}{gh:Nat->Bool}(h:ME V W B1 B2 gh Qn):B1<W.heap.size/\B2<W.heap.size/\V.heap.size<=W.heap.size:=by obtain⟨b,⟨c1,s1⟩,c2,s2⟩:=h;exact⟨s1.lt,s2.lt,b.size⟩
def Ec{Ls:List (List Nat)}:ci Ls 0 0=[]:=by simp[ci]
def V8{p:Prop}(h:p:=by
 go_wp2
 first|refine Vf.eF (P:=prog) (fn:=Proofs.Tryz.f30) rfl ?_|(rw[Exit.noGoto_ret];refine Vf.eF (P:=prog) (fn:=Proofs.Tryz.f30) rfl ?_)
 exact⟨rfl,oJ.o⟩):p:=h
def acu(hg:Vf.aY w 1 gv p.ap.length (λi=> .bool (p.ap.getD i false)))(hz:Vf.aY w 1 zv c.aF.length (bd c.aF))(hqb:oK w lob hib qvb Qb lb tb)(xY:oK w lon fi qvn Qn ln tn)(hhb:hib<=w.heap.size)(Ts:fi<=w.heap.size)(OT:Vf.aY w 1 tv told.length (ni told))
 (HO:Hid (GU (λq=>p.ap.getD q false) Qb Qn told x rem)) (hx:x<18446744073709551616) (Qm:Hid (∀k,k∈(cY Qb).flatten->k<18446744073709551616)) (HKN:Hid (∀k,k∈(cY Qn).flatten->k<18446744073709551616)) (HKT:Hid (∀k,k∈told->k<18446744073709551616)) (RD:(cY Qb).flatten.length<=maxLen) (hfn:(cY Qn).flatten.length<=maxLen)
 (SZ:Qb.length=p.ap.length) (Ag:Qn.length=p.ap.length) (Bk:c.aF.length=p.ap.length) (AT:p.ap.length<=16) (HQ:Hid (∀q,q<Qn.length->((Qn.getD q []).length:Int)<=c.aF.getD q 0)) (ht:(qm (λq=>p.ap.getD q false) Qn p.ap.length:Int)<=c.size) (nO:c.size<=16777216):
 Calls prog 30 #[.agg #[qvb,vb],.agg #[qvn,vn],gv,Vf.cV c zv,.int .u64 x,.agg #[ah,tv,tr],.bool rem] w (λe w'=>e=Xc (.bool true)/\Below w.heap.size w w'):=by
 obtain⟨qb,cb,rfl,-,-⟩:=fW hqb.row;obtain⟨qn,cn,rfl,-,-⟩:=fW xY.row;obtain⟨za,zc,rfl,-,-⟩:=hz.val;obtain⟨ea,ec,rfl,-,-⟩:=OT.val;obtain⟨V,hV⟩:∃V,V=((((w.alloc (Xe #[H qb Qb.length cb,vb] 56)).alloc (Xe #[H qn Qn.length cn,vn] 56)).alloc (Xe #[Y c.size,H za c.aF.length zc] 29)).alloc (Xe #[ah,H ea told.length ec,tr] 44)):=⟨_,rfl⟩;have qt:V.heap.size=w.heap.size+4:=by rw[hV];simp
 have dG:Below w.heap.size w V:=by rw[hV];exact((((aZ _ _).alloc (aL _) _).alloc az _).alloc kZ _).alloc kZ _
 have f:=aC.ai (S:=[]) dG;have HD:=Z (show MD V w.heap.size (w.heap.size+1) (w.heap.size+2) (w.heap.size+3) za qb qn ea gv ah tr vb vn zc cb cn ec p c Qb Qn told lb ln tb tn from
  ⟨by rw[hV];exact(((aH.new _ _ _).alloc _).alloc _).alloc _,by rw[hV];exact((aH.bK az).alloc _).alloc _,by rw[hV];exact(aH.bK az).alloc _,by rw[hV];exact aH.bK az,(hqb.off f (kD.nil _ _ _ _)).mono (ck _) G,(xY.off f (kD.nil _ _ _ _)).mono (ck _) G,hg.aG f,hz.aG f,OT.aG f⟩)
 have fM:=Z (show _/\_ from⟨dG,qt⟩);have HL:=Z (show Qb.length=p.ap.length/\Qn.length=p.ap.length/\c.aF.length=p.ap.length/\p.ap.length<=16 from⟨SZ,Ag,Bk,AT⟩);have HF:=Z (show _/\_ from⟨RD,hfn⟩);have HX:=Z hx;have Yz:=Z (λV9 (X:Below V.heap.size V V9)=>afs (vv:=vn) (w:=V9) (HD.o.later X).gr (HD.o.later X).qn Ag AT G);have QM:decide (c.size<(qm (λq=>p.ap.getD q false) Qn p.ap.length:Int))=false:=decide_eq_false G;generalize qm (λq=>p.ap.getD q false) Qn p.ap.length=T at*;clear hg hz hqb xY OT dG f qt hhb Ts ht nO RD hfn SZ Ag Bk AT hx;unfold Vf.cV;go_enter func30,ntmps30;go_wp2_with fail;rw[<-hV];clear hV;have k0:Xf V.drew (I (w.heap.size+1) 0)=O (H qn Qn.length cn):=HD.o.kn.cell 0;have k1:Xf V.drew (I (w.heap.size+1) 1)=O vn:=HD.o.kn.cell 1;have z0:Xf V.drew (I (w.heap.size+2) 0)=O (Y c.size):=HD.o.kc.cell 0;have z1:Xf V.drew (I (w.heap.size+2) 1)=O (H za c.aF.length zc):=HD.o.kc.cell 1;have og:((Qn.length:Int)!=(c.aF.length:Int))=false:=by rw[HL.o.2.1,HL.o.2.2.1];simp
 have OE:=Z (show Below V.heap.size V V.drew from aA _ V 1);refine Mk.bq (S:=λwx=>Xf wx (I (w.heap.size+1) 0)=O (H qn Qn.length cn)/\Xf wx (I (w.heap.size+1) 1)=O vn/\Xf wx (I (w.heap.size+2) 0)=O (Y c.size)/\Xf wx (I (w.heap.size+2) 1)=O (H za c.aF.length zc)) bj ⟨k0,k1,z0,z1⟩ (λau=>?_);generalize V.drew=V0 at*;refine Mk.cD 0 ?_;refine Mk.cD 1 ?_;refine Mk.cD 3 ?_;refine Mk.cD 4 ?_;refine Mk.oH (rs:=[2]) (bX rfl (λK9 hK=>?_) cz);refine fL ?_;go_simp;refine(Yz.o _ OE.o).mono ?_;rintro e W1 ⟨rfl,fS⟩;have dS:=Z (OE.o.trans (fS.mono OE.o.size));have Wd:=Z fS;clear au fS;refine hK.out _ _ ⟨(aR (Wd.o.block _ (ay k0))).trans k0,(aR (Wd.o.block _ (ay k1))).trans k1,(aR (Wd.o.block _ (ay z0))).trans z0,(aR (Wd.o.block _ (ay z1))).trans z1⟩ (λau=>?_);clear hK K9;refine Mk.pt ?_;refine Mk.cD 5 ?_;refine Mk.cD 6 ?_;refine Mk.cD 7 ?_;refine Mk.cD 8 ?_;refine Mk.cD 9 ?_;refine Mk.cD 10 ?_;refine Mk.cD 11 ?_;refine Mk.cD 12 ?_;refine Mk.cD 13 ?_;refine Mk.cD 14 ?_;refine eT bj ⟨rfl,?_⟩ _;clear au k0 k1 z0 z1 QM og;have xN:= @run_makeMap prog;go_wp2_with fail;clear xN;obtain⟨X1,hX1⟩:∃X1,X1=W1.alloc (.map #[] 0):=⟨_,rfl⟩;obtain⟨X2,Xz⟩:∃X2,X2=X1.alloc (.map #[] 0):=⟨_,rfl⟩;have zQ:X1.heap.size=W1.heap.size+1:=by rw[hX1];simp
 have Bi:=Z (show M2 V X2 W1.heap.size (W1.heap.size+1) (λq=>p.ap.getD q false) Qn 0 0 by
  refine⟨by rw[Xz,hX1];exact(dS.o.alloc dS.o.size _).alloc (by have:=dS.o.size;simp;omega) _,0,0,?_,?_,ck _,ck _⟩
  ·have:jh X1 W1.heap.size (· ∈ci (cY Qn) 0 0) 0:=by rw[hX1];exact(sN W1).iff λk=>by rw[Ec];simp
   rw[Xz];exact this.aG ((aC.refl [] X1).alloc _) az
  ·have:jh (X1.alloc (.map #[] 0)) X1.heap.size (· ∈ci (iS (λq=>p.ap.getD q false) Qn) 0 0) 0:=(sN X1).iff λk=>by rw[Ec];simp
   rw[Xz,<-zQ];exact this)
 have We:=Z (show V.heap.size<=W1.heap.size from dS.o.size);rw[<-hX1,<-Xz];clear hX1 Xz zQ;generalize W1.heap.size=B1 at*;refine aa6 HD HO HKN HF.o.2 We.o (by have:=We.o;omega) G HL.o.2.1 (HL.o.2.1.trans HL.o.2.2.1.symm) (by rw[HL.o.2.1];exact HL.o.2.2.2) HQ (λJ W2 j2 j4 j6 j7 j8 gN h_ mE pf Bm=>?_) ⟨_,0,FM.of _ rfl,rfl,rfl,rfl,rfl,rfl,rfl,rfl,rfl,rfl,rfl,ck _,G,Bi⟩;simp only[Exit.inBlock,Exit.then]
 apply_assumption
 have Qd:=Z Bm;clear Bm Bi;unfold FM;rw[j2,j4,j6,j7,j8,gN,h_,mE,pf];clear j2 j4 j6 j7 j8 gN h_ mE pf;have xN:= @run_makeMap prog;go_wp2_with fail;clear xN;have px:=Z (show M3 V (W2.alloc (.map #[] 0)) B1 (B1+1) W2.heap.size (λq=>p.ap.getD q false) Qn told 0 from⟨Qd.o.alloc _,0,(sN W2).iff λk=>by simp,aL _⟩);have Wg:=Z Qd.o.lt;generalize W2.alloc (.map #[] 0)=X3 at*;generalize W2.heap.size=B3 at*;refine acy HD HKT Wg.o.2.2 (by have:=Wg.o.1;omega) (by have:=Wg.o.2.1;omega) (λJ W3 j2 j4 j6 j7 j8 gN h_ mE pf tD Bm=>?_) ⟨_,0,FM.of _ rfl,rfl,rfl,rfl,rfl,rfl,rfl,rfl,rfl,rfl,rfl,rfl,ck _,G,px⟩;simp only[Exit.inBlock,Exit.then]
 apply_assumption
 obtain⟨Bm,c3,zN⟩:=Bm;have Wh:=Z Bm;have Nu:=Z zN;clear Bm zN px Qd;unfold FM;rw[j2,j4,j6,j7,j8,gN,h_,mE,pf,tD];clear j2 j4 j6 j7 j8 gN h_ mE pf tD;have xN:= @run_makeMap prog;go_wp2_with fail;clear xN;have HE4:=Z (show M4 V (W3.alloc (.map #[] 0)) B1 (B1+1) B3 W3.heap.size (λq=>p.ap.getD q false) Qb Qn told 0 0 from⟨Wh.o.alloc _,⟨c3,Nu.o.aG ((aC.refl [] W3).alloc _) az⟩,0,(sN W3).iff λk=>by rw[Ec];simp,ck _⟩);have Se:=Z (show _/\_ from⟨Wh.o.lt,Nu.o.lt⟩);generalize W3.alloc (.map #[] 0)=X4 at*;generalize W3.heap.size=B4 at*;refine acw HD HO Qm HF.o.1 Se.o.1.2.2 (by have:=Se.o.1.1;omega) (by have:=Se.o.1.2.1;omega) (by have:=Se.o.2;omega) HL.o.1 (by rw[HL.o.1];exact HL.o.2.2.2) (λJ W4 j2 j4 j6 j7 j8 gN h_ mE pf tD AE Bm=>?_) ⟨_,0,FM.of _ rfl,rfl,rfl,rfl,rfl,rfl,rfl,rfl,rfl,rfl,rfl,rfl,rfl,ck _,G,HE4⟩;simp only[Exit.inBlock,Exit.then]
 apply_assumption
 have HM5:=Z Bm;clear Bm HE4 Wh Nu Se Wg;unfold FM;rw[j2,j4,j6,j7,j8,gN,h_,mE,pf,tD,AE];clear j2 j4 j6 j7 j8 gN h_ mE pf tD AE;go_wp2_with fail;refine aa8 HD HO HKN (by rw[HL.o.2.1];exact HL.o.2.2.2) (λJ W5 j2 j4 j6 j7 j8 gN h_ mE pf tD AE Bm=>?_) ⟨_,0,FM.of _ rfl,rfl,rfl,rfl,rfl,rfl,rfl,rfl,rfl,rfl,rfl,rfl,rfl,ck _,G,HM5⟩;simp only[Exit.inBlock,Exit.then]
 apply_assumption
 obtain⟨⟨re,⟨c1,s1⟩,c2,s2⟩,⟨c3',s3⟩,c4,s4⟩:=Bm;have HD5:=Z (HD.o.later re);have oJ:=Z (show Below w.heap.size w W5 from fM.o.1.trans (re.mono fM.o.1.size));clear re HM5;unfold FM;rw[j2,j4,j6,j7,j8,gN,h_,mE,pf,tD,AE];clear j2 j4 j6 j7 j8 gN h_ mE pf tD AE;cases rem with
 |true=>obtain⟨d1,d2⟩:=HO.o.d rfl;have q1:=s1.look HX.o (b:=false) ⟨λh=>(by cases h),λh=>absurd h d1⟩;have k0:Xf W5 (I (w.heap.size+3) 1)=O (H ea told.length ec):=HD5.o.ka.cell 1;have lk:=HD5.o.ka.lt;rw[d2]at k0;clear s1 s2 s3 s4 d1 d2;exact V8
 |false=>
  by_cases X:x∈(iS (λq=>p.ap.getD q false) Qb).flatten
  ·have q4:=s4.look HX.o (b:=true) ⟨λ_=>X,λ_=>rfl⟩;by_cases hr:x∈(iS (λq=>p.ap.getD q false) Qn).flatten
   ·have q2:=s2.look HX.o (b:=true) ⟨λ_=>hr,λ_=>rfl⟩;clear s1 s2 s3 s4 X hr;exact V8
   ·have ht:=(HO.o.c rfl X).resolve_left hr;have q2:=s2.look HX.o (b:=false) ⟨λh=>(by cases h),λh=>absurd h hr⟩;have q3:=s3.look HX.o (b:=true) ⟨λ_=>ht,λ_=>rfl⟩;clear s1 s2 s3 s4 X hr ht;exact V8
  ·have q4:=s4.look HX.o (b:=false) ⟨λh=>(by cases h),λh=>absurd h X⟩;clear s1 s2 s3 s4 X;exact V8
end
open Go.Shelf
open eO (cw bP eY Fk xR yl rowsOf)
open Ix (dp)
open jf (xQ dU)
attribute [local go_sem] Oper.semAt_some
def ku(w:ek)(S:PS)(e:Ending)(w':ek):Prop:=
 ∃qv vv lv tv,e=Xc (.agg #[qv,vv])/\Below w.heap.size w w'/\gS w' w.heap.size w'.heap.size qv vv S lv tv
def afr:(prog.info? 62).map (λi=>(i.zero,i.size,i.bytes))=O (O (.agg #[.int .u64 0,Xd]),2,32):=by kernel_rfl
def acs:(prog.info? 60).map (λi=>(i.zero,i.size,i.bytes))=O (O Xd,1,24):=by kernel_rfl
structure SL(w W:ek)(sb hi mb:Nat)(va qv:to)(S:PS)(Ds:List Nat)(lv:Nat->to)(tv:Nat->Nat->to):Prop where
 uo:Below w.heap.size w W
 lo:w.heap.size+1<sb/\sb<hi/\hi<=W.heap.size
 b1:aH W w.heap.size 35 #[Oi mb]
 b2:aH W (w.heap.size+1) 56 #[Xd,Xd]
 b3:aH W sb 56 #[qv,va]
 st:gS W w.heap.size hi qv va S lv tv
 uu:Mk.Marks W Ds
 ml:∀D,D∈Ds->w.heap.size<=D
def SL.aG{w W W':ek}{sb hi mb:Nat}{va qv:to}{S:PS}{Ds:List Nat}{lv:Nat->to}{tv:Nat->Nat->to}{T:List Nat}(h:SL w W sb hi mb va qv S Ds lv tv)(f:aC T W W')(hT:∀b,b∈T->hi<=b)(hD:∀D,D∈Ds->D∉T):SL w W' sb hi mb va qv S Ds lv tv:=by
 obtain⟨l1,l2,l3⟩:=h.lo;have hs:=h.uo.size;refine⟨h.uo.trans (f.below hs (λk hk=>by have:=hT k hk;omega)),⟨l1,l2,bS l3 f.size⟩,?_,?_,?_,h.st.off f (kD.range λb X=> .inr (hT b X)),h.uu.keeps (λk hk=>f.block k (h.uu.lt hk) (hD k hk)),h.ml⟩
 ·exact h.b1.aG f (λhc=>by have:=hT _ hc;omega)
 ·exact h.b2.aG f (λhc=>by have:=hT _ hc;omega)
 ·exact h.b3.aG f (λhc=>by have:=hT _ hc;omega)
def SL.later{w W W':ek}{sb hi mb:Nat}{va qv:to}{S:PS}{Ds:List Nat}{lv:Nat->to}{tv:Nat->Nat->to}(h:SL w W sb hi mb va qv S Ds lv tv)(b:Below W.heap.size W W'):SL w W' sb hi mb va qv S Ds lv tv:=
 h.aG (aC.ai (S:=[]) b) az az
def SL.up{w W:ek}{sb hi mb:Nat}{va qv:to}{S:PS}{Ds:List Nat}{lv:Nat->to}{tv:Nat->Nat->to}(h:SL w W sb hi mb va qv S Ds lv tv){hi':Nat}(h1:hi<=hi')(h2:hi'<=W.heap.size):SL w W sb hi' mb va qv S Ds lv tv:=
 ⟨h.uo,⟨h.lo.1,by have:=h.lo;omega,h2⟩,h.b1,h.b2,h.b3,h.st.mono (aL _) h1,h.uu,h.ml⟩
structure IL(w W6 W:ek)(sb lb mb:Nat)(va qv:to)(S:PS)(Ds:List Nat)(lv:Nat->to)(tv:Nat->Nat->to)(l:List PE)(ev:to)(te:Nat->to):Prop where
 sl:SL w W sb lb mb va qv S Ds lv tv
 bx:aH W lb 60 #[ev]
 es:lN W W6.heap.size W.heap.size ev l te
 sz:lb<W6.heap.size/\W6.heap.size<=W.heap.size
def IL.grown{w W6 W W':ek}{sb lb mb:Nat}{va qv:to}{S:PS}{Ds:List Nat}{lv:Nat->to}{tv:Nat->Nat->to}{l:List PE}{ev:to}{te:Nat->to}(h:IL w W6 W sb lb mb va qv S Ds lv tv l ev te)
 (Bh:∀D,D∈Ds->D<W6.heap.size) {row:Option Nat} (hg:W.grownBy W' row) (hr:∀r,row=O r->W6.heap.size<=r/\∃o:Obj,W.heap[r]? =O o/\o.isCells=false):IL w W6 W' sb lb mb va qv S Ds lv tv l ev te:=by
 have f:=al.Vm.ej hg;have hm:∀b,b∈row.toList->W6.heap.size<=b/\∃o:Obj,W.heap[b]? =O o/\o.isCells=false:=λb X=>hr b (by simpa using X);have h1:=h.sz;refine⟨h.sl.aG f (λb X=>by have:=(hm b X).1;omega) (λD hD hc=>by have:=(hm D hc).1;have:=Bh D hD;omega),h.bx.aG f (λhc=>by have:=(hm _ hc).1;omega),?_,⟨h1.1,bS h1.2 hg.size⟩⟩;exact(h.es.off f (λb X=> .inr (.inr (hm b X).2))).mono (aL _) hg.size
def FrQ(w:ek)(sb nq q:Nat)(Ds:List Nat)(a:Act):Prop:=∃J:Nat->to,a={tmps:=#[J 0,Oi w.heap.size,Oi (w.heap.size+1),Oi sb,J 4,J 5,J 6,J 7,J 8,J 9,J 10,J 11,J 12,J 13,J 14,J 15,J 16,J 17,J 18,J 19,Y nq,Y q,J 22,J 23,J 24,J 25,J 26,J 27,J 28,J 29,J 30,J 31,J 32,J 33,J 34,J 35,J 36,J 37,J 38,J 39,J 40,J 41,J 42,J 43,J 44,J 45,J 46,J 47,J 48,J 49,J 50,J 51,J 52,J 53,J 54,J 55,J 56],defers:=Mk.marksOf Ds}
def FrB(w:ek)(lb eb:Nat)(a:Act):Prop:=∃J:Nat->to,a={tmps:=#[J 0,Oi w.heap.size,J 2,J 3,J 4,Oi lb,J 6,Oi eb,J 8,J 9,J 10,J 11,J 12,J 13,J 14,J 15,J 16,J 17,J 18,J 19,J 20,J 21,J 22,J 23,J 24,J 25,J 26,J 27,J 28,J 29,J 30,J 31,J 32,J 33,J 34,J 35,J 36,J 37,J 38,J 39,J 40,J 41,J 42,J 43,J 44,J 45,J 46,J 47,J 48,J 49,J 50,J 51,J 52,J 53,J 54,J 55,J 56],defers:=[]}
def IL.later{w W6 W W':ek}{sb lb mb:Nat}{va qv:to}{S:PS}{Ds:List Nat}{lv:Nat->to}{tv:Nat->Nat->to}{l:List PE}{ev:to}{te:Nat->to}(h:IL w W6 W sb lb mb va qv S Ds lv tv l ev te)(b:Below W.heap.size W W'):IL w W6 W' sb lb mb va qv S Ds lv tv l ev te:=
 ⟨h.sl.later b,h.bx.of (b.block _ h.bx.lt),(h.es.off (aC.ai (S:=[]) b) (kD.nil _ _ _ _)).mono (aL _) b.size,h.sz.1,bS h.sz.2 b.size⟩
def AxS(w w6:ek)(lb:Nat)(x:Nat×eW)(a:Act)(W:ek):Prop:=∃eb,FrB w lb eb a/\aH W eb 118 (aQ x.2)/\w6.heap.size<=eb
def AxS.grown{w w6 W W':ek}{lb:Nat}{x:Nat×eW}{a:Act}(h:AxS w w6 lb x a W){row:Option Nat}(hg:W.grownBy W' row)(hr:∀r,row=O r->w6.heap.size<=r/\∃o:Obj,W.heap[r]? =O o/\o.isCells=false):AxS w w6 lb x a W':=by obtain⟨eb,h1,h2,h3⟩:=h;exact⟨eb,h1,h2.of (Mk.PP.grown h2.B0 hg λr e=>(hr r e).2),h3⟩
def ael(w:ek)(sb mb:Nat)(va:to)(p:aU)(s:St)(m:Nat)(a:Act)(W:ek):Prop:=
 ∃(q:Nat) (Ds:List Nat) (qv:to) (lv:Nat->to) (tv:Nat->Nat->to) (hi:Nat),q<=p.ap.length/\m+q=p.ap.length+1/\FrQ w sb p.ap.length q Ds a/\Hid (SL w W sb hi mb va qv ⟨(List.range q).map (ke p s),(List.range p.vars.length).map s.vars⟩ Ds lv tv)
section
variable {w w':ek}{C C':Co}{RO RO':List Nat}{K:Kc}{p:aU}{c:Cp}{t t':fG}{used used':Int}{s s':St}{rv rv':to}
def IL.told{W6 W V w1 w2 w3:ek}{sb lb mb:Nat}{va qv:to}{S:PS}{Ds:List Nat}{lv:Nat->to}{tv:Nat->Nat->to}{l:List PE}{ev:to}{te:Nat->to}(h:IL w W6 W sb lb mb va qv S Ds lv tv l ev te)
 (Bh:∀D,D∈Ds->D<W6.heap.size) (hV:Below W.heap.size W V) {zb:Nat} (hz:W.heap.size<=zb) (f1:aC [zb] V w1) {v1:to} {x:PE} (r1:Row w1 3 1 v1 x.aW.length (bd x.aW)) (i1:∀b,v1.ownBlock=O b->W.heap.size<=b)
 (h2:Below w1.heap.size w1 w2) (f3:aC ev.ownBlock.toList w2 w3) {v':to} (r3:Row w3 62 2 v' (l.length+1) (gQ (l.length*2) (QT l te) λj=>if j % 2=0 then .int .u64 x.key else v1)) (i3:v'.ownBlock=ev.ownBlock\/v'.ownBlock=O w2.heap.size):
 ∃te',IL w W6 (w3.setCell (I lb 0) v') sb lb mb va qv S Ds lv tv (l++[x]) v' te'/\aC (lb::ev.ownBlock.toList) W (w3.setCell (I lb 0) v'):=by
 obtain⟨z1,z2⟩:=h.sz;have F1:aC [] W w1:=(aC.ai (S:=[zb]) hV).trans f1 |>.Pp (by intro k hk;simp at hk;subst hk;exact .inr hz);have F2:aC [] W w2:=F1.trans (aC.ai h2);have F3:aC ev.ownBlock.toList W w3:=(F2.mono az).trans f3;have F4:aC (lb::ev.ownBlock.toList) W (w3.setCell (I lb 0) v'):=(F3.mono (by intro k hk;simp[hk])).setCell az _;have t_:∀b,b∈ev.ownBlock.toList->ev.ownBlock=O b:=λb X=>by simpa using X
 have es2:=h.es.off F2 (kD.nil _ _ _ _);have r12:Row w2 3 1 v1 x.aW.length (bd x.aW):=r1.aG (aC.ai (S:=[]) h2) az;have r13:Row w3 3 1 v1 x.aW.length (bd x.aW):=r12.aG f3 (λb X hc=>by
  rcases Row.ne r12 es2.row bz with h'|h'
  ·rw[X]at h';cases h'
  ·exact h' (by rw[X,t_ b hc]))
 have lt1:∀b,v1.ownBlock=O b->b<w3.heap.size:=λb X=>(gW r13 b X).2;have UT:∀b,v'.ownBlock=O b->b<w3.heap.size:=λb X=>(gW r3 b X).2;have hx:fg w3 W6.heap.size w3.heap.size v1 x.aW:=⟨r13,λb X=>⟨by have:=i1 b X;omega,lt1 b X⟩⟩;have uW:nQ W6.heap.size w3.heap.size v':=λb X=>⟨by
  rcases i3 with h'|h'
  ·exact(h.es.jJ b (by rw[<-h',X])).1
  ·rw[X]at h';simp at h';have:=F2.size;omega,UT b X⟩
 have e3:=lN.snoc es2 hx F2.size f3 (λb X=>by
  obtain⟨cs,nB⟩:=es2.row.UO (t_ b X);exact .inr (.inl ⟨_,cs,nB,by simp[wB]⟩)) r3 uW
 have QX:aH w3 lb 60 #[ev]:=(h.bx.aG F3 (λhc=>by have:=h.es.jJ lb (t_ lb hc);omega));have e4:=e3.off ((aC.refl [lb] w3).setCell (p:=(I lb 0)) az v') (λb X=>by simp at X;subst X;exact .inr (.inl ⟨_,_,QX,by simp[Nl]⟩));refine⟨_,⟨h.sl.aG F4 (λb X=>?_) (λD hD hc=>?_),QX.set 0 v',by simpa[World.setCell]using e4,⟨z1,by have:=F4.size;omega⟩⟩,F4⟩
 ·rcases List.mem_cons.1 X with rfl|X
  ·exact aL _
  ·have:=h.es.jJ b (t_ b X);omega
 ·rcases List.mem_cons.1 hc with rfl|hc
  ·exact h.sl.uu.not h.bx.B0 hD
  ·exact h.sl.uu.not (Row.B0 h.es.row (t_ D hc)) hD
def SL.next{W6 W w1 w3:ek}{sb lb mb D:Nat}{va qv:to}{S:PS}{Ds:List Nat}{lv:Nat->to}{tv:Nat->Nat->to}{l:List PE}{ev:to}{te:Nat->to}(h:IL w W6 W sb lb mb va qv S Ds lv tv l ev te)
 (Bh:∀D,D∈Ds->D<W6.heap.size) (b1:Below W.heap.size W w1) (f3:aC qv.ownBlock.toList w1 w3) {v':to} (r3:Row w3 60 1 v' (S.aF.length+1) (gQ (S.aF.length*1) lv λ_=>ev)) (i3:v'.ownBlock=qv.ownBlock\/v'.ownBlock=O w1.heap.size)
 (hD:W.heap[D]? =O (.deferred (O []))) (hD6:W6.heap.size<=D):
 ∃lv' Tl,SL w (w3.setCell (I sb 0) v') sb w3.heap.size mb va v' ⟨S.aF++[l],S.vars⟩ (D::Ds) lv' Tl:=by
 obtain⟨z1,z2⟩:=h.sz;obtain⟨l1,l2,l3⟩:=h.sl.lo;have hq:∀b,b∈qv.ownBlock.toList->qv.ownBlock=O b:=λb X=>by simpa using X
 have F1:aC [] W w1:=aC.ai b1;have F3:aC qv.ownBlock.toList W w3:=(F1.mono az).trans f3;have qs1:=h.sl.st.qs.off F1 (kD.nil _ _ _ _);have es1:=h.es.off F1 (kD.nil _ _ _ _);have ty:∀Es:List TypeId,60∉Es->∀lo hi,kD w1 lo hi Es qv.ownBlock.toList:=λEs hE lo hi b X=>by obtain⟨cs,nB⟩:=qs1.row.UO (hq b X);exact .inr (.inl ⟨_,cs,nB,hE⟩)
 have es3:=es1.off f3 (ty _ bz _ _);have UT:∀b,v'.ownBlock=O b->b<w3.heap.size:=λb X=>(gW r3 b X).2;have hw:=h.sl.uo.size;have uW:nQ w.heap.size w3.heap.size v':=λb X=>⟨by
  rcases i3 with h'|h'
  ·exact(qs1.jJ b (by rw[<-h',X])).1
  ·rw[X]at h';simp at h';have:=F1.size;omega,UT b X⟩
 have q3:=oK.snoc (w:=w1) (w':=w3) qs1 (es3.mono G F3.size) (by have:=F1.size;omega) f3 (ty _ bz _ _) r3 uW (λb X=>by have:=h.es.jJ b X;omega);have nb:∀b,b∈qv.ownBlock.toList->b≠w.heap.size/\b≠w.heap.size+1/\b≠sb:=λb X=>by obtain⟨cs,nB⟩:=h.sl.st.qs.row.UO (hq b X);exact⟨λe=>by subst e;exact aH.ne nB h.sl.b1 bz rfl,λe=>by subst e;exact aH.ne nB h.sl.b2 bz rfl,λe=>by subst e;exact aH.ne nB h.sl.b3 bz rfl⟩
 have b3:aH w3 sb 56 #[qv,va]:=h.sl.b3.aG F3 (λhc=>(nb _ hc).2.2 rfl);have G_:aC [sb] w3 (w3.setCell (I sb 0) v'):=(aC.refl [sb] w3).setCell (p:=(I sb 0)) az v';have oS:∀Es:List TypeId,56∉Es->∀lo hi,kD w3 lo hi Es [sb]:=λEs hE lo hi b X=>by simp at X;subst X;exact .inr (.inl ⟨_,_,b3,hE⟩)
 have vs3:fg w3 w.heap.size lb va S.vars:=h.sl.st.vs.off F3 (λb X=>by
  obtain⟨cs,nB⟩:=h.sl.st.qs.row.UO (hq b X);exact .inr (.inl ⟨_,cs,nB,bz⟩))
 have hDn:D∉Ds:=λhc=>by have:=Bh D hc;omega
 have nD:∀k,k∈D::Ds->k∉qv.ownBlock.toList/\k≠sb:=λk hk=>by
  have hM:W.heap[k]? =O (.deferred (O [])):=by
   rcases List.mem_cons.1 hk with rfl|hk
   ·exact hD
   ·exact h.sl.uu.at_ k hk
  refine⟨λhc=>?_,λe=>?_⟩
  ·obtain⟨cs,nB⟩:=h.sl.st.qs.row.UO (hq k hc);unfold aH at nB;rw[hM]at nB;cases nB
  ·subst e;have:=h.sl.b3;unfold aH at this;rw[hM]at this;cases this
 refine⟨_,_,⟨?_,⟨l1,by have:=F3.size;omega,by have:=G_.size;omega⟩,?_,?_,b3.set 0 v',⟨by have:=q3.off G_ (oS _ bz _ _);exact this,?_⟩,⟨List.nodup_cons.2 ⟨hDn,h.sl.uu.nd⟩,λk hk=>?_⟩,λk hk=>?_⟩⟩
 ·exact(h.sl.uo.trans (F3.below hw (λk hk=>(h.sl.st.qs.jJ k (hq k hk)).1))).setCell (by show w.heap.size<=sb;omega) v'
 ·exact(h.sl.b1.aG F3 (λhc=>(nb _ hc).1 rfl)).aG G_ kZ
 ·exact(h.sl.b2.aG F3 (λhc=>(nb _ hc).2.1 rfl)).aG G_ kZ
 ·exact(vs3.off G_ (oS _ bz _ _)).mono (aL _) (by have:=F3.size;omega)
 ·have hM:W.heap[k]? =O (.deferred (O [])):=by
   rcases List.mem_cons.1 hk with rfl|hk
   ·exact hD
   ·exact h.sl.uu.at_ k hk
  obtain⟨n1,n2⟩:=nD k hk;have im:k<W.heap.size:=(Array.getElem?_eq_some_iff.1 hM).1;exact(G_.block k (by have:=F3.size;omega) (by simp;exact n2)).trans ((F3.block k im n1).trans hM)
 ·rcases List.mem_cons.1 hk with rfl|hk
  ·omega
  ·exact h.sl.ml k hk
def LJ(w:ek)(mb eb key:Nat)(tv:to)(wx:ek):Prop:=Xf wx (I eb 0)=O (.int .u64 key)/\Xf wx (I w.heap.size 0)=O (Oi mb)/\Xf wx (I mb 2)=O tv
def LJ.aG{w W W':ek}{mb eb key:Nat}{tv:to}(h:LJ w mb eb key tv W){T:List Nat}(f:aC T W W')(h1:eb∉T)(h2:w.heap.size∉T)(h3:mb∉T):LJ w mb eb key tv W':=by obtain⟨a1,a2,a3⟩:=h;exact⟨(aR (f.block eb (ay a1) h1)).trans a1,(aR (f.block _ (ay a2) h2)).trans a2,(aR (f.block _ (ay a3) h3)).trans a3⟩
def LJ.alloc{w W:ek}{mb eb key:Nat}{tv:to}(h:LJ w mb eb key tv W)(o:Obj):LJ w mb eb key tv (W.alloc o):=h.aG ((aC.refl [] W).alloc o) az az az
structure aem(w W6 W w1:ek)(sb lb mb:Nat)(va qv:to)(S:PS)(Ds FB:List Nat)(lv:Nat->to)(tv:Nat->Nat->to)(l:List PE)(ev:to)(te:Nat->to)(x:PE)(v1:to)(SS:ek->Prop):Prop where
 row:Row (w1.alloc (Xe #[.int .u64 x.key,v1] 62)) 62 2 ev l.length (QT l te)
 news:∀j,j<1*2->(w1.alloc (Xe #[.int .u64 x.key,v1] 62)).cell? (Addr.add (I w1.heap.size 0) j)=O (if j % 2=0 then .int .u64 x.key else v1)
 one:∀j,j<1*2->(if j % 2=0 then Value.int .u64 x.key else v1).oneCell'=true
 fin:∀v' w3,Row w3 62 2 v' (l.length+1) (gQ (l.length*2) (QT l te) λj=>if j % 2=0 then .int .u64 x.key else v1)->aC ev.ownBlock.toList (w1.alloc (Xe #[.int .u64 x.key,v1] 62)) w3->(v'.ownBlock=ev.ownBlock\/v'.ownBlock=O (w1.alloc (Xe #[.int .u64 x.key,v1] 62)).heap.size)->
  SS w3/\(∀o,w3.frozen? (I lb o)=false)/\Xf w3 (I lb 0)=O ev/\SS (w3.setCell (I lb 0) v')/\KeepsFrom W6.heap.size W (w3.setCell (I lb 0) v')/\xQ FB W (w3.setCell (I lb 0) v')/\∃ev' te',IL w W6 (w3.setCell (I lb 0) v') sb lb mb va qv S Ds lv tv (l++[x]) ev' te'
def aba(tb nt:Nat)(h:nt<=4)(w:ek):(Instr.sliceAt 116 (Oi tb) Xb (O (Y nt)) Xb).run prog w= .ok (H (O (I tb 0)) nt 4) w:=by
 have hl:prog.arrayLen 116=4:=by kernel_rfl
 have hs:∀w,(sizeOf (prog.elem 116)).run prog w= .ok 1 w:=λ_=>by kernel_rfl
 rw[run_sliceAt_array_h w 116 (I tb 0) bj .i64 nt G G,hs,hl];simp[slicedAt,Addr.add]
def Sf(x:eW):Array to:=#[Y (x.tg 0),Y (x.tg 1),Y (x.tg 2),Y (x.tg 3)]
def kP(W:ek)(x:eW):ek:=(W.alloc (Xe (Sf x) 116)).drew
def qO(W:ek)(x:eW):ek:=(kP W x).alloc (Xe #[] 3)
structure acr(w W6 W:ek)(sb lb mb eb nt:Nat)(va qv:to)(S:PS)(Ds FB:List Nat)(lv:Nat->to)(tv:Nat->Nat->to)(l:List PE)(ev:to)(te:Nat->to)(x:eW)(y:PE)(SS:ek->Prop):Prop where
 s0:SS (kP W x)
 c0:(kP W x).cell? (I lb 0)=O ev
 l0:lb<(kP W x).heap.size
 row:Row (qO W x) 3 1 (H (O (I ((kP W x).heap.size) 0)) 0 0) 0 (λ_=> Y 0)
 news:∀j,j<nt*1->(qO W x).cell? (Addr.add (I W.heap.size 0) j)=O (Y (x.tg j))
 w1:∀v1 w1,Row w1 3 1 v1 (0+nt) (gQ (0*1) (λ_=> Y 0) λj=> Y (x.tg j))->aC (Value.slice (O (I ((kP W x).heap.size) 0)) 0 0).ownBlock.toList (qO W x) w1->
  (v1.ownBlock=(Value.slice (O (I ((kP W x).heap.size) 0)) 0 0).ownBlock\/v1.ownBlock=O (qO W x).heap.size)->SS w1/\Xf w1 (I lb 0)=O ev/\lb<w1.heap.size/\aem w W6 W w1 sb lb mb va qv S Ds FB lv tv l ev te y v1 SS
def IL.region{W6 W:ek}{sb lb mb eb:Nat}{va qv:to}{S:PS}{Ds FB:List Nat}{lv:Nat->to}{tv:Nat->Nat->to}{l:List PE}{ev:to}{te:Nat->to}(h:IL w W6 W sb lb mb va qv S Ds lv tv l ev te)
 (Bh:∀D,D∈Ds->D<W6.heap.size) {x:eW} (heb:aH W eb 118 (aQ x)) (hle:W6.heap.size<=eb) (hnt:p.aW.length<=4) (QY:∀k,k∈FB->k<W6.heap.size/\k≠lb) {tvv:to} (m2:Xf W (I mb 2)=O tvv) (mO:mb<w.heap.size):
 acr w W6 W sb lb mb eb p.aW.length va qv S Ds FB lv tv l ev te x (vp p x) (LJ w mb eb x.key tvv):=by
 obtain⟨z1,z2⟩:=h.sz;have hw:=h.sl.uo.size;have jE:=h.sl.lo;have bV:Below W.heap.size W (kP W x):=((aZ _ W).alloc (aL _) _).trans (aA _ _ 1);have zV:(kP W x).heap.size=W.heap.size+1:=by unfold kP;simp
 have FV:aC [] W (kP W x):=aC.ai bV;have F2:aC [] W (qO W x):=FV.alloc _;have s0:LJ w mb eb x.key tvv W:=⟨heb.cell 0,h.sl.b1.cell 0,m2⟩;have t_:∀b,b∈ev.ownBlock.toList->ev.ownBlock=O b:=λb X=>by simpa using X
 have rE2:=h.es.row.aG F2 az;refine⟨s0.aG FV az az az,(h.bx.aG FV az).cell 0,by have:=h.bx.lt;omega,?_,λj hj=>?_,λv1 w1 r1 f1 b1=>?_⟩
 ·have:=Gn (e:=3) (size:=1) (kP W x) #[] 0 (ck _) (ck _) az;exact this
 ·rw[Addr.add_lit,Nat.zero_add];have X:aH (qO W x) W.heap.size 116 (Sf x):=((aH.new W _ _).drewN 1).alloc _;rw[X.cell j];unfold Sf;have:j=0\/j=1\/j=2\/j=3:=G;rcases this with rfl|rfl|rfl|rfl<;>rfl
 ·have f1':aC [W.heap.size+1] (qO W x) w1:=f1.mono (by intro k hk;rw[zV]at hk;simpa[Value.ownBlock]using hk);have E5:Below W.heap.size W (qO W x):=bV.alloc bV.size _;have F1:aC [] W w1:=(F2.mono (T:=[W.heap.size+1]) az).trans f1' |>.Pp (by intro k hk;simp at hk;subst hk;exact .inr G);have s1:=s0.aG F1 az az az;have bx1:=h.bx.aG F1 az;have hlen:(vp p x).aW.length=p.aW.length:=by simp[vp]
  have r1':Row w1 3 1 v1 (vp p x).aW.length (bd (vp p x).aW):=by rw[hlen];rw[Nat.zero_add]at r1;refine r1.congr λo ho=>?_;unfold gQ bd vp;rw[ax G];dsimp only;rw[jg _ _ G];congr 1
  have i1:∀b,v1.ownBlock=O b->W.heap.size<=b:=λb X=>by
   rcases b1 with h'|h'<;>rw[X]at h'<;>simp[Value.ownBlock]at h'
   ·rw[zV]at h';omega
   ·have:=F2.size;omega
  have b2:Below w1.heap.size w1 (w1.alloc (Xe #[.int .u64 x.key,v1] 62)):=(aZ _ _).alloc (aL _) _;obtain⟨va1,vn1,vc1,rfl⟩:=Row.nC r1;refine⟨s1,bx1.cell 0,bx1.lt,⟨(h.es.row.aG F1 az).aG (aC.ai (S:=[]) b2) az,λj hj=>?_,λj hj=>?_,λv' w3 r3 f3 b3=>?_⟩⟩
  ·rw[Addr.add_lit,Nat.zero_add,(aH.new w1 62 #[.int .u64 (vp p x).key,H va1 vn1 vc1]).cell j];have:j=0\/j=1:=G;rcases this with rfl|rfl<;>rfl
  ·have:j=0\/j=1:=G;rcases this with rfl|rfl<;>rfl
  ·obtain⟨te',hI,hF⟩:=h.told (x:=vp p x) Bh E5 G f1' r1' i1 b2 f3 r3 b3;have F3:aC ev.ownBlock.toList W w3:=((F1.trans (aC.ai b2)).mono az).trans f3;have ne1:∀b,b∈ev.ownBlock.toList->b≠eb/\b≠w.heap.size/\b≠mb/\b≠lb:=λb X=>by have lJ:=t_ b X;have:=h.es.jJ b lJ;obtain⟨cs,nB⟩:=h.es.row.UO lJ;refine⟨λe=>?_,G,G,G⟩;subst e;exact aH.ne nB heb bz rfl
   have s3:=s0.aG F3 (λhc=>(ne1 _ hc).1 rfl) (λhc=>(ne1 _ hc).2.1 rfl) (λhc=>(ne1 _ hc).2.2.1 rfl);have QX:=h.bx.aG F3 (λhc=>(ne1 _ hc).2.2.2 rfl);have s4:LJ w mb eb x.key tvv (w3.setCell (I lb 0) v'):=s3.aG ((aC.refl [lb] w3).setCell (p:=(I lb 0)) az v') kZ kZ kZ;have hc:∀b,b∈lb::ev.ownBlock.toList->Mk.PP W b:=λb X=>by
    rcases List.mem_cons.1 X with rfl|X
    ·exact h.bx.B0
    ·exact Row.B0 h.es.row (t_ b X)
   refine⟨s3,QX.frozen,QX.cell 0,s4,wC hF hc _,λk hk=>hF.block k (by have:=(QY k hk).1;omega) (λhc=>?_),_,_,hI⟩;have h1:=QY k hk;rcases List.mem_cons.1 hc with rfl|hc
   ·exact h1.2 rfl
   ·have:=h.es.jJ k (t_ k hc);omega
def AF{p:Prop}(h:p:=by
 intro wz fF
 (try dsimp only at fF)
 exact qZ):p:=h
def Nv{p:Prop}(h:p:=by
 refine Mk.pt ?_;refine dM (rs:=[13]) bj az ?_;refine bX rfl (λK hK=>?_) cz;refine fL ?_;go_simp;refine hK.out _ _ (LJ.alloc au _) (λau=>?_);clear hK K;exact Vd):p:=h
def Vc{p:Prop}(h:p:=by
 refine Mk.pt ?_;refine dM (rs:=[11]) bj az ?_;refine bX rfl (λK hK=>?_) cz;refine cU rfl (.tmp 37) (.tmp 44) 24 rfl 3 underlying24 Vf.cA rfl bz (H (O (I V.heap.size 0)) 0 0) 0 (λ_=> Y 0) (by simp[Act.eval,Act.put]) YQ.o (I tbx 0) nt 4 (λj=> Y (xe.tg j)) (by simp[Act.eval,Act.put]) YR.o (λj _=>rfl) LK.o.1 LK.o.2 ?_;intro v1 w1 r1 f1 b1;obtain⟨va1,vn1,vc1,rfl⟩:=Row.nC r1;obtain⟨yu,c1,l1,uq⟩:=Tt.o _ w1 r1 f1 b1;have Bj:=Z uq;clear r1 f1 b1 uq;clear au;refine hK.out _ _ yu (λau=>?_);clear hK K;refine Mk.pt ?_;refine Mk.tk 12 (v:=?_) rfl ?_ cJ ?_;rotate_left
 ·exact AF
 exact Nv):p:=h
def Vd{p:Prop}(h:p:=by
 refine Mk.pt ?_;refine dM (rs:=[14]) bj az ?_;refine bX rfl (λK hK=>?_) cz;refine cU rfl (.tmp 34) (.tmp 47) 60 rfl 62 underlying60 afr rfl bz ev lp.length (QT lp te) (by simp[Act.eval,Act.put]) (Bj.o.row) (I w1.heap.size 0) 1 1 (λj=>if j % 2=0 then .int .u64 xe.key else H va1 vn1 vc1) (by simp[Act.eval,Act.put]) Bj.o.news Bj.o.one YS.o.1 YS.o.2 ?_;intro v' w3 r3 f3 b3;obtain⟨va3,vn3,vc3,rfl⟩:=Row.nC r3;obtain⟨Gi,f5,c5,Hd,P4⟩:=Bj.o.fin _ w3 r3 f3 b3;have Br:=Z P4;clear r3 f3 b3 P4;clear au;refine hK.out _ _ Gi (λau=>?_);clear hK K;refine Mk.pt ?_;refine dM (rs:=[15]) bj az ?_;refine bX rfl (λK hK=>?_) cz;refine fL ?_;go_simp;refine hK.out _ _ Hd (λau=>?_);clear hK K;refine Mk.pt ?_;refine eT bj ⟨rfl,?_⟩ _;clear au Gi Hd
 gi_wp2_with fail
 obtain⟨k1,k2,ev2,te2,hI2⟩:=Br.o;exact⟨k1,k2,ev2,te2,by rw[List.map_append,HLP.o,List.map_cons,List.map_nil,HXE.o];exact hI2⟩):p:=h
def acq(h:Mx w C RO K p c s t used rv)(tb:uG p)(iE:K.nd<=4194304):
 Calls prog 20 #[Oi C.mb] w (ku w (cH p s)):=by
 have b0:Below w.heap.size w ((w.alloc (Xe #[Oi C.mb] 35)).alloc (Xe #[Xd,Xd] 56)):=((aZ _ _).alloc (aL _) _).alloc az _;have h0:=h.later b0;have m11:((w.alloc (Xe #[Oi C.mb] 35)).alloc (Xe #[Xd,Xd] 56)).cell? (I C.mb 11)=O C.vs:=h0.m.aT.cell 11;have HC:=Z (Vf.qg (Vf.aY.zA h0.m.vs) (by have:=tb.v;omega) (λj _=>rfl));have lm:=h.m.aT.lt;have a0g:=Z h;have HT:=Z tb;have fM:=Z b0;clear h tb b0 h0;refine(callsIn_wide (n:=9)).1 ?_;refine callsIn_of_wp_marks func20 rfl trivial ?_ rfl;simp only[ntmps20,List.size_toArray,List.length_cons,List.length_nil,Nat.reduceAdd,Nat.reduceSub,Array.replicate_succ,Array.replicate_zero,List.push_toArray,List.append_toArray,List.nil_append,List.cons_append];refine wpIn_wide.2 ?_;go_wp2_with fail;refine HC.o.mono ?_;rintro e w2 ⟨vv,rfl,rV,bV,iV⟩;obtain⟨va,vn,vc,rfl⟩:=Row.nC rV;have bW:=fM.o.trans (bV.mono (by simp only[aO];omega));have k2:aH w2 w.heap.size 35 #[Oi C.mb]:=((aH.new w _ _).alloc _).of (bV.block _ (by simp only[aO];omega));have k3:aH w2 (w.heap.size+1) 56 #[Xd,Xd]:=by have:=aH.new (w.alloc (Xe #[Oi C.mb] 35)) 56 #[Xd,Xd];rw[aO]at this;exact this.of (bV.block _ (by simp only[aO];omega))
 have Bi:=Z (a0g.o.later bW);have sl3:SL w (w2.alloc (Xe #[Xd,H va vn vc] 56)) w2.heap.size (w2.heap.size+1) C.mb (H va vn vc) Xd ⟨[],(List.range p.vars.length).map s.vars⟩ [] (λ_=> Xd) (λ_ _=> Xd):=by
  have Aw:=bV.size;simp only[aO]at Aw;refine⟨bW.alloc bW.size _,⟨G,G,az⟩,k2.alloc _,k3.alloc _,aH.new w2 _ _,⟨⟨Row.nil _ _ _ _,nQ.nil _ _,λq hq=>absurd hq az,λq q' hq=>absurd hq az⟩,⟨?_,λb X=>?_⟩⟩,Mk.Marks.nil _,az⟩
  ·have e:(List.map s.vars (List.range p.vars.length)).length=p.vars.length:=by simp
   show Row _ _ 1 _ (List.map s.vars (List.range p.vars.length)).length (bd (List.map s.vars (List.range p.vars.length)));rw[e];refine(rV.alloc _).congr λo ho=>?_;unfold bd;rw[jg _ _ G]
  ·have:=iV b X;simp only[aO]at this;omega
 have HSL:=Z sl3;have d2:=k2.c1;have m0:Xf w2 (I C.mb 0)=O K.g:=Bi.o.m.aT.cell 0;obtain⟨ga,gn,gc,kX⟩:=Row.nC Bi.o.m.prog.g;rw[kX]at m0;have BV:gn=p.ap.length:=by
  rcases Bi.o.m.prog.g.val with⟨h,h'⟩|⟨b,cap,h,-⟩
  ·rw[kX]at h;simp at h;omega
  ·rw[kX]at h;simp at h;omega
 obtain rfl:=BV;have l2:=k2.lt;have SF:=Bi.o.m.aT.lt;have Ad:=HT.o.g;clear rV iV bV bW m11 HC lm kX fM k2 k3 sl3;go_wp2;refine Mk.aM (ael w w2.heap.size C.mb (H va vn vc) p s) (p.ap.length+1) ?start ?zero ?round
 case start=>exact⟨0,[],_,_,_,_,ck _,G,rp rfl,HSL⟩
 case zero=>exact λa W hh=>by obtain⟨q,_,_,_,_,_,h1,h2,_⟩:=hh;omega
 clear HSL Bi d2 m0 l2 SF;generalize w2.heap.size=sb
 case round=>
  rintro m a W ⟨q,Ds,qv,lv,tv,hi,hq,hm,⟨J,rfl⟩,sS⟩;have MW:=a0g.o.later sS.o.uo;have d2:=sS.o.b1.c1;have m9:Xf W (I C.mb 9)=O (Oi C.ab):=MW.m.aT.cell 9;have l1:=sS.o.b1.lt;have lm:=MW.m.aT.lt;by_cases be:q<p.ap.length
  ·obtain⟨wA,Q0⟩:∃wA,wA=W.alloc (Xe #[Xd] 60):=⟨_,rfl⟩;have bA:Below W.heap.size W wA:=by rw[Q0];exact(aZ _ _).alloc (aL _) _
   have La:=Z (MW.later bA);have Hn:=Z (sS.o.later bA);have nO:wA.heap.size=W.heap.size+1:=by rw[Q0];simp
   have kl:aH wA W.heap.size 60 #[Xd]:=by rw[Q0];exact aH.new W _ _
   have HL:=Z (eO.XC La.o.m.ar iE be);have xW:=Z kl;have yj:=Z nO;clear MW bA nO kl;go_wp2_with fail;rw[<-Q0];clear Q0;refine HL.o.mono ?_;rintro e w6 ⟨rfl,Q3,AR⟩;have SZ:W.heap.size+1=wA.heap.size:=yj.o.symm;have hhl:=sS.o.lo;generalize W.heap.size=lb at*;have hqL:((rowsOf s.a (s.a.ls q)).map λy=>vp p y.2)=ke p s q:=by unfold rowsOf ke;rw[List.map_map];rfl
   have pS:=La.o.m.ar.uS be;have hlen:(rowsOf s.a (s.a.ls q)).length<=4194304:=by rw[eO.lY];have:=pS.1;omega
   have b6:=AR.uo;have Q4:wA.heap.size<w6.heap.size:=AR.box.lt;have Of:=Z (yl AR);have vU:∀k,k∈dU Q3->wA.heap.size<=k/\k<w6.heap.size:=by
    intro k hk;rcases AR.own.2 with⟨rfl,_⟩|⟨g,cap,BL,rfl,h1,h2,_⟩
    ·simp[dU]at hk
    ·simp[dU]at hk;subst hk;exact⟨h1,(Array.getElem?_eq_some_iff.1 h2).1⟩
   have Gu:=Z (eO.tT Fence.wide 8 trivial rfl G wA.heap.size wA.heap.size Q3 (rowsOf s.a (s.a.ls q)) G w6 AR.box Of.o (λk hk=>(vU k hk).2));have Q6:=Z (Hn.o.later b6);have UX:=Z (xW.o.of (b6.block _ G));have D8:=Z (La.o.later b6);have HQL:=Z hqL;have rO:=AR.box.lt;clear hqL AR b6 HL Hn xW La Of pS;generalize rowsOf s.a (s.a.ls q)=L at*;have Bh:∀D,D∈Ds->D<w6.heap.size:=λD hD=>Q6.o.uu.lt hD;have m2:Xf w6 (I C.mb 2)=O K.t:=D8.o.m.aT.cell 2;obtain⟨ta,tn,tc,XO⟩:=Row.nC D8.o.m.prog.t;rw[XO]at m2;have htl:tn=p.aW.length:=by
    rcases D8.o.m.prog.t.val with⟨h,h'⟩|⟨b,cap,h,-⟩
    ·rw[XO]at h;simp at h;omega
    ·rw[XO]at h;simp at h;omega
   obtain rfl:=htl;have HTV:=Z XO;have UY:=Z Bh;have Bi:=Z m2;clear m2 XO Bh;go_wp2_with fail;refine(wpIn_wide (n:=9)).1 ?_;refine wpIn_rangeFunc_ownH (n:=9) (F:=Fence.wide) rfl G (gf:=136) (lb:=#[Oi wA.heap.size]) rfl trivial (Proofs.enters_of func136 bj rfl) Gu.o xQ.t
    (xQ.b (by intro k hk;rcases List.mem_cons.1 hk with rfl|hk;exact Q4;exact(vU k hk).2)) (aZ _ _) (λ_=>rfl)
    (λpre W=>∃ev te,Hid (IL w w6 W sb lb C.mb (H va vn vc) qv ⟨(List.range q).map (ke p s),(List.range p.vars.length).map s.vars⟩ Ds lv tv (pre.map λy=>vp p y.2) ev te))
    (λc pre W=>False) ?hI ?hIx ?h0 (λx a' W=>AxS w w6 lb x a' W) (λx a' _ W W' row hs hg hr=>hs.grown hg hr) ?assign ?body ?done ?stop
   case hI=>exact λpre W W' row ⟨ev,te,hh⟩ hg hr=>⟨ev,te,hh.o.grown UY.o hg hr⟩
   case hIx=>exact λc pre W W' row hh _ _=>hh
   case h0=>exact⟨Xd,λ_=> Xd,⟨Q6.o.up hhl.2.2 G,UX.o,⟨Row.nil _ _ _ _,nQ.nil _ _,λi hi=>absurd hi az⟩,G,aL _⟩⟩
   case assign=>
    rintro l pre x W K ⟨ev,te,jL⟩ hK;unfold bP
    gi_wp2
    have bB:Below W.heap.size W (W.alloc (Xe (aQ x.2) 118)):=(aZ _ _).alloc (aL _) _;refine hK _ _ ((KeepsOthers.alloc _ _).from _) (λk hk=>bB.block k ?_) ⟨ev,te,jL.o.later bB⟩ ⟨W.heap.size,rp rfl,aH.new W _ _,jL.o.sz.2⟩;have:=jL.o.sz.2;rcases List.mem_cons.1 hk with rfl|hk
    ·omega
    ·have:=(vU k hk).2;omega
   case stop=>exact λD c pre W _ _ hh _=>absurd hh az
   case body=>
    rintro l pre x a' W hl hr ⟨ev,te,jL⟩ ⟨eb,⟨J2,rfl⟩,heb,hle⟩ rj;have d2:=jL.o.sl.b1.c1;have l2:=jL.o.sl.b1.lt;obtain⟨e0,e1,e2,e3,e4⟩:=heb.c5;have QY:∀k,k∈wA.heap.size::dU Q3->k<w6.heap.size/\k≠lb:=by
     intro k hk;rcases List.mem_cons.1 hk with rfl|hk
     ·exact⟨Q4,G⟩
     ·have:=vU k hk;exact⟨this.2,G⟩
    have m2:Xf W (I C.mb 2)=O (H ta p.aW.length tc):=by rw[<-HTV.o];exact(a0g.o.later jL.o.sl.uo).m.aT.cell 2
    have RG:=jL.o.region UY.o heb hle HT.o.t QY m2 a0g.o.m.aT.lt;have EQ:(pre.map (λy:Nat×eW=>vp p y.2)).length<L.length:=by rw[List.length_map];exact rj
    have hnt:=HT.o.t;generalize Va:pre.map (λy:Nat×eW=>vp p y.2)=lp at*;have HLP:=Z Va;have LK:=Z (show 0+p.aW.length<=maxLen/\(0+p.aW.length)*8<=140737488355328 by unfold maxLen;omega);have YS:=Z (show lp.length+1<=maxLen/\(lp.length+1)*32<=140737488355328 by unfold maxLen;omega);clear Va QY m2 jL heb rj
    gi_wp2_with fail
    clear d2 l2 e0 e1 e2 e3 e4;obtain⟨qt,c0,l0,Sg,Sh,kI⟩:=RG;unfold qO at Sg Sh kI;refine Mk.qD (S:=(λwx=>Xf wx (I eb 0)=O (.int .u64 x.2.key)/\Xf wx (I w.heap.size 0)=O (Oi C.mb)/\Xf wx (I C.mb 2)=O (H ta p.aW.length tc))) bj bj qt (λau=>?_);change wpAnyH _ _ _ _ _ _ _ _ (kP W x.2);replace au:=qt;unfold LJ at au;clear qt;generalize kP W x.2=V at*;generalize W.heap.size=tbx at*;generalize US:x.2=xe at*;have HXE:=Z US;clear US;generalize agz:p.aW.length=nt at*;have YQ:=Z Sg;have YR:=Z Sh;have Tt:=Z kI;clear Sg Sh kI;have AP:=aba tbx nt hnt;refine Mk.tk 1 (v:=?_) rfl ?_ cJ ?_;rotate_left
    ·exact AF
    refine Mk.pt ?_;refine Mk.tk 2 (v:=?_) rfl ?_ cJ ?_;rotate_left
    ·exact AF
    refine Mk.pt ?_;refine Mk.tk 4 (v:=?_) rfl ?_ cJ ?_;rotate_left
    ·exact AF
    refine Mk.pt ?_;refine Mk.tk 5 (v:=?_) rfl ?_ cJ ?_;rotate_left
    ·exact AF
    refine Mk.pt ?_;refine Mk.tk 6 (v:=?_) rfl ?_ cJ ?_;rotate_left
    ·exact AF
    refine Mk.pt ?_;refine Mk.tk 7 (v:=?_) rfl ?_ cJ ?_;rotate_left
    ·exact AF
    refine Mk.pt ?_;refine Mk.tk 8 (v:=?_) rfl ?_ cJ ?_;rotate_left
    ·exact AF
    refine Mk.pt ?_;refine Mk.tk 9 (v:=?_) rfl ?_ cJ ?_;rotate_left
    ·exact AF
    refine Mk.pt ?_;refine Mk.tk 10 (v:=?_) rfl ?_ cJ ?_;rotate_left
    ·exact AF
    refine Mk.pt ?_;refine dM (rs:=[0,3]) bj az ?_;refine bX rfl (λK hK=>?_) (bX rfl (λK hK=>?_) cz)
    ·refine fL ?_;go_simp;refine hK.out _ _ au (λau=>?_);clear hK K;refine Mk.pt ?_;refine dM (rs:=[3]) bj az ?_;refine bX rfl (λK hK=>?_) cz;refine fL ?_;go_simp;refine hK.out _ _ (LJ.alloc au _) (λau=>?_);clear hK K;exact Vc
    ·refine fL ?_;go_simp;refine hK.out _ _ (LJ.alloc au _) (λau=>?_);clear hK K;refine Mk.pt ?_;refine dM (rs:=[0,11]) bj az ?_;refine bX rfl (λK hK=>?_) (bX rfl (λK hK=>?_) cz)
     ·refine fL ?_;go_simp;refine hK.out _ _ au (λau=>?_);clear hK K;exact Vc
     ·refine cU rfl (.tmp 37) (.tmp 44) 24 rfl 3 underlying24 Vf.cA rfl bz (H (O (I V.heap.size 0)) 0 0) 0 (λ_=> Y 0) (by simp[Act.eval,Act.put]) YQ.o (I tbx 0) nt 4 (λj=> Y (xe.tg j)) (by simp[Act.eval,Act.put]) YR.o (λj _=>rfl) LK.o.1 LK.o.2 ?_;intro v1 w1 r1 f1 b1;obtain⟨va1,vn1,vc1,rfl⟩:=Row.nC r1;obtain⟨yu,c1,l1,uq⟩:=Tt.o _ w1 r1 f1 b1;have Bj:=Z uq;clear r1 f1 b1 uq;clear au;refine hK.out _ _ yu (λau=>?_);clear hK K;refine Mk.pt ?_;refine Mk.tk 12 (v:=?_) rfl ?_ cJ ?_;rotate_left
      ·exact AF
      refine Mk.pt ?_;refine dM (rs:=[0,13]) bj az ?_;refine bX rfl (λK hK=>?_) (bX rfl (λK hK=>?_) cz)
      ·refine fL ?_;go_simp;refine hK.out _ _ au (λau=>?_);clear hK K;exact Nv
      ·refine fL ?_;go_simp;refine hK.out _ _ (LJ.alloc au _) (λau=>?_);clear hK K;refine Mk.pt ?_;refine dM (rs:=[0]) bj az ?_;refine bX rfl (λK hK=>?_) cz;refine fL ?_;go_simp;refine hK.out _ _ au (λau=>?_);clear hK K;exact Vd
   case done=>
    rintro D ys W hD rfl ⟨ev,te,jL⟩ Yk;rw[HQL.o]at jL;have r0:=jL.o.sl.b3.c1;have r1:=jL.o.bx.c1;have l3:=jL.o.sl.b3.lt;have l4:=jL.o.bx.lt;have lsl:sb≠lb:=G;have bB:Below W.heap.size W (W.alloc (Xe #[ev] 60)):=(aZ _ _).alloc (aL _) _;have bC:=jL.o.sl.st.qs.row.aG (aC.ai (S:=[]) bB) az;have vU:((List.range q).map (ke p s)).length=q:=by simp
    rw[vU]at bC;have rh:=Z bC;obtain⟨ea,en,ec,rfl⟩:=Row.nC jL.o.es.row;have S4:=Z (show q+1<=maxLen/\(q+1)*24<=140737488355328 by unfold maxLen;omega);have Ew:∀v' w3,Row w3 60 1 v' (q+1) (gQ (q*1) lv λ_=> H ea en ec)->aC qv.ownBlock.toList (W.alloc (Xe #[H ea en ec] 60)) w3->(v'.ownBlock=qv.ownBlock\/v'.ownBlock=O (W.alloc (Xe #[H ea en ec] 60)).heap.size)->
     (∀o,w3.frozen? (I sb o)=false)/\Xf w3 (I sb 0)=O qv/\sb<w3.heap.size/\∃lv' Tl,SL w (w3.setCell (I sb 0) v') sb w3.heap.size C.mb (H va vn vc) v' ⟨(List.range (q+1)).map (ke p s),(List.range p.vars.length).map s.vars⟩ (D::Ds) lv' Tl:=by
     intro v' w3 r3 f3 i3;have r3':=r3;rw[<-vU]at r3;obtain⟨lv',Tl,hn⟩:=SL.next jL.o UY.o bB f3 r3 i3 Yk hD;have nb:sb∉qv.ownBlock.toList:=λhc=>by obtain⟨cs,nB⟩:=jL.o.sl.st.qs.row.UO (b:=sb) (by simpa using hc);exact aH.ne nB jL.o.sl.b3 bz rfl
     have b3:=(jL.o.sl.b3.aG (aC.ai (S:=[]) bB) az).aG f3 nb;refine⟨b3.frozen,b3.cell 0,b3.lt,lv',Tl,?_⟩;rw[List.range_succ,List.map_append];exact hn
    have Iw:=Z Ew;clear jL bC bB Ew vU Yk Gu HQL;go_wp2_with (at_builtin;refine cG rfl _ _ 54 rfl 60 underlying54 acs rfl bz qv q lv rfl rh.o (I W.heap.size 0) 1 1 (λ_=> H ea en ec) rfl ?Bg ?Gp ?Gq ?Jh ?_)
    case Bg=>intro j hj;obtain rfl:j=0:=G;exact(aH.new W 60 #[H ea en ec]).cell 0
    case Gp=>exact λj _=>rfl
    case Gq=>exact S4.o.1
    case Jh=>exact S4.o.2
    intro v' w3 r3 f3 i3;obtain⟨va3,vn3,vc3,rfl⟩:=Row.nC r3;obtain⟨g1,g2,g3,lv',Tl,g4⟩:=Iw.o _ w3 (by rw[Nat.mul_one];exact r3) f3 (by rw[aO];exact i3);have HG:=Z g4;clear r3 f3 i3 g4;go_wp2;exact⟨q+1,D::Ds,_,lv',Tl,_,G,G,rp rfl,HG⟩
  ·obtain rfl:q=p.ap.length:=G;obtain⟨r0,r1⟩:=sS.o.b3.c2;obtain⟨s0,s1⟩:=sS.o.b2.c2;have aeC:=sS.o.b2.frozen;have l2:=sS.o.b2.lt;have l3:=sS.o.b3.lt;have jE:=sS.o.lo;obtain⟨qa,qn,qc,rfl⟩:=Row.nC sS.o.st.qs.row;clear MW d2 m9;go_wp2_with fail;have F9:aC [w.heap.size+1] W ((W.setCell (I (w.heap.size+1) 0) (H qa qn qc)).setCell (I (w.heap.size+1) 1) (H va vn vc)):=((aC.refl [w.heap.size+1] W).setCell (p:=(I (w.heap.size+1) 0)) az _).setCell (p:=(I (w.heap.size+1) 1)) az _;have b9:aH ((W.setCell (I (w.heap.size+1) 0) (H qa qn qc)).setCell (I (w.heap.size+1) 1) (H va vn vc)) (w.heap.size+1) 56 #[H qa qn qc,H va vn vc]:=(sS.o.b2.set 0 _).set 1 _;have st9:=sS.o.st.off F9 (λb X=>by simp at X;subst X;exact .inr (.inl ⟨_,_,sS.o.b2,bz⟩));have afY:Below w.heap.size w ((W.setCell (I (w.heap.size+1) 0) (H qa qn qc)).setCell (I (w.heap.size+1) 1) (H va vn vc)):=(sS.o.uo.setCell (by show w.heap.size<=w.heap.size+1;omega) _).setCell (by show w.heap.size<=w.heap.size+1;omega) _;have mk9:Mk.Marks ((W.setCell (I (w.heap.size+1) 0) (H qa qn qc)).setCell (I (w.heap.size+1) 1) (H va vn vc)) Ds:=sS.o.uu.keeps λk hk=>F9.block k (sS.o.uu.lt hk) (by simp;intro e;subst e;exact sS.o.uu.not sS.o.b2.B0 hk);have hs9:=F9.size;generalize(W.setCell (I (w.heap.size+1) 0) (H qa qn qc)).setCell (I (w.heap.size+1) 1) (H va vn vc)=W9 at*;refine Mk.uT Ds _ mk9 λW' Fl=>?_;have b':aH W' (w.heap.size+1) 56 #[H qa qn qc,H va vn vc]:=b9.of (Fl.cells mk9 b9.B0);have st':=st9.off Fl.aG (λb X=> .inr (.inr ⟨_,mk9.at_ b X,rfl⟩));obtain⟨i0,i1⟩:=b'.c2;refine⟨.agg #[H qa qn qc,H va vn vc],by simp[results,results20,go_sem,i0,i1],?_⟩;exact⟨_,_,lv,tv,rfl,afY.trans (Fl.below sS.o.ml),st'.mono (aL _) (by rw[Fl.size];omega)⟩
end
end Go.Ma
namespace Go.Ma
open Go.RowKit al.Vm
open al hiding aS aw an
open Vf (Kp gM pV aY cV)
open Ix (kL)
section
variable {w w':ek}{C C':Co}{lo:Nat}{p:aU}{c:Cp}{s:St}{t:fG}{used:Int}
def sO(h:fA w C lo p c s t used):Calls prog 20 #[Oi C.mb] w (ku w (cH p s)):=by obtain⟨RO,K,T,h1,M,V,hS,hI,jE⟩:=h;exact acq h1 (cO M.check).1 M.FJ
def yB(h:fA w C lo p c s t used):Calls prog 29 #[Oi C.mb] w (λe w'=>e=Xc (vD t)/\Below w.heap.size w w'):=by obtain⟨RO,K,T,h1,-⟩:=h;exact aag h1
def fA.node(h:fA w C lo p c s t used){q n:Nat}(hq:q<p.ap.length)(hn:n∈s.a.ls q):n<dE (aB p c):=by obtain⟨RO,K,T,h1,M,-,-,hI,-⟩:=h;obtain⟨R,A,-,hR,ha,pS⟩:=h1.m.ar;rw[<-ha]at hn;have:=hR.AU q n hq hn;have:=hR.made;have:=M.nd;omega
def fA.nn(h:fA w C lo p c s t used):dE (aB p c)<=4194304:=by obtain⟨RO,K,T,h1,M,-⟩:=h;rw[<-M.nd];exact M.FJ
def fA.ii(h:fA w C lo p c s t used):pn p c:=by obtain⟨RO,K,T,h1,M,-⟩:=h;exact M.ii
def fA.told(h:fA w C lo p c s t used){key:Nat}(hk:key<18446744073709551616):(gu p c s key).length<=maxLen/\(∀k,k∈gu p c s key->k<18446744073709551616)/\0<=eQ p c s key/\eQ p c s key<=3:=by obtain⟨RO,K,T,h1,M,V,hS,hI,jE⟩:=h;obtain⟨a1,a2,a3,a4,a5,-⟩:=Pg V hS hI hk;have:=a5.told;unfold iZ at a2;exact⟨by unfold maxLen gu;omega,a1.told,a3,a4⟩
def jC.afZ{v:to}{l:List Nat}(h:jC w v l)(hl:l.length<=maxLen):aY w 1 v l.length (ni l):=by
 rcases h with⟨h1,h2⟩|⟨b,cs,rfl,X,hc⟩
 ·exact .inl ⟨h1,by rw[h2];rfl⟩
 ·exact .inr ⟨(I b 0),l.length,rfl,aL _,hl,λo ho=>⟨rfl,by rw[Nat.zero_add];exact(X.cell o).trans (hc o G)⟩⟩
def fA.keys(h:fA w C lo p c s t used):(cY (cH p s).aF).flatten.length<=maxLen/\∀k,k∈(cY (cH p s).aF).flatten->k<18446744073709551616:=by
 have hI:=h.inv;rw[wL];constructor
 ·rw[List.length_map,acG];have AT:=h.JS.g;have hc:=h.ii;have h1:=qI p.ap.length (λq=>(s.a.ls q).length) λq hq=>(show(s.a.ls q).length<=1048576 from by
   have h3:=hI.len q hq;have h4:=hc.q1 q hq;change(s.a.ls q).length<=(c.aF.getD q 0).toNat at h3;omega)
  unfold maxLen;omega
 ·intro k hk;obtain⟨n,hn,rfl⟩:=List.mem_map.1 hk;obtain⟨q,hq,hm⟩:=gZ.1 hn;exact hI.key q n hq hm
structure Arg(w:ek)(gv zv:to)(p:aU)(c:Cp):Prop where
 g:aY w 1 gv p.ap.length (λi=> .bool (p.ap.getD i false))
 z:aY w 1 zv c.aF.length (bd c.aF)
variable {w2 W:ek}{C2:Co}{pF:Nat}{s2:St}{t2:fG}{vo:Int}{gv zv qv vv qv2 vv2:to}{lv Ym:Nat->to}{tv tv2:Nat->Nat->to}{YT zC lo3 MO:Nat}
def Arg.later(h:Arg w gv zv p c)(b:Below w.heap.size w W):Arg W gv zv p c:=⟨h.g.aG (aC.ai b),h.z.aG (aC.ai b)⟩
def Si(A:Arg W gv zv p c)(h:fA w C lo p c s t used){L:List (Nat×Nat)}{a b c1 d:to}{h1 h2 hi:Nat}{lw:Nat->to}(hL:kL s.f L)(hl:nj W lo3 h1 h2 hi a b c1 d (DH p s (dE (aB p c)) L) lw)(hs:gS W YT zC qv vv (cH p s) lv tv)(hhi:hi<=W.heap.size)(hh1:zC<=W.heap.size):
 Calls prog 25 #[.agg #[a,b,c1,d],.agg #[qv,vv],gv,cV c zv] W (λe w'=>e=Xc (.bool true)/\Below W.heap.size W w'):=by
 have hI:=h.inv;have AT:=h.JS.g;have HL:=aeB (S:=aB p c) rfl hI hL λq n hq hn=>h.node hq hn;have key:∀q,q<p.ap.length->(cH p s).aF.getD q []=ke p s q/\((List.range p.ap.length).map s.a.ls).getD q []=s.a.ls q:=λq hq=>⟨vF s hq,jg _ _ hq⟩;refine aa2 (kf:=λn=>(s.a.val n).key) (Fr:=iL p s (dE (aB p c)) (dE (aB p c))) A.g A.z h.ii G (hl.lower (ck _)) (hs.qs.mono (ck _) (aL _)) hhi hh1 (Z HL) h.nn (Z λm hm=>?_) kZ (by rw[sq];simp) (λq hq=>?_) (λq i hq hi=>?_)
 ·obtain⟨q,hq,hn⟩:=gZ.1 hm;exact hI.key q m hq hn
 ·simp only[List.length_map,List.length_range]at hq;rw[(key q hq).1,(key q hq).2];unfold ke;rw[List.length_map]
 ·simp only[List.length_map,List.length_range]at hq;rw[(key q hq).2]at hi ⊢;rw[(key q hq).1];unfold ke;simp[List.getD,hi,vp]
def LM(A:Arg W gv zv p c)(h:fA w C lo p c s t used)(h2:fA w2 C2 pF p c s2 t2 vo)(X:gS W YT zC qv vv (cH p s) lv tv)(hn:gS W lo3 MO qv2 vv2 (cH p s2) Ym tv2)(hh1:zC<=W.heap.size)(hh3:MO<=W.heap.size)
 {x:Nat} {told:List Nat} {rem:Bool} {ah ev tr:to} (hx:x<18446744073709551616) (he:aY W 1 ev told.length (ni told)) (ht:∀k,k∈told->k<18446744073709551616) (hM:sm (aB p c) s s2 x told rem):
 Calls prog 30 #[.agg #[qv,vv],.agg #[qv2,vv2],gv,cV c zv,.int .u64 x,.agg #[ah,ev,tr],.bool rem] W (λe w'=>e=Xc (.bool true)/\Below W.heap.size W w'):=by
 have hI:=h.inv;have hI2:=h2.inv;have hc:=h.ii;have AT:=h.JS.g;refine acu A.g A.z X.qs hn.qs hh1 hh3 he (Z (hM.ok hI hI2)) hx (Z h.keys.2) (Z h2.keys.2) (Z ht) h.keys.1 h2.keys.1 (sq s) (sq s2) hc.len G (Z λq hq=>?_) ?_ ?_
 ·rw[sq]at hq;rw[vF s2 hq];have h3:=hI2.len q hq;have h4:=(hc.q1 q hq).1;unfold ke;rw[List.length_map];change(s2.a.ls q).length<=(c.aF.getD q 0).toNat at h3;omega
 ·have h3:=aa4 hI2;have h4:=hc.s1;omega
 ·have:=hc.s2;omega
end
end Go.Ma
namespace Go.Ma
open Go.RowKit al.Vm
open al hiding aS aw an
open Vf (aY)
def Sj(g:Nat->Nat)(i:Nat):to:= .int .u64 (g i)
def FZ(J:Nat->to):Act:={tmps:=#[J 0,J 1,J 2,J 3,J 4,J 5,J 6,J 7,J 8,J 9,J 10,J 11,J 12,J 13,J 14,J 15,J 16,J 17,J 18,J 19,J 20,J 21,J 22,J 23,J 24,J 25,J 26,J 27,J 28,J 29,J 30,J 31,J 32,J 33,J 34,J 35,J 36,J 37,J 38,J 39,J 40,J 41,J 42,J 43,J 44],defers:=[]}
def FZ.of(A:Array to)(h:A=(FZ λk=>A.getD k undef).tmps):({tmps:=A,defers:=[]}:Act)=FZ λk=>A.getD k undef:=by rw[h];rfl
def SA1(W0:ek)(x y n:Nat)(m:Nat)(a:Act)(W:ek):Prop:=∃(J:Nat->to) (i:Nat),a=FZ J/\J 2=Oi x/\J 3=Oi y/\J 5=Y i/\i<=n/\m+i=n+1/\Hid (∃k,W=W0.drewN k)
section
variable {w:ek}{va vb:to}{n:Nat}{g:Nat->Nat}{h:Bool}{t:Int}
def afq(ha:aY w 1 va n (Sj g))(X:aY w 1 vb n (Sj g)):Calls prog 18 #[.agg #[.bool h,va,Y t],.agg #[.bool h,vb,Y t]] w (λe w'=>e=Xc (.bool true)/\Below w.heap.size w w'):=by
 obtain⟨aa,ac,rfl,a1,a2⟩:=ha.val;obtain⟨ba,bc,rfl,b1,b2⟩:=X.val;obtain⟨W0,jM⟩:∃W0,W0=(w.alloc (Xe #[.bool h,H aa n ac,Y t] 44)).alloc (Xe #[.bool h,H ba n bc,Y t] 44):=⟨_,rfl⟩;have oE:=Z (show aH W0 w.heap.size 44 #[.bool h,H aa n ac,Y t]by rw[jM];exact(aH.new _ _ _).alloc _);have pZ:=Z (show aH W0 (w.heap.size+1) 44 #[.bool h,H ba n bc,Y t]by rw[jM];exact aH.bK az);have dG:Below w.heap.size w W0:=by rw[jM];exact((aZ _ _).alloc (aL _) _).alloc az _
 have HA:=Z (ha.aG (aC.ai (S:=[]) dG));have HB:=Z (X.aG (aC.ai (S:=[]) dG));have fM:=Z dG;clear ha X dG;go_enter func18,ntmps18;go_wp2_with fail;rw[<-jM];clear jM;refine Mk.aM (SA1 W0 w.heap.size (w.heap.size+1) n) (n+1) ⟨_,0,FZ.of _ rfl,rfl,rfl,rfl,ck _,G,Z ⟨0,rfl⟩⟩ (λa W hh=>by obtain⟨J,i,-,-,-,-,h1,h2,-⟩:=hh;omega) ?_;rintro m a W ⟨J,i,rfl,j2,j3,j5,hi,hm,HW⟩;obtain⟨k,rfl⟩:=HW.o;unfold FZ;rw[j2,j3,j5];clear j2 j3 j5;have k1:Xf W0 (I w.heap.size 1)=O (H aa n ac):=oE.o.cell 1;have l1:=oE.o.lt;by_cases be:i<n
 ·have w2:IntKind.i64.wrap ((i:Int)+1)=((i+1:Nat):Int):=by unfold maxLen at a2;rw[bJ _ kS];omega
  have n1:Xf W0 (I (w.heap.size+1) 1)=O (H ba n bc):=pZ.o.cell 1;have l2:=pZ.o.lt;obtain⟨xa,xo,xc,ea,-,-,-,la⟩:=HA.o.some G G;obtain⟨ya,afp,yc,eb,-,-,-,lb⟩:=HB.o.some G G;simp only[cL]at ea eb;obtain⟨rfl,-,rfl⟩:=ea;obtain⟨rfl,-,rfl⟩:=eb;have c0:Xf W0 (I xa (xo+i))=O (.int .u64 (g i)):=la i G;have c1:Xf W0 (I ya (afp+i))=O (.int .u64 (g i)):=lb i G;have dm:=Z be;generalize g i=z at*;clear la lb;go_wp2;go_quiet (fail);go_wp2;refine⟨_,i+1,FZ.of _ rfl,rfl,rfl,?_,dm.o,G,Z ⟨_,by first|rfl|rw[wZ]⟩⟩
  first|rfl|exact bo (Value.int .i64) (show(i:Int)+1=((i+1:Nat):Int)by omega)
 ·obtain rfl:i=n:=G;clear be;go_wp2
  first|refine Vf.eF (P:=prog) (fn:=Proofs.Tryz.f18) rfl ?_|(rw[Exit.noGoto_ret];refine Vf.eF (P:=prog) (fn:=Proofs.Tryz.f18) rfl ?_)
  exact⟨rfl,fM.o.trans (aA _ _ _)⟩
end
end Go.Ma
