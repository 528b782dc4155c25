import Derived.Test.YtblkblclmbhjiaaGreatZ2
import Derived.IntWalk
set_option linter.all false
set_option maxHeartbeats 40000000
set_option maxRecDepth 100000
open Go.Proofs.Tryz
open Option renaming some->O,none->Xb
open Go renaming Value->to,World->ek
open Go.Value renaming slice->H
open Go.Obj renaming cells->Xe
open Go.Ending renaming returned->Xc
open Go.World renaming cell?->Xf
abbrev Cb:=@List.getElem?_append
abbrev cL:=@Go.Value.slice.injEq
namespace Go.Ma
open Go.RowKit al.Vm
open al hiding aS aw an
open eO (cw bP)
open Ix (dp)
structure Kept(RO:List Nat)(w w':ek):Prop where
 os:w'.os=w.os
 tape:w'.tape=w.tape
 output:w'.output=w.output
 size:w.heap.size<=w'.heap.size
 block:∀k,k∈RO->w'.heap[k]? =w.heap[k]?
def Kept.refl(RO:List Nat)(w:ek):Kept RO w w:=⟨rfl,rfl,rfl,aL _,λ_ _=>rfl⟩
def Kept.trans{RO RO':List Nat}{a b c:ek}(h:Kept RO a b)(k:Kept RO' b c)(hs:∀b,b∈RO->b∈RO'):Kept RO a c:=
 ⟨k.os.trans h.os,k.tape.trans h.tape,k.output.trans h.output,Nat.le_trans h.size k.size,λi hi=>(k.block i (hs i hi)).trans (h.block i hi)⟩
def Kept.du{RO S:List Nat}{w w':ek}(f:aC S w w')(hs:∀b,b∈RO->b∉S)(hl:∀b,b∈RO->b<w.heap.size):Kept RO w w':=
 ⟨f.os,f.tape,f.output,f.size,λk hk=>f.block k (hl k hk) (hs k hk)⟩
def aH.kept{RO:List Nat}{w w':ek}{b:Nat}{T:TypeId}{cs:Array to}(h:aH w b T cs)(k:Kept RO w w')(X:b∈RO):aH w' b T cs:=h.of (k.block b X)
def In(w:ek)(mb rb:Nat)(RO:List Nat)(K:Kc)(p:aU)(c:Cp)(t:fG)(used:Int)(x:SR):Prop:=
 ∃C U hv jv,C.mb=mb/\U.rb=rb/\dh w C U RO K p c t used hv jv x.1 x.2
def cQ(w:ek)(mb rb:Nat)(RO:List Nat)(K:Kc)(p:aU)(c:Cp)(t:fG)(used:Int)(v:to)(x:SR)(r:Ending)(w':ek):Prop:=
 r=Xc v/\∃RO',(∀b,b∈RO->b∈RO')/\In w' mb rb RO' K p c t used x/\Kept RO w w'
def P7{w w1 w4:ek}{old:to}{g n cap a0g:Nat}(X:Below w.heap.size w w1)(hg:w1.grownBy w4 old.ownBlock)(rP:old.ownBlock=O g\/g=a0g)(hH:w1.heap.size=a0g):
 aC (vb old) w w4/\∀b,b∈vb (H (O (I g 0)) n cap)->b∈vb old\/w.heap.size<=b:=by
 refine⟨(aC.ai X).trans ⟨hg.os,hg.tape,hg.output,hg.size,λk hk hs=>hg.block k hk ?_⟩,λb lJ=>?_⟩
 ·intro e;exact hs (by unfold vb;rw[<-e];simp)
 ·have:=aX.1 lJ;simp[Value.ownBlock]at this;subst this;rcases rP with h|h
  ·exact .inl (aX.2 h)
  ·have:=X.size;exact .inr G
def pY{w:ek}{e:TypeId}{v:to}{n:Nat}{f f':Nat->to}{x:to}(h:w.ownsRow 0 e 1 v (n+1) (fw (n*1) f++[x]))(h1:∀i,i<n->f' i=f i)(h2:f' n=x):Row w e 1 v (n+1) f':=by
 unfold Row;have e1:fw ((n+1)*1) f'=fw (n*1) f++[x]:=by
  rw[show(n+1)*1=n*1+1 by omega,sC];congr 1
  ·exact qB λo ho=>h1 o G
  ·simp[h2]
 rw[e1];exact h
def zD:(prog.info? 3).map (λi=>(i.zero,i.size,i.bytes))=O (O (Y 0),1,8):=by kernel_rfl
def my{α:Type}(x d:α)(l:List α):(∀i,i<l.length->(x::l).reverse.getD i d=l.reverse.getD i d)/\(x::l).reverse.getD l.length d=x:=by
 constructor
 ·intro i hi;simp[List.getD,Cb,hi]
 ·simp[List.getD]
section
variable {w w':ek}{C:Co}{U U':Ru}{RO RO':List Nat}{K:Kc}{p:aU}{c:Cp}{t:fG}{used:Int}{hv hv':to}{jv lM:Nat->to}{s:St}{r r':Rn}
def dh.jJ(h:dh w C U RO K p c t used hv jv s r):In w C.mb U.rb RO K p c t used (s,r):=⟨C,U,hv,jv,rfl,rfl,h⟩
def dh.UF(h:dh w C U RO K p c t used hv jv s r)(f:aC (vb U.l8) w w'):Xf w' (I U.rb 2)=O U.l8/\(∀o,w'.frozen? (I U.rb o)=false)/\Xf w' (I C.mb 60)=O (Oi U.rb):=by have hr:=h.r.dY.aG f h.sep.u.s;have hm:=h.m.aT.aG f (λhc=>h.sep.cu (b:=C.mb) (by simp[Co.l]) (by simp[Ru.l,hc]));exact⟨hr.cell 2,hr.frozen,hm.cell 60⟩
def ov(h:dh w C U RO K p c t used hv jv s r)(n:Int)(hl:r.stack.length<1000000):
 Calls prog 203 #[Oi C.mb,Y n] w (cQ w C.mb U.rb RO K p c t used (.tuple #[]) (s,r.push n)):=by
 obtain⟨i0,hi,je,mU,sT⟩:=rN zD;have rU:=wj h.m.aT;have r2:Xf w (I U.rb 2)=O U.l8:=h.r.dY.cell 2;have lm:=h.m.aT.lt;have lr:=h.r.dY.lt;have HD:=Z (h.drewN 1);have C3:=Z (show r.stack.length+1<=maxLen by unfold maxLen;omega);have C4:=Z (show(r.stack.length+1)*8<=140737488355328 by omega);have a0g:=Z h;clear h;go_enter func203,ntmps203;go_wp2
 go_region_law ((refine BZ _ rfl (.tmp 14) (.tmp 16) 24 rfl 0 3 i0 (Y 0) 1 8 underlying24 hi je mU sT rfl bz U.l8 _ _ (by simp[Act.eval,Act.put]) (HD.o.r.l8.alloc _) (I w.heap.size 0) 1 1 [Y n] (by simp[Act.eval,Act.put]) rfl (jf.ji _ [Y n] _ _ az) (by simp[Value.oneCell']) bz C3.o C4.o az _ rfl ?_;intro g cap w4 gT gX rP BV;obtain⟨AO,AP⟩:=P7 (w:=w) (n:=r.stack.length+1) (cap:=cap) ((aA w.heap.size w 1).alloc (aL _) _) gX rP rfl;obtain⟨c2,f2,c60⟩:=a0g.o.UF AO;have HO:=Z gT;have HF:=Z AO;have HS:=Z AP;clear gT gX rP BV AO AP))
 all_goals
  go_wp2;refine bR (ei rfl _ _ _) rfl ?_;obtain⟨q1,q2⟩:=my n 0 r.stack;have bC:=pY (f':=λi=> Y ((n::r.stack).reverse.getD i 0)) HO.o (λi hi=>by show Value.int _ _=Value.int _ _;rw[q1 i hi]) (by show Value.int _ _=Value.int _ _;rw[q2]);have A:=a0g.o.l8 HF.o (l:=n::r.stack) bC HS.o;exact⟨rfl,RO,λb X=>X,A.jJ,Kept.du (S:=U.l) ((HF.o.mono (by intro k hk;simp[Ru.l,hk])).setCell (by simp[Ru.l]) _) (λb X=>a0g.o.sep.ur X) a0g.o.sep.dZ⟩
def uV(k cap b:Nat)(wx:ek):(Builtin.len_ #[24] 3 #[H (O (I b 0)) k cap]).run prog wx= .ok (Y k) wx:=
 run_len_slice (P:=prog) wx 24 3 (O (I b 0)) k cap bj
def oY{α:Type}(x d:α)(l:List α):(x::l).reverse.getD l.length d=x:=(my x d l).2
def zh(h:dh w C U RO K p c t used hv jv s r){n:Int}{rest:List Int}(fY:r.stack=n::rest)(hl:rest.length<1000000):
 Calls prog 210 #[Oi C.mb] w (cQ w C.mb U.rb RO K p c t used (Y n) (s,r.pop)):=by
 have rU:=wj h.m.aT;have r2:Xf w (I U.rb 2)=O U.l8:=h.r.dY.cell 2;have rf:∀o,w.frozen? (I U.rb o)=false:=h.r.dY.frozen;have bC:=h.r.l8;rw[fY]at bC;obtain⟨b,cap,gz,qC,ow,X⟩:=bC.some az;rw[gz]at r2 bC;have iJ:Xf w (I b rest.length)=O (Y n):=by rw[bC.cell (o:=rest.length) az];rw[oY]
 have xu:=bC.less (k:=rest.length) az;have mN:Row w 3 1 (H (O (I b 0)) rest.length cap) rest.length (λi=> Y (rest.reverse.getD i 0)):=xu.congr λo ho=>by show Value.int _ _=Value.int _ _;rw[(my n 0 rest).1 o G]
 have HN:=Z mN;have a0g:=Z h;have HV:=Z gz;have l_:=Z fY;clear h mN xu bC fY gz;simp only[List.length_cons]at r2 qC;generalize hk:rest.length=k at*;have hlen:=uV (k+1) cap b;go_enter func210,ntmps210;go_wp2;go_region;go_wp2;go_ret;have gz:U.l8=H (O (I b 0)) (k+1) cap:=by rw[HV.o,List.length_cons,hk]
 have IR:∀x,x∈vb (H (O (I b 0)) k cap)->x∈vb U.l8:=λx hx=>by rw[gz];exact hx
 have A:=(a0g.o.l8 (aC.refl _ w) (l:=rest) (by rw[hk];exact HN.o) (λx hx=> .inl (IR x hx))).drewN 1;have hr:r.pop={r with stack:=rest}:=by unfold Rn.pop;rw[l_.o];rfl
 exact⟨rfl,RO,λb X=>X,by rw[hr];exact A.jJ,(Kept.du (S:=U.l) (((aC.refl _ w).setCell (by simp[Ru.l]) _).drewN 1) (λb X=>a0g.o.sep.ur X) a0g.o.sep.dZ)⟩
def KI(h:dh w C U RO K p c t used hv jv s r){n:Int}{rest:List Int}(fY:r.loops=n::rest)(hl:rest.length<1000000)(a:Nat):
 Calls prog 213 #[Oi C.mb,Y a] w (cQ w C.mb U.rb RO K p c t used (.tuple #[]) (s,lF r a)):=by
 have rU:=wj h.m.aT;have r2:Xf w (I U.rb 3)=O U.kW:=h.r.dY.cell 3;have rf:∀o,w.frozen? (I U.rb o)=false:=h.r.dY.frozen;have bC:=h.r.kW;rw[fY]at bC;obtain⟨b,cap,gz,qC,ow,X⟩:=bC.some az;rw[gz]at r2 bC;have xu:=bC.less (k:=rest.length) az;have mN:Row w 3 1 (H (O (I b 0)) rest.length cap) rest.length (λi=> Y (rest.reverse.getD i 0)):=xu.congr λo ho=>by show Value.int _ _=Value.int _ _;rw[(my n 0 rest).1 o G]
 have HN:=Z mN;have a0g:=Z h;have HV:=Z gz;have l_:=Z fY;clear h mN xu bC fY gz;simp only[List.length_cons]at r2 qC;generalize hk:rest.length=k at*;have hlen:=uV (k+1) cap b;go_enter func213,ntmps213;go_wp2;go_region;have gz:U.kW=H (O (I b 0)) (k+1) cap:=by rw[HV.o,List.length_cons,hk]
 have IR:∀x,x∈vb (H (O (I b 0)) k cap)->x∈vb U.kW:=λx hx=>by rw[gz];exact hx
 have hr:lF r a={r with loops:=rest,at_:=a}:=by unfold lF;rw[l_.o];rfl
 obtain⟨w1,kI⟩:∃w1,w1=(w.setCell (I U.rb 3) (H (O (I b 0)) k cap)).drew:=⟨_,rfl⟩;have A:dh w1 C {U with kW:=H (O (I b 0)) k cap} RO K p c t used hv jv s {r with loops:=rest}:=by rw[kI];exact(a0g.o.kW (aC.refl _ w) (l:=rest) (by rw[hk];exact HN.o) (λx hx=> .inl (IR x hx))).drewN 1
 have F:aC U.l w w1:=by rw[kI];exact((aC.refl U.l w).setCell (p:=(I U.rb 3)) (by simp[Ru.l]) (H (O (I b 0)) k cap)).drewN 1
 rw[<-kI];have n60:Xf w1 (I C.mb 60)=O (Oi U.rb):=A.m.aT.cell 60;have n1:Xf w1 (I U.rb 1)=O (Y r.at_):=A.r.dY.cell 1;have a0q:∀o,w1.frozen? (I U.rb o)=false:=A.r.dY.frozen;have HA:=Z A;have HF:=Z F;clear A F r2 rU rf;clear kI;go_wp2;refine bR (ei rfl _ _ _) rfl ?_;rw[hr];exact⟨rfl,RO,λb X=>X,(HA.o.kT 1 (Y a) (r':={r with loops:=rest,at_:=a}) rfl rfl rfl rfl rfl rfl HA.o.r.iE).jJ,Kept.du (HF.o.setCell (by simp[Ru.l]) _) (λb X=>a0g.o.sep.ur X) a0g.o.sep.dZ⟩
def aK(i:Ins):Array to:=#[Y i.op,Y i.a,Y i.b,Y i.c,Y i.d]
def a_(i:Ins):to:= .agg (aK i)
def Kept.ai{RO:List Nat}{w w':ek}(b:Below w.heap.size w w')(hl:∀b,b∈RO->b<w.heap.size):Kept RO w w':=
 Kept.du (S:=[]) (aC.ai b) az hl
def Kept.less{RO RO':List Nat}{w w':ek}(h:Kept RO' w w')(hs:∀b,b∈RO->b∈RO'):Kept RO w w':=
 ⟨h.os,h.tape,h.output,h.size,λk hk=>h.block k (hs k hk)⟩
def cQ.pre{w w1 w':ek}{mb rb:Nat}{RO mX:List Nat}{K:Kc}{p:aU}{c:Cp}{t:fG}{used:Int}{v:to}{x:SR}{r:Ending}(h:cQ w1 mb rb mX K p c t used v x r w')(k:Kept RO w w1)(hs:∀b,b∈RO->b∈mX):cQ w mb rb RO K p c t used v x r w':=by obtain⟨h1,RO',h2,h3,h4⟩:=h;exact⟨h1,RO',λb X=>h2 b (hs b X),h3,k.trans h4 hs⟩
def dh.add(h:dh w C U RO K p c t used hv jv s r){x:Nat}(h1:x<w.heap.size)(h2:x∉C.l)(h3:x∉U.l):dh w C U (x::RO) K p c t used hv jv s r:=by
 refine⟨h.m.more (λb X=>by simp[X]),h.r.more (λb X=>by simp[X]),h.sep.nd,h.sep.lt,λb X hc=>?_,λb X=>?_⟩
 ·rcases List.mem_cons.1 hc with rfl|hc
  ·rcases List.mem_append.1 X with X|X
   ·exact h2 X
   ·exact h3 X
  ·exact h.sep.ro b X hc
 ·rcases List.mem_cons.1 X with rfl|X
  ·exact h1
  ·exact h.sep.dZ b X
def dh.box(h:dh w C U RO K p c t used hv jv s r)(o:Obj):dh (w.alloc o) C U (w.heap.size::RO) K p c t used hv jv s r:=
 (h.later ((aZ _ w).alloc (aL _) _)).add az (λhc=>by have:=h.sep.lt _ (List.mem_append_left _ hc);omega) (λhc=>by have:=h.sep.lt _ (List.mem_append_right C.l hc);omega)
def lq{p:Prop}(h:p:=by
 go_wp2_with fail;refine HP.o.mono ?_;intro e w' hd;have uq:=hd.pre (RO:=RO) (Kept.ai HB.o a0g.o.sep.dZ) (λb X=>by simp[X]);obtain⟨rfl,nJ⟩:=uq;go_wp2;exact bR (ei rfl _ _ _) rfl ⟨rfl,nJ⟩):p:=h
def zE(h:dh w C U RO K p c t used hv jv s r)(i:Ins)(hl:r.stack.length<1000000):
 Calls prog 102 #[Oi C.mb,a_ i] w (cQ w C.mb U.rb RO K p c t used (.tuple #[]) (s,r.push i.a)):=by
 have H0:=h.box (Xe (aK i) 40);have HB:=Z ((aZ w.heap.size w).alloc (aL _) (Xe (aK i) 40));have hP:=ov H0 i.a hl;have e1:(w.alloc (Xe (aK i) 40)).cell? (I w.heap.size 1)=O (Y i.a):=(aH.new w 40 (aK i)).cell 1;have HP:=Z hP;have a0g:=Z h;clear h hP H0;unfold a_;unfold aK at*;go_enter func102,ntmps102;exact lq
def IS(h:dh w C U RO K p c t used hv jv s r)(i:Ins){k:Nat}(hk:i.a=k)(mL:k<p.vars.length)(hl:r.stack.length<1000000):
 Calls prog 103 #[Oi C.mb,a_ i] w (cQ w C.mb U.rb RO K p c t used (.tuple #[]) (s,r.push (s.vars k))):=by
 have H0:=(h.box (Xe (aK i) 40)).drewN 1;have HB:=Z (((aZ w.heap.size w).alloc (aL _) (Xe (aK i) 40)).trans (aA _ _ 1));have hP:=ov H0 (s.vars k) hl;have e1:(w.alloc (Xe (aK i) 40)).cell? (I w.heap.size 1)=O (Y k):=by rw[<-hk];exact(aH.new w 40 (aK i)).cell 1
 have e5:(w.alloc (Xe (aK i) 40)).cell? (I C.mb 11)=O C.vs:=H0.m.aT.cell 11;obtain⟨b,cap,gz,qC,ow,X⟩:=H0.m.vs.some G;rw[gz]at e5;have iJ:(w.alloc (Xe (aK i) 40)).cell? (I b k)=O (Y (s.vars k)):=by have h3:=H0.m.vs;rw[gz]at h3;exact h3.cell (o:=k) G
 have HP:=Z hP;have a0g:=Z h;clear h hP H0 hk;unfold a_;unfold aK at*;generalize P8:s.vars k=vk at*;generalize p.vars.length=nv at*;obtain⟨w1,kI⟩:∃w1,w1=w.alloc (Xe #[Y i.op,Y i.a,Y i.b,Y i.c,Y i.d] 40):=⟨_,rfl⟩;rw[<-kI]at HP HB e1 e5 iJ;go_enter func103,ntmps103;go_wp2_with fail;rw[<-kI];clear kI
 go_still_tail 9,bj
 change wpList _ _ _ _ _ (w1.drewN 1);generalize w1.drewN 1=w2 at*;exact lq
def UE{p:Prop}(h:p:=by
 go_wp2_with fail;refine HP.o.mono ?_;intro e w' hd;have uq:=hd.pre (RO:=RO) (Kept.ai HB.o a0g.o.sep.dZ) (λb X=>by simp[X]);obtain⟨rfl,nJ⟩:=uq;go_wp2;exact bR (ei rfl _ _ _) rfl ⟨rfl,nJ⟩):p:=h
def QB(h:dh w C U RO K p c t used hv jv s r)(i:Ins){k:Nat}(hk:i.a=k)(mL:k<p.ap.length)(hl:r.stack.length<1000000):
 Calls prog 104 #[Oi C.mb,a_ i] w (cQ w C.mb U.rb RO K p c t used (.tuple #[]) (s,r.push (s.a.ls k).length)):=by
 have H0:=(h.box (Xe (aK i) 40)).drewN 1;have HB:=Z (((aZ w.heap.size w).alloc (aL _) (Xe (aK i) 40)).trans (aA _ _ 1));have hP:=ov H0 (s.a.ls k).length hl;have e1:(w.alloc (Xe (aK i) 40)).cell? (I w.heap.size 1)=O (Y k):=by rw[<-hk];exact(aH.new w 40 (aK i)).cell 1
 have e5:(w.alloc (Xe (aK i) 40)).cell? (I C.mb 9)=O (Oi C.ab):=H0.m.aT.cell 9;have tY:=Z (eO.zn H0.m.ar mL);have HP:=Z hP;have a0g:=Z h;clear h hP H0 hk;unfold a_;unfold aK at*;generalize(s.a.ls k).length=n at*;obtain⟨w1,kI⟩:∃w1,w1=w.alloc (Xe #[Y i.op,Y i.a,Y i.b,Y i.c,Y i.d] 40):=⟨_,rfl⟩;rw[<-kI]at HP HB tY e1 e5;go_enter func104,ntmps104;go_wp2_with fail;rw[<-kI];clear kI;refine wp_region_still_tail 8 bj bj ?_;simp only[List.take_succ_cons,List.take_zero,List.drop_succ_cons,List.drop_zero]
 iterate 7 still_step
 still_call (tY.o.mono λe w' h=>⟨h.1,h.2.symm⟩)
 refine wpStill_nil ?_;change wpList _ _ _ _ _ (w1.drewN 1);generalize w1.drewN 1=w2 at*;exact UE
def I9(h:dh w C U RO K p c t used hv jv s r)(i:Ins){k:Nat}(hk:i.a=k)(mL:k<c.aF.length)(hl:r.stack.length<1000000):
 Calls prog 105 #[Oi C.mb,a_ i] w (cQ w C.mb U.rb RO K p c t used (.tuple #[]) (s,r.push (c.aF.getD k 0))):=by
 have H0:=(h.box (Xe (aK i) 40)).drewN 1;have HB:=Z (((aZ w.heap.size w).alloc (aL _) (Xe (aK i) 40)).trans (aA _ _ 1));have hP:=ov H0 (c.aF.getD k 0) hl;have e1:(w.alloc (Xe (aK i) 40)).cell? (I w.heap.size 1)=O (Y k):=by rw[<-hk];exact(aH.new w 40 (aK i)).cell 1
 have e5:(w.alloc (Xe (aK i) 40)).cell? (I C.mb 7)=O K.qs:=H0.m.aT.cell 7;obtain⟨b,cap,gz,qC,ow,X⟩:=H0.m.prog.qs.some G;rw[gz]at e5;have iJ:(w.alloc (Xe (aK i) 40)).cell? (I b k)=O (Y (c.aF.getD k 0)):=by have h3:=H0.m.prog.qs;rw[gz]at h3;exact h3.cell (o:=k) G
 have HP:=Z hP;have a0g:=Z h;clear h hP H0 hk;unfold a_;unfold aK at*;generalize P8:c.aF.getD k 0=vk at*;generalize c.aF.length=nv at*;obtain⟨w1,kI⟩:∃w1,w1=w.alloc (Xe #[Y i.op,Y i.a,Y i.b,Y i.c,Y i.d] 40):=⟨_,rfl⟩;rw[<-kI]at HP HB e1 e5 iJ;go_enter func105,ntmps105;go_wp2_with fail;rw[<-kI];clear kI
 go_still_tail 10,bj
 change wpList _ _ _ _ _ (w1.drewN 1);generalize w1.drewN 1=w2 at*;exact UE
def aj(h:dh w C U RO K p c t used hv jv s r)(i:Ins)(hl:r.stack.length<1000000):
 Calls prog 106 #[Oi C.mb,a_ i] w (cQ w C.mb U.rb RO K p c t used (.tuple #[]) (s,r.push c.size)):=by
 have H0:=(h.box (Xe (aK i) 40));have HB:=Z (((aZ w.heap.size w).alloc (aL _) (Xe (aK i) 40)));have hP:=ov H0 c.size hl;have e5:(w.alloc (Xe (aK i) 40)).cell? (I C.mb 6)=O (Y c.size):=H0.m.aT.cell 6;have HP:=Z hP;have a0g:=Z h;clear h hP H0;unfold a_;unfold aK at*;go_enter func106,ntmps106;exact UE
def KR(h:dh w C U RO K p c t used hv jv s r)(i:Ins)(hl:r.stack.length<1000000):
 Calls prog 107 #[Oi C.mb,a_ i] w (cQ w C.mb U.rb RO K p c t used (.tuple #[]) (s,r.push s.total)):=by
 have H0:=(h.box (Xe (aK i) 40));have HB:=Z (((aZ w.heap.size w).alloc (aL _) (Xe (aK i) 40)));have hP:=ov H0 s.total hl;have e5:(w.alloc (Xe (aK i) 40)).cell? (I C.mb 12)=O (Y s.total):=H0.m.aT.cell 12;have HP:=Z hP;have a0g:=Z h;clear h hP H0;unfold a_;unfold aK at*;go_enter func107,ntmps107;exact UE
def Yc{p:Prop}(h:p:=by
 go_wp2;exact bR (ei rfl _ _ _) rfl ⟨rfl,_,λb X=>by simp[X],HS.o.jJ,HK.o⟩):p:=h
def acE(h:dh w C U RO K p c t used hv jv s r)(i:Ins):
 Calls prog 101 #[Oi C.mb,a_ i] w (cQ w C.mb U.rb RO K p c t used (.tuple #[]) (s,{r with done:=true})):=by
 have H0:=h.box (Xe (aK i) 40);have HB:=Z ((aZ w.heap.size w).alloc (aL _) (Xe (aK i) 40));have e60:(w.alloc (Xe (aK i) 40)).cell? (I C.mb 60)=O (Oi U.rb):=H0.m.aT.cell 60;have e8:(w.alloc (Xe (aK i) 40)).cell? (I U.rb 8)=O (.bool r.done):=H0.r.dY.cell 8;have ef:∀o,(w.alloc (Xe (aK i) 40)).frozen? (I U.rb o)=false:=H0.r.dY.frozen;have HS:=Z (H0.kT 8 (.bool true) (r':={r with done:=true}) rfl rfl rfl rfl rfl rfl H0.r.iE);have HK:=Z (Kept.du (S:=U.l) ((aC.ai (S:=U.l) HB.o).setCell (p:=(I U.rb 8)) (by simp[Ru.l]) (.bool true)) (λb X=>h.sep.ur X) h.sep.dZ);clear h H0;unfold a_;unfold aK at*;go_enter func101,ntmps101;exact Yc
def QC(h:dh w C U RO K p c t used hv jv s r)(i:Ins){k:Nat}(hk:i.a=k):
 Calls prog 113 #[Oi C.mb,a_ i] w (cQ w C.mb U.rb RO K p c t used (.tuple #[]) (s,{r with at_:=k})):=by
 have H0:=h.box (Xe (aK i) 40);have HB:=Z ((aZ w.heap.size w).alloc (aL _) (Xe (aK i) 40));have e1:(w.alloc (Xe (aK i) 40)).cell? (I w.heap.size 1)=O (Y k):=by rw[<-hk];exact(aH.new w 40 (aK i)).cell 1
 have e60:(w.alloc (Xe (aK i) 40)).cell? (I C.mb 60)=O (Oi U.rb):=H0.m.aT.cell 60;have e8:(w.alloc (Xe (aK i) 40)).cell? (I U.rb 1)=O (Y r.at_):=H0.r.dY.cell 1;have ef:∀o,(w.alloc (Xe (aK i) 40)).frozen? (I U.rb o)=false:=H0.r.dY.frozen;have HS:=Z ((H0.kT 1 (Y k) (r':={r with at_:=k}) rfl rfl rfl rfl rfl rfl H0.r.iE).drewN 1);have HK:=Z (Kept.du (S:=U.l) (((aC.ai (S:=U.l) HB.o).setCell (p:=(I U.rb 1)) (by simp[Ru.l]) (Y k)).drewN 1) (λb X=>h.sep.ur X) h.sep.dZ);clear h H0 hk;unfold a_;unfold aK at*;obtain⟨w1,kI⟩:∃w1,w1=w.alloc (Xe #[Y i.op,Y i.a,Y i.b,Y i.c,Y i.d] 40):=⟨_,rfl⟩;rw[<-kI]at HS HB HK e1 e60 e8 ef;go_enter func113,ntmps113;go_wp2_with fail;rw[<-kI];clear kI;go_region;exact Yc
end
end Go.Ma
section
def qo{p:Prop}(h:p:=by
 rw[<-X]at uq;obtain⟨rfl,nJ⟩:=uq;go_wp2;exact bR (ei rfl _ _ _) rfl ⟨rfl,nJ⟩):p:=h
namespace Go.Ma
open Go.RowKit al.Vm
open al hiding aS aw an
open eO (cw bP)
open Ix (dp)
def sH(r:Rn)(k:Nat):Rn:=if r.jx=0 then{r.pop with at_:=k}else r.pop
def zF(r:Rn)(k:Nat):Rn:=if r.jx=0 then lF r.pop k else r.pop
def zG(r:Rn)(k:Nat):Rn:=if r.loops.headD 0=0 then lF r k else{r with loops:=(r.loops.headD 0-1)::r.loops.tail}
section
variable {w w':ek}{C:Co}{U U':Ru}{RO RO':List Nat}{K:Kc}{p:aU}{c:Cp}{t:fG}{used:Int}{hv hv':to}{jv lM:Nat->to}{s:St}{r r':Rn}{mb rb:Nat}
def dh.uW(h:dh w C U RO K p c t used hv jv s r)(h1:C.mb=mb)(h2:U.rb=rb):In w mb rb RO K p c t used (s,r):=⟨C,U,hv,jv,h1,h2,h⟩
def aH.mA{b:Nat}{T:TypeId}{cs:Array to}(h:aH w b T cs)(k:Kept RO w w')(X:b∈RO):aH w' b T cs:=h.of (k.block b X)
def P_(h:dh w C U RO K p c t used hv jv s r)(i:Ins){k:Nat}(hk:i.a=k){n:Int}{rest:List Int}(fY:r.stack=n::rest)(hl:rest.length<1000000):
 Calls prog 114 #[Oi C.mb,a_ i] w (cQ w C.mb U.rb RO K p c t used (.tuple #[]) (s,sH r k)):=by
 have H0:=h.box (Xe (aK i) 40);have HP:=Z (zh H0 fY hl);have lL:=Z (aH.new w 40 (aK i));have oD:=Z (Kept.ai (RO:=RO) ((aZ w.heap.size w).alloc (aL _) (Xe (aK i) 40)) h.sep.dZ);have Bb:=Z hk;have Dl:=Z (show r.jx=n by unfold Rn.jx;rw[fY];rfl);clear h H0 hk;unfold a_;unfold aK at*;go_enter func114,ntmps114;go_wp2_with fail;generalize gP:w.heap.size=bx at HP lL ⊢;refine HP.o.mono ?_;rintro e w' ⟨rfl,RO',ho,⟨C',U',hv',lM,mO,ou,A⟩,qW⟩;have rU:Xf w' (I C.mb 60)=O (Oi U.rb):=by rw[<-mO,<-ou];exact A.m.aT.cell 60
 have r1:Xf w' (I U.rb 1)=O (Y r.at_):=by rw[<-ou];exact A.r.dY.cell 1
 have rf:∀o,w'.frozen? (I U.rb o)=false:=by rw[<-ou];exact A.r.dY.frozen
 have e1:Xf w' (I bx 1)=O (Y k):=by rw[<-Bb.o];exact(aH.mA lL.o qW az).cell 1
 have HA:=Z A;have Fq:=Z (oD.o.trans qW (λb X=>by simp[X]));have HO:=Z (show∀b,b∈RO->b∈RO' from λb X=>ho b (by simp[X]));have HM:=Z mO;have HR:=Z ou;clear A qW ho mO ou HP lL gP oD;by_cases hn:n=0
 ·subst hn;go_wp2;go_region;go_wp2;refine bR (ei rfl _ _ _) rfl ⟨rfl,RO',HO.o,?_,?_⟩
  ·have X:sH r k={r.pop with at_:=k}:=by unfold sH;rw[aE Dl.o]
   rw[X];have A2:=((HA.o.kT 1 (Y k) (r':={r.pop with at_:=k}) rfl rfl rfl rfl rfl rfl HA.o.r.iE).drewN 1).uW HM.o HR.o;rw[HR.o]at A2;exact A2
  ·refine Fq.o.trans (RO':=RO') (Kept.du (S:=U'.l) (((aC.refl _ w').setCell (by rw[<-HR.o];simp[Ru.l]) _).drewN 1) (λb X=>HA.o.sep.ur X) HA.o.sep.dZ) HO.o
 ·have hz:(n==0)=false:=by simpa using hn
  go_wp2;refine bR (ei rfl _ _ _) rfl ⟨rfl,RO',HO.o,?_,Fq.o⟩;have X:sH r k=r.pop:=by unfold sH;rw[ax (by rw[Dl.o];exact hn)]
  rw[X];exact HA.o.uW HM.o HR.o
def Z7(h:dh w C U RO K p c t used hv jv s r)(i:Ins){k:Nat}(hk:i.a=k){n:Int}{rest:List Int}(fY:r.stack=n::rest)(hl:rest.length<1000000){m:Int}{lrest:List Int}(df:r.loops=m::lrest)(Mt:lrest.length<1000000):
 Calls prog 117 #[Oi C.mb,a_ i] w (cQ w C.mb U.rb RO K p c t used (.tuple #[]) (s,zF r k)):=by
 have H0:=h.box (Xe (aK i) 40);have HP:=Z (zh H0 fY hl);have lL:=Z (aH.new w 40 (aK i));have oD:=Z (Kept.ai (RO:=RO) ((aZ w.heap.size w).alloc (aL _) (Xe (aK i) 40)) h.sep.dZ);have Bb:=Z hk;have Dl:=Z (show r.jx=n by unfold Rn.jx;rw[fY];rfl);clear h H0 hk;unfold a_;unfold aK at*;go_enter func117,ntmps117;go_wp2_with fail;generalize gP:w.heap.size=bx at HP lL ⊢;refine HP.o.mono ?_;rintro e w' ⟨rfl,RO',ho,⟨C',U',hv',lM,mO,ou,A⟩,qW⟩;have rU:Xf w' (I C.mb 60)=O (Oi U.rb):=by rw[<-mO,<-ou];exact A.m.aT.cell 60
 have r1:Xf w' (I U.rb 1)=O (Y r.at_):=by rw[<-ou];exact A.r.dY.cell 1
 have rf:∀o,w'.frozen? (I U.rb o)=false:=by rw[<-ou];exact A.r.dY.frozen
 have e1:Xf w' (I bx 1)=O (Y k):=by rw[<-Bb.o];exact(aH.mA lL.o qW az).cell 1
 have HA:=Z A;have Fq:=Z (oD.o.trans qW (λb X=>by simp[X]));have HO:=Z (show∀b,b∈RO->b∈RO' from λb X=>ho b (by simp[X]));have HM:=Z mO;have HR:=Z ou;clear A qW ho mO ou HP lL gP oD;by_cases hn:n=0
 ·subst hn;have HL:=Z (KI HA.o (n:=m) (rest:=lrest) df Mt k);rw[HM.o]at HL;go_wp2_with fail;refine HL.o.mono ?_;intro e w2 hd;have uq:=hd.pre (RO:=RO) Fq.o HO.o;rw[HR.o]at uq;have X:zF r k=lF r.pop k:=by unfold zF;rw[aE Dl.o]
  exact qo
 ·have hz:(n==0)=false:=by simpa using hn
  go_wp2;refine bR (ei rfl _ _ _) rfl ⟨rfl,RO',HO.o,?_,Fq.o⟩;have X:zF r k=r.pop:=by unfold zF;rw[ax (by rw[Dl.o];exact hn)]
  rw[X];exact HA.o.uW HM.o HR.o
end
end Go.Ma
end
namespace Go.Ma
open Go.RowKit al.Vm
open al hiding aS aw an
open eO (cw bP)
open Ix (dp)
structure U8(w:ek)(C:Co)(RO:List Nat):Prop where
 nd:C.l.Nodup
 lt:∀b,b∈C.l->b<w.heap.size
 ro:∀b,b∈C.l->b∉RO
 dZ:∀b,b∈RO->b<w.heap.size
structure Mx(w:ek)(C:Co)(RO:List Nat)(K:Kc)(p:aU)(c:Cp)(s:St)(t:fG)(used:Int)(rv:to):Prop where
 m:rR w C RO K p c s t used rv
 sep:U8 w C RO
structure bN(w w':ek)(C C':Co):Prop where
 mb:C'.mb=C.mb
 f:aC C.l w w'
 c:∀b,b∈C'.l->b∈C.l\/w.heap.size<=b
def bN.refl(w:ek)(C:Co):bN w w C C:=⟨rfl,aC.refl _ w,λ_ h=> .inl h⟩
def bN.trans{w w1 w2:ek}{C C1 C2:Co}(h:bN w w1 C C1)(k:bN w1 w2 C1 C2):bN w w2 C C2:=
 ⟨k.mb.trans h.mb,⟨k.f.os.trans h.f.os,k.f.tape.trans h.f.tape,k.f.output.trans h.f.output,Nat.le_trans h.f.size k.f.size,λi hi hs=>(k.f.block i (dC hi h.f.size) (λhc=>by rcases h.c i hc with hc|hc;exact hs hc;omega)).trans (h.f.block i hi hs)⟩,
   λb X=>by rcases k.c b X with X|X;exact h.c b X;have:=h.f.size;exact .inr G⟩
def bN.below{w w':ek}{C:Co}(b:Below w.heap.size w w'):bN w w' C C:=⟨rfl,aC.ai b,λ_ h=> .inl h⟩
def zH(w:ek)(C:Co)(RO:List Nat)(K:Kc)(p:aU)(c:Cp)(t:fG)(used:Int)(rv:to)(v:to)(s:St)(e:Ending)(w':ek):Prop:=
 e=Xc v/\∃C',bN w w' C C'/\Mx w' C' RO K p c s t used rv
section
variable {w w':ek}{C C':Co}{U U':Ru}{RO RO':List Nat}{K:Kc}{p:aU}{c:Cp}{t:fG}{used:Int}{hv hv':to}{jv lM:Nat->to}{s s':St}{r r':Rn}{rv:to}
def Mx.later(h:Mx w C RO K p c s t used rv)(b:Below w.heap.size w w'):Mx w' C RO K p c s t used rv:=
 ⟨h.m.aG (aC.ai (S:=[]) b) az az,h.sep.nd,λb' X=>dC (h.sep.lt b' X) b.size,h.sep.ro,λb' X=>dC (h.sep.dZ b' X) b.size⟩
def Mx.drewN(h:Mx w C RO K p c s t used rv)(n:Nat):Mx (w.drewN n) C RO K p c s t used rv:=h.later (aA _ _ n)
def Mx.box(h:Mx w C RO K p c s t used rv)(o:Obj):Mx (w.alloc o) C RO K p c s t used rv:=h.later ((aZ _ w).alloc (aL _) _)
def Mx.cr(h:Mx w C RO K p c s t used rv){b:Nat}(X:b∈RO):b∉C.l:=λhc=>h.sep.ro b hc X
def dh.mx(h:dh w C U RO K p c t used hv jv s r):Mx w C RO K p c s t used (Oi U.rb):=
 ⟨h.m,(List.nodup_append.1 h.sep.nd).1,λb X=>h.sep.lt b (by simp[X]),λb X=>h.sep.ro b (by simp[X]),h.sep.dZ⟩
def Mx.less(h:Mx w C RO K p c s t used rv)(hs:∀b,b∈RO'->b∈RO\/(b<w.heap.size/\b∉C.l))(hp:∀b,b∈RO->b∈RO'):Mx w C RO' K p c s t used rv:=
 ⟨h.m.more hp,h.sep.nd,h.sep.lt,λb X hc=>by rcases hs b hc with hc|hc;exact h.sep.ro b X hc;exact hc.2 X,λb X=>by rcases hs b X with X|X;exact h.sep.dZ b X;exact X.1⟩
def dh.q8(h:dh w C U RO K p c t used hv jv s r){t':fG}{used':Int}(k:bN w w' C C')(m:Mx w' C' RO K p c s' t' used' (Oi U.rb)):dh w' C' U RO K p c t' used' hv jv s' r:=by
 refine⟨m.m,?_,?_,?_,?_,m.sep.dZ⟩
 ·rw[k.mb];exact h.r.aG k.f (λb X=>h.sep.uc X) (λb X=>h.sep.cr X)
 ·rw[wS];refine⟨m.sep.nd,(List.nodup_append.1 h.sep.nd).2.1,λa ha b X e=>?_⟩;subst e;rcases k.c a ha with hc|hc
  ·exact h.sep.cu hc X
  ·have:=h.sep.lt a (by simp[X]);omega
 ·intro b X;rcases List.mem_append.1 X with X|X
  ·exact m.sep.lt b X
  ·exact dC (h.sep.lt b (by simp[X])) k.f.size
 ·intro b X;rcases List.mem_append.1 X with X|X
  ·exact m.sep.ro b X
  ·exact h.sep.ro b (by simp[X])
def dh.kept(h:dh w C U RO K p c t used hv jv s r)(k:bN w w' C C'):Kept RO w w':=Kept.du k.f (λb X=>h.sep.cr X) h.sep.dZ
structure RZ(C:Co):Prop where
 mx:C.mb≠C.xb
 ms:C.mb≠C.xs
 ma:C.mb∉bL C.ab C.V C.L
 mv:C.mb∉vb C.vs
 xs:C.xb≠C.xs
 xa:C.xb∉bL C.ab C.V C.L
 xv:C.xb∉vb C.vs
 sa:C.xs∉bL C.ab C.V C.L
 sv:C.xs∉vb C.vs
 av:∀b,b∈bL C.ab C.V C.L->b∉vb C.vs
def Co.rel{C:Co}(h:C.l.Nodup):RZ C:=by unfold Co.l at h;rw[List.nodup_cons]at h;obtain⟨h0,h⟩:=h;rw[List.nodup_cons]at h;obtain⟨h1,h⟩:=h;rw[List.nodup_cons]at h;obtain⟨h2,h⟩:=h;rw[wS]at h;simp only[ep,fE,not_or]at h0 h1 h2;exact⟨h0.1,h0.2.1,h0.2.2.1,h0.2.2.2,h1.1,h1.2.1,h1.2.2,h2.1,h2.2,λb X hc=>h.2.2 b X b hc rfl⟩
def Mx.rel(h:Mx w C RO K p c s t used rv):RZ C:=Co.rel h.sep.nd
def Ft{p:aU}{a:Nd}{q e:Nat}{x:eW}(hq:q<p.ap.length):fN p (iF a q e x)=fN p a+1:=by
 unfold fN;have h1:=nL (k:=p.ap.length) (f:=λp=>(a.ls p).length) (g:=λp=>((iF a q e x).ls p).length) hq (λj hj=>by
  show(aS a.ls q _ j).length=_;rw[an _ _ hj])
 have h2:((iF a q e x).ls q).length=(a.ls q).length+1:=by show(aS a.ls q _ q).length=_;rw[aw,lD]
 rw[h2]at h1;omega
def rW{p:aU}{a:Nd}{q n:Nat}(hq:q<p.ap.length)(hn:n∈a.ls q):fN p (takeN a q n)+1=fN p a:=by
 unfold fN;have h1:=nL (k:=p.ap.length) (f:=λp=>(a.ls p).length) (g:=λp=>((takeN a q n).ls p).length) hq (λj hj=>by
  show(aS a.ls q _ j).length=_;rw[an _ _ hj])
 have h2:((takeN a q n).ls q).length=(a.ls q).length-1:=by show(aS a.ls q _ q).length=_;rw[aw,Bx hn]
 have h3:0<(a.ls q).length:=EI hn;rw[h2]at h1;omega
def Mx.reads(h:Mx w C RO K p c s t used rv):Xf w (I C.mb 9)=O (Oi C.ab)/\Xf w (I C.mb 10)=O (Oi C.xb)/\Xf w (I C.mb 12)=O (Y s.total)/\Xf w (I C.mb 0)=O K.g/\∀o,w.frozen? (I C.mb o)=false:=
 ⟨h.m.aT.cell 9,h.m.aT.cell 10,h.m.aT.cell 12,h.m.aT.cell 0,h.m.aT.frozen⟩
def Mx.ap(h:Mx w C RO K p c s t used rv){q:Nat}(hq:q<p.ap.length):∃b cap,K.g=H (O (I b 0)) p.ap.length cap/\b∈RO/\Xf w (I b q)=O (.bool (p.ap.getD q false)):=by obtain⟨b,cap,gz,qC,ow,X⟩:=h.m.prog.g.some G;refine⟨b,cap,gz,h.m.prog.ro b (.inl (aX.2 (by rw[gz];rfl))),?_⟩;have h3:=h.m.prog.g;rw[gz]at h3;exact h3.cell (o:=q) G
def Mx.total(h:Mx w C RO K p c s t used rv)(n:Int):bN w (w.setCell (I C.mb 12) (Y n)) C C/\Mx (w.setCell (I C.mb 12) (Y n)) C RO K p c {s with total:=n} t used rv:=by
 have R:=h.rel;have F:aC [C.mb] w (w.setCell (I C.mb 12) (Y n)):=(aC.refl _ w).setCell az _;refine⟨⟨rfl,F.mono (by intro k hk;simp at hk;subst hk;simp[Co.l]),λ_ X=> .inl X⟩,⟨⟨?_,?_,?_,?_,?_⟩,h.sep.nd,λb X=>dC (h.sep.lt b X) F.size,h.sep.ro,λb X=>dC (h.sep.dZ b X) F.size⟩⟩
 ·exact h.m.aT.set 12 _
 ·exact h.m.prog.aG F λb X hc=>by simp at hc;subst hc;exact h.cr X (by simp[Co.l])
 ·exact h.m.ar.aG F λb X hc=>by simp at hc;subst hc;exact R.ma X
 ·exact h.m.ix.aG F ⟨by simp;exact λe=>R.mx e.symm,by simp;exact λe=>R.ms e.symm⟩
 ·exact h.m.vs.aG F λb X hc=>by simp at hc;subst hc;exact R.mv (aX.2 X)
def RY{p:Prop}(h:p:=by
 intro b X hc;rcases key b X with X|X
 ·exact h.sep.ro b X hc
 ·have:=h.sep.dZ b hc;omega):p:=h
def Fu{p:Prop}(h:p:=by
 exact dC (h.sep.lt b (by simp[Co.l,lJ])) F.size):p:=h
def nF{p:Prop}(h:p:=by
 have e1:C.l=(C.mb::C.xb::C.xs::[C.ab])++(vb C.V++(vb C.L++vb C.vs)):=by simp[Co.l,bL,vb]
 have e2:({C with V:=V'}:Co).l=(C.mb::C.xb::C.xs::[C.ab])++(vb V'++(vb C.L++vb C.vs)):=by simp[Co.l,bL,vb]
 rw[e2];refine ot (n:=w.heap.size) (v:=C.V) ?_ (λb X=>?_) (λb X=>?_)
 ·rw[<-e1];exact h.sep.nd
 ·rw[<-e1]at X;exact h.sep.lt b X
 ·rcases hV b (aX.1 X)with h'|h'
  ·exact .inl (aX.2 h')
  ·exact .inr h'):p:=h
def AA{p:Prop}(h:p:=by
 intro b X;simp only[Co.l,bL,ep,fE,Option.mem_toList]at X ⊢;rcases X with X|X|X|(X|X|X)|X
 ·exact .inl (.inl X)
 ·exact .inl (.inr (.inl X))
 ·exact .inl (.inr (.inr (.inl X)))
 ·exact .inl (.inr (.inr (.inr (.inl (.inl X)))))
 ·rcases hV b X with h'|h'
  ·exact .inl (.inr (.inr (.inr (.inl (.inr (.inl h'))))))
  ·exact .inr h'
 ·exact .inl (.inr (.inr (.inr (.inl (.inr (.inr X))))))
 ·exact .inl (.inr (.inr (.inr (.inr X))))):p:=h
def Mx.XJ(h:Mx w C RO K p c s t used rv){V':to}{a':Nd}(f:aC (bL C.ab C.V C.L) w w')(ha:cw w' C.ab V' C.L K.nd p.ap.length a')(hV:∀b,V'.ownBlock=O b->C.V.ownBlock=O b\/w.heap.size<=b)
 {s':St} (h1:s'.a=a') (h2:s'.vars=s.vars) (h3:s'.total=s.total) (hix:dp w C.xb C.xs K.nd (fN p a') s'.f):bN w w' C {C with V:=V'}/\Mx w' {C with V:=V'} RO K p c s' t used rv:=by
 have R:=h.rel;have F:aC C.l w w':=f.mono (by intro k hk;simp[Co.l,hk]);have key:∀b,b∈({C with V:=V'}:Co).l->b∈C.l\/w.heap.size<=b:=by exact AA
 refine⟨⟨rfl,F,key⟩,⟨⟨?_,?_,?_,?_,?_⟩,?_,?_,?_,?_⟩⟩
 ·rw[h3];exact h.m.aT.aG f R.ma
 ·exact h.m.prog.aG F λb X=>h.cr X
 ·rw[h1];exact ha
 ·rw[h1];exact hix.aG f ⟨R.xa,R.sa⟩
 ·rw[h2];exact h.m.vs.aG f λb X hc=>R.av b hc (aX.2 X)
 ·exact nF
 ·intro b X;have lJ:=X;simp only[Co.l,ep,fE]at lJ;rcases lJ with lJ|lJ|lJ|lJ|lJ
  ·exact Fu
  ·exact Fu
  ·exact Fu
  ·exact ha.lt b lJ
  ·exact Fu
 ·exact RY
 ·exact λb X=>dC (h.sep.dZ b X) F.size
def Mx.both{w1 w2:ek}(h:Mx w C RO K p c s t used rv){V':to}{a':Nd}{f':Nat->Option Nat}(f1:aC (bL C.ab C.V C.L) w w1)(ha:cw w1 C.ab V' C.L K.nd p.ap.length a')(hV:∀b,V'.ownBlock=O b->C.V.ownBlock=O b\/w.heap.size<=b)
 (f2:aC [C.xb,C.xs] w1 w2) (hx:dp w2 C.xb C.xs K.nd (fN p a') f'):bN w w2 C {C with V:=V'}/\Mx w2 {C with V:=V'} RO K p c ⟨a',f',s.vars,s.total⟩ t used rv:=by
 have R:=h.rel;have hlen:=ha.lt;have F1:aC C.l w w1:=f1.mono (by intro k hk;simp[Co.l,hk]);have F2:aC C.l w1 w2:=f2.mono (by intro k hk;simp at hk;rcases hk with rfl|rfl<;>simp[Co.l]);have F:=F1.trans F2;have key:∀b,b∈({C with V:=V'}:Co).l->b∈C.l\/w.heap.size<=b:=by exact AA
 have hxV:∀b,b∈bL C.ab V' C.L->b∉[C.xb,C.xs]:=by
  intro b X hc;have dR:b∈bL C.ab C.V C.L\/w.heap.size<=b:=by
   simp only[bL,ep,fE,Option.mem_toList]at X ⊢;rcases X with X|X|X
   ·exact .inl (.inl X)
   ·rcases hV b X with h'|h'
    ·exact .inl (.inr (.inl h'))
    ·exact .inr h'
   ·exact .inl (.inr (.inr X))
  simp at hc;rcases hc with rfl|rfl
  ·rcases dR with dR|dR
   ·exact R.xa dR
   ·have:=h.sep.lt C.xb (by simp[Co.l]);omega
  ·rcases dR with dR|dR
   ·exact R.sa dR
   ·have:=h.sep.lt C.xs (by simp[Co.l]);omega
 have Kx:C.mb∉[C.xb,C.xs]:=by simp;exact⟨R.mx,R.ms⟩
 refine⟨⟨rfl,F,key⟩,⟨⟨?_,?_,?_,?_,?_⟩,?_,?_,?_,?_⟩⟩
 ·exact(h.m.aT.aG f1 R.ma).aG f2 Kx
 ·exact h.m.prog.aG F λb X=>h.cr X
 ·exact ha.aG f2 hxV
 ·exact hx
 ·exact(h.m.vs.aG f1 λb X hc=>R.av b hc (aX.2 X)).aG f2 λb X hc=>by
   simp at hc;rcases hc with rfl|rfl
   ·exact R.xv (aX.2 X)
   ·exact R.sv (aX.2 X)
 ·exact nF
 ·intro b X;have lJ:=X;simp only[Co.l,ep,fE]at lJ;rcases lJ with lJ|lJ|lJ|lJ|lJ
  ·exact Fu
  ·exact Fu
  ·exact Fu
  ·exact dC (ha.lt b lJ) F2.size
  ·exact Fu
 ·exact RY
 ·exact λb X=>dC (h.sep.dZ b X) F.size
def KJ(w w1:ek)(C:Co)(K:Kc)(p:aU)(s:St)(V':to)(a':Nd):Prop:=
 cw w1 C.ab V' C.L K.nd p.ap.length a'/\aC (bL C.ab C.V C.L) w w1/\(∀b,V'.ownBlock=O b->C.V.ownBlock=O b\/w.heap.size<=b)/\dp w1 C.xb C.xs K.nd (fN p s.a) s.f
def Mx.Dm(h:Mx w C RO K p c s t used rv){w1:ek}{V':to}{a':Nd}(ha:cw w1 C.ab V' C.L K.nd p.ap.length a')(f:aC (bL C.ab C.V C.L) w w1)(hV:∀b,V'.ownBlock=O b->C.V.ownBlock=O b\/w.heap.size<=b):KJ w w1 C K p s V' a':=
 ⟨ha,f,hV,h.m.ix.aG f ⟨h.rel.xa,h.rel.sa⟩⟩
def Mx.zI(h:Mx w C RO K p c s t used rv){w1:ek}(f:aC (bL C.ab C.V C.L) w w1):Xf w1 (I C.mb 9)=O (Oi C.ab)/\Xf w1 (I C.mb 10)=O (Oi C.xb)/\Xf w1 (I C.mb 12)=O (Y s.total)/\Xf w1 (I C.mb 0)=O K.g/\∀o,w1.frozen? (I C.mb o)=false:=by have hm:=h.m.aT.aG f h.rel.ma;exact⟨hm.cell 9,hm.cell 10,hm.cell 12,hm.cell 0,hm.frozen⟩
def Qa(h:Mx w C RO K p c s t used rv)(iE:K.nd<=4194304)(hg:p.ap.length<=256){q d:Nat}(hq:q<p.ap.length)(he:d<=1)(x:eW)(hx:s.f x.key=Xb)(n_:fN p s.a<K.nd)(ht: -1073741824<=s.total/\s.total<=1073741824):
 Calls prog 270 #[Oi C.mb,Y q,Y d,bP x] w (zH w C RO K p c t used rv (.tuple #[]) (jW (aB p c) s q d x)):=by
 have dG:=h.box (Xe (aQ x) 118);have H0:=Z (dG.drewN 1);have HB:=Z (bN.below (C:=C) (((aZ w.heap.size w).alloc (aL _) (Xe (aQ x) 118)).trans (aA _ _ 1)));have HX:=Z hx;have HT:=Z ht;have hP:=eO.ZT H0.o.m.ar iE hg hq he x n_;obtain⟨m9,-,-,-,-⟩:=dG.reads;have gP:aH (w.alloc (Xe (aQ x) 118)) w.heap.size 118 (aQ x):=aH.new w _ _;have lL:=Z gP;have MP:w.heap.size∉bL C.ab C.V C.L:=λhc=>by have:=h.m.ar.lt _ hc;omega
 obtain⟨b0,b1,b2,b3,b4⟩:=gP.c5;have HBF:Hid (∀w2,aC (bL C.ab C.V C.L) ((w.alloc (Xe (aQ x) 118)).drewN 1) w2->aH w2 w.heap.size 118 (aQ x)):=Z λw2 f=>(gP.drewN 1).aG f MP;have C1:Hid (Calls prog 306 #[Oi C.ab,Y q,Y d,bP x] ((w.alloc (Xe (aQ x) 118)).drewN 1) λr w2=>
  r=Xc (.tuple #[Y (s.a.fs 0),Y 0])/\(Xf w2 (I C.mb 9)=O (Oi C.ab)/\Xf w2 (I w.heap.size 0)=O (.int .u64 x.key)/\Xf w2 (I w.heap.size 1)=O (Y (x.tg 0))/\Xf w2 (I w.heap.size 2)=O (Y (x.tg 1))/\Xf w2 (I w.heap.size 3)=O (Y (x.tg 2))/\Xf w2 (I w.heap.size 4)=O (Y (x.tg 3)))/\
  Hid (∃V',KJ ((w.alloc (Xe (aQ x) 118)).drewN 1) w2 C K p s V' (iF s.a q d x))):=by
  refine Z (hP.mono ?_);rintro r w2 ⟨rfl,V',ha,f,hV⟩;have dR:=HBF.o w2 f;exact⟨rfl,⟨(H0.o.zI f).1,dR.cell 0,dR.cell 1,dR.cell 2,dR.cell 3,dR.cell 4⟩,Z ⟨V',H0.o.Dm ha f hV⟩⟩
 clear gP h hx ht hP MP dG;unfold bP at*;unfold aQ at*;obtain⟨w1,kI⟩:∃w1,w1=w.alloc (Xe #[.int .u64 x.key,Y (x.tg 0),Y (x.tg 1),Y (x.tg 2),Y (x.tg 3)] 118):=⟨_,rfl⟩;rw[<-kI]at m9 b0 b1 b2 b3 b4 C1 H0 HB HBF lL;go_enter func270,ntmps270;go_wp2_with fail;rw[<-kI];clear kI;generalize w.heap.size=bx at*
 go_region_held3 (λwx=>Xf wx (I C.mb 9)=O (Oi C.ab)/\Xf wx (I bx 0)=O (.int .u64 x.key)/\Xf wx (I bx 1)=O (Y (x.tg 0))/\Xf wx (I bx 2)=O (Y (x.tg 1))/\Xf wx (I bx 3)=O (Y (x.tg 2))/\Xf wx (I bx 4)=O (Y (x.tg 3))) (first|exact⟨m9,b0,b1,b2,b3,b4⟩|assumption) ((go_at_call 306;refine C1.o.mono ?_;rintro r w2 ⟨rfl,hS,hM⟩))
 obtain⟨-,b0',-,-,-,-⟩:=hS;have⟨V',Ov⟩:=hM.o;have HBt:=Z Ov;obtain⟨-,g10,-,-,-⟩:=H0.o.zI Ov.2.1;have Z8:=Z (Ix.P6 (v:=s.a.fs 0) (Ov.2.2.2.drewN 1) HX.o G);have fR:=Z (HBF.o w2 Ov.2.1);clear m9 b0 b1 b2 b3 b4 C1 HBF lL Ov hM;go_wp2_with fail
 go_still_tail 7,bj
 change wpList _ _ _ _ _ (w2.drewN 1);obtain⟨w3,XK⟩:∃w3,w3=w2.drewN 1:=⟨_,rfl⟩;rw[<-XK];rw[<-XK]at Z8;have Qc:=Z XK;clear XK;go_wp2_with fail;refine Z8.o.mono ?_;rintro e w4 ⟨rfl,f4,x4⟩;obtain⟨XL,IT⟩:=H0.o.both HBt.o.2.1 HBt.o.1 HBt.o.2.2.1 (((aC.refl _ w2).drewN 1).trans (by rw[<-Qc.o];exact f4)) (by rw[Ft hq];exact x4);obtain⟨-,-,g12,g0,gf⟩:=IT.reads;obtain⟨gb,mP,kX,zJ,AQ⟩:=IT.ap hq;have Ou:=Z XL;have xT:=Z IT;rw[kX]at g0;clear kX XL IT f4 x4 b0' g10 Z8;have xx:(aB p c).gh q=p.ap.getD q false:=rfl;have HGH:=Z xx;clear xx;dsimp only at g12;generalize p.ap.getD q false=gq at*;generalize p.ap.length=ng at*;have Z9:IntKind.i64.wrap (s.total+1)=s.total+1:=bJ _ ⟨by have:=HT.o;omega,by have:=HT.o;omega⟩;cases gq
 ·go_wp2;refine bR (ei rfl _ _ _) rfl ?_;obtain⟨k1,k2⟩:=xT.o.total (s.total+1);have e:jW (aB p c) s q d x=⟨iF s.a q d x,Vm.aS s.f x.key (O (s.a.fs 0)),s.vars,s.total+1⟩:=by unfold jW;rw[HGH.o];rfl
  rw[e];exact⟨rfl,{C with V:=V'},HB.o.trans (Ou.o.trans k1),k2⟩
 ·go_wp2;refine bR (ei rfl _ _ _) rfl ?_;have e:jW (aB p c) s q d x=⟨iF s.a q d x,Vm.aS s.f x.key (O (s.a.fs 0)),s.vars,s.total⟩:=by unfold jW;rw[HGH.o];rfl
  rw[e];exact⟨rfl,{C with V:=V'},HB.o.trans Ou.o,xT.o⟩
def Mx.aG(h:Mx w C RO K p c s t used rv){S:List Nat}(f:aC S w w')(hc:∀b,b∈C.l->b∉S)(hr:∀b,b∈RO->b∉S):Mx w' C RO K p c s t used rv:=
 ⟨h.m.aG f hc hr,h.sep.nd,λb' X=>dC (h.sep.lt b' X) f.size,h.sep.ro,λb' X=>dC (h.sep.dZ b' X) f.size⟩
def bN.new{w2 w3:ek}(k:bN w w2 C C'){bx:Nat}(X:w.heap.size<=bx)(f:aC [bx] w2 w3):bN w w3 C C':=
 ⟨k.mb,⟨f.os.trans k.f.os,f.tape.trans k.f.tape,f.output.trans k.f.output,Nat.le_trans k.f.size f.size,λi hi hs=>(f.block i (dC hi k.f.size) kZ).trans (k.f.block i hi hs)⟩,k.c⟩
def mQ:Array to:=#[.int .u64 0,Y 0,Y 0,Y 0,Y 0]
def wI{p:Prop}(h:p:=by
 rw[e];exact bR (v:= .agg #[.int .u64 y.key,Y (y.tg 0),Y (y.tg 1),Y (y.tg 2),Y (y.tg 3)]) (by simp[results,results272,go_sem,e0,e1,e2,e3,e4]) rfl ⟨rfl,C,T3,k3⟩):p:=h
def XM(h:Mx w C RO K p c s t used rv)(hI:Inv (aB p c) s)(iE:K.nd<=4194304)(hg:p.ap.length<=256){q d:Nat}(hq:q<p.ap.length)(he:d<=1)(bt:s.a.ls q≠[])(ht: -1073741824<=s.total/\s.total<=1073741824):
 Calls prog 272 #[Oi C.mb,Y q,Y d] w (zH w C RO K p c t used rv (bP (s.a.val (cS s.a q d))) (lE (aB p c) s q d)):=by
 have hm:=fX (e:=d) bt;have hf:=(hI.idx _ _).2 ⟨q,hq,hm,rfl⟩;have dG:=h.box (Xe mQ 118);have H0:=Z dG;have HB:=Z (bN.below (C:=C) ((aZ w.heap.size w).alloc (aL _) (Xe mQ 118)));have HF:=Z hf;have HT:=Z ht;have uX:=Z (rW (a:=s.a) hq hm);have hP:=eO.QE dG.m.ar iE hg hq he bt;obtain⟨m9,-,-,-,-⟩:=dG.reads;have gP:aH (w.alloc (Xe mQ 118)) w.heap.size 118 mQ:=aH.new w _ _;have lL:=Z gP;have MP:w.heap.size∉C.l:=λhc=>by have:=h.sep.lt _ hc;omega
 have SO:w.heap.size∉RO:=λhc=>by have:=h.sep.dZ _ hc;omega
 have Z_:=Z (And.intro MP SO);have l_:=Z (show lE (aB p c) s q d=⟨takeN s.a q (cS s.a q d),Vm.aS s.f (s.a.val (cS s.a q d)).key Xb,s.vars,if p.ap.getD q false then s.total else s.total-1⟩from rfl);clear h hf ht gP MP SO dG bt hm hI;generalize s.a.val (cS s.a q d)=y at*;unfold bP at hP ⊢;unfold mQ at*;have HP:=Z hP;clear hP;go_enter func272,ntmps272;go_wp2_with fail;obtain⟨bx,gP⟩:∃bx,bx=w.heap.size:=⟨_,rfl⟩;rw[<-gP]at lL Z_ ⊢;have MQ:=Z (Nat.le_of_eq gP.symm);clear gP;refine HP.o.mono ?_;rintro e w2 ⟨rfl,f2,a2⟩;have Ov:=H0.o.Dm a2 f2 (λb X=> .inl X);obtain⟨-,g10,-,-,-⟩:=H0.o.zI f2;have HBt:=Z Ov;have Oc:=lL.o.aG f2 (λhc=>Z_.o.1 (by simp[Co.l,hc]));have SZ:=Oc.lt;have F3:aC (bL C.ab C.V C.L) (w.alloc (Xe #[.int .u64 0,Y 0,Y 0,Y 0,Y 0] 118)) ((w2.alloc (Xe #[.int .u64 y.key,Y (y.tg 0),Y (y.tg 1),Y (y.tg 2),Y (y.tg 3)] 118)).drewN 1):=(f2.alloc _).drewN 1;have B3:Below w2.heap.size w2 ((w2.alloc (Xe #[.int .u64 y.key,Y (y.tg 0),Y (y.tg 1),Y (y.tg 2),Y (y.tg 3)] 118)).drewN 1):=((aZ _ w2).alloc (aL _) _).trans (aA _ _ 1);have A3:=a2.later B3;have X3:=Ov.2.2.2.later B3;rw[<-uX.o]at X3;have hD:=Ix.tW X3 HF.o;have hy:=(aH.new w2 118 #[.int .u64 y.key,Y (y.tg 0),Y (y.tg 1),Y (y.tg 2),Y (y.tg 3)]);have hyb:w2.heap.size∉[C.xb,C.xs]:=by have l1:=H0.o.sep.lt C.xb (by simp[Co.l]);have l2:=H0.o.sep.lt C.xs (by simp[Co.l]);have l3:=f2.size;simp;omega
 have q_:bx∉[C.xb,C.xs]:=by have:=Z_.o.1;simp[Co.l]at this ⊢;exact⟨this.2.1,this.2.2.1⟩
 have ps:=(Oc.alloc (Xe #[.int .u64 y.key,Y (y.tg 0),Y (y.tg 1),Y (y.tg 2),Y (y.tg 3)] 118)).drewN 1;have HY:=Z (hy.drewN 1);have l7:=Z ps;have XN:=Z (And.intro hyb q_);have i10:(w2.alloc (Xe #[.int .u64 y.key,Y (y.tg 0),Y (y.tg 1),Y (y.tg 2),Y (y.tg 3)] 118)).cell? (I C.mb 10)=O (Oi C.xb):=(H0.o.zI (f2.alloc _)).2.1;have y0:=hy.c1;have Iw:=Z F3;have wk:=Z A3;have HD:=Z hD;clear f2 a2 Ov m9 HP lL Oc F3 B3 A3 X3 hD hyb q_ ps hy g10;go_wp2_with fail;generalize w2.alloc (Xe #[.int .u64 y.key,Y (y.tg 0),Y (y.tg 1),Y (y.tg 2),Y (y.tg 3)] 118)=w3 at*;generalize w2.heap.size=yb at*
 go_still_tail 6,bj
 change wpList _ _ _ _ _ (w3.drewN 1);generalize w3.drewN 1=w4 at*;go_wp2_with fail;refine HD.o.mono ?_;rintro e w5 ⟨rfl,f5,x5⟩;obtain⟨XL,IT⟩:=H0.o.both Iw.o wk.o (λb X=> .inl X) f5 x5;obtain⟨-,-,g12,g0,gf⟩:=IT.reads;obtain⟨gb,mP,kX,zJ,AQ⟩:=IT.ap hq;have hy5:=HY.o.aG f5 XN.o.1;have re:=l7.o.aG f5 XN.o.2;have Ou:=Z XL;have xT:=Z IT;rw[kX]at g0;clear kX XL IT f5 x5 i10 y0 HD;dsimp only at g12;obtain⟨a0r,a0s,a0t,a0u,a0v⟩:=hy5.c5;obtain⟨a0w,a0x,a0y,Z3,a0z⟩:=re.c5;have zf:∀o,w5.frozen? (I bx o)=false:=re.frozen;have n1:yb≠C.mb:=hy5.ne xT.o.m.aT bz;have n2:bx≠C.mb:=re.ne xT.o.m.aT bz;have gY:=Z re;clear hy5 re;have Z9:IntKind.i64.wrap (s.total-1)=s.total-1:=bJ _ ⟨by have:=HT.o;omega,by have:=HT.o;omega⟩;generalize p.ap.getD q false=gq at*;generalize p.ap.length=ng at*;cases gq
 ·go_wp2;obtain⟨k1,k2⟩:=xT.o.total (s.total-1);have xy:aH (w5.setCell (I C.mb 12) (Y (s.total-1))) bx 118 _:=gY.o.other n2 _ _;have r6:=eO.lK xy y;have F6:aC [bx] (w5.setCell (I C.mb 12) (Y (s.total-1))) (dT (w5.setCell (I C.mb 12) (Y (s.total-1))) bx 0 y):=gH (aC.refl _ _) az 0 y;have k3:=k2.aG F6 (λb X hc=>by simp at hc;subst hc;exact Z_.o.1 X) (λb X hc=>by simp at hc;subst hc;exact Z_.o.2 X);have T3:=(HB.o.trans (Ou.o.trans k1)).new MQ.o F6;change bodyPost _ _ _ _ _ (dT (w5.setCell (I C.mb 12) (Y (s.total-1))) bx 0 y);generalize dT (w5.setCell (I C.mb 12) (Y (s.total-1))) bx 0 y=w7 at*;obtain⟨e0,e1,e2,e3,e4,_⟩:=kV r6;have e:lE (aB p c) s q d=⟨takeN s.a q (cS s.a q d),Vm.aS s.f y.key Xb,s.vars,s.total-1⟩:=l_.o;exact wI
 ·go_wp2;have xy:aH w5 bx 118 _:=gY.o;have r6:=eO.lK xy y;have F6:aC [bx] w5 (dT w5 bx 0 y):=gH (aC.refl _ _) az 0 y;have k3:=xT.o.aG F6 (λb X hc=>by simp at hc;subst hc;exact Z_.o.1 X) (λb X hc=>by simp at hc;subst hc;exact Z_.o.2 X);have T3:=(HB.o.trans Ou.o).new MQ.o F6;change bodyPost _ _ _ _ _ (dT w5 bx 0 y);generalize dT w5 bx 0 y=w7 at*;obtain⟨e0,e1,e2,e3,e4,_⟩:=kV r6;have e:lE (aB p c) s q d=⟨takeN s.a q (cS s.a q d),Vm.aS s.f y.key Xb,s.vars,s.total⟩:=l_.o;exact wI
def Mx.vars(h:Mx w C RO K p c s t used rv){b m cap i:Nat}(hv:C.vs=H (O (I b 0)) m cap)(hi:i<p.vars.length)(n:Int):
 bN w (w.setCell (I b i) (Y n)) C C/\Mx (w.setCell (I b i) (Y n)) C RO K p c {s with vars:=Vm.aS s.vars i n} t used rv:=by
 have R:=h.rel;have hob:C.vs.ownBlock=O b:=by rw[hv];rfl
 have F:aC (vb C.vs) w (w.setCell (I b i) (Y n)):=(aC.refl _ w).setCell (aX.2 hob) _;refine⟨⟨rfl,F.mono (by intro k hk;simp[Co.l,hk]),λ_ X=> .inl X⟩,⟨⟨?_,?_,?_,?_,?_⟩,h.sep.nd,λb' X=>dC (h.sep.lt b' X) F.size,h.sep.ro,λb' X=>dC (h.sep.dZ b' X) F.size⟩⟩
 ·exact h.m.aT.aG F R.mv
 ·exact h.m.prog.aG F λb' X hc=>h.cr X (by simp[Co.l,hc])
 ·exact h.m.ar.aG F λb' X hc=>R.av b' X hc
 ·exact h.m.ix.aG F ⟨R.xv,R.sv⟩
 ·have h3:=h.m.vs;rw[hv]at h3 ⊢;refine(h3.set (o:=i) G (Y n)).congr λo ho=>?_;show(if o=i then _ else _)=Y (Vm.aS s.vars i n o);rw[Vm.dw];split<;>rfl
def Mx.Up(h:Mx w C RO K p c s t used rv){i:Nat}(hi:i<p.vars.length):∃b cap,C.vs=H (O (I b 0)) p.vars.length cap/\Xf w (I b i)=O (Y (s.vars i))/\∀o,w.frozen? (I b o)=false:=by obtain⟨b,cap,gz,qC,ow,X⟩:=h.m.vs.some G;have h3:=h.m.vs;rw[gz]at h3;exact⟨b,cap,gz,h3.cell (o:=i) G,λo=>h3.frozen o⟩
def IU(h:Mx w C RO K p c s t used rv){x1 x2 x3 i:Nat}{qX op b' c' d':Int}(hi:i<p.vars.length)
 (h1:aH w x1 3 #[Y qX]) (h2:aH w x2 35 #[Oi C.mb]) (h3:aH w x3 40 #[Y op,Y i,Y b',Y c',Y d']):
 Calls prog 215 #[Oi x1,Oi x2,Oi x3] w (zH w C RO K p c t used rv (.tuple #[]) {s with vars:=Vm.aS s.vars i qX}):=by
 obtain⟨vb,Z4,hv,hc,hf⟩:=h.Up hi;have k5:Xf w (I C.mb 11)=O C.vs:=h.m.aT.cell 11;have c1:=h1.c1;have c2:=h2.c1;have c3:Xf w (I x3 1)=O (Y i):=h3.cell 1;have HF:=Z (h.vars hv hi qX);rw[hv]at k5;clear h h1 h2 h3 hv;generalize p.vars.length=nv at*;go_enter func215,ntmps215;go_wp2;go_region;go_wp2;refine bR (ei rfl _ _ _) rfl ?_;obtain⟨k1,k2⟩:=HF.o;exact⟨rfl,C,k1.trans (bN.below (aA _ _ 1)),k2.drewN 1⟩
def Mx.set(h:Mx w C RO K p c s t used rv){n:Nat}{x:eW}(f:aC (bL C.ab C.V C.L) w w')(ha:cw w' C.ab C.V C.L K.nd p.ap.length (LV s.a n x)):bN w w' C C/\Mx w' C RO K p c (k_ s n x) t used rv:=
 h.XJ (s':=k_ s n x) f ha (λb X=> .inl X) rfl rfl rfl h.m.ix
def Fv(h:Mx w C RO K p c s t used rv){x1 x2 n q:Nat}{qX:eW}(hf:s.f qX.key=O n)(hq:q<p.ap.length)(hn:n∈s.a.ls q)
 (h1:aH w x1 35 #[Oi C.mb]) (h2:aH w x2 118 (aQ qX)):
 Calls prog 269 #[Oi x1,Oi x2] w (zH w C RO K p c t used rv (.tuple #[]) (k_ s n qX)):=by
 obtain⟨m9,m10,-,-,-⟩:=h.reads;have c1:=h1.c1;obtain⟨c2,c3,c4,c5,c6⟩:=h2.c5;have HG:=Z (λk=>Ix.sG (h.m.ix.drewN k) hf);have HS:=Z (λk=>eO.XA ((h.m.ar.drewN k).drewN 1) hq hn qX);have a0g:=Z h;clear h hf hn h1 h2;unfold bP at HS;go_enter func269,ntmps269;go_wp2;go_quiet ((go_at_call 59;exact It (HG.o _)));go_wp2_with fail;have sE:=Z (HS.o nq);have HA:=Z ((a0g.o.drewN nq).drewN 1);have HB:=Z (bN.below (C:=C) ((aA w.heap.size w nq).trans (aA w.heap.size (w.drewN nq) 1)));have d1:(w.drewN nq).cell? (I x1 0)=O (Oi C.mb):=c1;have d2:(w.drewN nq).cell? (I x2 0)=O (.int .u64 qX.key):=c2;have d3:(w.drewN nq).cell? (I x2 1)=O (Y (qX.tg 0)):=c3;have d4:(w.drewN nq).cell? (I x2 2)=O (Y (qX.tg 1)):=c4;have d5:(w.drewN nq).cell? (I x2 3)=O (Y (qX.tg 2)):=c5;have d6:(w.drewN nq).cell? (I x2 4)=O (Y (qX.tg 3)):=c6;have d9:(w.drewN nq).cell? (I C.mb 9)=O (Oi C.ab):=m9;clear HS HG c1 c2 c3 c4 c5 c6 m9 m10;generalize w.drewN nq=w1 at*
 go_still_tail 6,bj
 change wpList _ _ _ _ _ (w1.drewN 1);generalize w1.drewN 1=w2 at*;go_wp2_with fail;refine sE.o.mono ?_;rintro e w3 ⟨rfl,f3,a3⟩;obtain⟨k1,k2⟩:=HA.o.set f3 a3;have oE:=Z k1;have pZ:=Z k2;clear f3 a3 k1 k2 sE;go_wp2;exact bR (ei rfl _ _ _) rfl ⟨rfl,C,HB.o.trans oE.o,pZ.o⟩
def VQ{p:Prop}(h:p:=by
 go_wp2_with fail;refine HC.o.mono ?_;rintro e w2 ⟨rfl,C',k1,k2⟩;have oE:=Z k1;have pZ:=Z k2;clear k1 k2 HC;go_wp2;exact bR (ei rfl _ _ _) rfl ⟨rfl,C',oE.o,pZ.o⟩):p:=h
def IV(h:Mx w C RO K p c s t used rv)(hI:Inv (aB p c) s)(iE:K.nd<=4194304)(hg:p.ap.length<=256){q d:Nat}(hq:q<p.ap.length)(he:d<=1)(bt:s.a.ls q≠[])(ht: -1073741824<=s.total/\s.total<=1073741824){x1 x2 x3:Nat}
 (h1:aH w x1 35 #[Oi C.mb]) (h2:aH w x2 3 #[Y q]) (h3:aH w x3 3 #[Y d]):
 Calls prog 271 #[Oi x1,Oi x2,Oi x3] w (zH w C RO K p c t used rv (.tuple #[]) (lE (aB p c) s q d)):=by
 have c1:=h1.c1;have c2:=h2.c1;have c3:=h3.c1;have HC:=Z (XM h hI iE hg hq he bt ht);clear h h1 h2 h3 hI bt ht;go_enter func271,ntmps271;exact VQ
def IW(h:Mx w C RO K p c s t used rv)(iE:K.nd<=4194304)(hg:p.ap.length<=256){q d:Nat}(hq:q<p.ap.length)(he:d<=1)(x:eW)(hx:s.f x.key=Xb)(n_:fN p s.a<K.nd)(ht: -1073741824<=s.total/\s.total<=1073741824){x1 x2 x3 x4:Nat}
 (h1:aH w x1 35 #[Oi C.mb]) (h2:aH w x2 3 #[Y q]) (h3:aH w x3 3 #[Y d]) (h4:aH w x4 118 (aQ x)):
 Calls prog 275 #[Oi x1,Oi x2,Oi x3,Oi x4] w (zH w C RO K p c t used rv (.tuple #[]) (jW (aB p c) s q d x)):=by
 have c1:=h1.c1;have c2:=h2.c1;have c3:=h3.c1;unfold aQ at h4;obtain⟨e0,e1,e2,e3,e4,-⟩:=kV h4;have HC:=Z (Qa h iE hg hq he x hx n_ ht);clear h h1 h2 h3 h4 hx n_ ht;unfold bP at HC;go_enter func275,ntmps275;exact VQ
def Fw{p:aU}{a:Nd}{q n e:Nat}(hn:n∈a.ls q):fN p (pJ a n q e)=fN p a:=by
 unfold fN;congr 1;funext j;show(aS a.ls q _ j).length=_;rw[dw];split
 ·next h=>subst h;have h3:0<(a.ls j).length:=EI hn;rw[lD,Bx hn];omega
 ·rfl
def Fx{a:Nd}{q n m e p:Nat}(hn:n∈a.ls q)(hm:m∈a.ls p):m∈(pJ a n q e).ls p:=by
 show m∈aS a.ls q _ p;rw[dw];split
 ·next h=>
  subst h;rw[ext_mem];by_cases h:m=n
  ·exact .inl h
  ·exact .inr ((List.mem_erase_of_ne h).2 hm)
 ·exact hm
def tz(a:Nd)(q:Nat)(l:List Nat):Nd:=l.foldl (λb m=>pJ b m q 0) a
def IX(a:Nd)(q:Nat)(l:List Nat)(m:Nat):tz a q (l++[m])=pJ (tz a q l) m q 0:=by unfold tz;rw[List.foldl_append];rfl
def MR{a:Nd}{q m p:Nat}:∀(l:List Nat),(∀x,x∈l->x∈a.ls q)->m∈a.ls p->m∈(tz a q l).ls p:=by
 intro l
 induction l generalizing a with
 |nil=>intro _ h;exact h
 |cons x l ih=>intro hl hm;exact ih (a:=pJ a x q 0) (λy hy=>Fx (hl x az) (hl y (by simp[hy]))) (Fx (hl x az) hm)
structure Mov(w wr:ek)(C:Co)(RO:List Nat)(K:Kc)(p:aU)(c:Cp)(t:fG)(used:Int)(rv:to)(s1:St)(q:Nat)(ahead:List Nat)(k:Nat):Prop where
 ex:∃C',bN w wr C C'/\Mx wr C' RO K p c {s1 with a:=tz s1.a q (ahead.take k)} t used rv
def iN{α:Type}(l:List α)(k:Nat)(d:α)(h:k<l.length):l.take (k+1)=l.take k++[l.getD k d]:=by rw[List.take_add_one,List.getD_eq_getElem?_getD,List.getElem?_eq_getElem h];rfl
def IY(h:Mx w C RO K p c s t used rv)(iE:K.nd<=4194304)(hg:p.ap.length<=256){q:Nat}(hq:q<p.ap.length)(x:eW)(hx:s.f x.key=Xb)(n_:fN p s.a<K.nd)(ht: -1073741824<=s.total/\s.total<=1073741824){ahead:List Nat}(ha:∀m,m∈ahead->m∈s.a.ls q)
 (hlen:ahead.length<=9223372036854775807) {x1 x2 x3 x4:Nat} {av:to}
 (h1:aH w x1 35 #[Oi C.mb]) (h2:aH w x2 3 #[Y q]) (h3:aH w x3 118 (aQ x)) (h4:aH w x4 24 #[av]) (h5:Row w 3 1 av ahead.length (λi=> Y (ahead.getD i 0:Nat)))
 (r1:x1∈RO) (r2:x2∈RO) (r3:x3∈RO) (r4:x4∈RO) (r5:∀b,b∈vb av->b∈RO):
 Calls prog 273 #[Oi x1,Oi x2,Oi x3,Oi x4] w (zH w C RO K p c t used rv (.tuple #[]) (nT (aB p c) (.out q x ahead) s)):=by
 have c1:=h1.c1;have c2:=h2.c1;have h3':=h3;unfold aQ at h3';obtain⟨e0,e1,e2,e3,e4,-⟩:=kV h3';have HC:=Z (Qa h iE hg hq (ck 1) x hx n_ ht);have HK:=Z (λwx (f:aC C.l w wx)=>And.intro (h1.aG f (h.cr r1)) (And.intro (h2.aG f (h.cr r2)) (And.intro (h4.aG f (h.cr r4)) (h5.aG f (λb X=>h.cr (r5 b (aX.2 X)))))));have HS:=Z (show nT (aB p c) (.out q x ahead) s={jW (aB p c) s q 0 x with a:=tz (jW (aB p c) s q 0 x).a q ahead}from rfl);have HM:=Z (show∀m,m∈ahead->m∈(jW (aB p c) s q 0 x).a.ls q from λm hm=>ja.2 (.inr (ha m hm)));have HQ:=Z hq;clear h h1 h2 h3 h3' h4 hx n_ ht ha;generalize jW (aB p c) s q 0 x=s1 at*;unfold bP at HC;have HL:=Z hlen;rcases h5.val with⟨hv0,hl0⟩|⟨vb0,cap,hv0,qC,ow,X⟩
 ·rw[hv0]at HK;have e0:ahead=[]:=List.length_eq_zero_iff.1 hl0;clear h5;go_enter func273,ntmps273;go_wp2_with fail;refine HC.o.mono ?_;rintro e w2 ⟨rfl,C2,k1,k2⟩;obtain⟨b1,b2,b4,b5⟩:=HK.o w2 k1.f;have g4:=b4.c1;have oE:=Z k1;have pZ:=Z k2;have HE:=Z e0;clear k1 k2 HC c1 c2 b1 b2 b4 b5 e0 hl0;go_wp2_with fail
  go_loopg [12] 0 (λf Fy wr=>w2=wr/\Fy=Y (0:Int))
  case atStart=>exact⟨rfl,rfl⟩
  case round=>obtain⟨rfl,rfl⟩:=hrel;go_wp2;refine bR (ei rfl _ _ _) rfl ?_;rw[HS.o,HE.o];exact⟨rfl,C2,oE.o,pZ.o⟩
 ·rw[hv0]at HK;clear h5;go_enter func273,ntmps273;go_wp2_with fail;refine HC.o.mono ?_;rintro e w2 ⟨rfl,C2,k1,k2⟩;obtain⟨b1,b2,b4,b5⟩:=HK.o w2 k1.f;have g4:=b4.c1;have HV:=Z (Mov.mk (q:=q) (ahead:=ahead) (k:=0) ⟨C2,k1,k2⟩);clear k1 k2 HC c1 c2 b1 b2 b4 b5;go_wp2_with fail
  go_loopg [5,12] ahead.length (λf s5 Fy wr=>∃k:Nat,Fy=Y k/\k+f=ahead.length/\Hid (Mov w wr C RO K p c t used rv s1 q ahead k))
  case atStart=>exact⟨0,rfl,G,HV⟩
  case round=>
   obtain⟨k,rfl,hk,HR⟩:=hrel;obtain⟨C3,k1,k2⟩:=HR.o.ex;obtain⟨b1,b2,b4,b5⟩:=HK.o wr k1.f;have oE:=Z k1;have pZ:=Z k2;have af4:=HL.o;have mO:=k1.mb;by_cases be:k<ahead.length
   ·have d1:=b1.c1;have d2:=b2.c1;have d5:Xf wr (I vb0 k)=O (Y (ahead.getD k 0:Nat)):=b5.cell G;have d9:Xf wr (I C.mb 9)=O (Oi C3.ab):=by rw[<-mO];exact k2.reads.1
    have gg:ahead.getD k 0∈(tz s1.a q (ahead.take k)).ls q:=by refine MR _ (λy hy=>HM.o y (List.mem_of_mem_take hy)) (HM.o _ ?_);rw[List.getD_eq_getElem?_getD,List.getElem?_eq_getElem be];exact List.getElem_mem be
    have KK:=Z (eO.ZS (k2.m.ar.drewN 1) iE hg hq gg (ck 1));have HB:=Z (bN.below (C:=C3) (aA wr.heap.size wr 1));have HA:=Z (k2.drewN 1);have KL:=Z (iN ahead k 0 be);have Qd:=Z gg;clear k1 k2 b1 b2 b4 b5 mO gg HV;generalize hn:ahead.getD k 0=n at*;go_wp2_with fail
    go_still_tail 6,bj
    change wpList _ _ _ _ _ (wr.drewN 1);generalize wr.drewN 1=w4 at*;go_wp2_with fail;refine KK.o.mono ?_;rintro e w5 ⟨rfl,f5,a5⟩;have mN:Mov w w5 C RO K p c t used rv s1 q ahead (k+1):=by refine⟨?_⟩;rw[KL.o,IX];obtain⟨k3,k4⟩:=HA.o.XJ (s':={s1 with a:=pJ (tz s1.a q (ahead.take k)) n q 0}) f5 a5 (λb X=> .inl X) rfl rfl rfl (by rw[Fw Qd.o];exact HA.o.m.ix);exact⟨C3,oE.o.trans (HB.o.trans k3),k4⟩
    have HN:=Z mN;clear mN f5 a5 KK;go_wp2_with fail
    go_roundg (gk-1)
    case measure=>omega
    case rel=>exact⟨k+1,by go_num,G,HN⟩
   ·have he:k=ahead.length:=G;have HE:=Z he;clear k1 k2 b1 b2 b4 b5 mO he;go_wp2;refine bR (ei rfl _ _ _) rfl ?_;rw[HS.o];have h6:=pZ.o;rw[HE.o,List.take_length]at h6;exact⟨rfl,C3,oE.o,h6⟩
variable {mb rb:Nat}
def nP(h:dh w C U RO K p c t used hv jv s r){n q:Nat}(hf:s.f r.key=O n)(hq:q<p.ap.length)(hn:n∈s.a.ls q):
 Calls prog 205 #[Oi C.mb] w λe w'=>e=Xc (.tuple #[Y n,Y q,.bool true])/\∃m,w'=w.drewN m:=by
 have rU:=wj h.m.aT;have m10:=Uj h.m.aT;have m9:=mc9 h.m.aT;have r0:=h.r.dY.c1;have HG:=Z (λk=>Ix.sG (h.m.ix.drewN k) hf);have HL:=Z (λk=>eO.Dg (h.m.ar.drewN k) hq hn);clear h hf hn;generalize r.key=key at*;go_enter func205,ntmps205;go_wp2;go_quiet ((go_at_call 59;exact It (HG.o _)));go_wp2_with fail;refine(HL.o _).mono ?_;rintro e w' ⟨rfl,rfl⟩;go_wp2;go_ret3;exact⟨rfl,_,rfl⟩
def p_(h:dh w C U RO K p c t used hv jv s r)(hf:s.f r.key=Xb):
 Calls prog 205 #[Oi C.mb] w λe w'=>e=Xc (.tuple #[Y 0,Y 0,.bool false])/\∃m,w'=w.drewN m:=by
 have rU:=wj h.m.aT;have m10:=Uj h.m.aT;have m9:=mc9 h.m.aT;have r0:=h.r.dY.c1;have HG:=Z (λk=>Ix.Ca (h.m.ix.drewN k) hf);clear h hf;generalize r.key=key at*;go_enter func205,ntmps205;go_wp2;go_quiet ((go_at_call 59;exact It (HG.o _)));go_wp2;go_ret3;exact⟨rfl,_,rfl⟩
def zR(h:dh w C U RO K p c t used hv jv s r){n q:Nat}(hf:s.f r.key=O n)(hq:q<p.ap.length)(hn:n∈s.a.ls q):
 Calls prog 207 #[Oi C.mb] w λe w'=>e=Xc (.tuple #[Y n,.bool true])/\∃m,w'=w.drewN m:=by
 have HN:=Z (nP h hf hq hn);clear h hf hn;go_enter func207,ntmps207;go_wp2_with fail;refine HN.o.mono ?_;rintro e w' ⟨rfl,m,rfl⟩;go_wp2;go_ret2;exact⟨rfl,m,rfl⟩
def zS(h:dh w C U RO K p c t used hv jv s r)(hf:s.f r.key=Xb):
 Calls prog 207 #[Oi C.mb] w (cQ w C.mb U.rb RO K p c t used (.tuple #[Y 0,.bool false]) (s,r.gE 3)):=by
 have HN:=Z (p_ h hf);have a0g:=Z h;clear h hf;go_enter func207,ntmps207;go_wp2_with fail;refine HN.o.mono ?_;rintro e w' ⟨rfl,m,rfl⟩;have HH:=Z (a0g.o.drewN m);have rU:(w.drewN m).cell? (I C.mb 60)=O (Oi U.rb):=HH.o.m.aT.cell 60;have r6:(w.drewN m).cell? (I U.rb 6)=O (Y r.bG):=HH.o.r.dY.cell 6;have rf:∀o,(w.drewN m).frozen? (I U.rb o)=false:=HH.o.r.dY.frozen;have HK:=Z (Kept.du (S:=U.l) (((aC.refl _ w).drewN m).setCell (p:=(I U.rb 6)) (by simp[Ru.l]) (Y 3)) (λb X=>a0g.o.sep.ur X) a0g.o.sep.dZ);generalize w.drewN m=w2 at*;go_wp2;go_ret2;exact⟨rfl,RO,λb X=>X,(HH.o.kT 6 (Y 3) (r':=r.gE 3) rfl rfl rfl rfl rfl rfl HH.o.r.iE).jJ,HK.o⟩
def u_(h:dh w C U RO K p c t used hv jv s r){q d:Nat}(hq:q<p.ap.length)(he:d<=1)(bt:s.a.ls q≠[]):
 Calls prog 209 #[Oi C.mb,Y q,Y d] w λe w'=>e=Xc (.tuple #[Y (cS s.a q d),.bool true])/\∃m,w'=w.drewN m:=by
 have m9:=mc9 h.m.aT;have HN:=Z (eO.BX h.m.ar hq he bt);clear h bt;go_enter func209,ntmps209;go_wp2_with fail;refine HN.o.mono ?_;rintro e w' ⟨rfl,rfl⟩;go_wp2;go_ret2;exact⟨rfl,0,rfl⟩
def vd(h:dh w C U RO K p c t used hv jv s r){q d:Nat}(hq:q<p.ap.length)(he:d<=1)(bt:s.a.ls q=[]):
 Calls prog 209 #[Oi C.mb,Y q,Y d] w (cQ w C.mb U.rb RO K p c t used (.tuple #[Y 0,.bool false]) (s,r.gE 2)):=by
 have m9:=mc9 h.m.aT;have HN:=Z (eO.BY h.m.ar hq he bt);have a0g:=Z h;clear h bt;go_enter func209,ntmps209;go_wp2_with fail;refine HN.o.mono ?_;rintro e w' ⟨rfl,rfl⟩;have HH:=a0g;have rU:Xf w (I C.mb 60)=O (Oi U.rb):=HH.o.m.aT.cell 60;have r6:Xf w (I U.rb 6)=O (Y r.bG):=HH.o.r.dY.cell 6;have rf:∀o,w.frozen? (I U.rb o)=false:=HH.o.r.dY.frozen;have HK:=Z (Kept.du (S:=U.l) ((aC.refl _ w).setCell (p:=(I U.rb 6)) (by simp[Ru.l]) (Y 2)) (λb X=>a0g.o.sep.ur X) a0g.o.sep.dZ);go_wp2;go_ret2;exact⟨rfl,RO,λb X=>X,(HH.o.kT 6 (Y 2) (r':=r.gE 2) rfl rfl rfl rfl rfl rfl HH.o.r.iE).jJ,HK.o⟩
def dh.abJ(h:dh w C U RO K p c t used hv jv s r)(F:aC (vb U.kW) w w'){l:List Int}(bC:Row w' 3 1 U.kW l.length (λi=> Y (l.reverse.getD i 0))):dh w' C U RO K p c t used hv jv s {r with loops:=l}:=by
 have R:=h.sep.u;have F2:aC U.l w w':=F.mono (by intro k hk;simp[Ru.l,hk]);have qU:∀b,b∈RO->b∉vb U.kW:=λb X=>by have:=h.sep.ur X;simp[Ru.l]at this;simp[this]
 refine h.runs F2 rfl (λb X=>X) (λb X=> .inl X) ⟨?_,?_,?_,?_,?_,?_,?_⟩ h.sep.nd (λb X=>⟨.inl X,dC (h.sep.lt b (by simp[X])) F.size⟩)
 ·exact h.r.dY.aG F R.l
 ·exact h.r.l8.aG F λb X=>R.sl b (aX.2 X)
 ·exact bC
 ·exact h.r.oh.aG F λb X=>R.lt.symm b (aX.2 X)
 ·exact h.r.kR.aG F λb X=>R.lj.symm b (aX.2 X)
 ·exact WM
 ·exact h.r.iE.aG F qU
def I_(h:dh w C U RO K p c t used hv jv s r)(i:Ins){k:Nat}(hk:i.a=k){m:Int}{rest:List Int}(fY:r.loops=m::rest)(hl:rest.length<1000000)(hm0: -1073741824<=m)(Kx:m<=1073741824):
 Calls prog 116 #[Oi C.mb,a_ i] w (cQ w C.mb U.rb RO K p c t used (.tuple #[]) (s,zG r k)):=by
 have H0:=(h.box (Xe (aK i) 40)).drewN 1;have HB:=(aZ w.heap.size w).alloc (aL _) (Xe (aK i) 40);have oD:=Z (Kept.ai (RO:=RO) (HB.trans (aA _ _ 1)) h.sep.dZ);have Dl:=Z (show r.loops.headD 0=m by rw[fY];rfl);have HTL:=Z (show r.loops.tail=rest by rw[fY];rfl);have e1:(w.alloc (Xe (aK i) 40)).cell? (I w.heap.size 1)=O (Y k):=by rw[<-hk];exact(aH.new w 40 (aK i)).cell 1
 have rU:(w.alloc (Xe (aK i) 40)).cell? (I C.mb 60)=O (Oi U.rb):=H0.m.aT.cell 60;have r3:(w.alloc (Xe (aK i) 40)).cell? (I U.rb 3)=O U.kW:=H0.r.dY.cell 3;have Hh:=λ_:Unit=>KI H0 fY hl k;have bC:=H0.r.kW;rw[fY]at bC;obtain⟨b,cap,gz,qC,ow,X⟩:=bC.some az;rw[gz]at r3 bC;have iJ:(w.alloc (Xe (aK i) 40)).cell? (I b rest.length)=O (Y m):=by have:=bC.cell (o:=rest.length) az;rw[oY]at this;exact this
 have xz:∀o,(w.alloc (Xe (aK i) 40)).frozen? (I b o)=false:=λo=>bC.frozen o;have Ja:=Z (Hh ());have rh:=Z bC;have HV:=Z gz;have a0g:=Z H0;clear h H0 bC fY gz HB hk Hh;unfold a_;unfold aK at*;simp only[List.length_cons]at r3 qC;generalize hk:rest.length=n at*;have hlen:=uV (n+1) cap b;obtain⟨w1,kI⟩:∃w1,w1=w.alloc (Xe #[Y i.op,Y i.a,Y i.b,Y i.c,Y i.d] 40):=⟨_,rfl⟩;rw[<-kI]at e1 rU r3 iJ xz a0g rh Ja oD;have hwr:IntKind.i64.wrap (m-1)=m-1:=bJ _ ⟨G,G⟩;go_enter func116,ntmps116;go_wp2_with fail;rw[<-kI];clear kI;go_region;obtain⟨w2,tQ⟩:∃w2,w2=w1.drew:=⟨_,rfl⟩;have f1:Xf w2 (I b n)=O (Y m):=by rw[tQ];exact iJ
 have f2:Xf w2 (I w.heap.size 1)=O (Y k):=by rw[tQ];exact e1
 have f3:∀o,w2.frozen? (I b o)=false:=by rw[tQ];exact xz
 have HH:Hid (dh w2 C U (w.heap.size::RO) K p c t used hv jv s r):=by rw[tQ];exact a0g
 have HRR:Hid (Row w2 3 1 (H (O (I b 0)) (m::rest).length cap) (m::rest).length (λi=> Y ((m::rest).reverse.getD i 0))):=by rw[tQ];exact rh
 have HLL:Hid (Calls prog 213 #[Oi C.mb,Y k] w2 (cQ w2 C.mb U.rb (w.heap.size::RO) K p c t used (.tuple #[]) (s,lF r k))):=by rw[tQ];exact Ja
 have Bb:Hid (Kept RO w w2):=by rw[tQ];exact oD
 rw[<-tQ];clear iJ xz e1 rU r3 a0g rh Ja oD tQ hlen;by_cases hm:m=0
 ·subst hm;go_wp2_with fail;refine HLL.o.mono ?_;intro e w3 hd;have uq:=hd.pre (RO:=RO) Bb.o (λb X=>by simp[X]);have X:zG r k=lF r k:=by unfold zG;rw[aE Dl.o]
  exact qo
 ·have hz:(m==0)=false:=by simpa using hm
  go_wp2;have dR:zG r k={r with loops:=(m-1)::rest}:=by unfold zG;rw[Dl.o,HTL.o,ax hm]
  rw[dR];have e2:U.kW=H (O (I b 0)) (rest.length+1) cap:=HV.o;have bC:Row (w2.setCell (I b n) (Y (m-1))) 3 1 U.kW ((m-1)::rest).length (λi=> Y (((m-1)::rest).reverse.getD i 0)):=by
   rw[e2];have h1:=HRR.o.set (o:=n) (by rw[List.length_cons,hk];omega) (Y (m-1));refine(show Row _ _ _ (H (O (I b 0)) (rest.length+1) cap) (rest.length+1) _ from h1).congr λo ho=>?_;by_cases pB:o=n
   ·rw[aE pB,pB,<-hk,oY]
   ·rw[ax pB,(my m 0 rest).1 o G,(my (m-1) 0 rest).1 o G]
  have hob:U.kW.ownBlock=O b:=by rw[e2];rfl
  have F:aC (vb U.kW) w2 (w2.setCell (I b n) (Y (m-1))):=(aC.refl _ w2).setCell (aX.2 hob) _;have A:=HH.o.abJ F bC;refine bR (ei rfl _ _ _) rfl ⟨rfl,_,λx hx=>by simp[hx],A.jJ,Bb.o.trans (RO':=RO) (Kept.du (S:=U.l) (F.mono λx hx=>by simp[Ru.l,hx]) (λx hx=>HH.o.sep.ur (by simp[hx])) (λx hx=>HH.o.sep.dZ x (by simp[hx]))) λ_ h=>h⟩
def J8{p:Prop}(h:p:=by
 go_wp2_with fail;refine HN.o.mono ?_;intro e w' hd;obtain⟨rfl,nJ⟩:=hd.pre (RO:=RO) HK.o (λb X=>by simp[X]);go_wp2;exact bR (ei rfl _ _ _) rfl ⟨rfl,nJ⟩):p:=h
def abI(h:dh w C U RO K p c t used hv jv s r)(i:Ins)(hf:s.f r.key=Xb):
 Calls prog 109 #[Oi C.mb,a_ i] w (cQ w C.mb U.rb RO K p c t used (.tuple #[]) (s,r.gE 3)):=by
 have H0:=h.box (Xe (aK i) 40);have HB:=Z ((aZ w.heap.size w).alloc (aL _) (Xe (aK i) 40));have HN:=Z (zS H0 hf);have HK:=Z (Kept.ai (RO:=RO) HB.o h.sep.dZ);clear h H0 hf;unfold a_;unfold aK at*;go_enter func109,ntmps109;exact J8
def ae0(h:dh w C U RO K p c t used hv jv s r)(i:Ins){q d:Nat}(ha:i.a=q)(jq:i.b=d)(hq:q<p.ap.length)(he:d<=1)(bt:s.a.ls q=[]):
 Calls prog 110 #[Oi C.mb,a_ i] w (cQ w C.mb U.rb RO K p c t used (.tuple #[]) (s,r.gE 2)):=by
 have H0:=h.box (Xe (aK i) 40);have HB:=Z ((aZ w.heap.size w).alloc (aL _) (Xe (aK i) 40));have HN:=Z (vd H0 hq he bt);have HK:=Z (Kept.ai (RO:=RO) HB.o h.sep.dZ);have g1:(w.alloc (Xe (aK i) 40)).cell? (I w.heap.size 1)=O (Y q):=by rw[<-ha];exact(aH.new w 40 (aK i)).cell 1
 have g2:(w.alloc (Xe (aK i) 40)).cell? (I w.heap.size 2)=O (Y d):=by rw[<-jq];exact(aH.new w 40 (aK i)).cell 2
 clear h H0 bt ha jq;unfold a_;unfold aK at*;go_enter func110,ntmps110;exact J8
end
end Go.Ma
section
def RN{p:Prop}(h:p:=by
 rw[uQ (by simpa using hi)]at MT;rw[aE hi];exact(a0g.o.r.jat i u' MT).aG F qU):p:=h
namespace Go.Ma
open Go.RowKit al.Vm
open al hiding aS aw an
open eO (cw bP)
open Ix (dp)
section
variable {w w':ek}{C:Co}{U U':Ru}{RO RO':List Nat}{K:Kc}{p:aU}{c:Cp}{t:fG}{used:Int}{hv hv':to}{jv lM:Nat->to}{s:St}{r r':Rn}
def Cc:(prog.info? 1).map (λi=>(i.zero,i.size,i.bytes))=O (O .nilFunc,1,8):=by kernel_rfl
def dh.MU(h:dh w C U RO K p c t used hv jv s r)(f:aC (vb U.kW) w w'):Xf w' (I U.rb 3)=O U.kW/\(∀o,w'.frozen? (I U.rb o)=false)/\Xf w' (I C.mb 60)=O (Oi U.rb):=by have hr:=h.r.dY.aG f h.sep.u.l;have hm:=h.m.aT.aG f (λhc=>h.sep.cu (b:=C.mb) (by simp[Co.l]) (by simp[Ru.l,hc]));exact⟨hr.cell 3,hr.frozen,hm.cell 60⟩
def dh.Cd(h:dh w C U RO K p c t used hv jv s r)(f:aC (vb U.kR) w w'):Xf w' (I U.rb 7)=O U.kR/\(∀o,w'.frozen? (I U.rb o)=false)/\Xf w' (I C.mb 60)=O (Oi U.rb):=by have hr:=h.r.dY.aG f h.sep.u.j;have hm:=h.m.aT.aG f (λhc=>h.sep.cu (b:=C.mb) (by simp[Co.l]) (by simp[Ru.l,hc]));exact⟨hr.cell 7,hr.frozen,hm.cell 60⟩
def dh.MV(h:dh w C U RO K p c t used hv jv s r)(f:aC (vb U.oh) w w'):Xf w' (I U.rb 5)=O U.oh/\(∀o,w'.frozen? (I U.rb o)=false)/\Xf w' (I C.mb 60)=O (Oi U.rb):=by have hr:=h.r.dY.aG f h.sep.u.t;have hm:=h.m.aT.aG f (λhc=>h.sep.cu (b:=C.mb) (by simp[Co.l]) (by simp[Ru.l,hc]));exact⟨hr.cell 5,hr.frozen,hm.cell 60⟩
def iD.form{w:ek}{mb:Nat}{RO:List Nat}{v:to}{u:vM}(h:iD w mb RO v u):∃f ii,v= .func f #[] ii:=by
 cases u with
 |var i qX=>obtain⟨x1,x2,x3,op,b,c,d,rfl,-⟩:=h;exact⟨_,_,rfl⟩
 |mark qX=>obtain⟨x1,x2,rfl,-⟩:=h;exact⟨_,_,rfl⟩
 |cut q e=>obtain⟨x1,x2,x3,rfl,-⟩:=h;exact⟨_,_,rfl⟩
 |put q e x=>obtain⟨x1,x2,x3,x4,rfl,-⟩:=h;exact⟨_,_,rfl⟩
 |out q x ahead=>obtain⟨x1,x2,x3,x4,av,rfl,-⟩:=h;exact⟨_,_,rfl⟩
def zK(h:dh w C U RO K p c t used hv jv s r){u:vM}{v:to}(hu:iD w C.mb RO v u)(hl:r.bI.length<1000000):
 Calls prog 214 #[Oi C.mb,v] w (cQ w C.mb U.rb RO K p c t used (.tuple #[]) (s,r.note u)):=by
 obtain⟨i0,hi,je,mU,sT⟩:=rN Cc;have rU:=wj h.m.aT;have r2:Xf w (I U.rb 7)=O U.kR:=h.r.dY.cell 7;have lm:=h.m.aT.lt;have lr:=h.r.dY.lt;have HD:=Z (h.drewN 1);have C3:=Z (show r.bI.length+1<=maxLen by unfold maxLen;omega);have C4:=Z (show(r.bI.length+1)*8<=140737488355328 by omega);obtain⟨fn,ii,rfl⟩:=hu.form;have HU:=Z hu;have a0g:=Z h;clear h hu;go_enter func214,ntmps214;go_wp2
 go_region_law ((refine BZ _ rfl (.tmp 14) (.tmp 16) 124 rfl 0 1 i0 .nilFunc 1 8 underlying124 hi je mU sT rfl bz U.kR _ _ (by simp[Act.eval,Act.put]) (HD.o.r.kR.alloc _) (I w.heap.size 0) 1 1 [.func fn #[] ii] (by simp[Act.eval,Act.put]) rfl (jf.ji _ [.func fn #[] ii] _ _ az) (by simp[Value.oneCell']) bz C3.o C4.o az _ rfl ?_;intro g cap w4 gT gX rP BV;obtain⟨AO,AP⟩:=P7 (w:=w) (n:=r.bI.length+1) (cap:=cap) ((aA w.heap.size w 1).alloc (aL _) _) gX rP rfl;obtain⟨c2,f2,c60⟩:=a0g.o.Cd AO;have HO:=Z gT;have HF:=Z AO;have HS:=Z AP;clear gT gX rP BV AO AP))
 all_goals
  go_wp2;refine bR (ei rfl _ _ _) rfl ?_;have bC:=pY (f':=λi=>if i<r.bI.length then jv i else .func fn #[] ii) HO.o (λi hi=>aE hi) (ax G);have F:aC (U.rb::vb U.kR) w (w4.setCell (I U.rb 7) (H (O (I g 0)) (r.bI.length+1) cap)):=(HF.o.mono (by intro k hk;simp[hk])).setCell az _;have qU:∀b,b∈RO->b∉U.rb::vb U.kR:=λb X=>by have:=a0g.o.sep.ur X;simp[Ru.l]at this ⊢;simp[this]
  have A:=a0g.o.kR HF.o (l:=u::r.bI) bC HS.o (RO':=RO) (λi u' MT=>by
   rw[List.reverse_cons]at MT;by_cases hi:i<r.bI.length
   ·exact RN
   ·have xS:i=r.bI.length:=by have:=(List.getElem?_eq_some_iff.1 MT).1;simp at this;omega
    subst xS;rw[uP az]at MT;simp at MT;subst MT;rw[ax G];exact HU.o.aG F qU) (λb X=>X) (λb X=> .inl X)
  exact⟨rfl,RO,λb X=>X,A.jJ,Kept.du (S:=U.l) (F.mono (by intro k hk;simp at hk;rcases hk with rfl|hk;simp[Ru.l];simp[Ru.l,hk])) (λb X=>a0g.o.sep.ur X) a0g.o.sep.dZ⟩
end
end Go.Ma
end
namespace Go.Ma
open Go.RowKit al.Vm
open al hiding aS aw an
def Qe{p:Prop}(h:p:=by
 go_wp2;go_ret;exact⟨rfl,rfl⟩):p:=h
def KM(w:ek)(b:Bool):Calls prog 206 #[.bool b] w λr w'=>r=Xc (Y (pM b))/\w=w':=by
 cases b
 ·go_enter func206,ntmps206;exact Qe
 ·go_enter func206,ntmps206;exact Qe
def zL(w:ek)(n lo hi:Int):Calls prog 216 #[Y n,Y lo,Y hi] w λr w'=>r=Xc (Y (within n lo hi))/\w=w':=by go_enter func216,ntmps216;exact Qe
def KN(w:ek)(n:Int):Calls prog 211 #[Y n] w λr w'=>r=Xc (Y (mH n))/\w=w':=by have HW:=Z (zL w n (-1073741824) 1073741824);go_enter func211,ntmps211;go_wp2_with fail;refine HW.o.mono ?_;rintro r w' ⟨rfl,rfl⟩;exact Qe
def IZ(w:ek){a b:Int}(ha: -1073741824<=a/\a<=1073741824)(X: -1073741824<=b/\b<=1073741824):Calls prog 212 #[Y a,Y b] w λr w'=>r=Xc (Y (yG a b))/\w=w':=by
 by_cases hz:b=0
 ·subst hz;have e:yG a 0=0:=by unfold yG;rw[aE rfl]
  rw[e];go_enter func212,ntmps212;exact Qe
 ·have mU:(b==0)=false:=by simpa using hz
  have HC:=Z (λn=>KN w n);have HQ:=Z (show yG a b=mH (if a.tmod b≠0/\(decide (a<0)≠decide (b<0))then a.tdiv b-1 else a.tdiv b)by unfold yG;rw[ax hz]);generalize yG a b=q at*;have h1:(a.tdiv b).natAbs<=a.natAbs:=Int.natAbs_tdiv_le_natAbs a b;have hd: -1073741824<=a.tdiv b/\a.tdiv b<=1073741824:=G;have hw:IntKind.i64.wrap (a.tdiv b)=a.tdiv b:=bJ _ ⟨G,G⟩;have tQ:IntKind.i64.wrap (a.tdiv b-1)=a.tdiv b-1:=bJ _ ⟨G,G⟩;have h2:(a.tmod b).natAbs<=a.natAbs:=by rw[Int.natAbs_tmod];exact Nat.mod_le _ _
  have XK:IntKind.i64.wrap (a.tmod b)=a.tmod b:=bJ _ ⟨G,G⟩;clear h1 h2;go_enter func212,ntmps212;go_wp2_with fail
  all_goals
   refine(HC.o _).mono ?_;rintro r w' ⟨rfl,rfl⟩;go_wp2;go_ret;refine⟨?_,rfl⟩;rw[HQ.o];clear HC HQ hw tQ XK hd ha X;congr 2;congr 1;generalize decide (a<0)=x at*;generalize decide (b<0)=y at*;by_cases hm:a.tmod b=0<;>cases x<;>cases y<;>simp_all
section
variable {w w':ek}{C:Co}{U U':Ru}{RO RO':List Nat}{K:Kc}{p:aU}{c:Cp}{t:fG}{used:Int}{hv hv':to}{jv lM:Nat->to}{s:St}{r r':Rn}{mb rb:Nat}
def zT(h:dh w C U RO K p c t used hv jv s r):
 Calls prog 223 #[Oi C.mb] w (cQ w C.mb U.rb RO K p c t used (.bool true) (s,{r with hand:=Xb})):=by
 have rU:=wj h.m.aT;have r4:Xf w (I U.rb 4)=O hv:=h.r.dY.cell 4;have rf:∀o,w.frozen? (I U.rb o)=false:=h.r.dY.frozen;have HS:=Z (h.kT 4 Xd (r':={r with hand:=Xb}) (hv':=Xd) rfl rfl rfl rfl rfl rfl rfl);have HK:=Z (Kept.du (S:=U.l) ((aC.refl _ w).setCell (p:=(I U.rb 4)) (by simp[Ru.l]) Xd) (λb X=>h.sep.ur X) h.sep.dZ);clear h;go_enter func223,ntmps223;go_wp2;go_ret;exact⟨rfl,RO,λb X=>X,HS.o.jJ,HK.o⟩
end
open eO (cw bP)
open Ix (dp)
section
variable {w w':ek}{C C':Co}{U U':Ru}{RO RO':List Nat}{K:Kc}{p:aU}{c:Cp}{t:fG}{used:Int}{hv hv':to}{jv lM:Nat->to}{s s':St}{r r':Rn}{rv:to}{mb rb:Nat}
def Fz(h:dh w C U RO K p c t used hv jv s r){n:Int}{rest:List Int}(fY:r.stack=n::rest)(hl:rest.length<1000000):
 Calls prog 210 #[Oi C.mb] w λe w'=>e=Xc (Y n)/\∃U',U'.rb=U.rb/\dh w' C U' RO K p c t used hv jv s r.pop/\aC U.l w w':=by
 have rU:=wj h.m.aT;have r2:Xf w (I U.rb 2)=O U.l8:=h.r.dY.cell 2;have rf:∀o,w.frozen? (I U.rb o)=false:=h.r.dY.frozen;have bC:=h.r.l8;rw[fY]at bC;obtain⟨b,cap,gz,qC,ow,X⟩:=bC.some az;rw[gz]at r2 bC;have iJ:Xf w (I b rest.length)=O (Y n):=by rw[bC.cell (o:=rest.length) az];rw[oY]
 have xu:=bC.less (k:=rest.length) az;have mN:Row w 3 1 (H (O (I b 0)) rest.length cap) rest.length (λi=> Y (rest.reverse.getD i 0)):=xu.congr λo ho=>by show Value.int _ _=Value.int _ _;rw[(my n 0 rest).1 o G]
 have HN:=Z mN;have a0g:=Z h;have HV:=Z gz;have l_:=Z fY;clear h mN xu bC fY gz;simp only[List.length_cons]at r2 qC;generalize hk:rest.length=k at*;have hlen:=uV (k+1) cap b;go_enter func210,ntmps210;go_wp2;go_region;go_wp2;go_ret;have gz:U.l8=H (O (I b 0)) (k+1) cap:=by rw[HV.o,List.length_cons,hk]
 have IR:∀x,x∈vb (H (O (I b 0)) k cap)->x∈vb U.l8:=λx hx=>by rw[gz];exact hx
 have A:=(a0g.o.l8 (aC.refl _ w) (l:=rest) (by rw[hk];exact HN.o) (λx hx=> .inl (IR x hx))).drewN 1;have hr:r.pop={r with stack:=rest}:=by unfold Rn.pop;rw[l_.o];rfl
 exact⟨rfl,{U with l8:=H (O (I b 0)) k cap},rfl,by rw[hr];exact A,((aC.refl _ w).setCell (by simp[Ru.l]) _).drewN 1⟩
def Ce{b cap:Nat}(h3:Row w 122 3 (H (O (I b 0)) p.vars.length cap) p.vars.length (dW p)){i:Nat}(hi:i<p.vars.length):
 Xf w (I b (i*3+1))=O (Y (p.vars.getD i ⟨0,0,0⟩).lo)/\Xf w (I b (i*3+2))=O (Y (p.vars.getD i ⟨0,0,0⟩).hi):=by
 constructor
 ·rw[h3.cell (o:=i*3+1) G];unfold dW;rw[show(i*3+1) / 3=i by omega,show(i*3+1) % 3=1 by omega];rfl
 ·rw[h3.cell (o:=i*3+2) G];unfold dW;rw[show(i*3+2) / 3=i by omega,show(i*3+2) % 3=2 by omega];rfl
def Mx.range(h:Mx w C RO K p c s t used rv){i:Nat}(hi:i<p.vars.length):∃b cap,K.v=H (O (I b 0)) p.vars.length cap/\b∈RO:=by obtain⟨b,cap,gz,qC,ow,X⟩:=h.m.prog.v.some G;exact⟨b,cap,gz,h.m.prog.ro b (.inr (.inl (aX.2 (by rw[gz];rfl))))⟩
def iu{w:ek}{b b' o o':Nat}{v:to}(h:b≠b'):(w.setCell (I b' o') v).cell? (I b o)=Xf w (I b o):=by rw[World.cell?_setCell_other];intro e;exact h (bo Addr.block e).symm
def Pr(h:dh w C U RO K p c t used hv jv s r)(i:Ins){k:Nat}(hk:i.a=k)(W_:k<p.vars.length){n:Int}{rest:List Int}(fY:r.stack=n::rest)(hl:rest.length<1000000)(hj:r.bI.length<1000000):
 Calls prog 118 #[Oi C.mb,a_ i] w (cQ w C.mb U.rb RO K p c t used (.tuple #[]) (CI p i (s,r))):=by
 have h1:=h.box (Xe #[Oi C.mb] 35);have h2:=h1.box (Xe (aK i) 40);have n2:=aH.new w 35 #[Oi C.mb];have n3:=aH.new (w.alloc (Xe #[Oi C.mb] 35)) 40 (aK i);have n2':=n2.alloc (Xe (aK i) 40);have HB:=Z (((aZ w.heap.size w).alloc (aL _) (Xe #[Oi C.mb] 35)).alloc az (Xe (aK i) 40));have dm:=Z h.sep.dZ;have H2:=Z h2;obtain⟨vb,Z4,hvv,hvc,hvf⟩:=h2.mx.Up W_;have k11:((w.alloc (Xe #[Oi C.mb] 35)).alloc (Xe (aK i) 40)).cell? (I C.mb 11)=O C.vs:=h2.m.aT.cell 11;rw[hvv]at k11;have e2:((w.alloc (Xe #[Oi C.mb] 35)).alloc (Xe (aK i) 40)).cell? (I w.heap.size 0)=O (Oi C.mb):=n2'.cell 0;have e3:((w.alloc (Xe #[Oi C.mb] 35)).alloc (Xe (aK i) 40)).cell? (I (w.heap.size+1) 1)=O (Y k):=by have:=n3.cell 1;rw[show(w.alloc (Xe #[Oi C.mb] 35)).heap.size=w.heap.size+1 by simp]at this;rw[<-hk];exact this
 have lm:=h2.m.aT.lt;have lv:vb<((w.alloc (Xe #[Oi C.mb] 35)).alloc (Xe (aK i) 40)).heap.size:=h2.sep.lt vb (by simp[Co.l,Ma.vb,hvv,Value.ownBlock]);have l2:=n2'.lt;have l3:=n3.lt;rw[show(w.alloc (Xe #[Oi C.mb] 35)).heap.size=w.heap.size+1 by simp]at l3 n3;have HHK:=Z hk;have l_:=Z fY;have N2:=Z n2';have N3:=Z n3;have HJ:=Z hj;have HL:=Z hl;clear h h1 h2 n2 n3 n2' fY hk hj hl;unfold a_;unfold aK at*;go_enter func118,ntmps118;go_wp2_with fail;generalize(w.alloc (Xe #[Oi C.mb] 35)).alloc (Xe #[Y i.op,Y i.a,Y i.b,Y i.c,Y i.d] 40)=w2 at*;go_region;have h3:dh (w2.alloc (Xe #[Y (s.vars k)] 3)).drew C U (w2.heap.size::(w.heap.size+1)::w.heap.size::RO) K p c t used hv jv s r:=by have:=(H2.o.box (Xe #[Y (s.vars k)] 3)).drewN 1;rw[show(w.alloc (Xe #[Oi C.mb] 35)).heap.size=w.heap.size+1 by simp]at this;exact this
 have B3:Below w2.heap.size w2 (w2.alloc (Xe #[Y (s.vars k)] 3)).drew:=((aZ _ w2).alloc (aL _) _).trans (aA _ _ 1);have n4:aH (w2.alloc (Xe #[Y (s.vars k)] 3)).drew w2.heap.size 3 #[Y (s.vars k)]:=aH.new w2 _ _;have m2:aH (w2.alloc (Xe #[Y (s.vars k)] 3)).drew w.heap.size 35 #[Oi C.mb]:=N2.o.aG (aC.ai (S:=[]) B3) az;have m3:aH (w2.alloc (Xe #[Y (s.vars k)] 3)).drew (w.heap.size+1) 40 #[Y i.op,Y i.a,Y i.b,Y i.c,Y i.d]:=N3.o.aG (aC.ai (S:=[]) B3) az;rw[HHK.o]at m3;have hu:iD (w2.alloc (Xe #[Y (s.vars k)] 3)).drew C.mb (w2.heap.size::(w.heap.size+1)::w.heap.size::RO) (.func (.func 215) #[] #[Oi w2.heap.size,Oi w.heap.size,Oi (w.heap.size+1)]) (.var k (s.vars k)):=
  ⟨_,_,_,_,_,_,_,rfl,n4,m2,m3,az,az,az⟩
 have HC:=Z (zK h3 hu HJ.o);have M2:=Z m2;have M3:=Z m3;have HKP:=Z (Kept.ai (RO:=RO) (HB.o.trans (B3.mono (by have:=HB.o.size;exact this))) dm.o);have c2:(w2.alloc (Xe #[Y (s.vars k)] 3)).drew.cell? (I w.heap.size 0)=O (Oi C.mb):=m2.cell 0;clear h3 B3 n4 m2 m3 hu e2 e3 k11 hvc hvf lm lv l2 l3 N2 N3 hvv;generalize XK:(w2.alloc (Xe #[Y (s.vars k)] 3)).drew=w3 at*;generalize w2.heap.size=b4 at*;clear XK;go_wp2_with fail;refine HC.o.mono ?_;rintro e w4 ⟨rfl,Qf,Ow,⟨C4,U4,hv4,jv4,xU,Dn,A4⟩,Er⟩;have q2:=aH.mA M2.o Er az;have q3:=aH.mA M3.o Er az;obtain⟨FA,KO,MX,Z2,Z1⟩:=A4.mx.Up W_;obtain⟨gb,mP,kX,zJ⟩:=A4.mx.range W_;have x2:w.heap.size∈Qf:=Ow _ az;have x3:w.heap.size+1∈Qf:=Ow _ az;have hvl:FA∈C4.l:=by simp[Co.l,Ma.vb,MX,Value.ownBlock]
 have y2:FA≠w.heap.size:=λe=>A4.sep.cr x2 (e▸hvl);have y3:FA≠w.heap.size+1:=λe=>A4.sep.cr x3 (e▸hvl);have yg:FA≠gb:=λe=>A4.sep.cr zJ (e▸hvl);have ym:FA≠C.mb:=λe=>A4.mx.rel.mv (aX.2 (by rw[MX,xU,<-e];rfl));have gJ:∀wx,aC U4.l w4 wx->Xf wx (I w.heap.size 0)=O (Oi C.mb)/\Xf wx (I (w.heap.size+1) 1)=O (Y k)/\Xf wx (I C.mb 11)=O (H (O (I FA 0)) p.vars.length KO)/\Xf wx (I C.mb 1)=O (H (O (I gb 0)) p.vars.length mP)/\Xf wx (I gb (k*3+1))=O (Y (p.vars.getD k ⟨0,0,0⟩).lo)/\Xf wx (I gb (k*3+2))=O (Y (p.vars.getD k ⟨0,0,0⟩).hi):=by
  intro wx f;have z1:=A4.m.aT.aG f (A4.sep.cu (by simp[Co.l]));have z2:=A4.m.prog.v.aG f (λb X=>A4.sep.ur (A4.m.prog.ro b (.inr (.inl (aX.2 X)))));have z3:=z1.cell 11;have z4:=z1.cell 1;refine⟨(q2.aG f (A4.sep.ur x2)).cell 0,(q3.aG f (A4.sep.ur x3)).cell 1,?_,?_,?_,?_⟩
  ·rw[<-xU,<-MX];exact z3
  ·rw[<-xU,<-kX];exact z4
  ·rw[kX]at z2;exact(Ce z2 W_).1
  ·rw[kX]at z2;exact(Ce z2 W_).2
 have Qg:(r.note (.var k (s.vars k))).stack=n::rest:=l_.o;have yP:=Fz (A4.drewN 1) Qg HL.o;rw[xU]at yP;have HP:Hid (Calls prog 210 #[Oi C.mb] (w4.drewN 1) λe w5=>e=Xc (Y n)/\(Xf w5 (I w.heap.size 0)=O (Oi C.mb)/\Xf w5 (I (w.heap.size+1) 1)=O (Y k)/\Xf w5 (I C.mb 11)=O (H (O (I FA 0)) p.vars.length KO)/\Xf w5 (I C.mb 1)=O (H (O (I gb 0)) p.vars.length mP)/\Xf w5 (I gb (k*3+1))=O (Y (p.vars.getD k ⟨0,0,0⟩).lo)/\Xf w5 (I gb (k*3+2))=O (Y (p.vars.getD k ⟨0,0,0⟩).hi))/\
  ((w5.setCell (I FA k) (Y (within n (p.vars.getD k ⟨0,0,0⟩).lo (p.vars.getD k ⟨0,0,0⟩).hi))).cell? (I w.heap.size 0)=O (Oi C.mb)/\(w5.setCell (I FA k) (Y (within n (p.vars.getD k ⟨0,0,0⟩).lo (p.vars.getD k ⟨0,0,0⟩).hi))).cell? (I (w.heap.size+1) 1)=O (Y k)/\(w5.setCell (I FA k) (Y (within n (p.vars.getD k ⟨0,0,0⟩).lo (p.vars.getD k ⟨0,0,0⟩).hi))).cell? (I C.mb 11)=O (H (O (I FA 0)) p.vars.length KO)/\(w5.setCell (I FA k) (Y (within n (p.vars.getD k ⟨0,0,0⟩).lo (p.vars.getD k ⟨0,0,0⟩).hi))).cell? (I C.mb 1)=O (H (O (I gb 0)) p.vars.length mP)/\(w5.setCell (I FA k) (Y (within n (p.vars.getD k ⟨0,0,0⟩).lo (p.vars.getD k ⟨0,0,0⟩).hi))).cell? (I gb (k*3+1))=O (Y (p.vars.getD k ⟨0,0,0⟩).lo)/\(w5.setCell (I FA k) (Y (within n (p.vars.getD k ⟨0,0,0⟩).lo (p.vars.getD k ⟨0,0,0⟩).hi))).cell? (I gb (k*3+2))=O (Y (p.vars.getD k ⟨0,0,0⟩).hi))/\Xf w5 (I FA k)=O (Y (s.vars k))/\(∀o,w5.frozen? (I FA o)=false)/\
  Hid (∃U5,U5.rb=U.rb/\dh w5 C4 U5 Qf K p c t used hv4 jv4 s (r.note (.var k (s.vars k))).pop/\Kept Qf w4 w5)):=by
  refine Z (yP.mono ?_);rintro e w5 ⟨rfl,U5,Qh,A5,f5⟩;have Hd:=gJ w5 (aC.trans ((aC.refl _ w4).drewN 1) f5);obtain⟨t1,t2,t3,t4,t5,t6⟩:=Hd;obtain⟨vb5,vc5,e5,j5,l5⟩:=A5.mx.Up W_;rw[MX]at e5;simp only[cL,Option.some.injEq,Addr.mk.injEq,and_true,true_and]at e5;obtain⟨rfl,rfl⟩:=e5;refine⟨rfl,⟨t1,t2,t3,t4,t5,t6⟩,⟨?_,?_,?_,?_,?_,?_⟩,j5,l5,Z ⟨U5,Qh.trans Dn,A5,Kept.du (aC.trans ((aC.refl _ w4).drewN 1) f5) (λb X=>A4.sep.ur X) A4.sep.dZ⟩⟩
  ·exact(iu (λe=>y2 e.symm)).trans t1
  ·exact(iu (λe=>y3 e.symm)).trans t2
  ·exact(iu (λe=>ym e.symm)).trans t3
  ·exact(iu (λe=>ym e.symm)).trans t4
  ·exact(iu (λe=>yg e.symm)).trans t5
  ·exact(iu (λe=>yg e.symm)).trans t6
 have Bc:=Z gJ;have h40:=gJ w4 (aC.refl _ _);have Qi:=Z MX;have Z0:=Z Er;have WZ:=Z Ow;have Y4:=Z xU;have aga:=Z Dn;clear gJ yP A4 Er q2 q3 Z2 Z1 kX zJ hvl Qg Ow c2 HC MX xU Dn x2 x3;generalize jE:(p.vars.getD k ⟨0,0,0⟩).lo=lo at*;generalize hhi:(p.vars.getD k ⟨0,0,0⟩).hi=hi at*;have zM:=Z jE;have HHI:=Z hhi;clear jE hhi;go_wp2
 go_region_held3 (λwx=>Xf wx (I w.heap.size 0)=O (Oi C.mb)/\Xf wx (I (w.heap.size+1) 1)=O (Y k)/\Xf wx (I C.mb 11)=O (H (O (I FA 0)) p.vars.length KO)/\Xf wx (I C.mb 1)=O (H (O (I gb 0)) p.vars.length mP)/\Xf wx (I gb (k*3+1))=O (Y lo)/\Xf wx (I gb (k*3+2))=O (Y hi)) (first|exact h40|assumption) (first|(go_at_call 210;refine HP.o.mono ?_;rintro e w5 ⟨rfl,Hd,hS6,j5,l5,HA5⟩)|(go_at_call 216;refine(zL _ _ _ _).mono ?_;rintro e w' ⟨rfl,rfl⟩))
 obtain⟨U5,Qh,A5,K5⟩:=HA5.o;have HK5:=Z K5;have HR5:=Z Qh;have HA:=Z A5;clear Hd hS6 j5 l5 h40 HP A5 K5 Qh;go_wp2;refine bR (ei rfl _ _ _) rfl ?_;obtain⟨k1,k2⟩:=HA.o.mx.vars Qi.o W_ (within n lo hi);have A6:=HA.o.q8 k1 k2;have hN:N i.a=k:=by unfold N;rw[HHK.o];rfl
 have hT:r.jx=n:=by unfold Rn.jx;rw[l_.o];rfl
 have e:CI p i (s,r)=({s with vars:=Vm.aS s.vars k (within n lo hi)},(r.note (.var k (s.vars k))).pop):=by unfold CI;rw[hN,<-hT,<-zM.o,<-HHI.o]
 rw[e];refine⟨rfl,Qf,λb X=>WZ.o b (by simp[X]),⟨C4,U5,hv4,jv4,Y4.o,HR5.o,A6⟩,?_⟩;exact((HKP.o.trans Z0.o (λb X=>by simp[X])).trans HK5.o (λb X=>WZ.o b (by simp[X]))).trans (HA.o.kept k1) (λb X=>WZ.o b (by simp[X]))
def dh.fresh(h:dh w C U RO K p c t used hv jv s r){b:Nat}(X:w.heap.size<=b):b∉C.l/\b∉U.l/\b∉RO:=
 ⟨λhc=>by have:=h.sep.lt b (by simp[hc]);omega,λhc=>by have:=h.sep.lt b (by simp[hc]);omega,λhc=>by have:=h.sep.dZ b hc;omega⟩
def dh.Dp(h:dh w C U RO K p c t used hv jv s r){b:Nat}(f:aC [b] w w')(X:b∉C.l/\b∉U.l/\b∉RO):dh w' C U RO K p c t used hv jv s r:=
 ⟨h.m.aG f (λx hx hc=>by simp at hc;subst hc;exact X.1 hx) (λx hx hc=>by simp at hc;subst hc;exact X.2.2 hx),h.r.aG f (λx hx hc=>by simp at hc;subst hc;exact X.2.1 hx) (λx hx hc=>by simp at hc;subst hc;exact X.2.2 hx),h.sep.grow f.size⟩
def Qj(e:eW)(tag:Nat)(h:tag<4):(aQ e)[1+tag]? =O (Y (e.tg tag)):=by
 obtain rfl|rfl|rfl|rfl:tag=0\/tag=1\/tag=2\/tag=3:=G
 all_goals rfl
def Uq(e:eW)(tag:Nat)(h:tag<4)(v m:Int):(aQ e).setIfInBounds (1+tag) (Y (within v 0 m))=aQ (oO e tag v m):=by
 obtain rfl|rfl|rfl|rfl:tag=0\/tag=1\/tag=2\/tag=3:=G
 all_goals rfl
def Mx.Ur(h:Mx w C RO K p c s t used rv){i:Nat}(hi:i<p.aW.length):∃b cap,K.t=H (O (I b 0)) p.aW.length cap/\b∈RO/\Xf w (I b i)=O (Y (p.aW.getD i 0)):=by obtain⟨b,cap,gz,qC,ow,X⟩:=h.m.prog.t.some G;have h3:=h.m.prog.t;rw[gz]at h3;exact⟨b,cap,gz,h.m.prog.ro b (.inr (.inr (.inl (aX.2 (by rw[gz];rfl))))),h3.cell (o:=i) G⟩
def Qk(h:dh w C U RO K p c t used hv jv s r){q n tag:Nat}(hq:q<p.ap.length)(hn:n∈s.a.ls q)(Ql:tag<p.aW.length)(ht4:p.aW.length<=4)(v:Int)(hj:r.bI.length<1000000):
 Calls prog 217 #[Oi C.mb,Y n,Y tag,Y v] w (cQ w C.mb U.rb RO K p c t used (.tuple #[]) (ry p (s,r) n tag v)):=by
 have h1:=h.box (Xe #[Oi C.mb] 35);have n2:=aH.new w 35 #[Oi C.mb];have m9:(w.alloc (Xe #[Oi C.mb] 35)).cell? (I C.mb 9)=O (Oi C.ab):=h1.mx.reads.1;have e2:(w.alloc (Xe #[Oi C.mb] 35)).cell? (I w.heap.size 0)=O (Oi C.mb):=n2.cell 0;have HG:=Z (eO.PJ h1.m.ar hq hn);have HB:=Z ((aZ w.heap.size w).alloc (aL _) (Xe #[Oi C.mb] 35));have dm:=Z h.sep.dZ;have H1:=Z h1;have N2:=Z n2;have HN:=Z hn;have HJ:=Z hj;have HE:=Z (show ry p (s,r) n tag v=(k_ s n (oO (s.a.val n) tag v (p.aW.getD tag 0)),r.note (.mark (s.a.val n)))from rfl);clear h h1 n2 hn hj;generalize hy:s.a.val n=y at*;have HY:=Z hy;clear hy;unfold bP at HG;go_enter func217,ntmps217;go_wp2_with fail;generalize w.alloc (Xe #[Oi C.mb] 35)=w1 at*;refine HG.o.mono ?_;rintro e w2 ⟨rfl,dR⟩;have h2:=H1.o.later dR;have f2:=aC.ai (S:=[]) dR;have q2:=N2.o.aG f2 az;have fr:=h2.fresh (aL _);have h4:=(h2.later (((aZ w2.heap.size w2).alloc (aL _) (Xe (aQ y) 118)).alloc az (Xe (aQ y) 118)));have zN:(w2.alloc (Xe (aQ y) 118)).heap.size=w2.heap.size+1:=by simp
 have h5:=h4.add (x:=w2.heap.size+1) az (h2.fresh (Nat.le_add_right _ _)).1 (h2.fresh (Nat.le_add_right _ _)).2.1;have b8:=(aH.new w2 118 (aQ y)).alloc (Xe (aQ y) 118);have b10:=aH.new (w2.alloc (Xe (aQ y) 118)) 118 (aQ y);rw[zN]at b10;have q2':=(q2.alloc (Xe (aQ y) 118)).alloc (Xe (aQ y) 118);have fR:=Z dR;have H5:=Z h5;have B8:=Z b8;have B10:=Z b10;have Q2:=Z q2';have FR:=Z fr;have HKA:=Z (Kept.ai (RO:=RO) (HB.o.trans (dR.mono HB.o.size)) dm.o);have Qm:=Z (Kept.ai (RO:=RO) (((aZ w2.heap.size w2).alloc (aL _) (Xe (aQ y) 118)).alloc az (Xe (aQ y) 118)) (λb X=>h2.sep.dZ b (by simp[X])));obtain⟨tb,xV,XO,kU,htc⟩:=h5.mx.Ur Ql;generalize p.aW.getD tag 0=mo at*;have c0:=q2'.c1;have c2:((w2.alloc (Xe (aQ y) 118)).alloc (Xe (aQ y) 118)).cell? (I C.mb 2)=O K.t:=h5.m.aT.cell 2;rw[XO]at c2;have c8:((w2.alloc (Xe (aQ y) 118)).alloc (Xe (aQ y) 118)).cell? (I w2.heap.size (1+tag))=O (Y (y.tg tag)):=(b8.cell _).trans (Qj y tag G);have f8:∀o,((w2.alloc (Xe (aQ y) 118)).alloc (Xe (aQ y) 118)).frozen? (I w2.heap.size o)=false:=b8.frozen;clear dR h2 f2 q2 fr h4 h5 b8 b10 q2' HG m9 XO zN kU;unfold aQ at c0 c2 c8 f8 htc H5 B8 B10 Q2 Qm;go_wp2_with fail;generalize(w2.alloc (Xe #[.int .u64 y.key,Y (y.tg 0),Y (y.tg 1),Y (y.tg 2),Y (y.tg 3)] 118)).alloc (Xe #[.int .u64 y.key,Y (y.tg 0),Y (y.tg 1),Y (y.tg 2),Y (y.tg 3)] 118)=w4 at*;generalize wm:w2.heap.size=b8 at*;generalize dR:w.heap.size=b2 at*;refine(zL _ _ _ _).mono ?_;rintro e w' ⟨rfl,rfl⟩;go_wp2_with fail;have F5:aC [b8] w4 (w4.setCell (I b8 (1+tag)) (Y (within v 0 mo))):=(aC.refl _ _).setCell az _;have h6:=H5.o.Dp F5 ⟨FR.o.1,FR.o.2.1,λhc=>by
  rcases List.mem_cons.1 hc with hc|hc
  ·omega
  ·exact FR.o.2.2 hc⟩
 have g8:=aH.set B8.o (1+tag) (Y (within v 0 mo));rw[show(#[.int .u64 y.key,Y (y.tg 0),Y (y.tg 1),Y (y.tg 2),Y (y.tg 3)]:Array to).setIfInBounds (1+tag) (Y (within v 0 mo))=aQ (oO y tag v mo)from Uq y tag G v mo]at g8;have h28:b2≠b8:=λe=>FR.o.2.2 (by simp[e]);have g10:=B10.o.aG F5 az;have g2:=Q2.o.aG F5 (by simp;exact h28);have Dq:=Z (Kept.du (RO:=RO) F5 (λb X hc=>by simp at hc;subst hc;exact FR.o.2.2 (by simp[X])) (λb X=>H5.o.sep.dZ b (by simp[X])));have H6:=Z h6;have G10:=Z g10;have G2:=Z g2;have G8:=Z g8;clear h6 g10 g2 g8 F5 c0 c2 c8 f8 htc B8 B10 Q2;generalize w4.setCell (I b8 (1+tag)) (Y (within v 0 mo))=w5 at*;generalize hz:oO y tag v mo=z at*;have G8':=G8.o;unfold aQ at G8';obtain⟨i0,i1,i2,i3,i4,-⟩:=kV G8';have d2:=G2.o.c1;have d9:Xf w5 (I C.mb 9)=O (Oi C.ab):=H6.o.mx.reads.1;have FE:=Z (eO.XA (H6.o.m.ar.drewN 1) hq HN.o z);have HZ:=Z hz;clear G8' G8 hz;unfold bP at FE
 go_still_tail 6,bj
 change wpList _ _ _ _ _ (w5.drewN 1);have H7:=Z (H6.o.drewN 1);have Y3:=Z (G10.o.drewN 1);have G2':=Z (G2.o.drewN 1);have HK5:=Z (Kept.ai (RO:=RO) (aA w5.heap.size w5 1) (λb X=>H6.o.sep.dZ b (by simp[X])));have Ox:=Z (((HKA.o.trans Qm.o (λb X=>X)).trans Dq.o (λb X=>X)).trans HK5.o (λb X=>X));clear HK5 HKA Qm Dq i0 i1 i2 i3 i4 d2 d9 G10 G2 H6;generalize w5.drewN 1=w6 at*;go_wp2_with fail;refine FE.o.mono ?_;rintro e w7 ⟨rfl,f7,a7⟩;obtain⟨k1,k2⟩:=H7.o.mx.set f7 a7;have h8:=H7.o.q8 k1 k2;have x2:b2∈(b8+1)::b2::RO:=by simp
 have Mj:b8+1∈(b8+1)::b2::RO:=by simp
 have p2:=G2'.o.aG k1.f (H7.o.sep.cr x2);have p10:=Y3.o.aG k1.f (H7.o.sep.cr Mj);have hu:iD w7 C.mb ((b8+1)::b2::RO) (.func (.func 269) #[] #[Oi b2,Oi (b8+1)]) (.mark y):=⟨_,_,rfl,p2,p10,x2,Mj⟩;have HC:=Z (zK h8 hu HJ.o);have XP:=Z (Ox.o.trans (RO':=RO) ((H7.o.kept k1).less (λb X=>by simp[X])) (λb X=>X));have j2:=p2.c1;clear k1 k2 h8 hu p2 p10 x2 Mj f7 a7 FE;go_wp2_with fail;refine HC.o.mono ?_;intro e w8 hd;have uq:=hd.pre (RO:=RO) XP.o (λb X=>by simp[X]);obtain⟨rfl,nJ⟩:=uq;go_wp2;exact bR (ei rfl _ _ _) rfl ⟨rfl,by rw[HE.o];exact nJ⟩
def Y2(w:ek)(C:Co)(U:Ru)(RO:List Nat)(K:Kc)(p:aU)(c:Cp)(t:fG)(used:Int)(hv:to)(s:St)(r:Rn)(e:Ending)(w':ek):Prop:=
 e=Xc (.tuple #[])/\∃U' lM,U'.rb=U.rb/\dh w' C U' RO K p c t used hv lM s r/\aC U.l w w'/\∀b,b∈U'.l->b∈U.l\/w.heap.size<=b
def zO(h:dh w C U RO K p c t used hv jv s r){u:vM}{v:to}(hu:iD w C.mb RO v u)(hl:r.bI.length<1000000):
 Calls prog 214 #[Oi C.mb,v] w (Y2 w C U RO K p c t used hv s (r.note u)):=by
 obtain⟨i0,hi,je,mU,sT⟩:=rN Cc;have rU:=wj h.m.aT;have r2:Xf w (I U.rb 7)=O U.kR:=h.r.dY.cell 7;have lm:=h.m.aT.lt;have lr:=h.r.dY.lt;have HD:=Z (h.drewN 1);have C3:=Z (show r.bI.length+1<=maxLen by unfold maxLen;omega);have C4:=Z (show(r.bI.length+1)*8<=140737488355328 by omega);obtain⟨fn,ii,rfl⟩:=hu.form;have HU:=Z hu;have a0g:=Z h;clear h hu;go_enter func214,ntmps214;go_wp2
 go_region_law ((refine BZ _ rfl (.tmp 14) (.tmp 16) 124 rfl 0 1 i0 .nilFunc 1 8 underlying124 hi je mU sT rfl bz U.kR _ _ (by simp[Act.eval,Act.put]) (HD.o.r.kR.alloc _) (I w.heap.size 0) 1 1 [.func fn #[] ii] (by simp[Act.eval,Act.put]) rfl (jf.ji _ [.func fn #[] ii] _ _ az) (by simp[Value.oneCell']) bz C3.o C4.o az _ rfl ?_;intro g cap w4 gT gX rP BV;obtain⟨AO,AP⟩:=P7 (w:=w) (n:=r.bI.length+1) (cap:=cap) ((aA w.heap.size w 1).alloc (aL _) _) gX rP rfl;obtain⟨c2,f2,c60⟩:=a0g.o.Cd AO;have HO:=Z gT;have HF:=Z AO;have HS:=Z AP;clear gT gX rP BV AO AP))
 all_goals
  go_wp2;refine bR (ei rfl _ _ _) rfl ?_;have bC:=pY (f':=λi=>if i<r.bI.length then jv i else .func fn #[] ii) HO.o (λi hi=>aE hi) (ax G);have F:aC (U.rb::vb U.kR) w (w4.setCell (I U.rb 7) (H (O (I g 0)) (r.bI.length+1) cap)):=(HF.o.mono (by intro k hk;simp[hk])).setCell az _;have qU:∀b,b∈RO->b∉U.rb::vb U.kR:=λb X=>by have:=a0g.o.sep.ur X;simp[Ru.l]at this ⊢;simp[this]
  have A:=a0g.o.kR HF.o (l:=u::r.bI) bC HS.o (RO':=RO) (λi u' MT=>by
   rw[List.reverse_cons]at MT;by_cases hi:i<r.bI.length
   ·exact RN
   ·have xS:i=r.bI.length:=by have:=(List.getElem?_eq_some_iff.1 MT).1;simp at this;omega
    subst xS;rw[uP az]at MT;simp at MT;subst MT;rw[ax G];exact HU.o.aG F qU) (λb X=>X) (λb X=> .inl X)
  refine⟨rfl,{U with kR:=H (O (I g 0)) (r.bI.length+1) cap},_,rfl,A,F.mono (by intro k hk;simp at hk;rcases hk with rfl|hk;simp[Ru.l];simp[Ru.l,hk]),λb X=>?_⟩;simp only[Ru.l,ep,fE]at X ⊢;rcases X with X|((X|X)|X)|X
  ·exact .inl (.inl X)
  ·exact .inl (.inr (.inl (.inl (.inl X))))
  ·exact .inl (.inr (.inl (.inl (.inr X))))
  ·exact .inl (.inr (.inl (.inr X)))
  ·rcases HS.o b X with X|X
   ·exact .inl (.inr (.inr X))
   ·exact .inr X
structure jB(K:Kc)(p:aU)(c:Cp)(s:St):Prop where
 inv:Inv (aB p c) s
 ii:pn p c
 nd:K.nd=dE (aB p c)
 FJ:K.nd<=4194304
 g16:p.ap.length<=16
 t4:p.aW.length<=4
def jB.total{K:Kc}{p:aU}{c:Cp}{s:St}(h:jB K p c s): -1073741824<=s.total/\s.total<=1073741824:=by have:=Pj h.inv h.ii;omega
def jB.room{K:Kc}{p:aU}{c:Cp}{s:St}(h:jB K p c s){q:Nat}(hq:q<p.ap.length)(hl:(s.a.ls q).length<(aB p c).cq q)(ht:(aB p c).gh q=true\/s.total<(aB p c).sz):fN p s.a<K.nd:=by rw[h.nd];exact TI h.inv hq hl ht
def Mx.cap(h:Mx w C RO K p c s t used rv){q:Nat}(hq:q<c.aF.length):∃b cap,K.qs=H (O (I b 0)) c.aF.length cap/\b∈RO/\Xf w (I b q)=O (Y (c.aF.getD q 0)):=by obtain⟨b,cap,gz,qC,ow,X⟩:=h.m.prog.qs.some G;have h3:=h.m.prog.qs;rw[gz]at h3;exact⟨b,cap,gz,h.m.prog.ro b (.inr (.inr (.inr (.inr (.inr (aX.2 (by rw[gz];rfl))))))),h3.cell (o:=q) G⟩
def dX(w:ek)(C:Co)(q d:Nat)(x:eW):ek:=
 (((w.alloc (Xe #[Oi C.mb] 35)).alloc (Xe #[Y q] 3)).alloc (Xe #[Y d] 3)).alloc (Xe (aQ x) 118)
def dh.Dr(h:dh w C U RO K p c t used hv jv s r)(q d:Nat)(x:eW):dh (dX w C q d x) C U ((w.heap.size+3)::(w.heap.size+2)::(w.heap.size+1)::w.heap.size::RO) K p c t used hv jv s r/\
 aH (dX w C q d x) w.heap.size 35 #[Oi C.mb]/\aH (dX w C q d x) (w.heap.size+1) 3 #[Y q]/\aH (dX w C q d x) (w.heap.size+2) 3 #[Y d]/\aH (dX w C q d x) (w.heap.size+3) 118 (aQ x)/\
 Below w.heap.size w (dX w C q d x):=by
 unfold dX;have h1:=h.box (Xe #[Oi C.mb] 35);have h2:=h1.box (Xe #[Y q] 3);have h3:=h2.box (Xe #[Y d] 3);have h4:=h3.box (Xe (aQ x) 118);have s1:(w.alloc (Xe #[Oi C.mb] 35)).heap.size=w.heap.size+1:=by simp
 have s2:((w.alloc (Xe #[Oi C.mb] 35)).alloc (Xe #[Y q] 3)).heap.size=w.heap.size+2:=by simp
 have s3:(((w.alloc (Xe #[Oi C.mb] 35)).alloc (Xe #[Y q] 3)).alloc (Xe #[Y d] 3)).heap.size=w.heap.size+3:=by simp
 have n1:=aH.new w 35 #[Oi C.mb];have n2:=aH.new (w.alloc (Xe #[Oi C.mb] 35)) 3 #[Y q];have n3:=aH.new ((w.alloc (Xe #[Oi C.mb] 35)).alloc (Xe #[Y q] 3)) 3 #[Y d];have n4:=aH.new (((w.alloc (Xe #[Oi C.mb] 35)).alloc (Xe #[Y q] 3)).alloc (Xe #[Y d] 3)) 118 (aQ x);rw[s1]at h2 h3 h4 n2;rw[s2]at h3 h4 n3;rw[s3]at h4 n4;exact⟨h4,((n1.alloc _).alloc _).alloc _,(n2.alloc _).alloc _,n3.alloc _,n4,((((aZ _ w).alloc (aL _) _).alloc az _).alloc kZ _).alloc kZ _⟩
structure qV(w0 wr:ek)(b:Nat)(T e:TypeId)(size k:Nat)(a0e:Nat->to)(av:to):Prop where
 dY:aH wr b T #[av]
 row:Row wr e size av k a0e
 own:∀x,av.ownBlock=O x->w0.heap.size<=x
 f:aC [b] w0 wr
def qV.start{w0:ek}{b:Nat}{T e:TypeId}{size:Nat}{a0e:Nat->to}(h:aH w0 b T #[Xd]):qV w0 w0 b T e size 0 a0e Xd:=
 ⟨h,Row.nil _ _ _ _,λx hx=>by simp[Value.ownBlock]at hx,aC.refl _ _⟩
def qV.later{w0 wr w1:ek}{b:Nat}{T e:TypeId}{size k:Nat}{a0e:Nat->to}{av:to}(h:qV w0 wr b T e size k a0e av)(B:Below wr.heap.size wr w1):qV w0 w1 b T e size k a0e av:=
 ⟨h.dY.aG (aC.ai (S:=[]) B) az,h.row.aG (aC.ai (S:=[]) B) az,h.own,h.f.trans (aC.ai B)⟩
def qV.mid{w0 wr w1 w4:ek}{b:Nat}{T e:TypeId}{size k:Nat}{a0e:Nat->to}{av:to}(h:qV w0 wr b T e size k a0e av)(X:b<w0.heap.size)(B:Below wr.heap.size wr w1)(hg:w1.grownBy w4 av.ownBlock):aH w4 b T #[av]/\aC [b] w0 w4:=by
 have h1:=h.later B;have bt:∀x,av.ownBlock=O x->x≠b:=λx hx e=>by have:=h.own x hx;omega
 refine⟨h1.dY.grown hg (λe=>bt b e.symm rfl),⟨hg.os.trans h1.f.os,hg.tape.trans h1.f.tape,hg.output.trans h1.f.output,bS h1.f.size hg.size,λi hi hs=>?_⟩⟩;rw[<-h1.f.block i hi hs];exact hg.block i (dC hi h1.f.size) (λe=>by have:=h.own i e.symm;omega)
def qV.step{w0 wr w1 w4:ek}{b:Nat}{T e:TypeId}{size k m:Nat}{a0e:Nat->to}{av:to}(h:qV w0 wr b T e size k a0e av)(X:b<w0.heap.size)(B:Below wr.heap.size wr w1)(hg:w1.grownBy w4 av.ownBlock)
 {g cap:Nat} {news:List to} (gT:w4.ownsRow 0 e size (H (O (I g 0)) (k+m) cap) (k+m) (fw (k*size) a0e++news)) (rP:av.ownBlock=O g\/g=w1.heap.size) (rT:news=(List.range (m*size)).map λi=>a0e (k*size+i)):
 qV w0 (w4.setCell (I b 0) (H (O (I g 0)) (k+m) cap)) b T e size (k+m) a0e (H (O (I g 0)) (k+m) cap):=by
 obtain⟨h1,h2⟩:=h.mid X B hg;have E8:w0.heap.size<=g:=by
  rcases rP with rP|rP
  ·exact h.own g rP
  ·have:=B.size;have:=h.f.size;omega
 refine⟨?_,?_,λx hx=>?_,h2.setCell az _⟩
 ·exact h1.set 0 _
 ·have h3:Row w4 e size (H (O (I g 0)) (k+m) cap) (k+m) a0e:=by unfold Row;rw[Nat.add_mul,sC,<-rT];exact gT
  exact h3.other (λe=>by simp[Value.ownBlock]at e;omega) _ _
 ·simp[Value.ownBlock]at hx;omega
def Dt{P:Program}{f:FuncId}{args:Array to}{w:ek}{v:to}{n:Nat}(h:Calls P f args (w.drewN n) λe w'=>e=Xc v/\w.drewN n=w'):Calls P f args (w.drewN n) λe w'=>e=Xc v/\∃m,w'=w.drewN m:=
 h.mono λ_ _ ⟨h1,h2⟩=>⟨h1,n,h2.symm⟩
def RV{p:Prop}(h:p:=by
 unfold dX aQ at*;unfold bP;generalize(s.a.ls q).length=ln at*;generalize c.aF.getD q 0=cqv at*;generalize p.ap.getD q false=gqv at*;go_enter func218,ntmps218;go_wp2_with fail;generalize(((w.alloc (Xe #[Oi C.mb] 35)).alloc (Xe #[Y q] 3)).alloc (Xe #[Y d] 3)).alloc (Xe #[.int .u64 x.key,Y (x.tg 0),Y (x.tg 1),Y (x.tg 2),Y (x.tg 3)] 118)=w4 at*;generalize gP:w.heap.size=bx at*;go_quiet ((go_at_call 204;exact Dt (uX.o _)));have HK:=Z ((Kept.ai (RO:=RO) (by rw[gP];exact iw.o) (by rw[gP];exact dm.o)).trans (Kept.ai (aA w4.heap.size w4 nq) (λb X=>H4.o.sep.dZ b (by simp[X]))) (λb X=>X));have H5:=Z (H4.o.drewN nq);have rU:(w4.drewN nq).cell? (I C.mb 60)=O (Oi U.rb):=H5.o.m.aT.cell 60;have r6:(w4.drewN nq).cell? (I U.rb 6)=O (Y r.bG):=H5.o.r.dY.cell 6;have rf:∀o,(w4.drewN nq).frozen? (I U.rb o)=false:=H5.o.r.dY.frozen;have i1:(w4.drewN nq).cell? (I bx 0)=O (Oi C.mb):=e1;have pZ:=Z (Kept.du (RO:=RO) (S:=U.l) ((aC.refl _ (w4.drewN nq)).setCell (p:=(I U.rb 6)) (by simp[Ru.l]) (Y 1)) (λb X=>H5.o.sep.ur (by simp[X])) (λb X=>H5.o.sep.dZ b (by simp[X])));clear e1 e2 e3 e40 e41 e42 e43 e44 m9 m12 m0 m7 m6 AQ Et;generalize w4.drewN nq=w5 at*;go_wp2;go_ret;exact⟨rfl,_,λb X=>by simp[X],(H5.o.kT 6 (Y 1) (r':=r.gE 1) rfl rfl rfl rfl rfl rfl H5.o.r.iE).jJ,HK.o.trans pZ.o (λb X=>X)⟩):p:=h
def M0(h:dh w C U RO K p c t used hv jv s r)(E:jB K p c s){q d:Nat}(hq:q<p.ap.length)(he:d<=1)(x:eW)(FQ:((s.a.ls q).length:Int)=c.aF.getD q 0):
 Calls prog 218 #[Oi C.mb,Y q,Y d,bP x] w (cQ w C.mb U.rb RO K p c t used (.bool false) (s,r.gE 1)):=by
 obtain⟨h4,n1,n2,n3,n4,B4⟩:=h.Dr q d x;have uX:=Z (λk=>eO.zn (h4.m.ar.drewN k) hq);obtain⟨m9,-,m12,m0,-⟩:=h4.mx.reads;obtain⟨gb,mP,kX,zJ,AQ⟩:=h4.mx.ap hq;have og:q<c.aF.length:=by rw[E.ii.len];exact hq
 obtain⟨cb,Du,He,Ta,Et⟩:=h4.mx.cap og;have m7:(dX w C q d x).cell? (I C.mb 7)=O K.qs:=h4.m.aT.cell 7;have m6:(dX w C q d x).cell? (I C.mb 6)=O (Y c.size):=h4.m.aT.cell 6;have e1:=n1.c1;have e2:=n2.c1;have e3:=n3.c1;have Dv:=n4;unfold aQ at Dv;rw[show w.heap.size+3=w.heap.size+1+1+1 from rfl]at h4 n4 Dv;rw[show w.heap.size+2=w.heap.size+1+1 from rfl]at h4 n3;obtain⟨e40,e41,e42,e43,e44,-⟩:=kV Dv;rw[kX]at m0;rw[He]at m7;have g1:(((s.a.ls q).length:Int)==c.aF.getD q 0)=true:=by simpa using FQ
 have dm:=Z h.sep.dZ;have iw:=Z B4;have H4:=Z h4;have N1:=Z n1;have N2:=Z n2;have N3:=Z n3;have N4:=Z n4;have HE:=Z E;clear h h4 n1 n2 n3 n4 Dv B4 E kX He zJ Ta FQ;exact RV
def M6(h:dh w C U RO K p c t used hv jv s r)(E:jB K p c s){q d:Nat}(hq:q<p.ap.length)(he:d<=1)(x:eW)(bt:((s.a.ls q).length:Int)≠c.aF.getD q 0)(hg:p.ap.getD q false=false)(ht:s.total=c.size):
 Calls prog 218 #[Oi C.mb,Y q,Y d,bP x] w (cQ w C.mb U.rb RO K p c t used (.bool false) (s,r.gE 1)):=by
 obtain⟨h4,n1,n2,n3,n4,B4⟩:=h.Dr q d x;have uX:=Z (λk=>eO.zn (h4.m.ar.drewN k) hq);obtain⟨m9,-,m12,m0,-⟩:=h4.mx.reads;obtain⟨gb,mP,kX,zJ,AQ⟩:=h4.mx.ap hq;have og:q<c.aF.length:=by rw[E.ii.len];exact hq
 obtain⟨cb,Du,He,Ta,Et⟩:=h4.mx.cap og;have m7:(dX w C q d x).cell? (I C.mb 7)=O K.qs:=h4.m.aT.cell 7;have m6:(dX w C q d x).cell? (I C.mb 6)=O (Y c.size):=h4.m.aT.cell 6;have e1:=n1.c1;have e2:=n2.c1;have e3:=n3.c1;have Dv:=n4;unfold aQ at Dv;rw[show w.heap.size+3=w.heap.size+1+1+1 from rfl]at h4 n4 Dv;rw[show w.heap.size+2=w.heap.size+1+1 from rfl]at h4 n3;obtain⟨e40,e41,e42,e43,e44,-⟩:=kV Dv;rw[kX]at m0;rw[He]at m7;have g1:(((s.a.ls q).length:Int)==c.aF.getD q 0)=false:=by simpa using bt
 have g2:(s.total==c.size)=true:=by simpa using ht
 rw[hg]at AQ;have dm:=Z h.sep.dZ;have iw:=Z B4;have H4:=Z h4;have N1:=Z n1;have N2:=Z n2;have N3:=Z n3;have N4:=Z n4;have HE:=Z E;clear h h4 n1 n2 n3 n4 Dv B4 E kX He zJ Ta bt hg ht;exact RV
def GO{p:Prop}(h:p:=by
 unfold dX aQ at*;unfold bP;generalize(s.a.ls q).length=ln at*;generalize c.aF.getD q 0=cqv at*;generalize p.ap.getD q false=gqv at*;go_enter func218,ntmps218;go_wp2_with fail;generalize(((w.alloc (Xe #[Oi C.mb] 35)).alloc (Xe #[Y q] 3)).alloc (Xe #[Y d] 3)).alloc (Xe #[.int .u64 x.key,Y (x.tg 0),Y (x.tg 1),Y (x.tg 2),Y (x.tg 3)] 118)=w4 at*;generalize gP:w.heap.size=bx at*;go_quiet ((go_at_call 204;exact Dt (uX.o _)));have HK:=Z ((Kept.ai (RO:=RO) (by rw[gP];exact iw.o) (by rw[gP];exact dm.o)).trans (Kept.ai (aA w4.heap.size w4 nq) (λb X=>H4.o.sep.dZ b (by simp[X]))) (λb X=>X));have H5:=Z (H4.o.drewN nq);have i1:(w4.drewN nq).cell? (I bx 0)=O (Oi C.mb):=e1;have i2:(w4.drewN nq).cell? (I (bx+1) 0)=O (Y q):=e2;have i3:(w4.drewN nq).cell? (I (bx+1+1) 0)=O (Y d):=e3;have i40:(w4.drewN nq).cell? (I (bx+1+1+1) 0)=O (.int .u64 x.key):=e40;have i41:(w4.drewN nq).cell? (I (bx+1+1+1) 1)=O (Y (x.tg 0)):=e41;have i42:(w4.drewN nq).cell? (I (bx+1+1+1) 2)=O (Y (x.tg 1)):=e42;have i43:(w4.drewN nq).cell? (I (bx+1+1+1) 3)=O (Y (x.tg 2)):=e43;have i44:(w4.drewN nq).cell? (I (bx+1+1+1) 4)=O (Y (x.tg 3)):=e44;have uZ:=HE.o.g16;have HP:=Z (Qa H5.o.mx HE.o.FJ G hq he x HX.o XQ.o HE.o.total);have M1:=Z (N1.o.drewN nq);have M2:=Z (N2.o.drewN nq);have M3:=Z (N3.o.drewN nq);unfold bP at HP;clear e1 e2 e3 e40 e41 e42 e43 e44 m9 m12 m0 m7 m6 AQ Et N1 N2 N3 N4 uZ;generalize w4.drewN nq=w5 at*;go_wp2_with fail;refine HP.o.mono ?_;rintro e w6 ⟨rfl,C6,k1,k2⟩;have h6:=H5.o.q8 k1 k2;have x1:bx∈(bx+1+1+1)::(bx+1+1)::(bx+1)::bx::RO:=by simp
 have x2:bx+1∈(bx+1+1+1)::(bx+1+1)::(bx+1)::bx::RO:=by simp
 have x3:bx+1+1∈(bx+1+1+1)::(bx+1+1)::(bx+1)::bx::RO:=by simp
 have p1:=M1.o.aG k1.f (H5.o.sep.cr x1);have p2:=M2.o.aG k1.f (H5.o.sep.cr x2);have p3:=M3.o.aG k1.f (H5.o.sep.cr x3);have mO:=k1.mb;have hu:iD w6 C6.mb ((bx+1+1+1)::(bx+1+1)::(bx+1)::bx::RO) (.func (.func 271) #[] #[Oi bx,Oi (bx+1),Oi (bx+1+1)]) (.cut q d):=by rw[mO];exact⟨_,_,_,rfl,p1,p2,p3,x1,x2,x3⟩
 have hc:=zK h6 hu HJ.o;rw[mO]at hc;have HC:=Z hc;have XP:=Z (HK.o.trans (RO':=RO) ((H5.o.kept k1).less (λb X=>by simp[X])) (λb X=>X));have j1:=p1.c1;clear k1 k2 h6 hu p1 p2 p3 x1 x2 x3 HP mO hc i1 i2 i3 i40 i41 i42 i43 i44;go_wp2_with fail;refine HC.o.mono ?_;intro e w8 hd;have uq:=hd.pre (RO:=RO) XP.o (λb X=>by simp[X]);obtain⟨rfl,RO',ho,fi,hk⟩:=uq;have mY:=Z fi;have Bb:=Z hk;have HO:=Z ho;clear hd fi hk ho HC;go_wp2;go_ret;exact⟨rfl,RO',HO.o,mY.o,Bb.o⟩):p:=h
def Us(h:dh w C U RO K p c t used hv jv s r)(E:jB K p c s){q d:Nat}(hq:q<p.ap.length)(he:d<=1)(x:eW)(bt:((s.a.ls q).length:Int)≠c.aF.getD q 0)(hg:p.ap.getD q false=true)(hx:s.f x.key=Xb)(n_:fN p s.a<K.nd)(hj:r.bI.length<1000000):
 Calls prog 218 #[Oi C.mb,Y q,Y d,bP x] w (cQ w C.mb U.rb RO K p c t used (.bool true) (jW (aB p c) s q d x,r.note (.cut q d))):=by
 obtain⟨h4,n1,n2,n3,n4,B4⟩:=h.Dr q d x;have uX:=Z (λk=>eO.zn (h4.m.ar.drewN k) hq);obtain⟨m9,-,m12,m0,-⟩:=h4.mx.reads;obtain⟨gb,mP,kX,zJ,AQ⟩:=h4.mx.ap hq;have og:q<c.aF.length:=by rw[E.ii.len];exact hq
 obtain⟨cb,Du,He,Ta,Et⟩:=h4.mx.cap og;have m7:(dX w C q d x).cell? (I C.mb 7)=O K.qs:=h4.m.aT.cell 7;have m6:(dX w C q d x).cell? (I C.mb 6)=O (Y c.size):=h4.m.aT.cell 6;have e1:=n1.c1;have e2:=n2.c1;have e3:=n3.c1;have Dv:=n4;unfold aQ at Dv;rw[show w.heap.size+3=w.heap.size+1+1+1 from rfl]at h4 n4 Dv;rw[show w.heap.size+2=w.heap.size+1+1 from rfl]at h4 n3;obtain⟨e40,e41,e42,e43,e44,-⟩:=kV Dv;rw[kX]at m0;rw[He]at m7;have g1:(((s.a.ls q).length:Int)==c.aF.getD q 0)=false:=by simpa using bt
 rw[hg]at AQ;have dm:=Z h.sep.dZ;have iw:=Z B4;have H4:=Z h4;have N1:=Z n1;have N2:=Z n2;have N3:=Z n3;have N4:=Z n4;have HE:=Z E;have HX:=Z hx;have XQ:=Z n_;have HJ:=Z hj;clear h h4 n1 n2 n3 n4 Dv B4 E kX He zJ Ta bt hg hx n_ hj;exact GO
def Ut(h:dh w C U RO K p c t used hv jv s r)(E:jB K p c s){q d:Nat}(hq:q<p.ap.length)(he:d<=1)(x:eW)(bt:((s.a.ls q).length:Int)≠c.aF.getD q 0)(hg:p.ap.getD q false=false)(ht:s.total≠c.size)(hx:s.f x.key=Xb)(n_:fN p s.a<K.nd)(hj:r.bI.length<1000000):
 Calls prog 218 #[Oi C.mb,Y q,Y d,bP x] w (cQ w C.mb U.rb RO K p c t used (.bool true) (jW (aB p c) s q d x,r.note (.cut q d))):=by
 obtain⟨h4,n1,n2,n3,n4,B4⟩:=h.Dr q d x;have uX:=Z (λk=>eO.zn (h4.m.ar.drewN k) hq);obtain⟨m9,-,m12,m0,-⟩:=h4.mx.reads;obtain⟨gb,mP,kX,zJ,AQ⟩:=h4.mx.ap hq;have og:q<c.aF.length:=by rw[E.ii.len];exact hq
 obtain⟨cb,Du,He,Ta,Et⟩:=h4.mx.cap og;have m7:(dX w C q d x).cell? (I C.mb 7)=O K.qs:=h4.m.aT.cell 7;have m6:(dX w C q d x).cell? (I C.mb 6)=O (Y c.size):=h4.m.aT.cell 6;have e1:=n1.c1;have e2:=n2.c1;have e3:=n3.c1;have Dv:=n4;unfold aQ at Dv;rw[show w.heap.size+3=w.heap.size+1+1+1 from rfl]at h4 n4 Dv;rw[show w.heap.size+2=w.heap.size+1+1 from rfl]at h4 n3;obtain⟨e40,e41,e42,e43,e44,-⟩:=kV Dv;rw[kX]at m0;rw[He]at m7;have g1:(((s.a.ls q).length:Int)==c.aF.getD q 0)=false:=by simpa using bt
 have g2:(s.total==c.size)=false:=by simpa using ht
 rw[hg]at AQ;have dm:=Z h.sep.dZ;have iw:=Z B4;have H4:=Z h4;have N1:=Z n1;have N2:=Z n2;have N3:=Z n3;have N4:=Z n4;have HE:=Z E;have HX:=Z hx;have XQ:=Z n_;have HJ:=Z hj;clear h h4 n1 n2 n3 n4 Dv B4 E kX He zJ Ta bt hg ht hx n_ hj;exact GO
def cN{b:Nat}{i:Ins}(h:aH w b 40 (aK i)):Xf w (I b 0)=O (Y i.op)/\Xf w (I b 1)=O (Y i.a)/\Xf w (I b 2)=O (Y i.b)/\Xf w (I b 3)=O (Y i.c)/\Xf w (I b 4)=O (Y i.d):=
 ⟨h.cell 0,h.cell 1,h.cell 2,h.cell 3,h.cell 4⟩
def Um{p:Prop}(h:p:=by
 go_wp2_with fail;refine HM.o.mono ?_;intro e w5 hd;have uq:=hd.pre (RO:=RO) K2.o (λb X=>by simp[X]);rw[Em.o]at uq;obtain⟨rfl,nJ⟩:=uq;go_wp2;exact bR (ei rfl _ _ _) rfl ⟨rfl,nJ⟩):p:=h
def I4(h:dh w C U RO K p c t used hv jv s r)(i:Ins){k n q:Nat}(hk:i.a=k)(hf:s.f r.key=O n)(hq:q<p.ap.length)(hn:n∈s.a.ls q)(Ql:k<p.aW.length)(ht4:p.aW.length<=4)(hj:r.bI.length<1000000){v:Int}{rest:List Int}(fY:r.stack=v::rest)(hl:rest.length<1000000):
 Calls prog 119 #[Oi C.mb,a_ i] w (cQ w C.mb U.rb RO K p c t used (.tuple #[]) (ry p (s,r.pop) n k v)):=by
 have h1:=h.box (Xe (aK i) 40);have n1:=aH.new w 40 (aK i);have HP:=Z (Fz h1 fY hl);have oD:=Z (Kept.ai (RO:=RO) ((aZ w.heap.size w).alloc (aL _) (Xe (aK i) 40)) h.sep.dZ);have I5:=Z (λb (X:b∈w.heap.size::RO)=>h1.sep.ur X);have dm:=Z h1.sep.dZ;have N1:=Z n1;have Xhf:=Z hf;have Xhn:=Z hn;have Xhk:=Z hk;have Xhj:=Z hj;clear h h1 n1 fY hf hn hk hj;unfold a_;unfold aK at*;go_enter func119,ntmps119;go_wp2_with fail;refine HP.o.mono ?_;rintro e w2 ⟨rfl,U1,Bd,A1,f1⟩;have K1:=Z (oD.o.trans (Kept.du f1 I5.o dm.o) (λb X=>by simp[X]));have n2:=N1.o.aG f1 (I5.o _ az);obtain⟨c0,c1,c2,c3,c4⟩:=cN (i:=i) n2;have Em:=Z Bd;have Ev:=Z A1;clear HP oD A1 f1 Bd n2 N1 I5;generalize gP:w.heap.size=bx at*;rw[Xhk.o]at c1;have HN:=Z (zR Ev.o (show s.f r.pop.key=_ from Xhf.o) hq Xhn.o);go_wp2_with fail;refine HN.o.mono ?_;rintro e w3 ⟨rfl,m,rfl⟩;have HM:=Z (Qk (Ev.o.drewN m) hq Xhn.o Ql ht4 v Xhj.o);have K2:=Z (K1.o.trans (Kept.ai (RO:=RO) (aA w2.heap.size w2 m) (λb X=>Ev.o.sep.dZ b (by simp[X]))) (λb X=>X));have g1:(w2.drewN m).cell? _=_:=c1;clear HN c0 c1 c2 c3 c4 K1;generalize w2.drewN m=w4 at*;exact Um
def UN{p:Prop}(h:p:=by
 go_wp2_with fail;refine HN.o.mono ?_;intro e w3 hd;have uq:=hd.pre (RO:=RO) K1.o (λb X=>by simp[X]);rw[Em.o]at uq;obtain⟨rfl,nJ⟩:=uq;clear HN c0 c1 c2 c3 c4 K1;go_wp2;exact bR (ei rfl _ _ _) rfl ⟨rfl,nJ⟩):p:=h
def I6(h:dh w C U RO K p c t used hv jv s r)(i:Ins)(hf:s.f r.key=Xb){v:Int}{rest:List Int}(fY:r.stack=v::rest)(hl:rest.length<1000000):
 Calls prog 119 #[Oi C.mb,a_ i] w (cQ w C.mb U.rb RO K p c t used (.tuple #[]) ((s,r.pop.gE 3))):=by
 have h1:=h.box (Xe (aK i) 40);have n1:=aH.new w 40 (aK i);have HP:=Z (Fz h1 fY hl);have oD:=Z (Kept.ai (RO:=RO) ((aZ w.heap.size w).alloc (aL _) (Xe (aK i) 40)) h.sep.dZ);have I5:=Z (λb (X:b∈w.heap.size::RO)=>h1.sep.ur X);have dm:=Z h1.sep.dZ;have N1:=Z n1;have Xhf:=Z hf;clear h h1 n1 fY hf;unfold a_;unfold aK at*;go_enter func119,ntmps119;go_wp2_with fail;refine HP.o.mono ?_;rintro e w2 ⟨rfl,U1,Bd,A1,f1⟩;have K1:=Z (oD.o.trans (Kept.du f1 I5.o dm.o) (λb X=>by simp[X]));have n2:=N1.o.aG f1 (I5.o _ az);obtain⟨c0,c1,c2,c3,c4⟩:=cN (i:=i) n2;have Em:=Z Bd;have Ev:=Z A1;clear HP oD A1 f1 Bd n2 N1 I5;generalize gP:w.heap.size=bx at*;have HN:=Z (zS Ev.o (show s.f r.pop.key=_ from Xhf.o));exact UN
def Dz(h:dh w C U RO K p c t used hv jv s r)(i:Ins){k q d:Nat}(ha:i.a=q)(jq:i.b=d)(hk:i.c=k)(hq:q<p.ap.length)(he:d<=1)(bt:s.a.ls q≠[])(Ql:k<p.aW.length)(ht4:p.aW.length<=4)(hj:r.bI.length<1000000){v:Int}{rest:List Int}(fY:r.stack=v::rest)(hl:rest.length<1000000):
 Calls prog 120 #[Oi C.mb,a_ i] w (cQ w C.mb U.rb RO K p c t used (.tuple #[]) (ry p (s,r.pop) (cS s.a q d) k v)):=by
 have h1:=h.box (Xe (aK i) 40);have n1:=aH.new w 40 (aK i);have HP:=Z (Fz h1 fY hl);have oD:=Z (Kept.ai (RO:=RO) ((aZ w.heap.size w).alloc (aL _) (Xe (aK i) 40)) h.sep.dZ);have I5:=Z (λb (X:b∈w.heap.size::RO)=>h1.sep.ur X);have dm:=Z h1.sep.dZ;have N1:=Z n1;have Uv:=Z bt;have Xha:=Z ha;have Ob:=Z jq;have Xhk:=Z hk;have Xhj:=Z hj;clear h h1 n1 fY bt ha jq hk hj;unfold a_;unfold aK at*;go_enter func120,ntmps120;go_wp2_with fail;refine HP.o.mono ?_;rintro e w2 ⟨rfl,U1,Bd,A1,f1⟩;have K1:=Z (oD.o.trans (Kept.du f1 I5.o dm.o) (λb X=>by simp[X]));have n2:=N1.o.aG f1 (I5.o _ az);obtain⟨c0,c1,c2,c3,c4⟩:=cN (i:=i) n2;have Em:=Z Bd;have Ev:=Z A1;clear HP oD A1 f1 Bd n2 N1 I5;generalize gP:w.heap.size=bx at*;rw[Xha.o]at c1;rw[Ob.o]at c2;rw[Xhk.o]at c3;have HN:=Z (u_ Ev.o hq he Uv.o);go_wp2_with fail;refine HN.o.mono ?_;rintro e w3 ⟨rfl,m,rfl⟩;have HM:=Z (Qk (Ev.o.drewN m) hq (fX (e:=d) Uv.o) Ql ht4 v Xhj.o);have K2:=Z (K1.o.trans (Kept.ai (RO:=RO) (aA w2.heap.size w2 m) (λb X=>Ev.o.sep.dZ b (by simp[X]))) (λb X=>X));have g1:(w2.drewN m).cell? _=_:=c3;clear HN c0 c1 c2 c3 c4 K1;generalize w2.drewN m=w4 at*;exact Um
def DA(h:dh w C U RO K p c t used hv jv s r)(i:Ins){q d:Nat}(ha:i.a=q)(jq:i.b=d)(hq:q<p.ap.length)(he:d<=1)(bt:s.a.ls q=[]){v:Int}{rest:List Int}(fY:r.stack=v::rest)(hl:rest.length<1000000):
 Calls prog 120 #[Oi C.mb,a_ i] w (cQ w C.mb U.rb RO K p c t used (.tuple #[]) ((s,r.pop.gE 2))):=by
 have h1:=h.box (Xe (aK i) 40);have n1:=aH.new w 40 (aK i);have HP:=Z (Fz h1 fY hl);have oD:=Z (Kept.ai (RO:=RO) ((aZ w.heap.size w).alloc (aL _) (Xe (aK i) 40)) h.sep.dZ);have I5:=Z (λb (X:b∈w.heap.size::RO)=>h1.sep.ur X);have dm:=Z h1.sep.dZ;have N1:=Z n1;have Uv:=Z bt;have Xha:=Z ha;have Ob:=Z jq;clear h h1 n1 fY bt ha jq;unfold a_;unfold aK at*;go_enter func120,ntmps120;go_wp2_with fail;refine HP.o.mono ?_;rintro e w2 ⟨rfl,U1,Bd,A1,f1⟩;have K1:=Z (oD.o.trans (Kept.du f1 I5.o dm.o) (λb X=>by simp[X]));have n2:=N1.o.aG f1 (I5.o _ az);obtain⟨c0,c1,c2,c3,c4⟩:=cN (i:=i) n2;have Em:=Z Bd;have Ev:=Z A1;clear HP oD A1 f1 Bd n2 N1 I5;generalize gP:w.heap.size=bx at*;rw[Xha.o]at c1;rw[Ob.o]at c2;have HN:=Z (vd Ev.o hq he Uv.o);exact UN
def ae7(h:dh w C U RO K p c t used hv jv s r)(i:Ins){n:Int}(hn:i.a=n)(hl:r.loops.length<1000000):
 Calls prog 115 #[Oi C.mb,a_ i] w (cQ w C.mb U.rb RO K p c t used (.tuple #[]) (s,{r with loops:=n::r.loops})):=by
 obtain⟨i0,hi,je,mU,sT⟩:=rN zD;have H0:=h.box (Xe (aK i) 40);have HB:=Z ((aZ w.heap.size w).alloc (aL _) (Xe (aK i) 40));have e1:(w.alloc (Xe (aK i) 40)).cell? (I w.heap.size 1)=O (Y n):=by rw[<-hn];exact(aH.new w 40 (aK i)).cell 1
 have rU:(w.alloc (Xe (aK i) 40)).cell? (I C.mb 60)=O (Oi U.rb):=H0.m.aT.cell 60;have r2:(w.alloc (Xe (aK i) 40)).cell? (I U.rb 3)=O U.kW:=H0.r.dY.cell 3;have lm:=H0.m.aT.lt;have lr:=H0.r.dY.lt;have lb:w.heap.size<(w.alloc (Xe (aK i) 40)).heap.size:=by simp
 have HD:=Z (H0.drewN 1);have C3:=Z (show r.loops.length+1<=maxLen by unfold maxLen;omega);have C4:=Z (show(r.loops.length+1)*8<=140737488355328 by omega);have oD:=Z (Kept.ai HB.o h.sep.dZ);have a0g:=Z H0;clear h H0 hn;unfold a_;unfold aK at*;obtain⟨w1,kI⟩:∃w1,w1=w.alloc (Xe #[Y i.op,Y i.a,Y i.b,Y i.c,Y i.d] 40):=⟨_,rfl⟩;rw[<-kI]at a0g HD HB oD e1 rU r2 lm lr lb;go_enter func115,ntmps115;go_wp2_with fail;rw[<-kI];clear kI;generalize w.heap.size=bx at e1 lb a0g HD ⊢
 go_region_law ((refine BZ _ rfl (.tmp 14) (.tmp 17) 24 rfl 0 3 i0 (Y 0) 1 8 underlying24 hi je mU sT rfl bz U.kW _ _ (by simp[Act.eval,Act.put]) (HD.o.r.kW.alloc _) (I w1.heap.size 0) 1 1 [Y n] (by simp[Act.eval,Act.put]) rfl (jf.ji _ [Y n] _ _ az) (by simp[Value.oneCell']) bz C3.o C4.o az _ rfl ?_;intro g cap w4 gT gX rP BV;obtain⟨AO,AP⟩:=P7 (w:=w1) (n:=r.loops.length+1) (cap:=cap) ((aA w1.heap.size w1 1).alloc (aL _) _) gX rP rfl;obtain⟨c2,f2,c60⟩:=a0g.o.MU AO;have HO:=Z gT;have HF:=Z AO;have HS:=Z AP;clear gT gX rP BV AO AP))
 all_goals
  go_wp2;refine bR (ei rfl _ _ _) rfl ?_;obtain⟨q1,q2⟩:=my n 0 r.loops;have bC:=pY (f':=λi=> Y ((n::r.loops).reverse.getD i 0)) HO.o (λi hi=>by show Value.int _ _=Value.int _ _;rw[q1 i hi]) (by show Value.int _ _=Value.int _ _;rw[q2]);have A:=a0g.o.kW HF.o (l:=n::r.loops) bC HS.o;have D:cQ w1 C.mb U.rb (bx::RO) K p c t used (.tuple #[]) (s,{r with loops:=n::r.loops}) (Xc (.tuple #[])) _:=⟨rfl,_,λb X=>X,A.jJ,Kept.du (S:=U.l) ((HF.o.mono (by intro k hk;simp[Ru.l,hk])).setCell (by simp[Ru.l]) _) (λb X=>a0g.o.sep.ur X) a0g.o.sep.dZ⟩;exact D.pre oD.o (λb X=>by simp[X])
def Jb(op n:Int):Int:=if op=14 then 1-n else -n
def Yb{p:Prop}(h:p:=by
 have EX:=Z ex;clear ho ex;go_wp2_with fail;refine(UG.o _).mono ?_;intro e w2 hd;exact Ye):p:=h
def Ye{p:Prop}(h:p:=by
 rw[<-EX.o]at hd;obtain⟨rfl,nJ⟩:=hd.pre (RO:=RO) Fq.o HO.o;go_wp2;exact bR (ei rfl _ _ _) rfl ⟨rfl,nJ⟩):p:=h
def XW(h:dh w C U RO K p c t used hv jv s r)(i:Ins){n:Int}{rest:List Int}(fY:r.stack=n::rest)(hl:rest.length<1000000)(Tw: -1073741824<=n)(uy:n<=1073741824):
 Calls prog 112 #[Oi C.mb,a_ i] w (cQ w C.mb U.rb RO K p c t used (.tuple #[]) (s,r.pop.push (Jb i.op n))):=by
 have H0:=h.box (Xe (aK i) 40);have HP:=Z (zh H0 fY hl);have lL:=Z (aH.new w 40 (aK i));have oD:=Z (Kept.ai (RO:=RO) ((aZ w.heap.size w).alloc (aL _) (Xe (aK i) 40)) h.sep.dZ);have Dl:=Z (show r.jx=n by unfold Rn.jx;rw[fY];rfl);clear h H0;unfold a_;unfold aK at*;go_enter func112,ntmps112;go_wp2_with fail;generalize gP:w.heap.size=bx at HP lL ⊢;refine HP.o.mono ?_;rintro e w' ⟨rfl,RO',ho,⟨C',U',hv',lM,mO,ou,A⟩,qW⟩;have e1:Xf w' (I bx 0)=O (Y i.op):=(aH.mA lL.o qW az).cell 0;have HA:=Z A;have Fq:=Z (oD.o.trans qW (λb X=>by simp[X]));have HO:=Z (show∀b,b∈RO->b∈RO' from λb X=>ho b (by simp[X]));have HM:=Z mO;have HR:=Z ou;clear A qW ho mO ou HP lL gP oD;have hps:r.pop.stack=rest:=by unfold Rn.pop;rw[fY];rfl
 have w1:IntKind.i64.wrap (1-n)=1-n:=bJ _ ⟨G,G⟩;have w2:IntKind.i64.wrap (-n)= -n:=bJ _ ⟨G,G⟩;have UG:=Z (λm:Int=>ov HA.o m (by rw[hps];exact hl));rw[HM.o,HR.o]at UG;by_cases ho:i.op=14
 ·have hz:(i.op==14)=true:=by simpa using ho
  have ex:Jb i.op n=1-n:=by unfold Jb;rw[aE ho]
  exact Yb
 ·have hz:(i.op==14)=false:=by simpa using ho
  have ex:Jb i.op n= -n:=by unfold Jb;rw[ax ho]
  exact Yb
def nu{p:Prop}(h:p:=by
 rw[ho]at e1;clear ho KT Te;go_wp2_with fail;refine(zX.o _).mono ?_;rintro e w3 ⟨rfl,rfl⟩;exact QD):p:=h
def JX{p:Prop}(h:p:=by
 rw[ho]at e1;clear ho KT Te;go_wp2_with fail;refine(sI.o _).mono ?_;rintro e w3 ⟨rfl,rfl⟩;exact QD):p:=h
def QD{p:Prop}(h:p:=by
 go_wp2_with fail;refine(UG.o _).mono ?_;intro e w4 hd;exact Ye):p:=h
def acH(h:dh w C U RO K p c t used hv jv s r)(i:Ins)(dO:i.op=11\/i.op=12\/i.op=15\/i.op=16\/i.op=17\/i.op=18\/i.op=19\/i.op=20\/i.op=21){a b:Int}{rest:List Int}(fY:r.stack=b::a::rest)(hl:rest.length<999999)
 (ha: -1073741824<=a/\a<=1073741824) (X: -1073741824<=b/\b<=1073741824):
 Calls prog 111 #[Oi C.mb,a_ i] w (cQ w C.mb U.rb RO K p c t used (.tuple #[]) (s,r.pop.pop.push (pk i.op a b))):=by
 have H0:=h.box (Xe (aK i) 40);have HP:=Z (zh H0 fY kZ);have lL:=Z (aH.new w 40 (aK i));have oD:=Z (Kept.ai (RO:=RO) ((aZ w.heap.size w).alloc (aL _) (Xe (aK i) 40)) h.sep.dZ);have hps:r.pop.stack=a::rest:=by unfold Rn.pop;rw[fY];rfl
 have afu:r.pop.pop.stack=rest:=by show r.pop.stack.tail=rest;rw[hps];rfl
 have hwm:IntKind.i64.wrap (a*b)=a*b:=by
  have h1:(a*b).natAbs<=1073741824*1073741824:=by rw[Int.natAbs_mul];exact Nat.mul_le_mul G G
  exact bJ _ ⟨G,G⟩
 have hwa:IntKind.i64.wrap (a+b)=a+b:=bJ _ ⟨G,G⟩;have hws:IntKind.i64.wrap (a-b)=a-b:=bJ _ ⟨G,G⟩;have Te:=Z dO;have HAB:=Z (And.intro ha X);clear h H0 dO ha X;unfold a_;unfold aK at*;go_enter func111,ntmps111;go_wp2_with fail;generalize gP:w.heap.size=bx at HP lL ⊢;refine HP.o.mono ?_;rintro e w' ⟨rfl,mX,OB,⟨C1,U1,gz,jv1,Hk,Hj,A1⟩,im⟩;have OC:=Z (zh A1 hps G);rw[Hk,Hj]at OC;have oE:=Z im;have Hi:=Z OB;clear HP Hk Hj A1 im OB;go_wp2_with fail;refine OC.o.mono ?_;rintro e w2 ⟨rfl,RO2,pB,⟨C',U',hv',lM,mO,ou,A⟩,mL⟩;have mV:=oE.o.trans mL Hi.o;have e1:Xf w2 (I bx 0)=O (Y i.op):=(aH.mA lL.o mV az).cell 0;have Fq:=Z (oD.o.trans mV (λb X=>by simp[X]));have HO:=Z (show∀b,b∈RO->b∈RO2 from λb X=>pB b (Hi.o b (by simp[X])));have UG:=Z (λm:Int=>ov A m (by rw[afu];omega));rw[mO,ou]at UG;clear A mL mV pB mO ou lL gP oD OC oE Hi;have sI:=Z (KN w2);have zX:=Z (KM w2);have HQU:=Z (IZ w2 HAB.o.1 HAB.o.2);generalize dO:i.op=op at*;have KT:∀o v,op=o->pk o a b=v->pk op a b=v:=λo v h1 h2=>by rw[h1];exact h2
 rcases Te.o with ho|ho|ho|ho|ho|ho|ho|ho|ho
 ·have EX:=Z (KT 11 (min a b) ho rfl);rw[ho]at e1;clear ho KT Te;exact QD
 ·have EX:=Z (KT 12 (max a b) ho rfl);rw[ho]at e1;clear ho KT Te;exact QD
 ·have EX:=Z (KT 15 (mH (a*b)) ho rfl);exact JX
 ·have EX:=Z (KT 16 (yG a b) ho rfl);rw[ho]at e1;clear ho KT Te;go_wp2_with fail;refine(HQU.o).mono ?_;rintro e w3 ⟨rfl,rfl⟩;exact QD
 ·have EX:=Z (KT 17 (mH (a+b)) ho rfl);exact JX
 ·have EX:=Z (KT 18 (mH (a-b)) ho rfl);exact JX
 ·have EX:=Z (KT 19 (pM (a==b)) ho rfl);exact nu
 ·have EX:=Z (KT 20 (pM (decide (a<b))) ho rfl);exact nu
 ·have EX:=Z (KT 21 (pM (decide (a<=b))) ho rfl);exact nu
def sh{p:Prop}(h:p:=by
 have afv:=Z (UG.o m);have HK:=Z (Kept.ai (RO:=RO) (HB.o.trans (aA _ _ m)) dm.o);have zX:=Z (KM ((w.alloc (Xe #[Y i.op,Y i.a,Y i.b,Y i.c,Y i.d] 40)).drewN m));clear UG HN HB lL;generalize(w.alloc (Xe #[Y i.op,Y i.a,Y i.b,Y i.c,Y i.d] 40)).drewN m=w2 at*;go_wp2_with fail;refine(zX.o _).mono ?_;rintro e w' ⟨rfl,rfl⟩;go_wp2_with fail;refine(afv.o _).mono ?_;intro e w' hd;obtain⟨rfl,nJ⟩:=hd.pre (RO:=RO) HK.o (λb X=>by simp[X]);go_wp2;exact bR (ei rfl _ _ _) rfl ⟨rfl,nJ⟩):p:=h
def ae4(h:dh w C U RO K p c t used hv jv s r)(i:Ins){k:Nat}(hk:i.a=k){n q:Nat}(hf:s.f r.key=O n)(hq:q<p.ap.length)(hn:n∈s.a.ls q)(hl:r.stack.length<1000000):
 Calls prog 108 #[Oi C.mb,a_ i] w (cQ w C.mb U.rb RO K p c t used (.tuple #[]) (s,r.push (pM ((q:Int)==(k:Int))))):=by
 have H0:=h.box (Xe (aK i) 40);have HB:=Z ((aZ w.heap.size w).alloc (aL _) (Xe (aK i) 40));have HN:=Z (nP H0 hf hq hn);have UG:=Z (λ(m:Nat) (x:Int)=>ov (H0.drewN m) x hl);have lL:=Z (aH.new w 40 (aK i));have a0g:=Z h;have Bb:=Z hk;have dm:=Z h.sep.dZ;clear h H0 hk hf hn;unfold a_;unfold aK at*;go_enter func108,ntmps108;go_wp2_with fail;refine HN.o.mono ?_;rintro e w' ⟨rfl,m,rfl⟩;have e1:((w.alloc (Xe #[Y i.op,Y i.a,Y i.b,Y i.c,Y i.d] 40)).drewN m).cell? (I w.heap.size 1)=O (Y k):=by rw[<-Bb.o];exact lL.o.cell 1
 exact sh
def ae3(h:dh w C U RO K p c t used hv jv s r)(i:Ins)(hf:s.f r.key=Xb)(hl:r.stack.length<1000000):
 Calls prog 108 #[Oi C.mb,a_ i] w (cQ w C.mb U.rb RO K p c t used (.tuple #[]) (s,r.push (pM false))):=by
 have H0:=h.box (Xe (aK i) 40);have HB:=Z ((aZ w.heap.size w).alloc (aL _) (Xe (aK i) 40));have HN:=Z (p_ H0 hf);have UG:=Z (λ(m:Nat) (x:Int)=>ov (H0.drewN m) x hl);have lL:=Z (aH.new w 40 (aK i));have a0g:=Z h;have dm:=Z h.sep.dZ;clear h H0 hf;unfold a_;unfold aK at*;go_enter func108,ntmps108;go_wp2_with fail;refine HN.o.mono ?_;rintro e w' ⟨rfl,m,rfl⟩;exact sh
end
open eO (eY)
def M7(A:List Nat)(k:Nat):Int:=if k<A.length then(A.getD k 0:Nat)else 0
def Qo(A:List Nat)(k:Nat):to:= .tuple #[Y (M7 A k),.bool (decide (k<A.length))]
def I2{l:List Nat}{n:Nat}(sQ:l.Nodup)(h:n∈l):eY (nw (dir 0 l) n)=Qo (cE l n) 0:=by
 rw[FI sQ h];unfold eY Qo M7;by_cases h0:0<(cE l n).length
 ·simp[h0]
 ·simp[h0]
def M8{l:List Nat}{n k:Nat}(sQ:l.Nodup)(h:n∈l)(hk:k<(cE l n).length):eY (nw (dir 0 l) ((cE l n).getD k 0))=Qo (cE l n) (k+1):=by
 rw[I0 sQ h hk];unfold eY Qo M7;by_cases h0:k+1<(cE l n).length
 ·simp[h0]
 ·simp[h0]
def Uu{A:List Nat}{k:Nat}(h:k<A.length):M7 A k=(A.getD k 0:Nat):=by unfold M7;rw[aE h]
section
variable {w w':ek}{C C':Co}{U U':Ru}{RO RO':List Nat}{K:Kc}{p:aU}{c:Cp}{t:fG}{used:Int}{hv hv':to}{jv lM:Nat->to}{s s':St}{r r':Rn}{rv:to}{mb rb:Nat}
def iK(w:ek)(C:Co)(q:Nat):ek:=
 (((w.alloc (Xe #[Oi C.mb] 35)).alloc (Xe #[Y q] 3)).alloc (Xe mQ 118)).alloc (Xe #[Xd] 24)
def dh.Y1(h:dh w C U RO K p c t used hv jv s r)(q:Nat):dh (iK w C q) C U ((w.heap.size+1)::w.heap.size::RO) K p c t used hv jv s r/\
 aH (iK w C q) w.heap.size 35 #[Oi C.mb]/\aH (iK w C q) (w.heap.size+1) 3 #[Y q]/\aH (iK w C q) (w.heap.size+1+1) 118 mQ/\aH (iK w C q) (w.heap.size+1+1+1) 24 #[Xd]/\
 Below w.heap.size w (iK w C q)/\(iK w C q).heap.size=w.heap.size+4:=by
 unfold iK;have h1:=h.box (Xe #[Oi C.mb] 35);have h2:=h1.box (Xe #[Y q] 3);have s1:(w.alloc (Xe #[Oi C.mb] 35)).heap.size=w.heap.size+1:=by simp
 have s2:((w.alloc (Xe #[Oi C.mb] 35)).alloc (Xe #[Y q] 3)).heap.size=w.heap.size+1+1:=by simp
 have s3:(((w.alloc (Xe #[Oi C.mb] 35)).alloc (Xe #[Y q] 3)).alloc (Xe mQ 118)).heap.size=w.heap.size+1+1+1:=by simp
 have n1:=aH.new w 35 #[Oi C.mb];have n2:=aH.new (w.alloc (Xe #[Oi C.mb] 35)) 3 #[Y q];have n3:=aH.new ((w.alloc (Xe #[Oi C.mb] 35)).alloc (Xe #[Y q] 3)) 118 mQ;have n4:=aH.new (((w.alloc (Xe #[Oi C.mb] 35)).alloc (Xe #[Y q] 3)).alloc (Xe mQ 118)) 24 #[Xd];have h3:=h2.later (((aZ _ _).alloc (aL _) (Xe mQ 118)).alloc az (Xe #[Xd] 24));rw[s1]at h2 h3 n2;rw[s2]at n3;rw[s3]at n4;exact⟨h3,((n1.alloc _).alloc _).alloc _,(n2.alloc _).alloc _,n3.alloc _,n4,((((aZ _ w).alloc (aL _) _).alloc az _).alloc kZ _).alloc kZ _,az⟩
def dh.GN(h:dh w C U RO K p c t used hv jv s r){l:List Nat}(hl:∀b,b∈l->b<w.heap.size/\b∉C.l/\b∉U.l):dh w C U (l++RO) K p c t used hv jv s r:=by
 induction l with
 |nil=>exact h
 |cons b l ih=>obtain⟨h1,h2,h3⟩:=hl b az;exact(ih λx hx=>hl x (by simp[hx])).add h1 h2 h3
def Dw(w4 wr:ek)(b:Nat)(A:List Nat)(k:Nat):Prop:=∃av,qV w4 wr b 24 3 1 k (λi=> Y (A.getD i 0:Nat)) av
def JK{p:Prop}(h:p:=by
 rw[HA.o,e];exact bR (v:= .agg #[.int .u64 y.key,Y (y.tg 0),Y (y.tg 1),Y (y.tg 2),Y (y.tg 3)]) (by simp[results,results219,go_sem,e0,e1,e2,e3,e4]) rfl ⟨rfl,(vb av++[yb,bx+1+1+1]++(bx+1)::bx::RO),λb X=>by simp[X],⟨C,U7,hv,jv7,rfl,I3.o,HA9.o⟩,HKP.o⟩):p:=h
def GK{p:Prop}(h:p:=by
 intro hc;simp only[fE,ep,List.not_mem_nil,or_false]at hc;rcases hc with(hc|hc|hc)|hc|hc|hc
 ·have:=Eu.o.own _ (aX.1 hc);have:=yj.o;omega
 ·have:=HYL.o;have:=Eu.o.f.size;have:=yj.o;omega
 ·omega
 ·omega
 ·omega
 ·exact F6.o.2.2 hc):p:=h
def XR(h:dh w C U RO K p c t used hv jv s r)(E:jB K p c s){q n:Nat}(hq:q<p.ap.length)(hn:n∈s.a.ls q)(hj:r.bI.length<1000000):
 Calls prog 219 #[Oi C.mb,Y n,Y q] w (cQ w C.mb U.rb RO K p c t used (bP (s.a.val n)) (ru (aB p c) (s,r) n q)):=by
 obtain⟨i0,hi,je,mU,sT⟩:=rN zD;obtain⟨h4,n1,n2,n3,n4,B4,nO⟩:=h.Y1 q;have iE:=E.inv.wf.nd q hq;have hNX:=eO.IF h4.m.ar hq hn (ck 1);rw[I2 iE hn]at hNX;have m9:(iK w C q).cell? (I C.mb 9)=O (Oi C.ab):=h4.mx.reads.1;have e1:=n1.c1;have f6:=h.fresh (b:=w.heap.size+1+1) G;have f7:=h.fresh (b:=w.heap.size+1+1+1) G;have HG:=Z (show Dw (iK w C q) (iK w C q) (w.heap.size+1+1+1) (cE (s.a.ls q) n) 0 from⟨_,qV.start n4⟩);have zq:=Z hNX;have hlen:(cE (s.a.ls q) n).length<=4194304:=by have h1:=MZ (s.a.ls q) n;have h2:=E.inv.len q hq;have h3:=(Ph E.ii E.g16).2 q hq;omega
 have Y0:=Z hlen;have Ot:=Z iE;have HN:=Z hn;have H4:=Z h4;have iw:=Z B4;have N1:=Z n1;have N2:=Z n2;have N3:=Z n3;have HE:=Z E;have HJ:=Z hj;have F6:=Z f6;have F7:=Z f7;have dm:=Z h.sep.dZ;have yj:=Z nO;have Tg:=Z (λk (hk:k<(cE (s.a.ls q) n).length)=>MY hn hk);have HTN:=Z (λk (hk:k<(cE (s.a.ls q) n).length)=>M8 iE hn hk);clear h h4 n1 n2 n3 n4 B4 hn hj E iE hNX f6 f7 hlen nO;have HA:=Z (show ru (aB p c) (s,r) n q=(fH (aB p c) s q n,r.note (.out q (s.a.val n) (cE (s.a.ls q) n)))from rfl);generalize hA:cE (s.a.ls q) n=A at*;have HAA:=Z hA;clear hA;generalize hy:s.a.val n=y at*;have HY:=Z hy;clear hy;unfold iK mQ at*;unfold bP;unfold Qo at zq HTN;go_enter func219,ntmps219;go_wp2_with fail;refine zq.o.mono ?_;rintro e w' ⟨rfl,rfl⟩;generalize(((w.alloc (Xe #[Oi C.mb] 35)).alloc (Xe #[Y q] 3)).alloc (Xe #[.int .u64 0,Y 0,Y 0,Y 0,Y 0] 118)).alloc (Xe #[Xd] 24)=w4 at*;generalize gP:w.heap.size=bx at*;go_wp2_with fail
 go_loopg [8,9] A.length (λf s8 s9 wr=>∃k:Nat,s8=Y (M7 A k)/\s9= .bool (decide (k<A.length))/\k+f=A.length/\Hid (Dw w4 wr (bx+1+1+1) A k))
 case atStart=>exact⟨0,rfl,rfl,G,HG⟩
 case round=>
  clear HG zq m9 e1;obtain⟨k,rfl,rfl,hk,HR⟩:=hrel;obtain⟨av,hg⟩:=HR.o;have h7:bx+1+1+1∉C.l/\bx+1+1+1∉U.l/\bx+1+1+1∉(bx+1)::bx::RO:=⟨F7.o.1,F7.o.2.1,λhc=>by
   simp only[ep]at hc;rcases hc with hc|hc|hc
   ·omega
   ·omega
   ·exact F7.o.2.2 hc⟩
  have H7:=Z h7;have gJ:∀wx,aC [bx+1+1+1] w4 wx->dh wx C U ((bx+1)::bx::RO) K p c t used hv jv s r:=λwx f=>H4.o.Dp f h7;have Bc:=Z gJ;by_cases be:k<A.length
  ·have X:decide (k<A.length)=true:=by simpa using be
   have e8:=Uu be;have d7:=hg.dY.c1;have Eu:=Z hg;have KL:=Z (HTN.o k be);have HSK:=Z (Tg.o k be);have hlen:=Y0.o;have C3:=Z (show k+1<=maxLen by unfold maxLen;omega);have C4:=Z (show(k+1)*8<=140737488355328 by omega);have a1a:bx+1+1+1<wr.heap.size:=hg.dY.lt;have l4:bx+1+1+1<w4.heap.size:=by rw[yj.o];omega
   have n7:C.mb≠bx+1+1+1:=λe=>h7.1 (by simp[Co.l,<-e]);have HN7:=Z n7;clear hg h7 gJ HR;generalize hm:A.getD k 0=m at*;have HM:=Z hm;have af:=Z (show([Y m]:List to)=(List.range (1*1)).map λi=> Y (A.getD (k*1+i) 0:Nat)by
    show[_]=[Y ((A.getD (k*1+0) 0:Nat))];rw[Nat.mul_one,Nat.add_zero,hm])
   have mZ:=Z (show bx∉[bx+1+1+1]by simp;omega);clear hm;rw[e8];go_wp2_with ((at_builtin;refine wpList_append_lies _ rfl (.tmp 31) (.tmp 33) 24 rfl 0 3 i0 (Y 0) 1 8 underlying24 hi je mU sT rfl bz av _ _ rfl (Eu.o.row.alloc _) (I wr.heap.size 0) 1 1 [Y m] rfl rfl (jf.ji _ [Y m] _ _ az) (by simp[Value.oneCell']) bz C3.o C4.o az _ rfl ?_;intro g cap w5 gT gX rP BV;obtain⟨b5,f5⟩:=Eu.o.mid l4 ((aZ _ _).alloc (aL _) _) gX;have XS:=Z (Eu.o.step (m:=1) l4 ((aZ _ _).alloc (aL _) _) gX gT rP af.o);have d5:=b5.cell 0;have z5:=b5.frozen;have h6:=Bc.o _ XS.o.f;have c9:=h6.mx.reads.1;have c1:=(N1.o.aG XS.o.f mZ.o).cell 0;have HNT:=Z (eO.IF h6.m.ar hq HSK.o (ck 1));clear b5 f5 gT gX rP BV h6));have hnt:=HNT.o;rw[KL.o]at hnt;refine hnt.mono ?_;rintro e w' ⟨rfl,rfl⟩;have mN:Dw w4 (w5.setCell (I (bx+1+1+1) 0) (H (O (I g 0)) (k+1) cap)) (bx+1+1+1) A (k+1):=⟨_,XS.o⟩;have MQ:=Z mN;clear mN hnt HNT XS c9 c1 d5 z5;go_wp2_with fail
   go_roundg (gk-1)
   case measure=>omega
   case rel=>exact⟨k+1,rfl,rfl,G,MQ⟩
  ·have X:decide (k<A.length)=false:=by simpa using be
   have Ek:k=A.length:=G;have XP:=Z Ek;have h5:=gJ wr hg.f;have H5:=Z h5;have F5:aC ((bx+1+1+1)::(C.l++U.l)) w4 wr:=hg.f.mono az;have PH:=Z F5;have m9:Xf wr (I C.mb 9)=O (Oi C.ab):=h5.mx.reads.1;have uZ:=HE.o.g16;have HU:=Z (eO.Fh h5.m.ar HE.o.FJ G hq HN.o);have hbs:bx∉(bx+1+1+1)::(C.l++U.l)/\bx+1∉(bx+1+1+1)::(C.l++U.l)/\bx+1+1∉(bx+1+1+1)::(C.l++U.l):=by have i1:=h5.sep.cr (b:=bx) az;have i2:=h5.sep.ur (b:=bx) az;have i3:=h5.sep.cr (b:=bx+1) az;have i4:=h5.sep.ur (b:=bx+1) az;have i5:=F6.o.1;have i6:=F6.o.2.1;simp only[ep,fE,not_or];exact⟨⟨G,i1,i2⟩,⟨G,i3,i4⟩,⟨G,i5,i6⟩⟩
   have Qp:=Z hbs;have e1:Xf wr (I bx 0)=O (Oi C.mb):=(N1.o.aG F5 hbs.1).cell 0;have Eu:=Z hg;clear hg h7 gJ HR h5 F5 hbs uZ Ek HTN Tg;rw[HY.o]at HU;unfold bP at HU;go_wp2_with fail;refine HU.o.mono ?_;rintro e w2 ⟨rfl,f2,a2⟩;have Ov:=H5.o.mx.Dm a2 f2 (λb X=> .inl X);have F3:aC (bL C.ab C.V C.L) wr ((w2.alloc (Xe #[.int .u64 y.key,Y (y.tg 0),Y (y.tg 1),Y (y.tg 2),Y (y.tg 3)] 118)).drewN 1):=(f2.alloc _).drewN 1;have B3:Below w2.heap.size w2 ((w2.alloc (Xe #[.int .u64 y.key,Y (y.tg 0),Y (y.tg 1),Y (y.tg 2),Y (y.tg 3)] 118)).drewN 1):=((aZ _ w2).alloc (aL _) _).trans (aA _ _ 1);have A3:=a2.later B3;have X3:=Ov.2.2.2.later B3;rw[<-rW (a:=s.a) hq HN.o]at X3;have XT:s.f y.key=O n:=(HE.o.inv.idx _ _).2 ⟨q,hq,HN.o,by rw[HY.o]⟩;have HD:=Z (Ix.tW X3 XT);have hy:=aH.new w2 118 #[.int .u64 y.key,Y (y.tg 0),Y (y.tg 1),Y (y.tg 2),Y (y.tg 3)];have HY3:=Z (hy.drewN 1);have i10:(w2.alloc (Xe #[.int .u64 y.key,Y (y.tg 0),Y (y.tg 1),Y (y.tg 2),Y (y.tg 3)] 118)).cell? (I C.mb 10)=O (Oi C.xb):=(H5.o.mx.zI (f2.alloc _)).2.1;have y0:=hy.c1;have FF:aC C.l wr ((w2.alloc (Xe #[.int .u64 y.key,Y (y.tg 0),Y (y.tg 1),Y (y.tg 2),Y (y.tg 3)] 118)).drewN 1):=F3.mono (by intro x hx;simp[Co.l,hx]);have e3:(w2.alloc (Xe #[.int .u64 y.key,Y (y.tg 0),Y (y.tg 1),Y (y.tg 2),Y (y.tg 3)] 118)).cell? (I bx 0)=O (Oi C.mb):=(N1.o.aG (PH.o.trans (FF.mono (λx hx=>by simp[hx]))) Qp.o.1).cell 0;have hyl:wr.heap.size<=w2.heap.size:=f2.size;have Iw:=Z F3;have wk:=Z A3;have HFF:=Z FF;have HYL:=Z hyl;clear f2 a2 Ov F3 B3 A3 X3 XT hy FF m9 e1 HU hyl;go_wp2_with fail;generalize w2.alloc (Xe #[.int .u64 y.key,Y (y.tg 0),Y (y.tg 1),Y (y.tg 2),Y (y.tg 3)] 118)=w3 at*;generalize w2.heap.size=yb at*
   go_still_tail 6,bj
   change wpList _ _ _ _ _ (w3.drewN 1);generalize w3.drewN 1=wd at*;go_wp2_with fail;refine HD.o.mono ?_;rintro e we ⟨rfl,f5,x5⟩;obtain⟨XL,IT⟩:=H5.o.mx.both Iw.o wk.o (λb X=> .inl X) f5 x5;have h8:=H5.o.q8 XL IT;have F8:aC C.l wr we:=HFF.o.trans (f5.mono (by intro x hx;simp at hx;rcases hx with rfl|rfl<;>simp[Co.l]));have hyb:yb∉C.l/\yb∉U.l:=⟨(H5.o.fresh HYL.o).1,(H5.o.fresh HYL.o).2.1⟩;have hy8:=HY3.o.aG f5 (λhc=>hyb.1 (by simp at hc;rcases hc with rfl|rfl<;>simp[Co.l]));obtain⟨-,-,g12,g0,gf⟩:=IT.reads;obtain⟨gb,mP,kX,zJ,AQ⟩:=IT.ap hq;have p1:Xf we (I bx 0)=O (Oi C.mb):=(N1.o.aG (PH.o.trans (F8.mono (λx hx=>by simp[hx]))) Qp.o.1).cell 0;have p2:Xf we (I (bx+1) 0)=O (Y q):=(N2.o.aG (PH.o.trans (F8.mono (λx hx=>by simp[hx]))) Qp.o.2.1).cell 0;rw[kX]at g0;have H8:=Z h8;have HF8:=Z F8;have HY8:=Z hy8;have XN:=Z hyb;have HM8:=Z IT;clear XL IT h8 F8 hyb hy8 kX zJ f5 x5 i10 y0 e3 HD;dsimp only at g12;generalize hgq:p.ap.getD q false=gq at*;have HGQ:=Z hgq;clear hgq;cases gq
   ·
    go_wp2;go_quiet (fail);have q12:(we.drewN nq).cell? (I C.mb 12)=O (Y s.total):=g12;have qf:∀o,(we.drewN nq).frozen? (I C.mb o)=false:=gf;have q1:(we.drewN nq).cell? (I bx 0)=O (Oi C.mb):=p1;have H9:=Z (H8.o.drewN nq);have HY9:=Z (HY8.o.drewN nq);have HF9:=Z (HF8.o.drewN nq);clear g12 gf p1 p2 g0 AQ;generalize we.drewN nq=wf at*;obtain⟨k1,k2⟩:=H9.o.mx.total (s.total-1);have H10:=Z (H9.o.q8 k1 k2);have zP:=Z (HY9.o.aG k1.f XN.o.1);have FU:=Z (HF9.o.trans k1.f);have n1:C.mb≠bx:=λe=>Qp.o.1 (by simp[Co.l,<-e]);have r1:(wf.setCell (I C.mb 12) (Y (s.total-1))).cell? (I bx 0)=O (Oi C.mb):=(N1.o.aG (PH.o.trans (FU.o.mono (λx hx=>by simp[hx]))) Qp.o.1).cell 0;clear k1 k2;have Z9:IntKind.i64.wrap (s.total-1)=s.total-1:=bJ _ ⟨by have:=HE.o.total;omega,by have:=HE.o.total;omega⟩;go_wp2_with fail;generalize wf.setCell (I C.mb 12) (Y (s.total-1))=wg at*;have FX:=PH.o.trans (FU.o.mono (λx hx=>by simp[hx]));have z1:=N1.o.aG FX Qp.o.1;have z2:=N2.o.aG FX Qp.o.2.1;have z3:=N3.o.aG FX Qp.o.2.2;have WT:∀b,b∈vb av->b∉C.l/\b∉U.l:=λb X=>⟨(H4.o.fresh (Eu.o.own b (aX.1 X))).1,(H4.o.fresh (Eu.o.own b (aX.1 X))).2.1⟩;have z7:=Eu.o.dY.aG FU.o F7.o.1;have zr:=Eu.o.row.aG FU.o (λb X=>(WT b (aX.2 X)).1);rw[XP.o]at zr;have Qq:=H10.o.GN (l:=vb av++[yb,bx+1+1+1]) (λb X=>by
     simp only[fE,ep,List.not_mem_nil,or_false]at X;rcases X with X|rfl|rfl
     ·exact⟨(gW zr b (aX.1 X)).2,WT b X⟩
     ·exact⟨zP.o.lt,XN.o⟩
     ·exact⟨z7.lt,F7.o.1,F7.o.2.1⟩)
    have hu:iD wg C.mb (vb av++[yb,bx+1+1+1]++(bx+1)::bx::RO) (.func (.func 273) #[] #[Oi bx,Oi (bx+1),Oi yb,Oi (bx+1+1+1)]) (.out q y A):=
     ⟨_,_,_,_,av,rfl,z1,z2,zP.o,z7,zr,az,az,az,az,λb X=>by simp[X]⟩
    have HC:=Z (zO Qq hu HJ.o);have h6U:bx+1+1∉(vb av++[yb,bx+1+1+1]++(bx+1)::bx::RO):=by exact GK
    have H6U:=Z h6U;have Z3:=Z z3;have ZY:=Z zP.o;have HLG:bx+1+1<wg.heap.size:=z3.lt;have HFX:=Z FX;clear z1 z2 z3 z7 zr Qq hu h6U WT FX;go_wp2_with fail;refine HC.o.mono ?_;rintro e wh ⟨rfl,U7,jv7,Qr,A7,f7,g7⟩;have z8:=Z3.o.aG f7 F6.o.2.1;have y8:=zP.o.aG f7 XN.o.2;obtain⟨a0,a1,a2,a3,a4,-⟩:=kV y8;obtain⟨b0,b1,b2,b3,b4,bf⟩:=kV z8;have xy:bx+1+1∉C.l/\bx+1+1∉U7.l/\bx+1+1∉(vb av++[yb,bx+1+1+1]++(bx+1)::bx::RO):=⟨F6.o.1,λhc=>by
     rcases g7 _ hc with hc|hc
     ·exact F6.o.2.1 hc
     ·omega,H6U.o⟩
    have F9:aC [bx+1+1] wh (dT wh (bx+1+1) 0 y):=gH (aC.refl _ _) az 0 y;have A9:=A7.Dp F9 xy;have r9:=eO.lK z8 y;have HA9:=Z A9;have Og:=Z r9;have I3:=Z Qr;have HKP:=Z (show Kept RO w (dT wh (bx+1+1) 0 y)from(Kept.ai (RO:=RO) (by rw[gP];exact iw.o) (by rw[gP];exact dm.o)).trans (Kept.du (S:=(bx+1+1)::(bx+1+1+1)::(C.l++U.l)) (((HFX.o.mono (λx hx=>by simp at hx ⊢;exact .inr hx)).trans (f7.mono (λx hx=>by simp[hx]))).trans (F9.mono (λx hx=>by simp at hx;simp[hx]))) (λb X hc=>by
     simp only[ep,fE]at hc;rcases hc with rfl|rfl|hc|hc
     ·exact F6.o.2.2 X
     ·exact F7.o.2.2 X
     ·exact H4.o.sep.cr (by simp[X]) hc
     ·exact H4.o.sep.ur (by simp[X]) hc) (λb X=>H4.o.sep.dZ b (by simp[X]))) (λb X=>X))
    clear HC A7 f7 g7 xy F9 A9 r9 Qr z8 y8;go_wp2;change bodyPost _ _ _ _ _ (dT wh (bx+1+1) 0 y);generalize dT wh (bx+1+1) 0 y=wi at*;obtain⟨e0,e1,e2,e3,e4,_⟩:=kV Og.o;have e:fH (aB p c) s q n=⟨takeN s.a q n,Vm.aS s.f y.key Xb,s.vars,s.total-1⟩:=by unfold fH;rw[HY.o,show(aB p c).gh q=false from HGQ.o];rfl
    exact JK
   ·
    go_wp2;go_quiet (fail);have q12:(we.drewN nq).cell? (I C.mb 12)=O (Y s.total):=g12;have qf:∀o,(we.drewN nq).frozen? (I C.mb o)=false:=gf;have q1:(we.drewN nq).cell? (I bx 0)=O (Oi C.mb):=p1;have H9:=Z (H8.o.drewN nq);have HY9:=Z (HY8.o.drewN nq);have HF9:=Z (HF8.o.drewN nq);clear g12 gf p1 p2 g0 AQ;generalize we.drewN nq=wf at*;have H10:=H9;have zP:=HY9;have FU:=HF9;have r1:=q1;go_wp2_with fail;generalize wf=wg at*;have FX:=PH.o.trans (FU.o.mono (λx hx=>by simp[hx]));have z1:=N1.o.aG FX Qp.o.1;have z2:=N2.o.aG FX Qp.o.2.1;have z3:=N3.o.aG FX Qp.o.2.2;have WT:∀b,b∈vb av->b∉C.l/\b∉U.l:=λb X=>⟨(H4.o.fresh (Eu.o.own b (aX.1 X))).1,(H4.o.fresh (Eu.o.own b (aX.1 X))).2.1⟩;have z7:=Eu.o.dY.aG FU.o F7.o.1;have zr:=Eu.o.row.aG FU.o (λb X=>(WT b (aX.2 X)).1);rw[XP.o]at zr;have Qq:=H10.o.GN (l:=vb av++[yb,bx+1+1+1]) (λb X=>by
     simp only[fE,ep,List.not_mem_nil,or_false]at X;rcases X with X|rfl|rfl
     ·exact⟨(gW zr b (aX.1 X)).2,WT b X⟩
     ·exact⟨zP.o.lt,XN.o⟩
     ·exact⟨z7.lt,F7.o.1,F7.o.2.1⟩)
    have hu:iD wg C.mb (vb av++[yb,bx+1+1+1]++(bx+1)::bx::RO) (.func (.func 273) #[] #[Oi bx,Oi (bx+1),Oi yb,Oi (bx+1+1+1)]) (.out q y A):=
     ⟨_,_,_,_,av,rfl,z1,z2,zP.o,z7,zr,az,az,az,az,λb X=>by simp[X]⟩
    have HC:=Z (zO Qq hu HJ.o);have h6U:bx+1+1∉(vb av++[yb,bx+1+1+1]++(bx+1)::bx::RO):=by exact GK
    have H6U:=Z h6U;have Z3:=Z z3;have ZY:=Z zP.o;have HLG:bx+1+1<wg.heap.size:=z3.lt;have HFX:=Z FX;clear z1 z2 z3 z7 zr Qq hu h6U WT FX;go_wp2_with fail;refine HC.o.mono ?_;rintro e wh ⟨rfl,U7,jv7,Qr,A7,f7,g7⟩;have z8:=Z3.o.aG f7 F6.o.2.1;have y8:=zP.o.aG f7 XN.o.2;obtain⟨a0,a1,a2,a3,a4,-⟩:=kV y8;obtain⟨b0,b1,b2,b3,b4,bf⟩:=kV z8;have xy:bx+1+1∉C.l/\bx+1+1∉U7.l/\bx+1+1∉(vb av++[yb,bx+1+1+1]++(bx+1)::bx::RO):=⟨F6.o.1,λhc=>by
     rcases g7 _ hc with hc|hc
     ·exact F6.o.2.1 hc
     ·omega,H6U.o⟩
    have F9:aC [bx+1+1] wh (dT wh (bx+1+1) 0 y):=gH (aC.refl _ _) az 0 y;have A9:=A7.Dp F9 xy;have r9:=eO.lK z8 y;have HA9:=Z A9;have Og:=Z r9;have I3:=Z Qr;have HKP:=Z (show Kept RO w (dT wh (bx+1+1) 0 y)from(Kept.ai (RO:=RO) (by rw[gP];exact iw.o) (by rw[gP];exact dm.o)).trans (Kept.du (S:=(bx+1+1)::(bx+1+1+1)::(C.l++U.l)) (((HFX.o.mono (λx hx=>by simp at hx ⊢;exact .inr hx)).trans (f7.mono (λx hx=>by simp[hx]))).trans (F9.mono (λx hx=>by simp at hx;simp[hx]))) (λb X hc=>by
     simp only[ep,fE]at hc;rcases hc with rfl|rfl|hc|hc
     ·exact F6.o.2.2 X
     ·exact F7.o.2.2 X
     ·exact H4.o.sep.cr (by simp[X]) hc
     ·exact H4.o.sep.ur (by simp[X]) hc) (λb X=>H4.o.sep.dZ b (by simp[X]))) (λb X=>X))
    clear HC A7 f7 g7 xy F9 A9 r9 Qr z8 y8;go_wp2;change bodyPost _ _ _ _ _ (dT wh (bx+1+1) 0 y);generalize dT wh (bx+1+1) 0 y=wi at*;obtain⟨e0,e1,e2,e3,e4,_⟩:=kV Og.o;have e:fH (aB p c) s q n=⟨takeN s.a q n,Vm.aS s.f y.key Xb,s.vars,s.total⟩:=by unfold fH;rw[HY.o,show(aB p c).gh q=true from HGQ.o];rfl
    exact JK
end
end Go.Ma
