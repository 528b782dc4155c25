import Derived.Test.YtblkblclmbhjiaaGreatY3
import Derived.WalkMore
import Derived.ScopeJumps
import Derived.Defers
import Derived.Laws.Tables
import Derived.Laws.CopyRow
set_option linter.all false
set_option maxHeartbeats 40000000
set_option maxRecDepth 100000
open Go.Proofs.Tryz
open Option renaming some->O,none->MT
open Go renaming Value->to,World->ek
open Go.Value renaming slice->H
open Go.Obj renaming cells->CA
open Go.Ending renaming returned->Vl
open Go.World renaming cell?->Vo
abbrev E0:=@List.length_singleton
abbrev vX:=@Go.Lib.run_eql_slice_nil
abbrev E4:=@Go.World.ownsRow_made
namespace Go.Ma
open Go.RowKit aj.Vm
open aj hiding aR an ak
open eB (bS bL eN)
open Ix (cX)
section
variable {w w':ek}{C C':Co}{U U':Ru}{RO RO':List Nat}{K:Kc}{p:aQ}{c:Cp}{t:dZ}{used:Int}{hv hv':to}{jv kT:Nat->to}{s s':St}{r r':Rn}{rv:to}{mb rb:Nat}
def Cs(h:cS w C U RO K p c t used hv jv s r)(E:iT K p c s){q d:Nat}(hq:q<p.ax.length)(he:d<=1)(hj:r.bz.length<1000000):
 Calls prog 220 #[V5 C.mb,Y q,Y d] w (cF w C.mb U.rb RO K p c t used (.bool (bC (aC p c) (s,r) q d).2) (bC (aC p c) (s,r) q d).1):=by
 unfold bC;dsimp only;by_cases bm:s.a.ls q=[]
 ·rw[aB bm];exact lD h hq bm
 ·rw[aw bm];exact qR h E hq he bm hj
def Ct{p:Prop}(h:p:=by
 go_wp2;exact bK (dV rfl _ _ _) rfl Dv.o):p:=h
def YA(h:cS w C U RO K p c t used hv jv s r)(i:Ins)(E:iT K p c s){q d:Nat}(ha:i.a=q)(iL:i.b=d)(hq:q<p.ax.length)(he:d<=1)(hj:r.bz.length<1000000):
 Calls prog 124 #[V5 C.mb,aV i] w (cF w C.mb U.rb RO K p c t used (.tuple #[]) (bC (aC p c) (s,r) q d).1):=by
 have h1:=h.box (CA (aI i) 40);have n1:=aF.new w 40 (aI i);have HB:=Z (Kept.af (RO:=RO) ((aY w.heap.size w).alloc (aL _) (CA (aI i) 40)) h.sep.dO);obtain⟨c0,c1,c2,c3,c4⟩:=cD n1;rw[ha]at c1;rw[iL]at c2;have HC:=Z (Cs h1 E hq he hj);have N1:=Z n1;clear h h1 n1 ha iL hj E;unfold aV;unfold aI at*;go_enter func124,ntmps124;go_wp2_with fail;refine HC.o.mono ?_;intro e w5 hd;obtain⟨rfl,RO',ho,fD,hk⟩:=hd.pre (RO:=RO) HB.o (λb X=>by simp[X]);have Dv:=Z (show cF w C.mb U.rb RO K p c t used (.tuple #[]) (bC (aC p c) (s,r) q d).1 (Vl (.tuple #[])) w5 from⟨rfl,RO',ho,fD,hk⟩);clear hd fD hk ho HC c0 c1 c2 c3 c4;exact Ct
def YB(h:cS w C U RO K p c t used hv jv s r)(i:Ins)(E:iT K p c s){q d:Nat}(ha:i.a=q)(iL:i.b=d)(hq:q<p.ax.length)(he:d<=1){x:eU}(hh:r.hand=O x)(hx:s.f x.key=MT)(hj:r.bz.length<1000000):
 Calls prog 125 #[V5 C.mb,aV i] w (cF w C.mb U.rb RO K p c t used (.tuple #[]) (dX (aC p c) (s,r) q d).1):=by
 have h1:=h.box (CA (aI i) 40);have n1:=aF.new w 40 (aI i);have HB:=Z (Kept.af (RO:=RO) ((aY w.heap.size w).alloc (aL _) (CA (aI i) 40)) h.sep.dO);obtain⟨c0,c1,c2,c3,c4⟩:=cD n1;rw[ha]at c1;rw[iL]at c2;have HC:=Z (tV h1 E hq he hh hx hj);have N1:=Z n1;clear h h1 n1 ha iL hj E hh hx;unfold aV;unfold aI at*;go_enter func125,ntmps125;go_wp2_with fail;refine HC.o.mono ?_;intro e w5 hd;obtain⟨rfl,RO',ho,fD,hk⟩:=hd.pre (RO:=RO) HB.o (λb X=>by simp[X]);have Dv:=Z (show cF w C.mb U.rb RO K p c t used (.tuple #[]) (dX (aC p c) (s,r) q d).1 (Vl (.tuple #[])) w5 from⟨rfl,RO',ho,fD,hk⟩);clear hd fD hk ho HC c0 c1 c2 c3 c4;exact Ct
def YC(h:cS w C U RO K p c t used hv jv s r)(i:Ins){y:eU}(hh:r.hand=O y)(hl:r.told.length<1000000):
 Calls prog 126 #[V5 C.mb,aV i] w (cF w C.mb U.rb RO K p c t used (.tuple #[]) (hZ (s,r))):=by
 have h1:=h.box (CA (aI i) 40);have n1:=aF.new w 40 (aI i);have HB:=Z (Kept.af (RO:=RO) ((aY w.heap.size w).alloc (aL _) (CA (aI i) 40)) h.sep.dO);obtain⟨c0,c1,c2,c3,c4⟩:=cD n1;have e0:hZ (s,r)=(s,{r with told:=r.told++[y.key]}):=by show(s,{r with told:=r.told++[(r.hand.getD eh).key]})=_;rw[show r.hand.getD eh=y by rw[hh];rfl]
 rw[e0];have HC:=Z (Cn h1 hh hl);have N1:=Z n1;clear h h1 n1 hh hl e0;unfold aV;unfold aI at*;go_enter func126,ntmps126;go_wp2_with fail;refine HC.o.mono ?_;intro e w5 hd;obtain⟨rfl,RO',ho,fD,hk⟩:=hd.pre (RO:=RO) HB.o (λb X=>by simp[X]);have Dv:=Z (show cF w C.mb U.rb RO K p c t used (.tuple #[]) (s,{r with told:=r.told++[y.key]}) (Vl (.tuple #[])) w5 from⟨rfl,RO',ho,fD,hk⟩);clear hd fD hk ho HC c0 c1 c2 c3 c4;exact Ct
def SU(h:cS w C U RO K p c t used hv jv s r)(i:Ins):
 Calls prog 127 #[V5 C.mb,aV i] w (cF w C.mb U.rb RO K p c t used (.tuple #[]) (il (s,r))):=by
 have h1:=h.box (CA (aI i) 40);have n1:=aF.new w 40 (aI i);have HB:=Z (Kept.af (RO:=RO) ((aY w.heap.size w).alloc (aL _) (CA (aI i) 40)) h.sep.dO);obtain⟨c0,c1,c2,c3,c4⟩:=cD n1;have HC:=Z (yK h1);have N1:=Z n1;clear h h1 n1;unfold aV;unfold aI at*;go_enter func127,ntmps127;go_wp2_with fail;refine HC.o.mono ?_;intro e w5 hd;obtain⟨rfl,RO',ho,fD,hk⟩:=hd.pre (RO:=RO) HB.o (λb X=>by simp[X]);have Dv:=Z (show cF w C.mb U.rb RO K p c t used (.tuple #[]) (il (s,r)) (Vl (.tuple #[])) w5 from⟨rfl,RO',ho,fD,hk⟩);clear hd fD hk ho HC c0 c1 c2 c3 c4;exact Ct
def SV{p:Prop}(h:p:=by
 go_wp2_with fail;refine HC.o.mono ?_;intro e w5 hd;obtain⟨rfl,RO',ho,fD,hk⟩:=hd.pre (RO:=RO) HB.o (λb X=>by simp[X]);have Dv:=Z (show cF w C.mb U.rb RO K p c t used (.tuple #[]) (s,r.gd 2) (Vl (.tuple #[])) w5 from⟨rfl,RO',ho,fD,hk⟩);clear hd fD hk ho HC c0 c1 c2 c3 c4;exact Ct):p:=h
def Ht(h:cS w C U RO K p c t used hv jv s r)(i:Ins){q d:Nat}(ha:i.a=q)(iL:i.b=d)(hq:q<p.ax.length)(he:d<=1)(bm:s.a.ls q=[]):
 Calls prog 131 #[V5 C.mb,aV i] w (cF w C.mb U.rb RO K p c t used (.tuple #[]) (s,r.gd 2)):=by
 have h1:=h.box (CA (aI i) 40);have n1:=aF.new w 40 (aI i);have HB:=Z (Kept.af (RO:=RO) ((aY w.heap.size w).alloc (aL _) (CA (aI i) 40)) h.sep.dO);obtain⟨c0,c1,c2,c3,c4⟩:=cD n1;rw[ha]at c1;rw[iL]at c2;have HC:=Z (lD (d:=d) h1 hq bm);have N1:=Z n1;clear h h1 n1 ha iL bm;unfold aV;unfold aI at*;go_enter func131,ntmps131;exact SV
def SX(h:cS w C U RO K p c t used hv jv s r)(i:Ins)(E:iT K p c s){q d:Nat}(ha:i.a=q)(iL:i.b=d)(hq:q<p.ax.length)(he:d<=1)(hj:r.bz.length<999990)(bm:s.a.ls q≠[]):
 Calls prog 131 #[V5 C.mb,aV i] w (cF w C.mb U.rb RO K p c t used (.tuple #[]) (il (kB (aC p c) s q d,{r.note (.put q d (s.a.val (cN s.a q d)))with hand:=O (s.a.val (cN s.a q d))}))):=by
 have h1:=h.box (CA (aI i) 40);have n1:=aF.new w 40 (aI i);have HB:=Z (Kept.af (RO:=RO) ((aY w.heap.size w).alloc (aL _) (CA (aI i) 40)) h.sep.dO);obtain⟨c0,c1,c2,c3,c4⟩:=cD n1;rw[ha]at c1;rw[iL]at c2;have HC:=Z (qR h1 E hq he bm G);have E2:iT K p c (kB (aC p c) s q d):=⟨kZ E.inv hq (gr bm),E.gM,E.nd,E.AY,E.g16,E.t4⟩;have uU:(kB (aC p c) s q d).f (s.a.val (cN s.a q d)).key=MT:=an _ _ _;have pX:=Z E2;have lF:=Z uU;have HJ:=Z hj;have N1:=Z n1;clear h h1 n1 ha iL hj E bm E2 uU;unfold aV;unfold aI at*;go_enter func131,ntmps131;go_wp2_with fail;generalize hy:s.a.val (cN s.a q d)=y at*;generalize hz:kB (aC p c) s q d=z at*;have HYZ:=Z (And.intro hy hz);clear hy hz;generalize gu:w.heap.size=bx at*;refine HC.o.mono ?_;rintro e w3 ⟨rfl,Gf,Cu,⟨C3,U3,Oz,jv3,uV,uW,A3⟩,l8⟩;obtain⟨i0,i1,i2,i3,i4⟩:=cD (i:=i) (aF.lA N1.o l8 ay);have hn:=yK A3;rw[uV,uW]at hn;have HN:=Z hn;have K3:=Z (HB.o.trans l8 (λb X=>by simp[X]));have OX:=Z (show∀b,b∈bx::RO->b∈Gf from Cu);clear HC A3 hn l8 Cu uV uW c0 c1 c2 c3 c4 i0 i1 i2 i3 i4;go_wp2_with fail;refine HN.o.mono ?_;intro e w5 hd;obtain⟨rfl,RO',ho,fD,hk⟩:=hd.pre (RO:=RO) K3.o (λb X=>OX.o b (by simp[X]));have Dv:=Z (show cF w C.mb U.rb RO K p c t used (.tuple #[]) (il (z,{r.note (.put q d (y))with hand:=O (y)})) (Vl (.tuple #[])) w5 from⟨rfl,RO',ho,fD,hk⟩);clear hd fD hk ho;exact Ct
def YD(h:cS w C U RO K p c t used hv jv s r)(i:Ins)(E:iT K p c s){q d:Nat}(ha:i.a=q)(iL:i.b=d)(hq:q<p.ax.length)(he:d<=1)(hj:r.bz.length<999990):
 Calls prog 131 #[V5 C.mb,aV i] w (cF w C.mb U.rb RO K p c t used (.tuple #[]) (vM (aC p c) i (s,r))):=by
 have Lv:N i.a=q:=by unfold N;rw[ha];rfl
 have YE:N i.b=d:=by unfold N;rw[iL];rfl
 unfold vM bC;dsimp only;rw[Lv,YE];by_cases bm:s.a.ls q=[]
 ·rw[aB bm];exact Ht h i ha iL hq he bm
 ·rw[aw bm];exact SX h i E ha iL hq he hj bm
def EQ(h:cS w C U RO K p c t used hv jv s r)(i:Ins){q d:Nat}(ha:i.a=q)(iL:i.b=d)(hq:q<p.ax.length)(he:d<=1)(bm:s.a.ls q=[]):
 Calls prog 128 #[V5 C.mb,aV i] w (cF w C.mb U.rb RO K p c t used (.tuple #[]) (s,r.gd 2)):=by
 have h1:=h.box (CA (aI i) 40);have n1:=aF.new w 40 (aI i);have HB:=Z (Kept.af (RO:=RO) ((aY w.heap.size w).alloc (aL _) (CA (aI i) 40)) h.sep.dO);obtain⟨c0,c1,c2,c3,c4⟩:=cD n1;rw[ha]at c1;rw[iL]at c2;have HC:=Z (lD (d:=d) h1 hq bm);have N1:=Z n1;clear h h1 n1 ha iL bm;unfold aV;unfold aI at*;go_enter func128,ntmps128;exact SV
def OY(h:cS w C U RO K p c t used hv jv s r)(i:Ins)(E:iT K p c s){q d:Nat}(ha:i.a=q)(iL:i.b=d)(hq:q<p.ax.length)(he:d<=1){q2 d2:Nat}(mZ:i.c=q2)(mI:i.d=d2)(nH:q2<p.ax.length)(Na:d2<=1)(hj:r.bz.length<999990)(bm:s.a.ls q≠[]):
 Calls prog 128 #[V5 C.mb,aV i] w (cF w C.mb U.rb RO K p c t used (.tuple #[]) (dX (aC p c) (kB (aC p c) s q d,{r.note (.put q d (s.a.val (cN s.a q d)))with hand:=O (s.a.val (cN s.a q d))}) q2 d2).1):=by
 have h1:=h.box (CA (aI i) 40);have n1:=aF.new w 40 (aI i);have HB:=Z (Kept.af (RO:=RO) ((aY w.heap.size w).alloc (aL _) (CA (aI i) 40)) h.sep.dO);obtain⟨c0,c1,c2,c3,c4⟩:=cD n1;rw[ha]at c1;rw[iL]at c2;rw[mZ]at c3;rw[mI]at c4;have HC:=Z (qR h1 E hq he bm G);have E2:iT K p c (kB (aC p c) s q d):=⟨kZ E.inv hq (gr bm),E.gM,E.nd,E.AY,E.g16,E.t4⟩;have uU:(kB (aC p c) s q d).f (s.a.val (cN s.a q d)).key=MT:=an _ _ _;have pX:=Z E2;have lF:=Z uU;have HJ:=Z hj;have N1:=Z n1;have SY:=Z mZ;have SZ:=Z mI;clear h h1 n1 ha iL hj E bm E2 uU mZ mI;unfold aV;unfold aI at*;go_enter func128,ntmps128;go_wp2_with fail;generalize hy:s.a.val (cN s.a q d)=y at*;generalize hz:kB (aC p c) s q d=z at*;have HYZ:=Z (And.intro hy hz);clear hy hz;generalize gu:w.heap.size=bx at*;refine HC.o.mono ?_;rintro e w3 ⟨rfl,Gf,Cu,⟨C3,U3,Oz,jv3,uV,uW,A3⟩,l8⟩;obtain⟨i0,i1,i2,i3,i4⟩:=cD (i:=i) (aF.lA N1.o l8 ay);rw[SY.o]at i3;rw[SZ.o]at i4;have hn:=tV A3 pX.o nH Na (x:=y) rfl lF.o (by have:=HJ.o;simp[Rn.note];omega);rw[uV,uW]at hn;have HN:=Z hn;have K3:=Z (HB.o.trans l8 (λb X=>by simp[X]));have OX:=Z (show∀b,b∈bx::RO->b∈Gf from Cu);clear HC A3 hn l8 Cu uV uW c0 c1 c2 c3 c4 i0 i1 i2;go_wp2_with fail;refine HN.o.mono ?_;intro e w5 hd;obtain⟨rfl,RO',ho,fD,hk⟩:=hd.pre (RO:=RO) K3.o (λb X=>OX.o b (by simp[X]));have Dv:=Z (show cF w C.mb U.rb RO K p c t used (.tuple #[]) (dX (aC p c) (z,{r.note (.put q d (y))with hand:=O (y)}) q2 d2).1 (Vl (.tuple #[])) w5 from⟨rfl,RO',ho,fD,hk⟩);clear hd fD hk ho;exact Ct
def S2(h:cS w C U RO K p c t used hv jv s r)(i:Ins)(E:iT K p c s){q d:Nat}(ha:i.a=q)(iL:i.b=d)(hq:q<p.ax.length)(he:d<=1){q2 d2:Nat}(mZ:i.c=q2)(mI:i.d=d2)(nH:q2<p.ax.length)(Na:d2<=1)(hj:r.bz.length<999990):
 Calls prog 128 #[V5 C.mb,aV i] w (cF w C.mb U.rb RO K p c t used (.tuple #[]) (qD (aC p c) i (s,r))):=by
 have Lv:N i.a=q:=by unfold N;rw[ha];rfl
 have YE:N i.b=d:=by unfold N;rw[iL];rfl
 have hNc:N i.c=q2:=by unfold N;rw[mZ];rfl
 have hNd:N i.d=d2:=by unfold N;rw[mI];rfl
 unfold qD bC;dsimp only;rw[Lv,YE,hNc,hNd];by_cases bm:s.a.ls q=[]
 ·rw[aB bm];exact EQ h i ha iL hq he bm
 ·rw[aw bm];exact OY h i E ha iL hq he mZ mI nH Na hj bm
def ER(h:cS w C U RO K p c t used hv jv s r)(i:Ins){q d:Nat}(ha:i.a=q)(iL:i.b=d)(hq:q<p.ax.length)(he:d<=1)(bm:s.a.ls q=[]):
 Calls prog 130 #[V5 C.mb,aV i] w (cF w C.mb U.rb RO K p c t used (.tuple #[]) (s,r.gd 2)):=by
 have h1:=h.box (CA (aI i) 40);have n1:=aF.new w 40 (aI i);have HB:=Z (Kept.af (RO:=RO) ((aY w.heap.size w).alloc (aL _) (CA (aI i) 40)) h.sep.dO);obtain⟨c0,c1,c2,c3,c4⟩:=cD n1;rw[ha]at c1;rw[iL]at c2;have HC:=Z (lD (d:=d) h1 hq bm);have N1:=Z n1;clear h h1 n1 ha iL bm;unfold aV;unfold aI at*;go_enter func130,ntmps130;exact SV
def OZ(h:cS w C U RO K p c t used hv jv s r)(i:Ins)(E:iT K p c s){q d:Nat}(ha:i.a=q)(iL:i.b=d)(hq:q<p.ax.length)(he:d<=1)(hj:r.bz.length<999990)(hl:r.told.length<1000000)(bm:s.a.ls q≠[]):
 Calls prog 130 #[V5 C.mb,aV i] w (cF w C.mb U.rb RO K p c t used (.tuple #[]) (il (hZ (kB (aC p c) s q d,{r.note (.put q d (s.a.val (cN s.a q d)))with hand:=O (s.a.val (cN s.a q d))})))):=by
 have h1:=h.box (CA (aI i) 40);have n1:=aF.new w 40 (aI i);have HB:=Z (Kept.af (RO:=RO) ((aY w.heap.size w).alloc (aL _) (CA (aI i) 40)) h.sep.dO);obtain⟨c0,c1,c2,c3,c4⟩:=cD n1;rw[ha]at c1;rw[iL]at c2;have HC:=Z (qR h1 E hq he bm G);have E2:iT K p c (kB (aC p c) s q d):=⟨kZ E.inv hq (gr bm),E.gM,E.nd,E.AY,E.g16,E.t4⟩;have uU:(kB (aC p c) s q d).f (s.a.val (cN s.a q d)).key=MT:=an _ _ _;have pX:=Z E2;have lF:=Z uU;have HJ:=Z hj;have HL:=Z hl;have N1:=Z n1;clear h h1 n1 ha iL hj E bm E2 uU hl;unfold aV;unfold aI at*;go_enter func130,ntmps130;go_wp2_with fail;generalize hy:s.a.val (cN s.a q d)=y at*;generalize hz:kB (aC p c) s q d=z at*;have HYZ:=Z (And.intro hy hz);clear hy hz;generalize gu:w.heap.size=bx at*;refine HC.o.mono ?_;rintro e w3 ⟨rfl,Gf,Cu,⟨C3,U3,Oz,jv3,uV,uW,A3⟩,l8⟩;obtain⟨i0,i1,i2,i3,i4⟩:=cD (i:=i) (aF.lA N1.o l8 ay);have hn:=Cn A3 (y:=y) rfl HL.o;rw[uV,uW]at hn;have Dw:=Z l8;have HN:=Z hn;have K3:=Z (HB.o.trans l8 (λb X=>by simp[X]));have OX:=Z (show∀b,b∈bx::RO->b∈Gf from Cu);clear HC A3 hn l8 Cu uV uW c0 c1 c2 c3 c4;go_wp2_with fail;refine HN.o.mono ?_;rintro e w4 ⟨rfl,OD,Jv,⟨C4,U4,hv4,jv4,wH,BY,A4⟩,Dp⟩;have b4:=aF.lA (aF.lA N1.o (show Kept (bx::RO) _ w3 from Dw.o) ay) Dp (OX.o bx ay);obtain⟨g0,g1,g2,g3,g4⟩:=cD (i:=i) b4;have Cv:=yK A4;rw[wH,BY]at Cv;have Hu:=Z Cv;have K4:=Z (K3.o.trans Dp (λb X=>OX.o b (by simp[X])));have Yi:=Z (show∀b,b∈RO->b∈OD from λb X=>Jv b (OX.o b (by simp[X])));clear HN A4 Cv Dp Jv wH BY b4 i0 i1 i2 i3 i4 g0 g1 g2;go_wp2_with fail;refine Hu.o.mono ?_;intro e w5 hd;obtain⟨rfl,RO',ho,fD,hk⟩:=hd.pre (RO:=RO) K4.o Yi.o;have Dv:=Z (show cF w C.mb U.rb RO K p c t used (.tuple #[]) (il (hZ (z,{r.note (.put q d (y))with hand:=O (y)}))) (Vl (.tuple #[])) w5 from⟨rfl,RO',ho,fD,hk⟩);clear hd fD hk ho;exact Ct
def S3(h:cS w C U RO K p c t used hv jv s r)(i:Ins)(E:iT K p c s){q d:Nat}(ha:i.a=q)(iL:i.b=d)(hq:q<p.ax.length)(he:d<=1)(hj:r.bz.length<999990)(hl:r.told.length<1000000):
 Calls prog 130 #[V5 C.mb,aV i] w (cF w C.mb U.rb RO K p c t used (.tuple #[]) (qF (aC p c) i (s,r))):=by
 have Lv:N i.a=q:=by unfold N;rw[ha];rfl
 have YE:N i.b=d:=by unfold N;rw[iL];rfl
 unfold qF bC;dsimp only;rw[Lv,YE];by_cases bm:s.a.ls q=[]
 ·rw[aB bm];exact ER h i ha iL hq he bm
 ·rw[aw bm];exact OZ h i E ha iL hq he hj hl bm
def ES(h:cS w C U RO K p c t used hv jv s r)(i:Ins){q d:Nat}(ha:i.a=q)(iL:i.b=d)(hq:q<p.ax.length)(he:d<=1)(bm:s.a.ls q=[]):
 Calls prog 129 #[V5 C.mb,aV i] w (cF w C.mb U.rb RO K p c t used (.tuple #[]) (s,r.gd 2)):=by
 have h1:=h.box (CA (aI i) 40);have n1:=aF.new w 40 (aI i);have HB:=Z (Kept.af (RO:=RO) ((aY w.heap.size w).alloc (aL _) (CA (aI i) 40)) h.sep.dO);obtain⟨c0,c1,c2,c3,c4⟩:=cD n1;rw[ha]at c1;rw[iL]at c2;have HC:=Z (lD (d:=d) h1 hq bm);have N1:=Z n1;clear h h1 n1 ha iL bm;unfold aV;unfold aI at*;go_enter func129,ntmps129;exact SV
def O0(h:cS w C U RO K p c t used hv jv s r)(i:Ins)(E:iT K p c s){q d:Nat}(ha:i.a=q)(iL:i.b=d)(hq:q<p.ax.length)(he:d<=1){q2 d2:Nat}(mZ:i.c=q2)(mI:i.d=d2)(nH:q2<p.ax.length)(Na:d2<=1)(hj:r.bz.length<999990)(hl:r.told.length<1000000)(bm:s.a.ls q≠[]):
 Calls prog 129 #[V5 C.mb,aV i] w (cF w C.mb U.rb RO K p c t used (.tuple #[]) (dX (aC p c) (hZ (kB (aC p c) s q d,{r.note (.put q d (s.a.val (cN s.a q d)))with hand:=O (s.a.val (cN s.a q d))})) q2 d2).1):=by
 have h1:=h.box (CA (aI i) 40);have n1:=aF.new w 40 (aI i);have HB:=Z (Kept.af (RO:=RO) ((aY w.heap.size w).alloc (aL _) (CA (aI i) 40)) h.sep.dO);obtain⟨c0,c1,c2,c3,c4⟩:=cD n1;rw[ha]at c1;rw[iL]at c2;rw[mZ]at c3;rw[mI]at c4;have HC:=Z (qR h1 E hq he bm G);have E2:iT K p c (kB (aC p c) s q d):=⟨kZ E.inv hq (gr bm),E.gM,E.nd,E.AY,E.g16,E.t4⟩;have uU:(kB (aC p c) s q d).f (s.a.val (cN s.a q d)).key=MT:=an _ _ _;have pX:=Z E2;have lF:=Z uU;have HJ:=Z hj;have HL:=Z hl;have N1:=Z n1;have SY:=Z mZ;have SZ:=Z mI;clear h h1 n1 ha iL hj E bm E2 uU mZ mI hl;unfold aV;unfold aI at*;go_enter func129,ntmps129;go_wp2_with fail;generalize hy:s.a.val (cN s.a q d)=y at*;generalize hz:kB (aC p c) s q d=z at*;have HYZ:=Z (And.intro hy hz);clear hy hz;generalize gu:w.heap.size=bx at*;refine HC.o.mono ?_;rintro e w3 ⟨rfl,Gf,Cu,⟨C3,U3,Oz,jv3,uV,uW,A3⟩,l8⟩;obtain⟨i0,i1,i2,i3,i4⟩:=cD (i:=i) (aF.lA N1.o l8 ay);rw[SY.o]at i3;rw[SZ.o]at i4;have hn:=Cn A3 (y:=y) rfl HL.o;rw[uV,uW]at hn;have Dw:=Z l8;have HN:=Z hn;have K3:=Z (HB.o.trans l8 (λb X=>by simp[X]));have OX:=Z (show∀b,b∈bx::RO->b∈Gf from Cu);clear HC A3 hn l8 Cu uV uW c0 c1 c2 c3 c4;go_wp2_with fail;refine HN.o.mono ?_;rintro e w4 ⟨rfl,OD,Jv,⟨C4,U4,hv4,jv4,wH,BY,A4⟩,Dp⟩;have b4:=aF.lA (aF.lA N1.o (show Kept (bx::RO) _ w3 from Dw.o) ay) Dp (OX.o bx ay);obtain⟨g0,g1,g2,g3,g4⟩:=cD (i:=i) b4;rw[SY.o]at g3;rw[SZ.o]at g4;have Cv:=tV A4 pX.o nH Na (x:=y) rfl lF.o (by have:=HJ.o;simp[Rn.note];omega);rw[wH,BY]at Cv;have Hu:=Z Cv;have K4:=Z (K3.o.trans Dp (λb X=>OX.o b (by simp[X])));have Yi:=Z (show∀b,b∈RO->b∈OD from λb X=>Jv b (OX.o b (by simp[X])));clear HN A4 Cv Dp Jv wH BY b4 i0 i1 i2 i3 i4 g0 g1 g2;go_wp2_with fail;refine Hu.o.mono ?_;intro e w5 hd;obtain⟨rfl,RO',ho,fD,hk⟩:=hd.pre (RO:=RO) K4.o Yi.o;have Dv:=Z (show cF w C.mb U.rb RO K p c t used (.tuple #[]) (dX (aC p c) (hZ (z,{r.note (.put q d (y))with hand:=O (y)})) q2 d2).1 (Vl (.tuple #[])) w5 from⟨rfl,RO',ho,fD,hk⟩);clear hd fD hk ho;exact Ct
def S4(h:cS w C U RO K p c t used hv jv s r)(i:Ins)(E:iT K p c s){q d:Nat}(ha:i.a=q)(iL:i.b=d)(hq:q<p.ax.length)(he:d<=1){q2 d2:Nat}(mZ:i.c=q2)(mI:i.d=d2)(nH:q2<p.ax.length)(Na:d2<=1)(hj:r.bz.length<999990)(hl:r.told.length<1000000):
 Calls prog 129 #[V5 C.mb,aV i] w (cF w C.mb U.rb RO K p c t used (.tuple #[]) (qE (aC p c) i (s,r))):=by
 have Lv:N i.a=q:=by unfold N;rw[ha];rfl
 have YE:N i.b=d:=by unfold N;rw[iL];rfl
 have hNc:N i.c=q2:=by unfold N;rw[mZ];rfl
 have hNd:N i.d=d2:=by unfold N;rw[mI];rfl
 unfold qE bC;dsimp only;rw[Lv,YE,hNc,hNd];by_cases bm:s.a.ls q=[]
 ·rw[aB bm];exact ES h i ha iL hq he bm
 ·rw[aw bm];exact O0 h i E ha iL hq he mZ mI nH Na hj hl bm
def LQ(h:cS w C U RO K p c t used hv jv s r)(E:iT K p c s)(i:Ins){n q q2 d:Nat}(ha:i.a=q2)(iL:i.b=d)(nH:q2<p.ax.length)(he:d<=1)(hf:s.f r.key=O n)(hq:q<p.ax.length)(hn:n∈s.a.ls q)(hj:r.bz.length<999990):
 Calls prog 122 #[V5 C.mb,aV i] w (cF w C.mb U.rb RO K p c t used (.tuple #[]) (iZ (aC p c) (uJ (aC p c) (s,r) n q) q2 d (s.a.val n)).1):=by
 have h1:=h.box (CA (aI i) 40);have n1:=aF.new w 40 (aI i);have HN:=Z (mL h1 hf hq hn);have HB:=Z ((aY w.heap.size w).alloc (aL _) (CA (aI i) 40));have dE:=Z h.sep.dO;have Hs:=Z (λm=>Wd ((h1.drewN m).drewN 1) E hq hn G);obtain⟨c0,c1,c2,c3,c4⟩:=cD n1;rw[ha]at c1;rw[iL]at c2;have E2:iT K p c (gB (aC p c) s q n):=⟨kZ E.inv hq hn,E.gM,E.nd,E.AY,E.g16,E.t4⟩;have uU:(gB (aC p c) s q n).f (s.a.val n).key=MT:=an _ _ _;have pX:=Z E2;have lF:=Z uU;have HJ:=Z hj;have N1:=Z n1;have HX:=Z (And.intro ha iL);have hO:uJ (aC p c) (s,r) n q=(gB (aC p c) s q n,r.note (.out q (s.a.val n) (cy (s.a.ls q) n))):=rfl;rw[hO]at Hs;rw[hO];clear h h1 n1 hf hn E E2 uU hj ha iL hO;generalize hy:s.a.val n=y at*;generalize hz:gB (aC p c) s q n=z at*;generalize hu:r.note (.out q y (cy (s.a.ls q) n))=r2 at*;have HYZ:=Z (And.intro hy (And.intro hz hu));clear hy hz hu;unfold aV;unfold aI at*;unfold bL at Hs;go_enter func122,ntmps122;go_wp2_with fail;generalize w.alloc (CA #[Y i.op,Y i.a,Y i.b,Y i.c,Y i.d] 40)=w1 at*;generalize gu:w.heap.size=bx at*;refine HN.o.mono ?_;rintro e w' ⟨rfl,m,rfl⟩;have yL:=Z (Hs.o m);have d1:(w1.drewN m).cell? (I bx 1)=O (Y q2):=c1;have d2:(w1.drewN m).cell? (I bx 2)=O (Y d):=c2;have M1:=Z ((N1.o.drewN m).drewN 1);have HK:=Z (Kept.af (RO:=RO) (w:=w) (w':=(w1.drewN m).drewN 1) (by rw[gu];exact(HB.o.trans (az bx w1 m)).trans (az bx (w1.drewN m) 1)) (by rw[gu];exact dE.o));clear HN c0 c1 c2 c3 c4 Hs N1;generalize w1.drewN m=w2 at*;have C1:Hid (Calls prog 219 #[V5 C.mb,Y n,Y q] (w2.drewN 1) λe w3=>e=Vl (.agg #[.int .u64 y.key,Y (y.tg 0),Y (y.tg 1),Y (y.tg 2),Y (y.tg 3)])/\(Vo w3 (I bx 1)=O (Y q2)/\Vo w3 (I bx 2)=O (Y d))/\
  Hid (∃Gf,(∀b,b∈bx::RO->b∈Gf)/\In w3 C.mb U.rb Gf K p c t used (z,r2)/\Kept (bx::RO) (w2.drewN 1) w3)):=by
  refine Z (yL.o.mono ?_);rintro e w3 ⟨rfl,Gf,Cu,U0,l8⟩;have b3:=aF.lA M1.o l8 ay;have hHX:=HX.o;exact⟨rfl,⟨(b3.cell 1).trans (by rw[<-hHX.1];rfl),(b3.cell 2).trans (by rw[<-hHX.2];rfl)⟩,Z ⟨Gf,Cu,U0,l8⟩⟩
 have C2:Hid (∀w3,(∃Gf,(∀b,b∈bx::RO->b∈Gf)/\In w3 C.mb U.rb Gf K p c t used (z,r2)/\Kept (bx::RO) (w2.drewN 1) w3)->Calls prog 218 #[V5 C.mb,Y q2,Y d,.agg #[.int .u64 y.key,Y (y.tg 0),Y (y.tg 1),Y (y.tg 2),Y (y.tg 3)]] w3 λe w4=>(∃b,e=Vl (.bool b))/\(Vo w4 (I bx 1)=O (Y q2)/\Vo w4 (I bx 2)=O (Y d))/\
  Hid (cF w C.mb U.rb RO K p c t used (.tuple #[]) (iZ (aC p c) (z,r2) q2 d y).1 (Vl (.tuple #[])) w4)):=by
  refine Z ?_;rintro w3 ⟨Gf,Cu,⟨C3,U3,Oz,jv3,uV,uW,A3⟩,l8⟩;have hn:=OV A3 pX.o nH he y lF.o (by have:=HJ.o;have e:=HYZ.o.2.2;rw[<-e];simp[Rn.note];omega);rw[uV,uW]at hn;refine hn.mono ?_;rintro e w4 ⟨rfl,OD,Jv,C0,Dp⟩;have b4:=aF.lA (aF.lA M1.o l8 ay) Dp (Cu bx ay);have hHX:=HX.o;exact⟨⟨_,rfl⟩,⟨(b4.cell 1).trans (by rw[<-hHX.1];rfl),(b4.cell 2).trans (by rw[<-hHX.2];rfl)⟩,Z ⟨rfl,OD,λb X=>Jv b (Cu b (by simp[X])),C0,(HK.o.trans l8 (λb X=>by simp[X])).trans Dp (λb X=>Cu b (by simp[X]))⟩⟩
 clear yL;go_wp2
 go_region_held3 (λwx=>Vo wx (I bx 1)=O (Y q2)/\Vo wx (I bx 2)=O (Y d)) (first|exact⟨d1,d2⟩|assumption) (first|(go_at_call 219;refine C1.o.mono ?_;rintro e w3 ⟨rfl,ET,Rz⟩)|(go_at_call 218;refine(C2.o _ Rz.o).mono ?_;rintro e w4 ⟨⟨b,rfl⟩,Wi,hQ4⟩))
 clear ET Wi;go_wp2;exact bK (dV rfl _ _ _) rfl hQ4.o
end
end Go.Ma
section
def qX1{p:Prop}(h:p:=by
 have b2:bx<w3.heap.size:=HE3.o.lt;have Wk:=Z (λv=>mY (Eo.o.box (CA #[.int .u64 x.key,Y (x.tg 0),Y (x.tg 1),Y (x.tg 2),Y (x.tg 3)] 118)) v hl);have LR:=iy.o.trans ((aY w2.heap.size w3).alloc iy.o.size (CA #[.int .u64 x.key,Y (x.tg 0),Y (x.tg 1),Y (x.tg 2),Y (x.tg 3)] 118));have Hb:=Z (HK.o.trans (Kept.af LR HA.o.sep.dO) (λb X=>by simp[X]));clear Eo iy HE3 LR HA LS HK zT;obtain rfl|rfl|rfl|rfl:k=0\/k=1\/k=2\/k=3:=G
 all_goals
  go_wp2_with fail;refine(Wk.o _).mono ?_;intro e w' hd;obtain⟨rfl,mI⟩:=hd.pre (RO:=RO) Hb.o (λb X=>by simp[X]);go_wp2;exact bK (dV rfl _ _ _) rfl ⟨rfl,mI⟩):p:=h
namespace Go.Ma
open Go.RowKit aj.Vm
open aj hiding aR an ak
open eB (bS bL)
open Ix (cX)
section
variable {w w':ek}{C:Co}{U U':Ru}{RO RO':List Nat}{K:Kc}{p:aQ}{c:Cp}{t:dZ}{used:Int}{hv hv':to}{jv kT:Nat->to}{s:St}{r r':Rn}{mb rb:Nat}
def LU(h:cS w C U RO K p c t used hv jv s r)(i:Ins){n q:Nat}(hf:s.f r.key=O n)(hq:q<p.ax.length)(hn:n∈s.a.ls q){k:Nat}(hk:i.a=k)(Dp:k<4)(hl:r.stack.length<1000000):
 Calls prog 109 #[V5 C.mb,aV i] w (cF w C.mb U.rb RO K p c t used (.tuple #[]) (s,r.push ((s.a.val n).tg k))):=by
 have H0:=h.box (CA (aI i) 40);have HB:=Z ((aY w.heap.size w).alloc (aL _) (CA (aI i) 40));have HN:=Z (yI H0 hf hq hn);have kE:=Z (aF.new w 40 (aI i));have HH:=Z (λm=>H0.drewN m);have zT:=Z hk;have dE:=Z h.sep.dO;have tW:=Z hn;clear h H0 hk hf hn;unfold aV;unfold aI at*;go_enter func109,ntmps109;go_wp2_with fail;refine HN.o.mono ?_;rintro e w' ⟨rfl,m,rfl⟩;have e1:aF ((w.alloc (CA #[Y i.op,Y i.a,Y i.b,Y i.c,Y i.d] 40)).drewN m) w.heap.size 40 #[Y i.op,Y k,Y i.b,Y i.c,Y i.d]:=by rw[<-zT.o];exact kE.o
 have LS:=Z e1;have HA:=Z (HH.o m);have HK:=Z (Kept.af (RO:=RO) (HB.o.trans (az _ _ m)) dE.o);clear HN HB kE HH e1;generalize(w.alloc (CA #[Y i.op,Y i.a,Y i.b,Y i.c,Y i.d] 40)).drewN m=w2 at*;generalize w.heap.size=bx at*;have m9:Vo w2 (I C.mb 9)=O (V5 C.ab):=HA.o.m.bg.cell 9;have HGT:=Z (eB.Oi HA.o.m.ar hq tW.o);go_wp2_with fail;refine HGT.o.mono ?_;rintro e w3 ⟨rfl,X⟩;have Eo:=Z (HA.o.later X);have iy:=Z X;have HE3:=Z (LS.o.aG (aA.af (S:=[]) X) ay);clear m9 HGT X;generalize s.a.val n=x at*;unfold bL;have b1:Vo w3 (I bx 1)=O (Y k):=HE3.o.cell 1;exact qX1
end
end Go.Ma
end
namespace Go.Ma
open Go.RowKit aj.Vm
open aj hiding aR an ak
open eB (bS bL)
open Ix (cX)
section
variable {w w':ek}{C:Co}{U U':Ru}{RO RO':List Nat}{K:Kc}{p:aQ}{c:Cp}{t:dZ}{used:Int}{hv hv':to}{jv kT:Nat->to}{s:St}{r r':Rn}{mb rb:Nat}
def EW(h:cS w C U RO K p c t used hv jv s r)(i:Ins){q d:Nat}(ha:i.a=q)(iL:i.b=d)(hq:q<p.ax.length)(he:d<=1)(bm:s.a.ls q≠[]){k:Nat}(hk:i.c=k)(Dp:k<4)(hl:r.stack.length<1000000):
 Calls prog 110 #[V5 C.mb,aV i] w (cF w C.mb U.rb RO K p c t used (.tuple #[]) (s,r.push ((s.a.val (cN s.a q d)).tg k))):=by
 have H0:=h.box (CA (aI i) 40);have HB:=Z ((aY w.heap.size w).alloc (aL _) (CA (aI i) 40));have HN:=Z (tT H0 hq he bm);have kE:=Z (aF.new w 40 (aI i));have HH:=Z (λm=>H0.drewN m);have zT:=Z hk;have dE:=Z h.sep.dO;have tW:=Z (gr (e:=d) bm);have g1:(w.alloc (CA (aI i) 40)).cell? (I w.heap.size 1)=O (Y q):=by rw[<-ha];exact(aF.new w 40 (aI i)).cell 1
 have g2:(w.alloc (CA (aI i) 40)).cell? (I w.heap.size 2)=O (Y d):=by rw[<-iL];exact(aF.new w 40 (aI i)).cell 2
 clear h H0 hk ha iL bm;unfold aV;unfold aI at*;generalize NE:cN s.a q d=n at*;go_enter func110,ntmps110;go_wp2_with fail;refine HN.o.mono ?_;rintro e w' ⟨rfl,m,rfl⟩;have e1:aF ((w.alloc (CA #[Y i.op,Y i.a,Y i.b,Y i.c,Y i.d] 40)).drewN m) w.heap.size 40 #[Y i.op,Y i.a,Y i.b,Y k,Y i.d]:=by rw[<-zT.o];exact kE.o
 have LS:=Z e1;have HA:=Z (HH.o m);have HK:=Z (Kept.af (RO:=RO) (HB.o.trans (az _ _ m)) dE.o);clear HN HB kE HH e1 g1 g2;generalize(w.alloc (CA #[Y i.op,Y i.a,Y i.b,Y i.c,Y i.d] 40)).drewN m=w2 at*;generalize w.heap.size=bx at*;have m9:Vo w2 (I C.mb 9)=O (V5 C.ab):=HA.o.m.bg.cell 9;have HGT:=Z (eB.Oi HA.o.m.ar hq tW.o);go_wp2_with fail;refine HGT.o.mono ?_;rintro e w3 ⟨rfl,X⟩;have Eo:=Z (HA.o.later X);have iy:=Z X;have HE3:=Z (LS.o.aG (aA.af (S:=[]) X) ay);clear m9 HGT X;generalize s.a.val n=x at*;unfold bL;have b1:Vo w3 (I bx 3)=O (Y k):=HE3.o.cell 3;exact qX1
end
open eB (eN)
def EY:Nat->FuncId
 |0=>101
 |1=>102
 |2=>102
 |3=>103
 |4=>104
 |5=>105
 |6=>106
 |7=>107
 |8=>108
 |9=>109
 |10=>110
 |11=>111
 |12=>111
 |13=>112
 |14=>112
 |15=>111
 |16=>111
 |17=>111
 |18=>111
 |19=>111
 |20=>111
 |21=>111
 |22=>113
 |23=>114
 |24=>115
 |25=>116
 |26=>117
 |27=>113
 |28=>118
 |29=>119
 |30=>120
 |31=>121
 |32=>122
 |33=>123
 |34=>124
 |35=>125
 |36=>126
 |37=>127
 |38=>128
 |39=>129
 |40=>130
 |_=>131
section
variable {w w':ek}{C C':Co}{U U':Ru}{RO RO':List Nat}{K:Kc}{p:aQ}{c:Cp}{t:dZ}{used:Int}{hv hv':to}{jv kT:Nat->to}{s s' s0:St}{r r':Rn}{rv:to}{mb rb:Nat}{T:Map}{st:Std}
def Z2(a0e:gz p T r st){x:Nat}(h1:b_ (al p r.at_).op.toNat=[x]):∃n rest,r.stack=n::rest/\-1073741824<=n/\n<=1073741824:=by obtain⟨_,_,hf,_⟩:=lC a0e.ke.taken;rw[h1]at hf;obtain⟨n,st',t',Yn,e1,e2,hv,pk,_,_⟩:=a0e.stack.yu hf;exact⟨n,st',e1,hv.in.1,hv.in.2⟩
def Z1(a0e:gz p T r st){x y:Nat}(h1:b_ (al p r.at_).op.toNat=[x,y]):∃b a rest,r.stack=b::a::rest/\(-1073741824<=a/\a<=1073741824)/\(-1073741824<=b/\b<=1073741824):=by obtain⟨_,_,hf,_⟩:=lC a0e.ke.taken;rw[h1]at hf;obtain⟨n,st1,t1,ty1,e1,e2,hv,pk,MX,_⟩:=a0e.stack.yu hf;obtain⟨m,st2,t2,Yp,e3,e4,Rj,UD,_,_⟩:=pk.yu MX;exact⟨n,m,st2,by rw[e1,e3],Rj.in,hv.in⟩
def YJ(V:Env p c T)(a0e:gz p T r st)(h:(al p r.at_).op=25\/(al p r.at_).op=26):∃m rest,r.loops=m::rest/\-1073741824<=m/\m<=1073741824:=by
 have Cm:0<r.loops.length:=by
  rw[a0e.loops];rcases h with h|h
  ·rw[aB h];omega
  ·have hj:=a0e.ke.jumps;rw[aw G];cases jo:st.lo with
   |nil=>exfalso;rw[jo]at hj;unfold cP at hj;simp[h]at hj
   |cons a l=>simp
 cases hr:r.loops with
 |nil=>rw[hr]at Cm;simp at Cm
 |cons m rest=>have:=a0e.lin m (by rw[hr];simp);exact⟨m,rest,rfl,G,G⟩
def Z0(a0e:gz p T r st)(h:fo p (al p r.at_) st.ha=true->st.ha≠0):∃x,r.hand=O x:=by
 have h1:=h a0e.ke.l_;cases hr:r.hand with
 |none=>exact absurd (a0e.hand.2 hr) h1
 |some x=>exact⟨x,rfl⟩
structure JJ(r:Rn):Prop where
 stack:r.stack.length<900000
 loops:r.loops.length<900000
 told:r.told.length<900000
 bz:r.bz.length<900000
def Cx{p:Prop}(h:p:=by
 obtain⟨b,a,rest,e1,ha,X⟩:=Sh _ _ (by rw[dW];rfl);have hl:rest.length<999999:=by rw[e1]at q1;simp at q1;omega
 have:=U8 h i G (a:=a) (b:=b) (rest:=rest) e1 hl ha X;rw[show(s,cw r).2.iX=b by show r.stack.headD 0=b;rw[e1];rfl,show(s,cw r).2.pop.iX=a by show r.stack.tail.headD 0=a;rw[e1];rfl];exact this):p:=h
def YK(h:cS w C U RO K p c t used hv jv s (cw r))(E:iT K p c s)(V:Env p c T)(a0e:gz p T r st)(a0g:fJ (aC p c) p.vars.length s0 (s,r))(Q:JJ r):
 Calls prog (EY (al p r.at_).op.toNat) #[V5 C.mb,aV (al p r.at_)] w (cF w C.mb U.rb RO K p c t used (.tuple #[]) (aJ p c (al p r.at_) (s,cw r))):=by
 have ho:=(oV V a0e).1;unfold jH aO at ho;simp only[fp,ft]at ho;obtain⟨YL,RD⟩:=ho;have hF:=λk hk=>eO V a0e (k:=k) hk;have q1:=Q.stack;have q2:=Q.loops;have q3:=Q.told;have q4:=Q.bz;have ht:=(cE V.check).1;have Ia:=λx hx=>Z2 a0e (x:=x) hx;have Sh:=λx y hx=>Z1 a0e (x:=x) (y:=y) hx;have EB:=λhx=>YJ V a0e hx;have hhd:=λhx=>Z0 a0e hx;generalize al p r.at_=i at*;obtain⟨z,dW⟩:∃z,i.op=z:=⟨_,rfl⟩;rw[dW]at YL RD;have hc:z=0\/z=1\/z=2\/z=3\/z=4\/z=5\/z=6\/z=7\/z=8\/z=9\/z=10\/z=11\/z=12\/z=13\/z=14\/z=15\/z=16\/z=17\/z=18\/z=19\/z=20\/z=21\/z=22\/z=23\/z=24\/z=25\/z=26\/z=27\/z=28\/z=29\/z=30\/z=31\/z=32\/z=33\/z=34\/z=35\/z=36\/z=37\/z=38\/z=39\/z=40\/z=41:=G;clear YL RD;rcases hc with rfl|rfl|rfl|rfl|rfl|rfl|rfl|rfl|rfl|rfl|rfl|rfl|rfl|rfl|rfl|rfl|rfl|rfl|rfl|rfl|rfl|rfl|rfl|rfl|rfl|rfl|rfl|rfl|rfl|rfl|rfl|rfl|rfl|rfl|rfl|rfl|rfl|rfl|rfl|rfl|rfl|rfl
 ·have e:∀x,aJ p c i x=(x.1,{x.2 with done:=true}):=λx=>by unfold aJ;rw[dW];rfl
  rw[show i.op.toNat=0 by omega,e];exact df h i
 ·have e:∀x,aJ p c i x=(x.1,x.2.push i.a):=λx=>by unfold aJ;rw[dW];rfl
  rw[show i.op.toNat=1 by omega,e];exact x_ h i (by show r.stack.length<_;omega)
 ·have e:∀x,aJ p c i x=(x.1,x.2.push i.a):=λx=>by unfold aJ;rw[dW];rfl
  rw[show i.op.toNat=2 by omega,e];exact x_ h i (by show r.stack.length<_;omega)
 ·have e:∀x,aJ p c i x=(x.1,x.2.push (x.1.vars (N i.a))):=λx=>by unfold aJ;rw[dW];rfl
  rw[show i.op.toNat=3 by omega,e];have hf:=hF 3 dW;obtain⟨a1,a2,a3⟩:=Hd hf.1;exact G0 h i (show i.a=(N i.a:Nat)by unfold N;omega) a3 (by show r.stack.length<_;omega)
 ·have e:∀x,aJ p c i x=(x.1,x.2.push (x.1.a.ls (N i.a)).length):=λx=>by unfold aJ;rw[dW];rfl
  rw[show i.op.toNat=4 by omega,e];have hf:=hF 4 dW;obtain⟨a1,a2,a3⟩:=ej hf.1;exact O1 h i (show i.a=(N i.a:Nat)by unfold N;omega) a3 (by show r.stack.length<_;omega)
 ·have e:∀x,aJ p c i x=(x.1,x.2.push (c.aK.getD (N i.a) 0)):=λx=>by unfold aJ;rw[dW];rfl
  rw[show i.op.toNat=5 by omega,e];have hf:=hF 5 dW;obtain⟨a1,a2,a3⟩:=ej hf.1;exact Hv h i (show i.a=(N i.a:Nat)by unfold N;omega) (by rw[E.gM.len];exact a3) (by show r.stack.length<_;omega)
 ·have e:∀x,aJ p c i x=(x.1,x.2.push c.size):=λx=>by unfold aJ;rw[dW];rfl
  rw[show i.op.toNat=6 by omega,e];exact YF h i (by show r.stack.length<_;omega)
 ·have e:∀x,aJ p c i x=(x.1,x.2.push x.1.total):=λx=>by unfold aJ;rw[dW];rfl
  rw[show i.op.toNat=7 by omega,e];exact JH h i (by show r.stack.length<_;omega)
 ·have e:∀x,aJ p c i x=uK (aC p c) i x:=λx=>by unfold aJ;rw[dW];rfl
  rw[show i.op.toNat=8 by omega,e];have hf:=hF 8 dW;obtain⟨a1,a2,a3⟩:=ej hf.1;unfold uK;dsimp only;rw[show(cw r).key=r.key from rfl];cases hk:s.f r.key with
  |none=>exact H_ h i hk (by show r.stack.length<_;omega)
  |some n=>obtain⟨q,hq,hn,-⟩:=(E.inv.idx r.key n).1 hk;dsimp only;rw[mT E.inv.wf hq hn];have:=Hz h i (show i.a=(N i.a:Nat)by unfold N;omega) hk hq hn (by show r.stack.length<_;omega);rw[show((q:Int)==((N i.a:Nat):Int))=decide ((q:Int)=i.a)by rw[<-(show i.a=(N i.a:Nat)by unfold N;omega)];rfl]at this;exact this
 ·have e:∀x,aJ p c i x=xW i x:=λx=>by unfold aJ;rw[dW];rfl
  rw[show i.op.toNat=9 by omega,e];have hf:=hF 9 dW;obtain⟨a1,a2,a3⟩:=uP hf.1;unfold xW;dsimp only;rw[show(cw r).key=r.key from rfl];cases hk:s.f r.key with
  |none=>exact LV h i hk
  |some n=>obtain⟨q,hq,hn,-⟩:=(E.inv.idx r.key n).1 hk;exact LU h i hk hq hn (show i.a=(N i.a:Nat)by unfold N;omega) (by have:=ht.t;omega) (by show r.stack.length<_;omega)
 ·have e:∀x,aJ p c i x=pE i x:=λx=>by unfold aJ;rw[dW];rfl
  rw[show i.op.toNat=10 by omega,e];have hf:=hF 10 dW;obtain⟨a1,a2,a3⟩:=ej hf.1;obtain⟨b1,b2,b3⟩:=gN hf.2.1;obtain⟨d1,d2,d3⟩:=uP hf.2.2.1;unfold pE;dsimp only;by_cases bm:s.a.ls (N i.a)=[]
  ·rw[aB bm];exact EU h i (show i.a=(N i.a:Nat)by unfold N;omega) (show i.b=(N i.b:Nat)by unfold N;omega) a3 b3 bm
  ·rw[aw bm];exact EW h i (show i.a=(N i.a:Nat)by unfold N;omega) (show i.b=(N i.b:Nat)by unfold N;omega) a3 b3 bm (show i.c=(N i.c:Nat)by unfold N;omega) (by have:=ht.t;omega) (by show r.stack.length<_;omega)
 ·have e:∀x,aJ p c i x=(x.1,x.2.pop.pop.push (ot i.op x.2.pop.iX x.2.iX)):=λx=>by unfold aJ;rw[dW];rfl
  rw[show i.op.toNat=11 by omega,e];exact Cx
 ·have e:∀x,aJ p c i x=(x.1,x.2.pop.pop.push (ot i.op x.2.pop.iX x.2.iX)):=λx=>by unfold aJ;rw[dW];rfl
  rw[show i.op.toNat=12 by omega,e];exact Cx
 ·have e:∀x,aJ p c i x=(x.1,x.2.pop.push (-x.2.iX)):=λx=>by unfold aJ;rw[dW];rfl
  rw[show i.op.toNat=13 by omega,e];obtain⟨n,rest,e1,n0,n1⟩:=Ia _ (by rw[dW];rfl);have hl:rest.length<1000000:=by rw[e1]at q1;simp at q1;omega
  have:=Wj h i (n:=n) (rest:=rest) e1 hl n0 n1;unfold Hy at this;rw[aw G]at this;rw[show(s,cw r).2.iX=n by show r.stack.headD 0=n;rw[e1];rfl];exact this
 ·have e:∀x,aJ p c i x=(x.1,x.2.pop.push (1-x.2.iX)):=λx=>by unfold aJ;rw[dW];rfl
  rw[show i.op.toNat=14 by omega,e];obtain⟨n,rest,e1,n0,n1⟩:=Ia _ (by rw[dW];rfl);have hl:rest.length<1000000:=by rw[e1]at q1;simp at q1;omega
  have:=Wj h i (n:=n) (rest:=rest) e1 hl n0 n1;unfold Hy at this;rw[aB dW]at this;rw[show(s,cw r).2.iX=n by show r.stack.headD 0=n;rw[e1];rfl];exact this
 ·have e:∀x,aJ p c i x=(x.1,x.2.pop.pop.push (ot i.op x.2.pop.iX x.2.iX)):=λx=>by unfold aJ;rw[dW];rfl
  rw[show i.op.toNat=15 by omega,e];exact Cx
 ·have e:∀x,aJ p c i x=(x.1,x.2.pop.pop.push (ot i.op x.2.pop.iX x.2.iX)):=λx=>by unfold aJ;rw[dW];rfl
  rw[show i.op.toNat=16 by omega,e];exact Cx
 ·have e:∀x,aJ p c i x=(x.1,x.2.pop.pop.push (ot i.op x.2.pop.iX x.2.iX)):=λx=>by unfold aJ;rw[dW];rfl
  rw[show i.op.toNat=17 by omega,e];exact Cx
 ·have e:∀x,aJ p c i x=(x.1,x.2.pop.pop.push (ot i.op x.2.pop.iX x.2.iX)):=λx=>by unfold aJ;rw[dW];rfl
  rw[show i.op.toNat=18 by omega,e];exact Cx
 ·have e:∀x,aJ p c i x=(x.1,x.2.pop.pop.push (ot i.op x.2.pop.iX x.2.iX)):=λx=>by unfold aJ;rw[dW];rfl
  rw[show i.op.toNat=19 by omega,e];exact Cx
 ·have e:∀x,aJ p c i x=(x.1,x.2.pop.pop.push (ot i.op x.2.pop.iX x.2.iX)):=λx=>by unfold aJ;rw[dW];rfl
  rw[show i.op.toNat=20 by omega,e];exact Cx
 ·have e:∀x,aJ p c i x=(x.1,x.2.pop.pop.push (ot i.op x.2.pop.iX x.2.iX)):=λx=>by unfold aJ;rw[dW];rfl
  rw[show i.op.toNat=21 by omega,e];exact Cx
 ·have e:∀x,aJ p c i x=(x.1,{x.2 with at_:=N i.a}):=λx=>by unfold aJ;rw[dW];rfl
  rw[show i.op.toNat=22 by omega,e];have hf:=hF 22 dW;obtain⟨a1,a2⟩:=kG hf.1;exact O2 h i (show i.a=(N i.a:Nat)by unfold N;omega)
 ·have e:∀x,aJ p c i x=(x.1,rp x.2 (N i.a)):=λx=>by unfold aJ;rw[dW];rfl
  rw[show i.op.toNat=23 by omega,e];have hf:=hF 23 dW;obtain⟨a1,a2⟩:=kG hf.1;obtain⟨n,rest,e1,n0,n1⟩:=Ia _ (by rw[dW];rfl);exact OA h i (show i.a=(N i.a:Nat)by unfold N;omega) (n:=n) (rest:=rest) e1 (by rw[e1]at q1;simp at q1;omega)
 ·have e:∀x,aJ p c i x=(x.1,{x.2 with loops:=i.a::x.2.loops}):=λx=>by unfold aJ;rw[dW];rfl
  rw[show i.op.toNat=24 by omega,e];exact YG h i rfl (by show r.loops.length<_;omega)
 ·have e:∀x,aJ p c i x=tG i x:=λx=>by unfold aJ;rw[dW];rfl
  rw[show i.op.toNat=25 by omega,e];have hf:=hF 25 dW;rw[show tG i (s,cw r)=(s,yh (cw r) (N i.a))by unfold tG yh;dsimp only;split<;>rfl];obtain⟨a1,a2⟩:=kG hf.1;obtain⟨m,rest,e1,m0,m1⟩:=EB (.inl dW);exact Hw h i (show i.a=(N i.a:Nat)by unfold N;omega) (m:=m) (rest:=rest) e1 (by rw[e1]at q2;simp at q2;omega) m0 m1
 ·have e:∀x,aJ p c i x=tH i x:=λx=>by unfold aJ;rw[dW];rfl
  rw[show i.op.toNat=26 by omega,e];have hf:=hF 26 dW;rw[show tH i (s,cw r)=(s,yf (cw r) (N i.a))by unfold tH yf;dsimp only;split<;>rfl];obtain⟨a1,a2⟩:=kG hf.1;obtain⟨n,rest,e1,n0,n1⟩:=Ia _ (by rw[dW];rfl);obtain⟨m,lrest,e2,m0,m1⟩:=EB (.inr dW);exact Yc h i (show i.a=(N i.a:Nat)by unfold N;omega) (n:=n) (rest:=rest) e1 (by rw[e1]at q1;simp at q1;omega) (m:=m) (lrest:=lrest) e2 (by rw[e2]at q2;simp at q2;omega)
 ·have e:∀x,aJ p c i x=(x.1,{x.2 with at_:=N i.a}):=λx=>by unfold aJ;rw[dW];rfl
  rw[show i.op.toNat=27 by omega,e];have hf:=hF 27 dW;obtain⟨a1,a2⟩:=kG hf.1;exact O2 h i (show i.a=(N i.a:Nat)by unfold N;omega)
 ·have e:∀x,aJ p c i x=BU p i x:=λx=>by unfold aJ;rw[dW];rfl
  rw[show i.op.toNat=28 by omega,e];have hf:=hF 28 dW;obtain⟨a1,a2,a3⟩:=Hd hf.1;obtain⟨n,rest,e1,n0,n1⟩:=Ia _ (by rw[dW];rfl);exact NW h i (show i.a=(N i.a:Nat)by unfold N;omega) a3 (n:=n) (rest:=rest) e1 (by rw[e1]at q1;simp at q1;omega) (by show r.bz.length<_;omega)
 ·have e:∀x,aJ p c i x=su p i x:=λx=>by unfold aJ;rw[dW];rfl
  rw[show i.op.toNat=29 by omega,e];have hf:=hF 29 dW;obtain⟨a1,a2,a3⟩:=uP hf.1;obtain⟨v,rest,e1,n0,n1⟩:=Ia _ (by rw[dW];rfl);have hl:rest.length<1000000:=by rw[e1]at q1;simp at q1;omega
  unfold su;dsimp only;rw[show(cw r).key=r.key from rfl,show(cw r).iX=v by show r.stack.headD 0=v;rw[e1];rfl];cases hk:s.f r.key with
  |none=>exact Hr h i hk (v:=v) (rest:=rest) e1 hl
  |some n=>obtain⟨q,hq,hn,-⟩:=(E.inv.idx r.key n).1 hk;exact Hp h i (show i.a=(N i.a:Nat)by unfold N;omega) hk hq hn a3 E.t4 (by show r.bz.length<_;omega) (v:=v) (rest:=rest) e1 hl
 ·have e:∀x,aJ p c i x=mU p i x:=λx=>by unfold aJ;rw[dW];rfl
  rw[show i.op.toNat=30 by omega,e];have hf:=hF 30 dW;obtain⟨a1,a2,a3⟩:=ej hf.1;obtain⟨b1,b2,b3⟩:=gN hf.2.1;obtain⟨d1,d2,d3⟩:=uP hf.2.2.1;obtain⟨v,rest,e1,n0,n1⟩:=Ia _ (by rw[dW];rfl);have hl:rest.length<1000000:=by rw[e1]at q1;simp at q1;omega
  unfold mU;dsimp only;rw[show(cw r).iX=v by show r.stack.headD 0=v;rw[e1];rfl];by_cases bm:s.a.ls (N i.a)=[]
  ·rw[aB bm];exact Cr h i (show i.a=(N i.a:Nat)by unfold N;omega) (show i.b=(N i.b:Nat)by unfold N;omega) a3 b3 bm (v:=v) (rest:=rest) e1 hl
  ·rw[aw bm];exact Cq h i (show i.a=(N i.a:Nat)by unfold N;omega) (show i.b=(N i.b:Nat)by unfold N;omega) (show i.c=(N i.c:Nat)by unfold N;omega) a3 b3 bm d3 E.t4 (by show r.bz.length<_;omega) (v:=v) (rest:=rest) e1 hl
 ·have e:∀x,aJ p c i x=pC (aC p c) i x:=λx=>by unfold aJ;rw[dW];rfl
  rw[show i.op.toNat=31 by omega,e];have hf:=hF 31 dW;obtain⟨a1,a2,a3⟩:=ej hf.1;obtain⟨b1,b2,b3⟩:=gN hf.2.1;unfold pC;dsimp only;rw[show(cw r).key=r.key from rfl];cases hk:s.f r.key with
  |none=>exact EL h E i (show i.a=(N i.a:Nat)by unfold N;omega) (show i.b=(N i.b:Nat)by unfold N;omega) a3 b3 hk (by show r.bz.length<_;omega)
  |some n=>obtain⟨q,hq,hn,-⟩:=(E.inv.idx r.key n).1 hk;exact EM h i hk hq hn
 ·have e:∀x,aJ p c i x=xV (aC p c) i x:=λx=>by unfold aJ;rw[dW];rfl
  rw[show i.op.toNat=32 by omega,e];have hf:=hF 32 dW;obtain⟨a1,a2,a3⟩:=ej hf.1;obtain⟨b1,b2,b3⟩:=gN hf.2.1;unfold xV;dsimp only;rw[show(cw r).key=r.key from rfl];cases hk:s.f r.key with
  |none=>exact LP h i hk
  |some n=>obtain⟨q,hq,hn,-⟩:=(E.inv.idx r.key n).1 hk;dsimp only;rw[mT E.inv.wf hq hn];exact LQ h E i (show i.a=(N i.a:Nat)by unfold N;omega) (show i.b=(N i.b:Nat)by unfold N;omega) a3 b3 hk hq hn (by show r.bz.length<_;omega)
 ·have e:∀x,aJ p c i x=pD (aC p c) x:=λx=>by unfold aJ;rw[dW];rfl
  rw[show i.op.toNat=33 by omega,e];unfold pD;dsimp only;rw[show(cw r).key=r.key from rfl];cases hk:s.f r.key with
  |none=>exact EN h i hk
  |some n=>
   obtain⟨q,hq,hn,-⟩:=(E.inv.idx r.key n).1 hk;dsimp only;rw[mT E.inv.wf hq hn];by_cases hg:p.ax.getD q false=true
   ·rw[aB (show(aC p c).gh q=true from hg)];exact EP h E i hk hq hn hg (by show r.bz.length<_;omega)
   ·rw[aw (show¬(aC p c).gh q=true from hg)];exact EO h i hk hq hn (by simpa using hg)
 ·have e:∀x,aJ p c i x=(bC (aC p c) x (N i.a) (N i.b)).1:=λx=>by unfold aJ;rw[dW];rfl
  rw[show i.op.toNat=34 by omega,e];have hf:=hF 34 dW;obtain⟨a1,a2,a3⟩:=ej hf.1;obtain⟨b1,b2,b3⟩:=gN hf.2.1;exact YA h i E (show i.a=(N i.a:Nat)by unfold N;omega) (show i.b=(N i.b:Nat)by unfold N;omega) a3 b3 (by show r.bz.length<_;omega)
 ·have e:∀x,aJ p c i x=(dX (aC p c) x (N i.a) (N i.b)).1:=λx=>by unfold aJ;rw[dW];rfl
  rw[show i.op.toNat=35 by omega,e];have hf:=hF 35 dW;obtain⟨a1,a2,a3⟩:=ej hf.1;obtain⟨b1,b2,b3⟩:=gN hf.2.1;obtain⟨x,hx⟩:=hhd (λhh=>by
   unfold fo at hh;intro h0;rw[h0]at hh;simp[dW]at hh)
  exact YB h i E (show i.a=(N i.a:Nat)by unfold N;omega) (show i.b=(N i.b:Nat)by unfold N;omega) a3 b3 hx (a0g.hand x hx).1 (by show r.bz.length<_;omega)
 ·have e:∀x,aJ p c i x=hZ x:=λx=>by unfold aJ;rw[dW];rfl
  rw[show i.op.toNat=36 by omega,e];obtain⟨x,hx⟩:=hhd (λhh=>by
   unfold fo at hh;intro h0;rw[h0]at hh;simp[dW]at hh)
  exact YC h i hx (by show r.told.length<_;omega)
 ·have e:∀x,aJ p c i x=il x:=λx=>by unfold aJ;rw[dW];rfl
  rw[show i.op.toNat=37 by omega,e];exact SU h i
 ·have e:∀x,aJ p c i x=qD (aC p c) i x:=λx=>by unfold aJ;rw[dW];rfl
  rw[show i.op.toNat=38 by omega,e];have hf:=hF 38 dW;obtain⟨a1,a2,a3⟩:=ej hf.1;obtain⟨b1,b2,b3⟩:=gN hf.2.1;obtain⟨d1,d2,d3⟩:=ej hf.2.2.1;obtain⟨f1,f2,f3⟩:=gN hf.2.2.2;exact S2 h i E (show i.a=(N i.a:Nat)by unfold N;omega) (show i.b=(N i.b:Nat)by unfold N;omega) a3 b3 (show i.c=(N i.c:Nat)by unfold N;omega) (show i.d=(N i.d:Nat)by unfold N;omega) d3 f3 (by show r.bz.length<_;omega)
 ·have e:∀x,aJ p c i x=qE (aC p c) i x:=λx=>by unfold aJ;rw[dW];rfl
  rw[show i.op.toNat=39 by omega,e];have hf:=hF 39 dW;obtain⟨a1,a2,a3⟩:=ej hf.1;obtain⟨b1,b2,b3⟩:=gN hf.2.1;obtain⟨d1,d2,d3⟩:=ej hf.2.2.1;obtain⟨f1,f2,f3⟩:=gN hf.2.2.2;exact S4 h i E (show i.a=(N i.a:Nat)by unfold N;omega) (show i.b=(N i.b:Nat)by unfold N;omega) a3 b3 (show i.c=(N i.c:Nat)by unfold N;omega) (show i.d=(N i.d:Nat)by unfold N;omega) d3 f3 (by show r.bz.length<_;omega) (by show r.told.length<_;omega)
 ·have e:∀x,aJ p c i x=qF (aC p c) i x:=λx=>by unfold aJ;rw[dW];rfl
  rw[show i.op.toNat=40 by omega,e];have hf:=hF 40 dW;obtain⟨a1,a2,a3⟩:=ej hf.1;obtain⟨b1,b2,b3⟩:=gN hf.2.1;exact S3 h i E (show i.a=(N i.a:Nat)by unfold N;omega) (show i.b=(N i.b:Nat)by unfold N;omega) a3 b3 (by show r.bz.length<_;omega) (by show r.told.length<_;omega)
 ·have e:∀x,aJ p c i x=vM (aC p c) i x:=λx=>by unfold aJ;rw[dW];rfl
  rw[show i.op.toNat=41 by omega,e];have hf:=hF 41 dW;obtain⟨a1,a2,a3⟩:=ej hf.1;obtain⟨b1,b2,b3⟩:=gN hf.2.1;exact YD h i E (show i.a=(N i.a:Nat)by unfold N;omega) (show i.b=(N i.b:Nat)by unfold N;omega) a3 b3 (by show r.bz.length<_;omega)
def enters(n:Nat)(hn:n<42)(args:Array to)(w:ek):(callFunc (EY n) args).run prog w= .ok (.enter (EY n) args) w:=by
 have hc:n=0\/n=1\/n=2\/n=3\/n=4\/n=5\/n=6\/n=7\/n=8\/n=9\/n=10\/n=11\/n=12\/n=13\/n=14\/n=15\/n=16\/n=17\/n=18\/n=19\/n=20\/n=21\/n=22\/n=23\/n=24\/n=25\/n=26\/n=27\/n=28\/n=29\/n=30\/n=31\/n=32\/n=33\/n=34\/n=35\/n=36\/n=37\/n=38\/n=39\/n=40\/n=41:=G;rcases hc with rfl|rfl|rfl|rfl|rfl|rfl|rfl|rfl|rfl|rfl|rfl|rfl|rfl|rfl|rfl|rfl|rfl|rfl|rfl|rfl|rfl|rfl|rfl|rfl|rfl|rfl|rfl|rfl|rfl|rfl|rfl|rfl|rfl|rfl|rfl|rfl|rfl|rfl|rfl|rfl|rfl|rfl
 all_goals (unfold EY;go_simp)
def EZ(K:Kc)(C:Co)(p:aQ)(c:Cp)(total:Int)(t:dZ)(used:Int)(rv:to)(n:Nat)(hn:n<42):(iJ K C p c total t used rv)[18+n]? =O (K.steps n):=by
 have hc:n=0\/n=1\/n=2\/n=3\/n=4\/n=5\/n=6\/n=7\/n=8\/n=9\/n=10\/n=11\/n=12\/n=13\/n=14\/n=15\/n=16\/n=17\/n=18\/n=19\/n=20\/n=21\/n=22\/n=23\/n=24\/n=25\/n=26\/n=27\/n=28\/n=29\/n=30\/n=31\/n=32\/n=33\/n=34\/n=35\/n=36\/n=37\/n=38\/n=39\/n=40\/n=41:=G;rcases hc with rfl|rfl|rfl|rfl|rfl|rfl|rfl|rfl|rfl|rfl|rfl|rfl|rfl|rfl|rfl|rfl|rfl|rfl|rfl|rfl|rfl|rfl|rfl|rfl|rfl|rfl|rfl|rfl|rfl|rfl|rfl|rfl|rfl|rfl|rfl|rfl|rfl|rfl|rfl|rfl|rfl|rfl
 all_goals rfl
variable {t':dZ}{used':Int}{rv':to}
def Mx.rH(h:Mx w C RO K p c s t used rv)(o:Nat)(v:to)(X:(iJ K C p c s.total t used rv).setIfInBounds o v=iJ K C p c s.total t' used' rv'):bT w (w.setCell (I C.mb o) v) C C/\Mx (w.setCell (I C.mb o) v) C RO K p c s t' used' rv':=by
 have R:=h.rel;have F:aA [C.mb] w (w.setCell (I C.mb o) v):=(aA.refl _ w).setCell ay _;refine⟨⟨rfl,F.mono (by intro k hk;simp at hk;subst hk;simp[Co.l]),λ_ X=> .inl X⟩,⟨⟨?_,?_,?_,?_,?_⟩,h.sep.nd,λb X=>dz (h.sep.lt b X) F.size,h.sep.ro,λb X=>dz (h.sep.dO b X) F.size⟩⟩
 ·rw[<-X];exact h.m.bg.set o v
 ·exact h.m.prog.aG F λb X hc=>by simp at hc;subst hc;exact h.cr X (by simp[Co.l])
 ·exact h.m.ar.aG F λb X hc=>by simp at hc;subst hc;exact R.ma X
 ·exact h.m.ix.aG F ⟨by simp;exact λe=>R.mx e.symm,by simp;exact λe=>R.ms e.symm⟩
 ·exact h.m.vs.aG F λb X hc=>by simp at hc;subst hc;exact R.mv (aU.2 X)
def cS.rH(h:cS w C U RO K p c t used hv jv s r)(o:Nat)(v:to)(X:(iJ K C p c s.total t used (V5 U.rb)).setIfInBounds o v=iJ K C p c s.total t' used' (V5 U.rb)):cS (w.setCell (I C.mb o) v) C U RO K p c t' used' hv jv s r:=by obtain⟨k1,k2⟩:=h.mx.rH o v X;exact h.ou k1 k2
def O4{b cap:Nat}(h3:Row w 40 5 (H (O (I b 0)) p.code.length cap) p.code.length (ci p)){i:Nat}(hi:i<p.code.length):
 Vo w (I b (i*5))=O (Y (al p i).op)/\Vo w (I b (i*5+1))=O (Y (al p i).a)/\Vo w (I b (i*5+2))=O (Y (al p i).b)/\Vo w (I b (i*5+3))=O (Y (al p i).c)/\Vo w (I b (i*5+4))=O (Y (al p i).d):=by
 have key:∀k,k<5->Vo w (I b (i*5+k))=O (ci p (i*5+k)):=λk hk=>h3.cell (o:=i*5+k) G;have hd:∀k,k<5->(i*5+k) / 5=i:=λk hk=>G;have hm:∀k,k<5->(i*5+k) % 5=k:=λk hk=>G;refine⟨(key 0 G).trans ?_,(key 1 G).trans ?_,(key 2 G).trans ?_,(key 3 G).trans ?_,(key 4 G).trans ?_⟩
 ·unfold ci;rw[hd 0 G,hm 0 G];rfl
 ·unfold ci;rw[hd 1 G,hm 1 G];rfl
 ·unfold ci;rw[hd 2 G,hm 2 G];rfl
 ·unfold ci;rw[hd 3 G,hm 3 G];rfl
 ·unfold ci;rw[hd 4 G,hm 4 G];rfl
def cS.Y4(h:cS w C U RO K p c t used hv jv s r)(hp:0<p.code.length):∃b cap,K.c=H (O (I b 0)) p.code.length cap/\Row w 40 5 (H (O (I b 0)) p.code.length cap) p.code.length (ci p)/\b∈RO:=by obtain⟨b,cap,iD,pR,mZ,X⟩:=h.m.prog.cd.some hp;have h3:=h.m.prog.cd;rw[iD]at h3;exact⟨b,cap,iD,h3,h.m.prog.ro b (.inr (.inr (.inr (.inr (.inl (aU.2 (by rw[iD];rfl)))))))⟩
def ny{P:Program}{a:Act}{w:ek}{Q:Exit->Act->ek->Prop}{c rest:Code}(l:Nat)(J:Act->ek->Prop)(μ:Act->ek->Nat)(hf:findLabel c l=O (Code.seq Code.skip rest))
 (pass:∀a w,J a w->rest.wp P (Exit.jump l (λa' w'=>J a' w'/\μ a' w'<μ a w) Q) a w) (first:(∀a w,J a w->rest.wp P (Exit.jump l J Q) a w)->c.wp P (Exit.jump l J Q) a w):(Code.scope c).wp P Q a w:=
 wp_scope_jumps l J μ hf (first λa w h=>Code.wp_mono (λe a' w' h'=>by
  cases e<;>first|exact h'|exact⟨h'.1,h'.2.1⟩) (pass a w h)) (λa w h=>wp_seq (wp_skip (pass a w h)))
structure Gi(K:Kc)(mb:Nat)(p:aQ)(c:Cp):Prop where
 gM:ow p c
 nd:K.nd=dw (aC p c)
 AY:K.nd<=4194304
 check:bq p=0
 steps:∀n,n<42->K.steps n= .func (.func (EY n)) #[V5 mb] #[]
def Gi.ev{K:Kc}{mb:Nat}{p:aQ}{c:Cp}{s:St}(h:Gi K mb p c)(hI:Inv (aC p c) s):iT K p c s:=
 ⟨hI,h.gM,h.nd,h.AY,(cE h.check).1.g,(cE h.check).1.t⟩
def yN(w wr:ek)(mb rb:Nat)(RO:List Nat)(K:Kc)(p:aQ)(c:Cp)(t:dZ)(T:Map)(s0:St)(x0:SR)(f:Nat):Prop:=
 ∃(n:Nat) (x:SR) (st:Std) (RO':List Nat),(∀b,b∈RO->b∈RO')/\In wr mb rb RO' K p c t n x/\Kept RO w wr/\gz p T x.2 st/\fJ (aC p c) p.vars.length s0 x/\Small n x.2/\left p x.2 st<=f/\
  lR p c jC x0=(n+(lR p c f x).1,(lR p c f x).2)/\n+f<=jC
def Ran(w:ek)(mb rb:Nat)(RO:List Nat)(K:Kc)(p:aQ)(c:Cp)(t:dZ)(z:Nat×SR)(e:Ending)(w':ek):Prop:=
 e=Vl (.tuple #[])/\∃RO',(∀b,b∈RO->b∈RO')/\In w' mb rb RO' K p c t z.1 z.2/\Kept RO w w'
def yN.left{w wr:ek}{x0:SR}{f:Nat}(V:Env p c T)(h:yN w wr mb rb RO K p c t T s0 x0 f):0<f:=by obtain⟨n,x,st,RO',-,-,-,C,-,-,hl,-⟩:=h;have:=EE V C;omega
def JJ.O5{n:Nat}{r:Rn}(h:Small n r)(hn:n<=jC):JJ r:=by unfold jC at hn;exact⟨by have:=h.stack;omega,by have:=h.loops;omega,by have:=h.told;omega,by have:=h.bz;omega⟩
def FrS(mb rb:Nat)(a:Act):Prop:=∃J:Nat->to,a={tmps:=#[V5 mb,J 1,V5 rb,J 3,J 4,J 5,J 6,J 7,J 8,J 9,J 10,J 11,J 12,J 13,J 14,J 15,J 16,J 17,J 18,J 19,J 20,J 21,J 22,J 23,J 24,J 25,J 26,J 27,J 28,J 29,J 30,J 31,J 32,J 33,J 34,J 35,J 36,J 37,J 38,J 39,J 40,J 41,J 42,J 43,J 44,J 45,J 46,J 47,J 48,J 49,J 50,J 51,J 52,J 53],defers:=[]}
def sE(mb:Nat)(w:ek):Nat:=match Vo w ⟨mb,17,MT⟩with|some (.int _ u)=>u.toNat|_=>0
def AZ{w:ek}{n:Nat}{x:SR}(h:In w mb rb RO K p c t (n:Nat) x):sE mb w=n:=by
 obtain⟨C,U,hv,jv,h1,h2,h3⟩:=h;have h4:Vo w (I mb 17)=O (Y n):=by rw[<-h1];exact h3.m.bg.cell 17
 unfold sE;rw[h4];rfl
def O6(M:Gi K mb p c)(V:Env p c T){x0:SR}(hg:yN w w mb rb RO K p c t T s0 x0 jC):
 Calls prog 62 #[V5 mb] w (Ran w mb rb RO K p c t (lR p c jC x0)):=by
 have h0:=hg;obtain⟨n,x,st,RO',ho,⟨a1a,a1b,hv0,jv0,yt,xt,A0⟩,-⟩:=h0;have sS:Vo w (I mb 60)=O (V5 rb):=by rw[<-yt,<-xt];exact A0.m.bg.cell 60
 have HG:=Z hg;have HM:=Z M;have HV:=Z V;clear hg ho A0 yt xt M V;go_enter func62,ntmps62;go_wp2_with fail;refine ny 0 (λa' wr=>FrS mb rb a'/\∃f,yN w wr mb rb RO K p c t T s0 x0 f) (λ_ wr=>jC-sE mb wr) rfl ?_ ?_
 ·rintro a' wr ⟨⟨J,rfl⟩,f,N_⟩;have hf0:=N_.left HV.o;obtain⟨n,⟨s1,r1⟩,st1,pS,ho,⟨C1,U1,iD,jv1,oR,oE,A1⟩,hk,G1,H1,Q1,hl,wJ,Rc⟩:=N_;dsimp only at A1 G1 H1 Q1 hl;obtain⟨cb,Cj,Gc,Wl,Rx⟩:=A1.Y4 (by have:=G1.lt;omega);obtain⟨k0,k1,k2,k3,k4⟩:=O4 Wl G1.lt;have m5:Vo wr (I mb 5)=O K.c:=by rw[<-oR];exact A1.m.bg.cell 5
  rw[Gc]at m5;have m17:Vo wr (I mb 17)=O (Y n):=by rw[<-oR];exact A1.m.bg.cell 17
  have c1:Vo wr (I rb 1)=O (Y r1.at_):=by rw[<-oE];exact A1.r.dS.cell 1
  have be:=G1.lt;have lm:mb<wr.heap.size:=by rw[<-oR];exact A1.m.bg.lt
  have lr:rb<wr.heap.size:=by rw[<-oE];exact A1.r.dS.lt
  have lc:cb<wr.heap.size:=A1.sep.dO cb Rx;have Du:=Z A1;have O7:=Z G1;have HH1:=Z H1;have Ro:=Z Q1;have Nc:=Z hl;have zl:=Z wJ;have uw:=Z hk;have Gh:=Z ho;have wI:=Z oR;have Ho:=Z oE;have Y3:p.code.length<=262144:=(cE HM.o.check).1.code;clear A1 G1 H1 Q1 hl wJ hk ho oR oE Gc Wl Rx sS;generalize hi:al p r1.at_=i at*;have HI:=Z hi;clear hi;generalize M5:r1.at_=JK at*;have HAT:=Z M5;clear M5;generalize p.code.length=cl at*;go_wp2;go_region;have B1:=(Du.o.box (CA (aI i) 40)).drewN 1;have N1:aF (wr.alloc (CA (aI i) 40)).drew wr.heap.size 40 (aI i):=aF.new wr _ _;have B1:cS (wr.alloc (CA (aI i) 40)).drew C1 U1 (wr.heap.size::pS) K p c t n iD jv1 s1 r1:=B1;have K1:Kept pS wr (wr.alloc (CA (aI i) 40)).drew:=Kept.af (((aY _ wr).alloc (aL _) _).trans (az _ _ 1)) Du.o.sep.dO;have e17:(wr.alloc (CA (aI i) 40)).drew.cell? (I mb 17)=O (Y n):=by rw[<-wI.o];exact B1.m.bg.cell 17
  have e1:(wr.alloc (CA (aI i) 40)).drew.cell? (I rb 1)=O (Y JK):=by rw[<-Ho.o,<-HAT.o];exact B1.r.dS.cell 1
  have fm:∀o,(wr.alloc (CA (aI i) 40)).drew.frozen? (I mb o)=false:=by rw[<-wI.o];exact B1.m.bg.frozen
  have fr:∀o,(wr.alloc (CA (aI i) 40)).drew.frozen? (I rb o)=false:=by rw[<-Ho.o];exact B1.r.dS.frozen
  have nm:mb≠rb:=by rw[<-wI.o,<-Ho.o];exact λe=>B1.sep.cu (b:=C1.mb) (by simp[Co.l]) (by rw[e];simp[Ru.l])
  have cR:=Z B1;have JL:=Z N1;have HKW:=Z K1;have jF:IntKind.i64.wrap ((JK:Int)+1)=JK+1:=bJ _ ⟨G,G⟩;have Cv:n<=20000:=by unfold jC at Rc;omega
  have r_:IntKind.i64.wrap ((n:Int)+1)=n+1:=bJ _ ⟨G,G⟩;clear B1 N1 K1 k0 k1 k2 k3 k4 m5 m17 c1 lm lr lc;unfold aI at cR JL HKW e17 e1 fm fr;generalize(wr.alloc (CA #[Y i.op,Y i.a,Y i.b,Y i.c,Y i.d] 40)).drew=w1 at*;generalize wr.heap.size=bx at*;go_wp2_with fail;have A2:=cR.o.jW 1 (Y ((JK:Int)+1)) (r':=cw r1) (by rw[<-HAT.o];rfl) rfl rfl rfl rfl rfl cR.o.r.gP;have A3:=A2.rH 17 (Y ((n:Int)+1)) (used':=(n:Int)+1) rfl;rw[Ho.o,wI.o]at A3;have nb1:bx≠rb:=λe=>cR.o.sep.ur (b:=bx) ay (by rw[e,<-Ho.o];simp[Ru.l]);have nb2:bx≠mb:=λe=>cR.o.sep.cr (b:=bx) ay (by rw[e,<-wI.o];simp[Co.l]);have N3:=aF.other (aF.other JL.o nb1 1 (Y ((JK:Int)+1))) nb2 17 (Y ((n:Int)+1));have K3:Kept pS w1 ((w1.setCell (I rb 1) (Y ((JK:Int)+1))).setCell (I mb 17) (Y ((n:Int)+1))):=Kept.dn (S:=C1.l++U1.l) (((aA.refl _ w1).setCell (by rw[<-Ho.o];simp[Ru.l]) _).setCell (by rw[<-wI.o];simp[Co.l]) _) (λb X hc=>by
   rcases List.mem_append.1 hc with hc|hc
   ·exact cR.o.sep.cr (b:=b) (by simp[X]) hc
   ·exact cR.o.sep.ur (b:=b) (by simp[X]) hc) (λb X=>cR.o.sep.dO b (by simp[X]))
  obtain⟨YL,RD⟩:0<=i.op/\i.op<=41:=by have ho:=(oV HV.o O7.o).1;rw[HAT.o,HI.o]at ho;unfold jH aO at ho;simpa only[fp,ft]using ho
  have hoN:i.op.toNat<42:=G;have fL:((w1.setCell (I rb 1) (Y ((JK:Int)+1))).setCell (I mb 17) (Y ((n:Int)+1))).cell? (I mb (18+i.op.toNat))=O (.func (.func (EY i.op.toNat)) #[V5 mb] #[]):=by have h1:=A3.m.bg.cell (18+i.op.toNat);rw[wI.o,EZ _ _ _ _ _ _ _ _ _ hoN,HM.o.steps _ hoN]at h1;exact h1
  have hex:=YK (A3.drewN 1) (HM.o.ev HH1.o.inv) HV.o O7.o HH1.o (JJ.O5 Ro.o G);rw[wI.o,Ho.o,HAT.o,HI.o]at hex;have Y2:=λ(args:Array to) (wz:ek)=>enters i.op.toNat hoN args wz;have y0:((w1.setCell (I rb 1) (Y ((JK:Int)+1))).setCell (I mb 17) (Y ((n:Int)+1))).cell? (I bx 0)=O (Y (i.op.toNat:Nat)):=by rw[Int.toNat_of_nonneg YL];exact N3.cell 0
  have y0':((w1.setCell (I rb 1) (Y ((JK:Int)+1))).setCell (I mb 17) (Y ((n:Int)+1))).cell? (I bx 1)=O (Y i.a):=N3.cell 1;have y2:((w1.setCell (I rb 1) (Y ((JK:Int)+1))).setCell (I mb 17) (Y ((n:Int)+1))).cell? (I bx 2)=O (Y i.b):=N3.cell 2;have y3:((w1.setCell (I rb 1) (Y ((JK:Int)+1))).setCell (I mb 17) (Y ((n:Int)+1))).cell? (I bx 3)=O (Y i.c):=N3.cell 3;have y4:((w1.setCell (I rb 1) (Y ((JK:Int)+1))).setCell (I mb 17) (Y ((n:Int)+1))).cell? (I bx 4)=O (Y i.d):=N3.cell 4;unfold aV aI at hex;rw[show(Y i.op)=Y (i.op.toNat:Nat)by rw[Int.toNat_of_nonneg YL]]at hex;have kd:=Z (((uw.o.trans HKW.o (λb X=>Gh.o b X)).trans K3 (λb X=>Gh.o b X)).trans (Kept.af (RO:=pS) (az _ ((w1.setCell (I rb 1) (Y ((JK:Int)+1))).setCell (I mb 17) (Y ((n:Int)+1))) 1) (λb X=>A3.sep.dO b (by simp[X]))) (λb X=>Gh.o b X));have HEX:=Z hex;have Wm:aJ p c i (s1,cw r1)=fG p c (s1,r1):=by unfold fG;rw[HAT.o,HI.o]
  rw[Wm]at HEX;have RA:=Z (And.intro YL RD);clear A2 A3 nb1 nb2 N3 K3 YL RD hex Wm e17 e1 fm fr JL cR;generalize i.op.toNat=on at*;have hoI:(on:Int)<42:=G;have Y1:(0:Int)<=on:=G;generalize EY on=F at*;generalize(w1.setCell (I rb 1) (Y ((JK:Int)+1))).setCell (I mb 17) (Y ((n:Int)+1))=w3 at*
  go_still_tail 8,bh
  change wpList _ _ _ _ _ (w3.drewN 1);generalize w3.drewN 1=w4 at*;go_wp2_with fail;have YM:=JE HV.o O7.o HH1.o;rw[show aJ p c (al p r1.at_) (s1,cw r1)=fG p c (s1,r1)from rfl]at YM;have Ri:=yF (p:=p) (c:=c) (x:=(s1,r1)) Ro.o;have O_:=λst' C'=>yD (c:=c) (s:=s1) HV.o O7.o (st':=st') C';rw[show aJ p c (al p r1.at_) (s1,cw r1)=fG p c (s1,r1)from rfl]at O_;have hrn:=zl.o;obtain⟨f',rfl⟩:∃f',f=f'+1:=⟨f-1,G⟩;rw[show lR p c (f'+1) (s1,r1)=if mA (fG p c (s1,r1))then(1,fG p c (s1,r1))else((lR p c f' (fG p c (s1,r1))).1+1,(lR p c f' (fG p c (s1,r1))).2)from rfl]at hrn;have S_:=Z YM;have Dx:=Z Ri;have Pa:=Z O_;have LW:=Z hrn;clear YM Ri O_ hrn jF r_ fL Y2 y0 y0' y2 y3 y4 hoI Y1 hoN nm Y3 be zl;generalize fG p c (s1,r1)=y at*;refine HEX.o.mono ?_;rintro e w5 ⟨rfl,RO5,YN,⟨C5,U5,hv5,jv5,IP,Ta,A5⟩,hk5⟩;have d8:Vo w5 (I rb 8)=O (.bool y.2.done):=by rw[<-Ta];exact A5.r.dS.cell 8
  have d6:Vo w5 (I rb 6)=O (Y y.2.bY):=by rw[<-Ta];exact A5.r.dS.cell 6
  have f_:∀b,b∈RO->b∈RO5:=λb X=>YN b (by simp[Gh.o b X]);have Wn:Kept RO w w5:=kd.o.trans hk5 (λb X=>by simp[Gh.o b X]);have me:=Z (show In w5 mb rb RO5 K p c t ((n+1:Nat):Int) y from⟨C5,U5,hv5,jv5,IP,Ta,A5⟩);have zU:=Z f_;have JM:=Z Wn;clear HEX A5 YN hk5 IP Ta f_ Wn kd HKW;by_cases hs:mA y=true
  ·have oY:=Z (show Ran w mb rb RO K p c t (lR p c jC x0) (Vl (.tuple #[])) w5 from by
    have hr:=LW.o;rw[aB hs]at hr;rw[hr];exact⟨rfl,RO5,zU.o,me.o,JM.o⟩)
   have Y0:y.2.done=true\/(y.2.done=false/\(y.2.bY==0)=false):=by
    unfold mA at hs;cases hd:y.2.done with
    |true=>exact .inl rfl
    |false=>rw[hd]at hs;simp at hs;exact .inr ⟨rfl,by simpa using hs⟩
   clear hs LW me S_ Dx Pa zU JM;rcases Y0 with hd|⟨hd,htz⟩
   ·rw[hd]at d8;go_wp2;simp only[Exit.jump];go_end0;exact oY.o
   ·rw[hd]at d8;go_wp2;simp only[Exit.jump];go_end0;exact oY.o
  ·obtain⟨ht0,iL⟩:=vS hs;rw[ht0]at d6;rw[iL]at d8;obtain⟨st',C'⟩:=S_.o.next ht0 iL;have hlf:=Pa.o st' C';have Wo:=Nc.o;have pZ:n+1+f'<=jC:=G;have N_:yN w w5 mb rb RO K p c t T s0 x0 f':=by refine⟨n+1,y,st',RO5,zU.o,me.o,JM.o,C',S_.o.hold,Dx.o,G,?_,pZ⟩;have hr:=LW.o;rw[aw hs]at hr;rw[hr];congr 1;omega
   have Ib:sE mb w5=n+1:=AZ me.o;have xK:sE mb wr=n:=AZ (show In wr mb rb pS K p c t n (s1,r1)from⟨C1,U1,iD,jv1,wI.o,Ho.o,Du.o⟩);have nf:n<jC:=G;have HGO:=Z (show(∃f,yN w w5 mb rb RO K p c t T s0 x0 f)/\jC-sE mb w5<jC-sE mb wr from⟨⟨f',N_⟩,by rw[Ib,xK];omega⟩);clear N_ Ib xK nf hlf Wo C' ht0 iL hs LW me S_ Dx Pa zU JM;go_wp2;go_step3;exact⟨rfl,⟨qi rfl,HGO.o.1⟩,HGO.o.2⟩
 ·intro hp;go_wp2;go_step3;simp only[Exit.then]
  apply_assumption
  refine hp _ _ ⟨?_,jC,HG.o⟩;exact qi rfl
def Cy(w:ek)(b:Nat)(x0 x1 x2:to):ek:=((w.setCell (I b 0) x0).setCell (I b 1) x1).setCell (I b 2) x2
def sF(w:ek)(b:Nat)(x0 x1 x2:to):aA [b] w (Cy w b x0 x1 x2):=(((aA.refl _ w).setCell ay _).setCell ay _).setCell ay _
def sG{w:ek}{b:Nat}{y0 y1 y2:to}(h:aF w b 44 #[y0,y1,y2])(x0 x1 x2:to):aF (Cy w b x0 x1 x2) b 44 #[x0,x1,x2]:=((h.set 0 _).set 1 _).set 2 _
def A_{w:ek}{b:Nat}{y0 y1 y2:to}(h:aF w b 44 #[y0,y1,y2]):Vo w (I b 0)=O y0/\Vo w (I b 1)=O y1/\Vo w (I b 2)=O y2/\∀o,w.frozen? (I b o)=false:=⟨h.cell 0,h.cell 1,h.cell 2,h.frozen⟩
def wV(w wr:ek)(C:Co)(RO:List Nat)(K:Kc)(p:aQ)(c:Cp)(t:dZ)(used:Int)(s0:St)(j:List uC)(i:Nat):Prop:=
 ∃C' s',bT w wr C C'/\Mx wr C' RO K p c s' t used (.pointer MT)/\Inv (aC p c) s'/\Vm.Good (aC p c) p.vars.length s0 (j.drop (j.length-i)) s'
def yO(w:ek)(C:Co)(RO:List Nat)(K:Kc)(p:aQ)(c:Cp)(t:dZ)(used:Int)(s:St)(b4:Nat)(x0 x1 x2:to)(e:Ending)(w':ek):Prop:=
 e=Vl (.tuple #[])/\∃C' wz,bT w wz C C'/\Mx wz C' RO K p c s t used (.pointer MT)/\aA [b4] wz w'/\aF w' b4 44 #[x0,x1,x2]
def LX{α:Type}{l:List α}{i:Nat}(h:i<l.length):∃u,l.reverse[i]? =O u/\l.drop (l.length - (i+1))=u::l.drop (l.length-i):=by
 have h1:l.length - (i+1)<l.length:=G;refine⟨l[l.length - (i+1)],?_,?_⟩
 ·rw[List.getElem?_reverse h,fq G];congr 1;congr 1;omega
 ·rw[tR h1];congr 2;omega
def Rg{p:Prop}(h:p:=by
 have Lk:=Z lM;clear k1 k2 lM HC;go_wp2_with fail
 go_roundg i'
 case measure=>omega
 case rel=>exact⟨i',rfl,rfl,G,Lk⟩):p:=h
def Tc{p:Prop}(h:p:=by
 go_wp2_with fail;refine HC.o.mono ?_;rintro e w9 ⟨rfl,C9,k1,k2⟩;have lM:wV w w9 C RO K p c t used s0 jl i':=⟨C9,_,uw.o.trans k1,k2,Wp.o,Wr.o⟩;exact Rg):p:=h
def Pb(M:Gi K C.mb p c)(h:cS w C U RO K p c t used hv jv s r)(hI:Inv (aC p c) s)(hG:Vm.Good (aC p c) p.vars.length s0 r.bz s)(ht:r.bY≠0)(hl:r.bz.length<1000000){b2 b5 b4:Nat}{x0 x1 x2:to}(h2:aF w b2 35 #[V5 C.mb])(h5:aF w b5 111 #[V5 U.rb])(h4:aF w b4 44 #[x0,x1,x2])(r5:b5∈RO)(r4:b4∈RO):
 CallsD prog 61 #[V5 b2,V5 b5,V5 b4] .returning w (λe u' w'=>u'= .returning/\yO w C RO K p c t used s0 b4 (.bool false) Vn (Y r.bY) e w'):=by
 obtain⟨k1,k2⟩:=h.mx.rH 60 (.pointer MT) (rv':= .pointer MT) rfl;have sS:=uL h.m.bg;have mf:∀o,w.frozen? (I C.mb o)=false:=h.m.bg.frozen;have c2:=h2.c1;have Pc:wV w (w.setCell (I C.mb 60) (.pointer MT)) C RO K p c t used s0 r.bz r.bz.length:=⟨C,s,k1,k2,hI,by rw[Nat.sub_self];exact hG⟩;have f_:∀wx C',bT w wx C C'->(Vo wx (I b5 0)=O (V5 U.rb)/\Vo wx (I U.rb 6)=O (Y r.bY)/\Vo wx (I U.rb 7)=O U.jU)/\Row wx 1 1 U.jU r.bz.length jv/\(∀i u,r.bz.reverse[i]? =O u->gK wx C.mb RO (jv i) u)/\aF wx b4 44 #[x0,x1,x2]:=by intro wx C' k;have X:=h.r.dS.aG k.f (h.sep.uc (by simp[Ru.l]));exact⟨⟨(h5.aG k.f (h.sep.cr r5)).cell 0,X.cell 6,X.cell 7⟩,h.r.jU.aG k.f (λb X=>h.sep.uc (by simp[Ru.l,aU.2 X])),λi u hu=>(h.r.jat i u hu).aG k.f (λb X=>h.sep.cr X),h4.aG k.f (h.sep.cr r4)⟩
 have htz:(r.bY==0)=false:=by simpa using ht
 have HM:=Z M;have HS:=Z Pc;have zU:=Z f_;have HL:=Z hl;have HR4:=Z (And.intro (h.sep.cr r4) r4);obtain⟨⟨q5,q6,q7⟩,-⟩:=f_ _ _ k1;have Ws:=h.r.jU.val;have Of:=Z Ws;clear h k1 k2 h2 h5 h4 r5 r4 M hI hG ht Pc f_ hl Ws;generalize vQ:r.bY=tr at*;generalize hjl:r.bz=jl at*;have aeW:=HL.o;have hjv:U.jU=Vn/\jl.length=0\/∃b cap,U.jU=H (O (I b 0)) jl.length cap:=by
  rcases Of.o with h|⟨b,cap,h1,-⟩
  ·exact .inl h
  ·exact .inr ⟨b,cap,h1⟩
 clear Of vQ hjl;rcases hjv with⟨iD,hz⟩|⟨jb,ae2,iD⟩
 ·rw[iD]at q7;have HZ:=Z hz;clear iD hz
  go_enter_d func61,ntmps61
  go_wp2_with fail
  go_loopg [3] 0 (λf s3 wr=>wr=w.setCell (I C.mb 60) (.pointer MT)/\s3=Y (-1:Int))
  case atStart=>exact⟨rfl,rfl⟩
  case round=>
   obtain⟨rfl,rfl⟩:=hrel;obtain⟨C',s',k1,k2,hI',YO⟩:=HS.o;obtain⟨-,-,-,b4x⟩:=zU.o _ _ k1;obtain⟨z0,z1,z2,zf⟩:=A_ b4x;have HE:=Z (show yO w C RO K p c t used s0 b4 (.bool false) Vn (Y tr) (Vl (.tuple #[])) (Cy (w.setCell (I C.mb 60) (.pointer MT)) b4 (.bool false) Vn (Y tr))from by
    have hG2:s'=s0:=by have:=YO;rw[HZ.o,Nat.sub_zero,List.length_eq_zero_iff.1 HZ.o]at this;exact this
    subst hG2;exact⟨rfl,C',_,k1,k2,sF _ _ _ _ _,sG b4x _ _ _⟩)
   clear k1 k2 hI' YO b4x;go_wp2;exact bK (dV rfl _ _ _) rfl HE.o
 ·rw[iD]at q7;have HV:=Z iD;clear iD
  go_enter_d func61,ntmps61
  go_wp2_with fail
  go_loopg [3] jl.length (λf s3 wr=>∃i:Nat,s3=Y ((i:Int) - 1)/\i=f/\i<=jl.length/\Hid (wV w wr C RO K p c t used s0 jl i))
  case atStart=>exact⟨jl.length,rfl,rfl,aL _,HS⟩
  case round=>
   clear HS;obtain⟨i,rfl,rfl,hi,HU⟩:=hrel;obtain⟨C',s',k1,k2,hI',YO⟩:=HU.o;obtain⟨⟨d5,d6,d7⟩,Td,dat,dbl⟩:=zU.o _ _ k1;rw[HV.o]at d7 Td;by_cases Nf:i=0
   ·subst Nf;obtain⟨z0,z1,z2,zf⟩:=A_ dbl;have HE:=Z (show yO w C RO K p c t used s0 b4 (.bool false) Vn (Y tr) (Vl (.tuple #[])) (Cy wr b4 (.bool false) Vn (Y tr))from by
     have hG2:s'=s0:=by have:=YO;rw[Nat.sub_zero,List.drop_length]at this;exact this
     subst hG2;exact⟨rfl,C',_,k1,k2,sF _ _ _ _ _,sG dbl _ _ _⟩)
    clear k1 k2 hI' YO dbl Td dat HU;go_wp2;exact bK (dV rfl _ _ _) rfl HE.o
   ·obtain⟨i',rfl⟩:∃i',i=i'+1:=⟨i-1,G⟩;have hii:i'<jl.length:=G;obtain⟨u,Ib,xK⟩:=LX hii;rw[xK]at YO;obtain⟨Ba,Wu,Pd⟩:=YO;have hua:=dat i' u Ib;have a1c:Vo wr (I jb i')=O (jv i'):=Td.cell G;have oR:=k1.mb;have uw:=Z k1;have nI:=Z k2;have HII:=Z hI';have Wr:=Z Pd;have Wp:=Z Wu;have wI:=Z oR;have EV:=HM.o.ev hI';have JN:=Z EV;have tS:p.ax.length<=256:=by have:=EV.g16;omega
    have Bx:((i'+1:Nat):Int) - 1=i':=G;have hnr:∀b,b∈RO->b∉C'.l:=λb X=>k2.cr X;have HNR:=Z hnr;clear k1 k2 hI' dat dbl Td HU Pd Wu oR EV Nf hnr Ib xK;rw[Bx];generalize jv i'=fv at*;cases u with
    |var a1d pW=>obtain⟨x1,x2,x3,op,bb,cc,dd,rfl,e1,e2,e3,-⟩:=hua;rw[<-wI.o]at e2;have HC:=Z (G4 nI.o Ba e1 e2 e3);clear Ba;exact Tc
    |mark pW=>obtain⟨x1,x2,rfl,e1,e2,-⟩:=hua;rw[<-wI.o]at e1;obtain⟨q,n,hq,hn,hf⟩:=Ba;have HC:=Z (Ep nI.o hf hq hn e1 e2);have HUE:=Z (show mQ (aC p c) (.mark pW) s'=lZ s' n pW by simp only[mQ,hf]);clear hf hn;go_wp2_with fail;refine HC.o.mono ?_;rintro e w9 ⟨rfl,C9,k1,k2⟩;have lM:wV w w9 C RO K p c t used s0 jl i':=⟨C9,_,uw.o.trans k1,k2,by rw[<-HUE.o];exact Wp.o,by rw[<-HUE.o];exact Wr.o⟩;exact Rg
    |cut q d=>obtain⟨x1,x2,x3,rfl,e1,e2,e3,-⟩:=hua;rw[<-wI.o]at e1;obtain⟨hq,hd,bm⟩:=Ba;have HC:=Z (G5 nI.o HII.o HM.o.AY tS hq hd bm JN.o.total e1 e2 e3);clear bm;exact Tc
    |put q d x=>obtain⟨x1,x2,x3,x4,rfl,e1,e2,e3,e4,-⟩:=hua;rw[<-wI.o]at e1;obtain⟨hq,hd,hx,be,Te⟩:=Ba;have HC:=Z (G6 nI.o HM.o.AY tS hq hd x hx (JN.o.room hq be Te) JN.o.total e1 e2 e3 e4);clear hx be Te;exact Tc
    |out q x ahead=>
     obtain⟨x1,x2,x3,x4,av,rfl,e1,e2,e3,e4,e5,y1,y2,y3,y4,y5⟩:=hua;rw[<-wI.o]at e1;obtain⟨hq,hx,be,Te,hah⟩:=Ba;have hal:ahead.length<=9223372036854775807:=by
      have h8:=e5.val;rcases h8 with⟨-,h8⟩|⟨b,cap,-,h8,h9,-⟩
      ·omega
      ·have:maxLen=9223372036854775807:=by rfl
       omega
     have HC:=Z (G_ nI.o HM.o.AY tS hq x hx (JN.o.room hq be Te) JN.o.total hah hal e1 e2 e3 e4 e5 y1 y2 y3 y4 y5);clear hx be Te hah hal e5;exact Tc
variable {RO2:List Nat}
def rest(w:ek)(C:Co):List Nat:=(List.range w.heap.size).filter (λb=>decide (b∉C.l))
def oZ{b:Nat}:b∈rest w C↔b<w.heap.size/\b∉C.l:=by unfold rest;simp
def Mx.rest(h:Mx w C RO K p c s t used rv):Mx w C (rest w C) K p c s t used rv:=
 h.less (λb X=> .inr (oZ.1 X)) (λb X=>oZ.2 ⟨h.sep.dO b X,h.cr X⟩)
def narrow(h:Mx w C RO K p c s t used rv)(ho:∀b,b∈Ma.rest w C->b∈RO2)(k:Kept (Ma.rest w C) w w')(hm:C'.mb=C.mb)(m:Mx w' C' RO2 K p c s' t' used' rv'):bT w w' C C'/\Mx w' C' RO K p c s' t' used' rv':=by
 have hr:∀b,b∈RO->b∈RO2:=λb X=>ho b (oZ.2 ⟨h.sep.dO b X,h.cr X⟩);refine⟨⟨hm,⟨k.os,k.tape,k.output,k.size,λi hi hs=>k.block i (oZ.2 ⟨hi,hs⟩)⟩,λb X=>?_⟩,⟨⟨m.m.bg,?_,m.m.ar,m.m.ix,m.m.vs⟩,m.sep.nd,m.sep.lt,λb X hc=>m.sep.ro b X (hr b hc),λb X=>dz (h.sep.dO b X) k.size⟩⟩
 ·by_cases h1:b∈C.l
  ·exact .inl h1
  ·by_cases h2:b<w.heap.size
   ·exact absurd (ho b (oZ.2 ⟨h2,h1⟩)) (m.sep.ro b X)
   ·exact .inr G
 ·exact⟨m.m.prog.g,m.m.prog.v,m.m.prog.t,m.m.prog.o,m.m.prog.cd,m.m.prog.qs,h.m.prog.ro⟩
def Mx.begin(h:Mx w C RO K p c s t used (V5 rb)){key a:Nat}(X:aF w rb 126 #[.int .u64 key,Y a,Vn,Vn,Vn,Vn,Y 0,Vn,.bool false])(hn:rb∉C.l)(ho:rb∉RO):
 cS w C ⟨rb,Vn,Vn,Vn,Vn⟩ RO K p c t used Vn (λ_=> Y 0) s (iB key a):=by
 have hl:(Ru.mk rb Vn Vn Vn Vn).l=[rb]:=rfl;refine⟨h.m,⟨X,Row.nil _ _ _ _,Row.nil _ _ _ _,Row.nil _ _ _ _,Row.nil _ _ _ _,λi u hu=>by simp[iB]at hu,rfl⟩,?_,?_,?_,h.sep.dO⟩
 ·rw[hl,vH];exact⟨h.sep.nd,ay,λx hx y hy=>by simp at hy;subst hy;rintro rfl;exact hn hx⟩
 ·rw[hl];intro b jV;rcases List.mem_append.1 jV with jV|jV
  ·exact h.sep.lt b jV
  ·simp at jV;subst jV;exact X.lt
 ·rw[hl];intro b jV;rcases List.mem_append.1 jV with jV|jV
  ·exact h.sep.ro b jV
  ·simp at jV;subst jV;exact ho
def Pe(h:Mx w C RO K p c s t used (V5 rb)){cs:Array to}(hr:aF w rb 126 cs)(h6:cs[6]? =O (Y 0))(hn:rb∉C.l){b2 b5 b4:Nat}{x0 x1 x2:to}(h2:aF w b2 35 #[V5 C.mb])(h5:aF w b5 111 #[V5 rb])(h4:aF w b4 44 #[x0,x1,x2])(r5:b5∈RO)(r4:b4∈RO):
 CallsD prog 61 #[V5 b2,V5 b5,V5 b4] .returning w (λe u' w'=>u'= .returning/\yO w C RO K p c t used s b4 x0 x1 x2 e w'):=by
 obtain⟨k1,k2⟩:=h.rH 60 (.pointer MT) (rv':= .pointer MT) rfl;have sS:=uL h.m.bg;have mf:∀o,w.frozen? (I C.mb o)=false:=h.m.bg.frozen;have c2:=h2.c1;have q5:(w.setCell (I C.mb 60) (.pointer MT)).cell? (I b5 0)=O (V5 rb):=(h5.aG k1.f (h.cr r5)).cell 0;have q6:(w.setCell (I C.mb 60) (.pointer MT)).cell? (I rb 6)=O (Y 0):=((hr.aG k1.f hn).cell 6).trans h6;have HB:=Z (show yO w C RO K p c t used s b4 x0 x1 x2 (Vl (.tuple #[])) (w.setCell (I C.mb 60) (.pointer MT))from⟨rfl,C,_,k1,k2,aA.refl _ _,h4.aG k1.f (h.cr r4)⟩);clear h k1 k2 h2 h5 h4 r5 r4 hr h6 hn
 go_enter_d func61,ntmps61
 go_wp2;exact bK (dV rfl _ _ _) rfl HB.o
structure zY(w w5:ek)(bx:Nat)(C:Co)(K:Kc)(p:aQ)(c:Cp)(s:St)(t:dZ)(used:Int)(key:Nat)(a:Int)(rv:to):Prop where
 at_:bx=w.heap.size
 mx:Mx w5 C (bx::(bx+1)::(bx+1+1+1)::Ma.rest w C) K p c s t used rv
 b2:aF w5 bx 35 #[V5 C.mb]
 b4:aF w5 (bx+1) 44 #[.bool false,Vn,Y 0]
 b5:aF w5 (bx+1+1+1) 111 #[V5 (bx+1+1)]
 rb:aF w5 (bx+1+1) 126 #[.int .u64 key,Y a,Vn,Vn,Vn,Vn,Y 0,Vn,.bool false]
 nc:bx+1+1∉C.l
 no:bx+1+1∉(bx::(bx+1)::(bx+1+1+1)::Ma.rest w C)
 Cz:Kept (Ma.rest w C) w w5
def YP{p:Prop}(h:p:=by
 exact .inr ⟨G,λhc=>by have:=be _ hc;omega⟩):p:=h
def B7(h:Mx w C RO K p c s t used (.pointer MT))(key:Nat)(a:Int):zY w ((((w.alloc (CA #[V5 C.mb] 35)).alloc (CA #[.bool false,Vn,Y 0] 44)).alloc (CA #[.int .u64 key,Y a,Vn,Vn,Vn,Vn,Y 0,Vn,.bool false] 126)).alloc (CA #[V5 (w.heap.size+1+1)] 111)) w.heap.size C K p c s t used key a (.pointer MT):=by
 have sz:∀(w:ek) (o:Obj),(w.alloc o).heap.size=w.heap.size+1:=λw o=>by simp
 have b1:=aF.new w 35 #[V5 C.mb];have h1:=h.rest.box (CA #[V5 C.mb] 35);have e1:=sz w (CA #[V5 C.mb] 35);have k1:Below w.heap.size w (w.alloc (CA #[V5 C.mb] 35)):=(aY _ w).alloc (aL _) _;generalize w.alloc (CA #[V5 C.mb] 35)=w1 at*;have b2:=aF.new w1 44 #[.bool false,Vn,Y 0];have h2:=h1.box (CA #[.bool false,Vn,Y 0] 44);have e2:=sz w1 (CA #[.bool false,Vn,Y 0] 44);have b1:=b1.alloc (CA #[.bool false,Vn,Y 0] 44);have k2:=k1.alloc G (CA #[.bool false,Vn,Y 0] 44);generalize w1.alloc (CA #[.bool false,Vn,Y 0] 44)=w2 at*;have b3:=aF.new w2 126 #[.int .u64 key,Y a,Vn,Vn,Vn,Vn,Y 0,Vn,.bool false];have h3:=h2.box (CA #[.int .u64 key,Y a,Vn,Vn,Vn,Vn,Y 0,Vn,.bool false] 126);have e3:=sz w2 (CA #[.int .u64 key,Y a,Vn,Vn,Vn,Vn,Y 0,Vn,.bool false] 126);have b1:=b1.alloc (CA #[.int .u64 key,Y a,Vn,Vn,Vn,Vn,Y 0,Vn,.bool false] 126);have b2:=b2.alloc (CA #[.int .u64 key,Y a,Vn,Vn,Vn,Vn,Y 0,Vn,.bool false] 126);have k3:=k2.alloc G (CA #[.int .u64 key,Y a,Vn,Vn,Vn,Vn,Y 0,Vn,.bool false] 126);generalize w2.alloc (CA #[.int .u64 key,Y a,Vn,Vn,Vn,Vn,Y 0,Vn,.bool false] 126)=w3 at*;have b4:=aF.new w3 111 #[V5 (w.heap.size+1+1)];have h4:=h3.box (CA #[V5 (w.heap.size+1+1)] 111);have e4:=sz w3 (CA #[V5 (w.heap.size+1+1)] 111);have b1:=b1.alloc (CA #[V5 (w.heap.size+1+1)] 111);have b2:=b2.alloc (CA #[V5 (w.heap.size+1+1)] 111);have b3:=b3.alloc (CA #[V5 (w.heap.size+1+1)] 111);have k4:=k3.alloc G (CA #[V5 (w.heap.size+1+1)] 111);generalize w3.alloc (CA #[V5 (w.heap.size+1+1)] 111)=w4 at*;rw[e1]at e2 b2;rw[e2]at e3 b3;rw[e3]at e4 b4;have be:∀b,b∈C.l->b<w.heap.size:=h.sep.lt;have hrt:∀b,b∈Ma.rest w C->b<w.heap.size:=λb X=>(oZ.1 X).1;refine⟨rfl,h4.less (λb X=>?_) (λb X=>by simp[X]),b1,b2,b4,b3,λhc=>by have:=be _ hc;omega,λhc=>?_,Kept.af k4 hrt⟩
 ·simp only[dK]at X;rcases X with rfl|rfl|rfl|X
  ·exact YP
  ·exact YP
  ·exact YP
  ·exact .inl X
 ·simp only[dK]at hc;rcases hc with hc|hc|hc|hc
  ·omega
  ·omega
  ·omega
  ·have:=hrt _ hc;omega
def zY.draw{w5:ek}{bx:Nat}{key:Nat}{a:Int}(h:zY w w5 bx C K p c s t used key a rv)(n:Nat):zY w (w5.drewN n) bx C K p c s t used key a rv:=
 ⟨h.at_,h.mx.drewN n,h.b2.drewN n,h.b4.drewN n,h.b5.drewN n,h.rb.drewN n,h.nc,h.no,h.Cz.trans (Kept.af (az w5.heap.size w5 n) (λb X=>h.mx.sep.dO b (by simp[X]))) (λb X=>X)⟩
def zY.enter{w5:ek}{bx:Nat}{key:Nat}{a:Int}(h:zY w w5 bx C K p c s t used key a (.pointer MT)):zY w ((w5.setCell (I C.mb 60) (V5 (bx+1+1))).setCell (I C.mb 17) (Y 0)) bx C K p c s t 0 key a (V5 (bx+1+1)):=by obtain⟨k1,m1⟩:=h.mx.rH 60 (V5 (bx+1+1)) (rv':=V5 (bx+1+1)) rfl;obtain⟨k2,m2⟩:=m1.rH 17 (Y 0) (used':=0) rfl;have k:=k1.trans k2;have hk:Kept (Ma.rest w C) w5 ((w5.setCell (I C.mb 60) (V5 (bx+1+1))).setCell (I C.mb 17) (Y 0)):=Kept.dn k.f (λb X=>h.mx.cr (by simp[X])) (λb X=>h.mx.sep.dO b (by simp[X]));exact⟨h.at_,m2,h.b2.aG k.f (h.mx.cr ay),h.b4.aG k.f (h.mx.cr ay),h.b5.aG k.f (h.mx.cr ay),h.rb.aG k.f h.nc,h.nc,h.no,h.Cz.trans hk (λb X=>X)⟩
end
end Go.Ma
section
def YQ{p:Prop}(h:p:=by
 rcases h.val with⟨e,h0⟩|⟨b,cap,e,-⟩
 ·exact⟨MT,0,by rw[e,h0]⟩
 ·exact⟨_,_,e⟩):p:=h
namespace Go.Ma
open Go.RowKit aj.Vm
open aj hiding aR an ak
open eB (bS bL eN)
open Ix (cX)
section
variable {w w' wr:ek}{C C' C1:Co}{U U':Ru}{RO RO' pS:List Nat}{K:Kc}{p:aQ}{c:Cp}{t t':dZ}{used used':Int}{hv hv':to}{jv kT:Nat->to}{s s' s0 s1:St}{t0:dZ}{Bb:Int}{r r':Rn}{rv rv':to}{mb rb bx:Nat}{T:Map}{st:Std}
def pF{b o:Nat}{U:TypeId}{cs:Array to}{v:to}(h:aF w b U cs)(hv:cs[o]? =O v):w.setCell (I b o) v=w:=by
 have hh:(w.setCell (I b o) v).heap=w.heap:=Array.ext_getElem? λk=>by
  rw[pw];split
  ·next e=>
   subst e;unfold aF at h;rw[h];have:cs.setIfInBounds o v=cs:=Array.ext_getElem? λi=>by
    rw[Array.getElem?_setIfInBounds];split
    ·next e=>subst e;split
             ·exact hv.symm
             ·next h2=>rw[Array.getElem?_eq_none G]
    ·rfl
   simp[this]
  ·rfl
 cases w;simp only[World.setCell]at hh ⊢;congr
structure Over(w wr:ek)(bx:Nat)(C C1:Co)(pS:List Nat)(K:Kc)(p:aQ)(c:Cp)(s1:St)(t:dZ)(used:Int)(tv:to)(told:List Nat)(bY:Int)(x0 x1 x2:to):Prop where
 at_:bx=w.heap.size
 mb:C1.mb=C.mb
 mx:Mx wr C1 pS K p c s1 t used (V5 (bx+1+1))
 ro:∀b,b∈(bx::(bx+1)::(bx+1+1+1)::Ma.rest w C)->b∈pS
 b2:aF wr bx 35 #[V5 C.mb]
 b4:aF wr (bx+1) 44 #[x0,x1,x2]
 b5:aF wr (bx+1+1+1) 111 #[V5 (bx+1+1)]
 rb:∃cs,aF wr (bx+1+1) 126 cs/\cs[5]? =O tv/\cs[6]? =O (Y bY)
 nc:bx+1+1∉C1.l
 td:Row wr 46 1 tv told.length (λi=> .int .u64 (told.getD i 0:Nat))
 tn:∀b,b∈vb tv->b∉C1.l/\b≠bx+1/\b∉Ma.rest w C
 Cz:Kept (Ma.rest w C) w wr
def zY.YR{key:Nat}{a:Int}(h:zY w wr bx C K p c s t used key a (V5 (bx+1+1))):Over w wr bx C C (bx::(bx+1)::(bx+1+1+1)::Ma.rest w C) K p c s t used Vn [] 0 (.bool false) Vn (Y 0):=
 ⟨h.at_,rfl,h.mx,λb X=>X,h.b2,h.b4,h.b5,⟨_,h.rb,rfl,rfl⟩,h.nc,Row.nil _ _ _ _,λb X=>by simp[vb,Value.ownBlock]at X,h.Cz⟩
def zY.all{key a:Nat}(h:zY w wr bx C K p c s t used key a (V5 (bx+1+1))):cS wr C ⟨bx+1+1,Vn,Vn,Vn,Vn⟩ (bx::(bx+1)::(bx+1+1+1)::Ma.rest w C) K p c t used Vn (λ_=> Y 0) s (iB key a):=h.mx.begin h.rb h.nc h.no
def zY.ran{key a:Nat}{w6:ek}(h:zY w w6 bx C K p c s t 0 key a (V5 (bx+1+1))){z:Nat×SR}(hi:In wr C.mb (bx+1+1) pS K p c t z.1 z.2)(ho:∀b,b∈(bx::(bx+1)::(bx+1+1+1)::Ma.rest w C)->b∈pS)(hk:Kept (bx::(bx+1)::(bx+1+1+1)::Ma.rest w C) w6 wr):
 ∃C1 tv,Over w wr bx C C1 pS K p c z.2.1 t z.1 tv z.2.2.told z.2.2.bY (.bool false) Vn (Y 0)/\∃U hv jv,U.rb=bx+1+1/\cS wr C1 U pS K p c t z.1 hv jv z.2.1 z.2.2:=by
 obtain⟨C1,U,hv,jv,h1,h2,A⟩:=hi;have hm:=A.mx;rw[h2]at hm;have X:=A.r.dS;rw[h2]at X;refine⟨C1,U.mV,⟨h.at_,h1,hm,ho,aF.kept h.b2 hk ay,aF.kept h.b4 hk ay,aF.kept h.b5 hk ay,⟨_,X,rfl,rfl⟩,?_,A.r.mV,?_,h.Cz.trans hk (λb X=>by simp[X])⟩,U,hv,jv,h2,A⟩
 ·rw[<-h2];exact A.sep.uc (by simp[Ru.l])
 ·exact λb X=>⟨A.sep.uc (by simp[Ru.l,X]),λe=>A.sep.ur (b:=b) (ho b (by rw[e];simp)) (by simp[Ru.l,X]),λhc=>A.sep.ur (b:=b) (ho b (by simp[hc])) (by simp[Ru.l,X])⟩
def tX(t:dZ)(hit:Bool)(told:List Nat):dZ:=if hit then{t with xX:=wrap64 (t.xX+1),Ga:=wrap64 (t.Ga+told.length)}else{t with mW:=wrap64 (t.mW+1),Ga:=wrap64 (t.Ga+told.length)}
def yP(w:ek)(v:to)(l:List Nat):Prop:=(v=Vn/\l=[])\/∃b cs,v=H (O (I b 0)) l.length l.length/\aF w b 46 cs/\∀i,i<l.length->cs[i]? =O (.int .u64 (l.getD i 0:Nat))
def je(w:ek)(C:Co)(RO:List Nat)(K:Kc)(p:aQ)(c:Cp)(t:dZ)(s:St)(key:Nat)(e:Ending)(w':ek):Prop:=
 ∃(tv:to) (C':Co),e=Vl (.agg #[.bool (if jc p c s key=0 then rG p c s key else false),tv,Y (jc p c s key)])/\bT w w' C C'/\
  Mx w' C' RO K p c (nr p c s key) (if jc p c s key=0 then tX t (rG p c s key) (rR p c s key)else t) (uz p c s key).1 (.pointer MT)/\
  yP w' tv (if jc p c s key=0 then rR p c s key else[])/\∀b,b∈vb tv->b∉C'.l/\b∉Ma.rest w C
def Mx.vf(h:Mx w C RO' K p c s t used rv)(hs:∀b,b∈RO->b∈RO')(hp:∀b,(b∈vb K.g\/b∈vb K.v\/b∈vb K.t\/b∈vb K.o\/b∈vb K.c\/b∈vb K.qs)->b∈RO):Mx w C RO K p c s t used rv:=
 ⟨⟨h.m.bg,⟨h.m.prog.g,h.m.prog.v,h.m.prog.t,h.m.prog.o,h.m.prog.cd,h.m.prog.qs,hp⟩,h.m.ar,h.m.ix,h.m.vs⟩,h.sep.nd,h.sep.lt,λb X hc=>h.sep.ro b X (hs b hc),λb X=>h.sep.dO b (hs b X)⟩
section
variable {tv x0 x1 x2 y0 y1 y2:to}{told:List Nat}{bY vU:Int}{w8 w9 wz:ek}{C2:Co}{s2:St}{t2:dZ}
def Over.Pf(h:Mx w C RO K p c s0 t0 Bb (.pointer MT))(a0f:Over w wr bx C C1 pS K p c s1 t used tv told bY x0 x1 x2)(k:bT wr w8 C1 C2)(m:Mx w8 C2 pS K p c s2 t2 vU rv):bT w w8 C C2/\Mx w8 C2 RO K p c s2 t2 vU rv:=
 narrow h (λb X=>a0f.ro b (by simp[X])) (a0f.Cz.trans (Kept.dn (RO:=Ma.rest w C) k.f (λb X=>a0f.mx.cr (a0f.ro b (by simp[X]))) (λb X=>a0f.mx.sep.dO b (a0f.ro b (by simp[X])))) (λb X=>X)) (k.mb.trans a0f.mb) m
def yQ(h:Mx w C RO K p c s0 t0 Bb (.pointer MT))(X:bx=w.heap.size)(k:bT w w8 C C2)(m:Mx w8 C2 RO K p c s2 t2 vU rv)(hn:bx+1∉C2.l)(f:aA [bx+1] w8 w9):bT w w9 C C2/\Mx w9 C2 RO K p c s2 t2 vU rv:=
 ⟨k.new G f,m.aG f (λb X hc=>by simp at hc;subst hc;exact hn X) (λb jV hc=>by simp at hc;subst hc;have:=h.sep.dO _ jV;omega)⟩
def Over.close(h:Mx w C RO K p c s0 t0 Bb (.pointer MT))(a0f:Over w wr bx C C1 pS K p c s1 t used tv told 0 x0 x1 x2)(k:bT wr w8 C1 C1)(m:Mx w8 C1 pS K p c s1 t2 vU (V5 (bx+1+1)))(f:aA [bx+1] w8 w9)(b4:aF w9 (bx+1) 44 #[y0,y1,y2]):
 CallsD prog 61 #[V5 bx,V5 (bx+1+1+1),V5 (bx+1)] .returning w9 (λe u' w'=>u'= .returning/\e=Vl (.tuple #[])/\
  ∃C2,bT w w' C C2/\Mx w' C2 RO K p c s1 t2 vU (.pointer MT)/\aF w' (bx+1) 44 #[y0,y1,y2]/\Row w' 46 1 tv told.length (λi=> .int .u64 (told.getD i 0:Nat))/\∀b,b∈vb tv->b∉C2.l/\b∉Ma.rest w C):=by
 obtain⟨k1,m1⟩:=a0f.Pf h k m;have n4:bx+1∉C1.l:=a0f.mx.cr (a0f.ro _ ay);obtain⟨k2,m2⟩:=yQ h a0f.at_ k1 m1 n4 f;have n2:bx∉C1.l:=a0f.mx.cr (a0f.ro _ ay);have n5:bx+1+1+1∉C1.l:=a0f.mx.cr (a0f.ro _ ay);have c2:=(a0f.b2.aG k.f n2).aG f ay;have c5:=(a0f.b5.aG k.f n5).aG f jz;obtain⟨cs,mB,-,h6⟩:=a0f.rb;have cr:=(mB.aG k.f a0f.nc).aG f ay;have td:=(a0f.td.aG k.f (λb X=>(a0f.tn b (aU.2 X)).1)).aG f (λb X=>by simp;exact(a0f.tn b (aU.2 X)).2.1);have tl:∀b,b∈vb tv->b<w9.heap.size:=by
  intro b X;rcases td.val with⟨e,-⟩|⟨b',cap,e,-,-,hl⟩
  ·rw[e]at X;simp[vb,Value.ownBlock]at X
  ·rw[e]at X;simp[vb,Value.ownBlock]at X;subst X;exact hl
 have m3:Mx w9 C1 (bx::(bx+1)::(bx+1+1+1)::RO) K p c s1 t2 vU (V5 (bx+1+1)):=m2.less (λb X=>by
  simp only[dK]at X;rcases X with rfl|rfl|rfl|X
  ·exact .inr ⟨c2.lt,n2⟩
  ·exact .inr ⟨b4.lt,n4⟩
  ·exact .inr ⟨c5.lt,n5⟩
  ·exact .inl X) (λb X=>by simp[X])
 rw[<-a0f.mb]at c2;refine(Pe m3 cr h6 a0f.nc c2 c5 b4 ay ay).mono ?_;rintro e u' w' ⟨rfl,rfl,C3,wz,k3,m4,kf,kb⟩;have m5:=m4.vf (RO:=RO) (λb X=>by simp[X]) h.m.prog.ro;have n43:bx+1∉C3.l:=m4.cr ay;obtain⟨k4,m6⟩:=yQ h a0f.at_ (k2.trans k3) m5 n43 kf;refine⟨rfl,rfl,C3,k4,m6,kb,(td.aG k3.f (λb X=>(a0f.tn b (aU.2 X)).1)).aG kf (λb X=>by simp;exact(a0f.tn b (aU.2 X)).2.1),λb X=>⟨λhc=>?_,(a0f.tn b X).2.2⟩⟩;rcases k3.c b hc with hc|hc
 ·exact(a0f.tn b X).1 hc
 ·have:=tl b X;omega
end
def Over.rH{tv x0 x1 x2:to}{told:List Nat}{bY:Int}(a0f:Over w wr bx C C1 pS K p c s1 t used tv told bY x0 x1 x2)(o:Nat)(v:to)(X:(iJ K C1 p c s1.total t used (V5 (bx+1+1))).setIfInBounds o v=iJ K C1 p c s1.total t' used' (V5 (bx+1+1))):
 Over w (wr.setCell (I C.mb o) v) bx C C1 pS K p c s1 t' used' tv told bY x0 x1 x2:=by
 obtain⟨k,m⟩:=a0f.mx.rH o v X;rw[a0f.mb]at k m;obtain⟨cs,q1,q2,q3⟩:=a0f.rb;exact⟨a0f.at_,a0f.mb,m,a0f.ro,a0f.b2.aG k.f (a0f.mx.cr (a0f.ro _ ay)),a0f.b4.aG k.f (a0f.mx.cr (a0f.ro _ ay)),a0f.b5.aG k.f (a0f.mx.cr (a0f.ro _ ay)),⟨cs,q1.aG k.f a0f.nc,q2,q3⟩,a0f.nc,
  a0f.td.aG k.f (λb X=>(a0f.tn b (aU.2 X)).1),a0f.tn,a0f.Cz.trans (Kept.dn (RO:=Ma.rest w C) k.f (λb X=>a0f.mx.cr (a0f.ro b (by simp[X]))) (λb X=>a0f.mx.sep.dO b (a0f.ro b (by simp[X])))) (λb X=>X)⟩
def Over.draw{tv x0 x1 x2:to}{told:List Nat}{bY:Int}(a0f:Over w wr bx C C1 pS K p c s1 t used tv told bY x0 x1 x2)(n:Nat):Over w (wr.drewN n) bx C C1 pS K p c s1 t used tv told bY x0 x1 x2:=by
 obtain⟨cs,q1,q2,q3⟩:=a0f.rb;have b:=az wr.heap.size wr n;exact⟨a0f.at_,a0f.mb,a0f.mx.drewN n,a0f.ro,a0f.b2.drewN n,a0f.b4.drewN n,a0f.b5.drewN n,⟨cs,q1.drewN n,q2,q3⟩,a0f.nc,
  a0f.td.aG (aA.af (S:=[]) b) ay,a0f.tn,a0f.Cz.trans (Kept.af b (λb X=>a0f.mx.sep.dO b (a0f.ro b (by simp[X])))) (λb X=>X)⟩
def MG{p:Prop}(h:p:=by
 go_enter func63,ntmps63;go_wp2;exact bK (results_tmp rfl _ _ _) rfl ⟨rfl,rfl⟩):p:=h
def Pg(w:ek):Calls prog 63 #[Vn] w (λe w'=>e=Vl Vn/\w=w'):=by exact MG
def LY(w:ek){b n cap:Nat}(h:n<=cap):Calls prog 63 #[H (O (I b 0)) n cap] w (λe w'=>e=Vl (H (O (I b 0)) n n)/\w=w'):=by exact MG
end
end Go.Ma
end
section
def qX7{p:Prop}(h:p:=by
 rw[aB h1,aw h2];cases X:(lv q).ownBlock with
 |none=>exact .inl rfl
 |some b=>
  right;intro e;have:=(h.q q h1).i_ b X;have:=hn b e.symm;omega):p:=h
def qX8{p:Prop}(h:p:=by
 rw[aw h1,aB h2];cases X:ev.ownBlock with
 |none=>exact .inl rfl
 |some b=>
  right;intro e;have:=(h.q q' h2).i_ b e.symm;have:=hn b X;omega):p:=h
namespace aj.Vm
open Go
structure PE where
 key:Nat
 aS:List Int
 deriving DecidableEq
structure PS where
 aK:List (List PE)
 vars:List Int
 deriving DecidableEq
def tY(p:aQ)(e:eU):PE:=⟨e.key,(List.range p.aS.length).map e.tg⟩
def nz(p:aQ)(s:St)(q:Nat):List PE:=(s.a.ls q).map λn=>tY p (s.a.val n)
def nA(p:aQ)(s:St):PS:=⟨(List.range p.ax.length).map (nz p s),(List.range p.vars.length).map s.vars⟩
def jL{α:Type}(f:Nat->α){n i:Nat}(d:α)(h:i<n):((List.range n).map f).getD i d=f i:=by simp[List.getD,h]
def ki(lo hi:Nat)(v:to):Prop:=∀b,v.ownBlock=O b->lo<=b/\b<hi
def ki.nil(lo hi:Nat):ki lo hi Vn:=λb X=>by simp[Value.ownBlock]at X
def ki.mono{lo hi tZ hi':Nat}{v:to}(h:ki lo hi v)(h1:tZ<=lo)(h2:hi<=hi'):ki tZ hi' v:=λb X=>by have:=h b X;omega
def oF(w:ek)(lo hi:Nat)(Es:List TypeId)(S:List Nat):Prop:=∀b,b∈S->(b<lo\/hi<=b)\/(∃E cs,aF w b E cs/\E∉Es)\/∃o:Obj,w.heap[b]? =O o/\o.isCells=false
def oF.nil(w:ek)(lo hi:Nat)(Es:List TypeId):oF w lo hi Es []:=λb X=>by simp at X
def oF.sub{w:ek}{lo hi:Nat}{Es Fs:List TypeId}{S:List Nat}(h:oF w lo hi Es S)(hs:∀e,e∈Fs->e∈Es):oF w lo hi Fs S:=λb X=>by
 rcases h b X with h|⟨E,cs,h1,h2⟩|h
 ·exact .inl h
 ·exact .inr (.inl ⟨E,cs,h1,λhc=>h2 (hs _ hc)⟩)
 ·exact .inr (.inr h)
def oF.range{w:ek}{lo hi:Nat}{Es:List TypeId}{S:List Nat}(h:∀b,b∈S->b<lo\/hi<=b):oF w lo hi Es S:=λb X=> .inl (h b X)
def Row.Tf{w:ek}{e:TypeId}{size n:Nat}{v:to}{g:Nat->to}(h:Row w e size v n g){b:Nat}(X:v.ownBlock= .some b):∃cs,aF w b e cs:=by
 rcases h.2 with⟨rfl,_⟩|⟨b',cap,zF,rfl,_,hg,_⟩
 ·simp[Value.ownBlock]at X
 ·simp[Value.ownBlock]at X;subst X;exact⟨zF,hg⟩
def oF.row{w:ek}{lo hi:Nat}{Es:List TypeId}{S:List Nat}(k:oF w lo hi Es S){e:TypeId}{size n:Nat}{v:to}{g:Nat->to}(h:Row w e size v n g)(he:e∈Es)(hi':ki lo hi v){b:Nat}(X:v.ownBlock=O b):b∉S:=by
 intro hc;obtain⟨cs,h1⟩:=h.Tf X;rcases k b hc with h2|⟨E,cs',h2,h3⟩|⟨o,h2,h3⟩
 ·have:=hi' b X;omega
 ·unfold aF at h1 h2;rw[h1]at h2;simp at h2;exact h3 (h2.2▸he)
 ·unfold aF at h1;rw[h1]at h2;cases h2;simp[Obj.isCells]at h3
end aj.Vm
namespace Go.Ma
open Go.RowKit aj.Vm
open aj hiding aR an ak
open eB (bS bL eN)
open Ix (cX)
def Row.off{w w':ek}{e:TypeId}{size n:Nat}{v:to}{g:Nat->to}{lo hi:Nat}{Es:List TypeId}{S:List Nat}(h:Row w e size v n g)(hi':ki lo hi v)(he:e∈Es)(f:aA S w w')(k:oF w lo hi Es S):Row w' e size v n g:=
 h.aG f λb X=>k.row h he hi' X
def uX:List TypeId:=[3]
def LZ:List TypeId:=[62,3]
def tQs:List TypeId:=[60,62,3]
structure eS(w:ek)(lo hi:Nat)(v:to)(l:List Int):Prop where
 row:Row w 3 1 v l.length (aX l)
 i_:ki lo hi v
def eS.off{w w':ek}{lo hi:Nat}{v:to}{l:List Int}{S:List Nat}(h:eS w lo hi v l)(f:aA S w w')(k:oF w lo hi uX S):eS w' lo hi v l:=⟨Row.off h.row h.i_ (by simp[uX]) f k,h.i_⟩
def eS.mono{w:ek}{lo hi tZ hi':Nat}{v:to}{l:List Int}(h:eS w lo hi v l)(h1:tZ<=lo)(h2:hi<=hi'):eS w tZ hi' v l:=⟨h.row,h.i_.mono h1 h2⟩
def RE(l:List PE)(tv:Nat->to)(o:Nat):to:=if o % 2=0 then .int .u64 (l.getD (o / 2) ⟨0,[]⟩).key else tv (o / 2)
structure kJ(w:ek)(lo hi:Nat)(v:to)(l:List PE)(tv:Nat->to):Prop where
 row:Row w 62 2 v l.length (RE l tv)
 i_:ki lo hi v
 aS:∀i,i<l.length->eS w lo hi (tv i) (l.getD i ⟨0,[]⟩).aS
def kJ.off{w w':ek}{lo hi:Nat}{v:to}{l:List PE}{tv:Nat->to}{S:List Nat}(h:kJ w lo hi v l tv)(f:aA S w w')(k:oF w lo hi LZ S):kJ w' lo hi v l tv:=
 ⟨Row.off h.row h.i_ (by simp[LZ]) f k,h.i_,λi hi=>(h.aS i hi).off f (k.sub (by simp[uX,LZ]))⟩
def kJ.mono{w:ek}{lo hi tZ hi':Nat}{v:to}{l:List PE}{tv:Nat->to}(h:kJ w lo hi v l tv)(h1:tZ<=lo)(h2:hi<=hi'):kJ w tZ hi' v l tv:=⟨h.row,h.i_.mono h1 h2,λi hi=>(h.aS i hi).mono h1 h2⟩
structure uY(w:ek)(lo hi:Nat)(v:to)(L:List (List PE))(lv:Nat->to)(tv:Nat->Nat->to):Prop where
 row:Row w 60 1 v L.length lv
 i_:ki lo hi v
 q:∀q,q<L.length->kJ w lo hi (lv q) (L.getD q []) (tv q)
 sep:∀q q',q<L.length->q'<L.length->q≠q'->(lv q).ownBlock=MT\/(lv q).ownBlock≠(lv q').ownBlock
def uY.off{w w':ek}{lo hi:Nat}{v:to}{L:List (List PE)}{lv:Nat->to}{tv:Nat->Nat->to}{S:List Nat}(h:uY w lo hi v L lv tv)(f:aA S w w')(k:oF w lo hi tQs S):uY w' lo hi v L lv tv:=
 ⟨Row.off h.row h.i_ (by simp[tQs]) f k,h.i_,λq hq=>(h.q q hq).off f (k.sub (by simp[tQs,LZ])),h.sep⟩
def uY.mono{w:ek}{lo hi tZ hi':Nat}{v:to}{L:List (List PE)}{lv:Nat->to}{tv:Nat->Nat->to}(h:uY w lo hi v L lv tv)(h1:tZ<=lo)(h2:hi<=hi'):uY w tZ hi' v L lv tv:=
 ⟨h.row,h.i_.mono h1 h2,λq hq=>(h.q q hq).mono h1 h2,h.sep⟩
structure jM(w:ek)(lo hi:Nat)(qv vv:to)(S:PS)(lv:Nat->to)(tv:Nat->Nat->to):Prop where
 qs:uY w lo hi qv S.aK lv tv
 vs:eS w lo hi vv S.vars
def jM.off{w w':ek}{lo hi:Nat}{qv vv:to}{S:PS}{lv:Nat->to}{tv:Nat->Nat->to}{T:List Nat}(h:jM w lo hi qv vv S lv tv)(f:aA T w w')(k:oF w lo hi tQs T):jM w' lo hi qv vv S lv tv:=⟨h.qs.off f k,h.vs.off f (k.sub (by simp[tQs,uX]))⟩
def jM.mono{w:ek}{lo hi tZ hi':Nat}{qv vv:to}{S:PS}{lv:Nat->to}{tv:Nat->Nat->to}(h:jM w lo hi qv vv S lv tv)(h1:tZ<=lo)(h2:hi<=hi'):jM w tZ hi' qv vv S lv tv:=⟨h.qs.mono h1 h2,h.vs.mono h1 h2⟩
def kJ.snoc{w w':ek}{lo hi:Nat}{v v':to}{l:List PE}{tv:Nat->to}(h:kJ w lo hi v l tv){x:PE}{xv:to}(hx:eS w' lo w'.heap.size xv x.aS)(hle:hi<=w.heap.size){S:List Nat}(f:aA S w w')(hS:oF w lo hi uX S)
 (hr:Row w' 62 2 v' (l.length+1) (fY (l.length*2) (RE l tv) λj=>if j % 2=0 then .int .u64 x.key else xv)) (hv:ki lo w'.heap.size v'):kJ w' lo w'.heap.size v' (l++[x]) (λi=>if i<l.length then tv i else xv):=by
 refine⟨?_,hv,λi hi'=>?_⟩
 ·rw[oK,E0];refine hr.congr λo ho=>?_;unfold fY RE;by_cases h1:o<l.length*2
  ·have h2:o / 2<l.length:=G;rw[aB h1];dsimp only;rw[aB h2];have e:(l++[x]).getD (o / 2) ⟨0,[]⟩=l.getD (o / 2) ⟨0,[]⟩:=by simp[List.getD,AJ,h2]
   rw[e]
  ·have h2:o / 2=l.length:=G;rw[aw h1];dsimp only;rw[h2,aw (Nat.lt_irrefl _)];have e:(l++[x]).getD l.length ⟨0,[]⟩=x:=by simp[List.getD]
   rw[e];by_cases h3:o % 2=0
   ·rw[aB h3,aB G]
   ·rw[aw h3,aw G]
 ·rw[oK,E0]at hi';by_cases h2:i<l.length
  ·rw[aB h2];have e:(l++[x]).getD i ⟨0,[]⟩=l.getD i ⟨0,[]⟩:=by simp[List.getD,AJ,h2]
   rw[e];exact((h.aS i h2).off f hS).mono (aL _) (cU hle f.size)
  ·have h3:i=l.length:=G;subst h3;rw[aw (Nat.lt_irrefl _)];have e:(l++[x]).getD l.length ⟨0,[]⟩=x:=by simp[List.getD]
   rw[e];exact hx
def uY.snoc{w w':ek}{lo hi:Nat}{v v':to}{L:List (List PE)}{lv:Nat->to}{tv:Nat->Nat->to}(h:uY w lo hi v L lv tv){l:List PE}{ev:to}{te:Nat->to}(he:kJ w' lo w'.heap.size ev l te)(hle:hi<=w.heap.size)
 {S:List Nat} (f:aA S w w') (hS:oF w lo hi LZ S) (hr:Row w' 60 1 v' (L.length+1) (fY (L.length*1) lv λ_=>ev)) (hv:ki lo w'.heap.size v') (hn:∀b,ev.ownBlock=O b->hi<=b):
 uY w' lo w'.heap.size v' (L++[l]) (λq=>if q<L.length then lv q else ev) (λq=>if q<L.length then tv q else te):=by
 have hlen:(L++[l]).length=L.length+1:=by simp
 have e1:∀q,q<L.length->(L++[l]).getD q []=L.getD q []:=λq hq=>by simp[List.getD,AJ,hq]
 have e2:(L++[l]).getD L.length []=l:=by simp[List.getD]
 refine⟨?_,hv,λq hq=>?_,λq q' hq Q_ bm=>?_⟩
 ·rw[hlen];refine hr.congr λo ho=>?_;unfold fY;dsimp only;by_cases h1:o<L.length
  ·rw[aB G,aB h1]
  ·rw[aw G,aw h1]
 ·rw[hlen]at hq;by_cases h1:q<L.length
  ·rw[aB h1,aB h1,e1 q h1];exact((h.q q h1).off f hS).mono (aL _) (cU hle f.size)
  ·obtain rfl:q=L.length:=G;rw[aw h1,aw h1,e2];exact he
 ·rw[hlen]at hq Q_;by_cases h1:q<L.length
  ·by_cases h2:q'<L.length
   ·rw[aB h1,aB h2];exact h.sep q q' h1 h2 bm
   ·exact qX7
  ·by_cases h2:q'<L.length
   ·exact qX8
   ·omega
end Go.Ma
end
namespace Go.Vf
open Go.RowKit aj.Vm
open aj hiding aR an ak
open Ma (dP ci aX vb)
def aZ(w:ek)(size:Nat)(v:to)(n:Nat)(g:Nat->to):Prop:=
 (v=Vn/\n=0)\/∃a cap,v=H (O a) n cap/\n<=cap/\cap<=maxLen/\∀o,o<n*size->a.spot=MT/\Vo w (I a.block (a.off+o))=O (g o)
section
variable {w w':ek}{size n:Nat}{v:to}{g f:Nat->to}
def aZ.val(h:aZ w size v n g):∃a cap,v=H a n cap/\n<=cap/\cap<=maxLen:=by
 rcases h with⟨rfl,rfl⟩|⟨a,cap,rfl,h1,h2,-⟩
 ·exact⟨MT,0,rfl,aL _,cM _⟩
 ·exact⟨O a,cap,rfl,h1,h2⟩
def aZ.len(h:aZ w size v n g):n<=maxLen:=by obtain⟨_,_,_,h1,h2⟩:=h.val;omega
def aZ.some(h:aZ w size v n g)(hn:0<n)(hs:0<size):∃b off cap,v=H (.some (I b off)) n cap/\n<=cap/\cap<=maxLen/\b<w.heap.size/\∀o,o<n*size->Vo w (I b (off+o))= .some (g o):=by
 rcases h with⟨_,h⟩|⟨⟨b,off,spot⟩,cap,rfl,h1,h2,h3⟩
 ·omega
 ·have h0:0<n*size:=Nat.mul_pos hn hs;obtain⟨e,c⟩:=h3 0 h0;dsimp only at e;subst e;exact⟨b,off,cap,rfl,h1,h2,aH c,λo ho=>(h3 o ho).2⟩
def aZ.aG(h:aZ w size v n g)(f:aA [] w w'):aZ w' size v n g:=by
 rcases h with h|⟨a,cap,rfl,h1,h2,h3⟩
 ·exact .inl h
 ·refine .inr ⟨a,cap,rfl,h1,h2,λo ho=>⟨(h3 o ho).1,?_⟩⟩;have hc:=(h3 o ho).2;refine Eq.trans ?_ hc;exact bk (f.block a.block (aH hc) ay)
def aZ.vd{e:TypeId}(h:Row w e size v n g):aZ w size v n g:=by
 rcases h.val with h0|⟨b,cap,rfl,h1,h2,-⟩
 ·exact .inl h0
 ·exact .inr ⟨(I b 0),cap,rfl,h1,h2,λo ho=>⟨rfl,by rw[Nat.zero_add];exact h.cell ho⟩⟩
structure Kp where
 g:to
 v:to
 t:to
 o:to
 c:to
def pV(K:Kp)(p:aQ):to:= .agg #[K.g,K.v,K.t,K.o,Y p.aT,K.c]
structure fW(w:ek)(K:Kp)(p:aQ):Prop where
 g:aZ w 1 K.g p.ax.length (λi=> .bool (p.ax.getD i false))
 v:aZ w 3 K.v p.vars.length (dP p)
 t:aZ w 1 K.t p.aS.length (aX p.aS)
 o:aZ w 1 K.o p.on.length (aX p.on)
 cd:aZ w 5 K.c p.code.length (ci p)
variable {K:Kp}{p:aQ}
def fW.aG(h:fW w K p)(f:aA [] w w'):fW w' K p:=⟨h.g.aG f,h.v.aG f,h.t.aG f,h.o.aG f,h.cd.aG f⟩
def fW.ins(h:fW w K p){i:Nat}(hi:i<p.code.length):∃b off cap,K.c=H (O (I b off)) p.code.length cap/\p.code.length<=cap/\cap<=maxLen/\
 Vo w (I b (off+i*5))=O (Y (al p i).op)/\Vo w (I b (off+i*5+1))=O (Y (al p i).a)/\Vo w (I b (off+i*5+2))=O (Y (al p i).b)/\Vo w (I b (off+i*5+3))=O (Y (al p i).c)/\Vo w (I b (off+i*5+4))=O (Y (al p i).d):=by
 obtain⟨b,off,cap,hv,h1,h2,X,hc⟩:=h.cd.some G G;have key:∀k,k<5->Vo w (I b (off+i*5+k))=O (ci p (i*5+k)):=λk hk=>by rw[Nat.add_assoc];exact hc (i*5+k) G
 have hd:∀k,k<5->(i*5+k) / 5=i:=λk hk=>G;have hm:∀k,k<5->(i*5+k) % 5=k:=λk hk=>G;refine⟨b,off,cap,hv,h1,h2,(key 0 G).trans ?_,(key 1 G).trans ?_,(key 2 G).trans ?_,(key 3 G).trans ?_,(key 4 G).trans ?_⟩
 ·unfold ci;rw[hd 0 G,hm 0 G];rfl
 ·unfold ci;rw[hd 1 G,hm 1 G];rfl
 ·unfold ci;rw[hd 2 G,hm 2 G];rfl
 ·unfold ci;rw[hd 3 G,hm 3 G];rfl
 ·unfold ci;rw[hd 4 G,hm 4 G];rfl
def fW.gh(h:fW w K p){i:Nat}(hi:i<p.ax.length):∃b off cap,K.g=H (O (I b off)) p.ax.length cap/\p.ax.length<=cap/\cap<=maxLen/\Vo w (I b (off+i))=O (.bool (p.ax.getD i false)):=by obtain⟨b,off,cap,hv,h1,h2,X,hc⟩:=h.g.some G G;exact⟨b,off,cap,hv,h1,h2,hc i G⟩
def sJ(w:ek)(E:TypeId)(size n:Nat)(g:Nat->to)(e:Ending)(w':ek):Prop:=
 ∃v',e=Vl v'/\Row w' E size v' n g/\Below w.heap.size w w'/\ki w.heap.size w'.heap.size v'
def ck:(prog.info? 3).map (λi=>(i.zero,i.size,i.bytes))=O (O (Y 0),1,8):=by kernel_rfl
def To{p:Prop}(h:p:=by
 go_wp2;go_ret;exact⟨_,rfl,Row.nil _ _ _ _,aY _ _,ki.nil _ _⟩):p:=h
def Tp{p:Prop}(h:p:=by
 intro j hj;obtain⟨e,c⟩:=HC.o j hj;obtain⟨dS,off,sp⟩:=a;dsimp only at e c;subst e;rw[Addr.add_lit];exact Lib.cell?_alloc_some _ c):p:=h
def Tq{p:Prop}(h:p:=by
 intro v' w1 bo hf hv;go_wp2;go_ret;have hB:Below w.heap.size w w1:=((aY _ w).alloc (aL _) _).trans (hf.below ay (by intro b X;simp[Value.ownBlock]at X;omega));refine⟨v',rfl,bo.congr λo ho=>by unfold fY;rw[aw G];congr 1,hB,λb X=>?_⟩;have hl:=(fE bo b X).2;rcases hv with h|h<;>rw[X]at h<;>simp[Value.ownBlock]at h<;>omega):p:=h
def mM{w:ek}{v:to}{n:Nat}{g:Nat->to}(h:aZ w 1 v n g)(X:n*8<=140737488355328)(h1:∀j,j<n*1->(g j).oneCell'=true):
 Calls prog 55 #[v] w (sJ w 3 1 n g):=by
 rcases h with⟨rfl,rfl⟩|⟨a,cap,rfl,pR,mZ,hc⟩
 ·have hq:∀(w:ek) (n' c':Nat),(binOp .eql 24 Vn (H MT n' c')).run prog w= .ok (.bool true) w:=λw n' c'=>vX w _ _ MT 0 0 n' c' underlying24;go_enter func55,ntmps55;exact To
 ·have HC:=Z hc;have H1:=Z h1;have hm:n<=maxLen:=cU pR mZ;have HM:=Z hm;have HB:=Z X;have hq:∀(w:ek) (n' c':Nat),(binOp .eql 24 (H (O a) n cap) (H MT n' c')).run prog w= .ok (.bool false) w:=λw n' c'=>vX w _ _ (O a) n cap n' c' underlying24;clear hc h1 X hm pR mZ;go_enter func55,ntmps55;go_wp2_with (at_builtin;refine bX rfl _ _ 24 rfl 3 underlying24 ck rfl bd _ 0 (λ_=> Y 0) rfl (E4 w #[] 0 (cM _) (cM _) ay) a n cap g rfl ?zZ ?E5 ?E6 ?Ii ?_)
  case zZ=>exact Tp
  case E5=>exact H1.o
  case E6=>rw[Nat.zero_add];exact HM.o
  case Ii=>rw[Nat.zero_add];exact HB.o
  exact Tq
def sK:(prog.info? 4).map (λi=>(i.zero,i.size,i.bytes))=O (O (.bool false),1,1):=by kernel_rfl
def Ij{w:ek}{v:to}{n:Nat}{g:Nat->to}(h:aZ w 1 v n g)(X:n*1<=140737488355328)(h1:∀j,j<n*1->(g j).oneCell'=true):
 Calls prog 98 #[v] w (sJ w 4 1 n g):=by
 rcases h with⟨rfl,rfl⟩|⟨a,cap,rfl,pR,mZ,hc⟩
 ·have hq:∀(w:ek) (n' c':Nat),(binOp .eql 22 Vn (H MT n' c')).run prog w= .ok (.bool true) w:=λw n' c'=>vX w _ _ MT 0 0 n' c' underlying22;go_enter func98,ntmps98;exact To
 ·have HC:=Z hc;have H1:=Z h1;have hm:n<=maxLen:=cU pR mZ;have HM:=Z hm;have HB:=Z X;have hq:∀(w:ek) (n' c':Nat),(binOp .eql 22 (H (O a) n cap) (H MT n' c')).run prog w= .ok (.bool false) w:=λw n' c'=>vX w _ _ (O a) n cap n' c' underlying22;clear hc h1 X hm pR mZ;go_enter func98,ntmps98;go_wp2_with (at_builtin;refine bX rfl _ _ 22 rfl 4 underlying22 sK rfl bd _ 0 (λ_=> Y 0) rfl (E4 w #[] 0 (cM _) (cM _) ay) a n cap g rfl ?zZ ?E5 ?E6 ?Ii ?_)
  case zZ=>exact Tp
  case E5=>exact H1.o
  case E6=>rw[Nat.zero_add];exact HM.o
  case Ii=>rw[Nat.zero_add];exact HB.o
  exact Tq
def Mf:(prog.info? 122).map (λi=>(i.zero,i.size,i.bytes))=O (O (.agg #[Y 0,Y 0,Y 0]),3,24):=by kernel_rfl
def Mg{w:ek}{v:to}{n:Nat}{g:Nat->to}(h:aZ w 3 v n g)(X:n*24<=140737488355328)(h1:∀j,j<n*3->(g j).oneCell'=true):
 Calls prog 99 #[v] w (sJ w 122 3 n g):=by
 rcases h with⟨rfl,rfl⟩|⟨a,cap,rfl,pR,mZ,hc⟩
 ·have hq:∀(w:ek) (n' c':Nat),(binOp .eql 23 Vn (H MT n' c')).run prog w= .ok (.bool true) w:=λw n' c'=>vX w _ _ MT 0 0 n' c' underlying23;go_enter func99,ntmps99;exact To
 ·have HC:=Z hc;have H1:=Z h1;have hm:n<=maxLen:=cU pR mZ;have HM:=Z hm;have HB:=Z X;have hq:∀(w:ek) (n' c':Nat),(binOp .eql 23 (H (O a) n cap) (H MT n' c')).run prog w= .ok (.bool false) w:=λw n' c'=>vX w _ _ (O a) n cap n' c' underlying23;clear hc h1 X hm pR mZ;go_enter func99,ntmps99;go_wp2_with (at_builtin;refine bX rfl _ _ 23 rfl 122 underlying23 Mf rfl bd _ 0 (λ_=> Y 0) rfl (E4 w #[] 0 (cM _) (cM _) ay) a n cap g rfl ?zZ ?E5 ?E6 ?Ii ?_)
  case zZ=>exact Tp
  case E5=>exact H1.o
  case E6=>rw[Nat.zero_add];exact HM.o
  case Ii=>rw[Nat.zero_add];exact HB.o
  exact Tq
def adO:(prog.info? 40).map (λi=>(i.zero,i.size,i.bytes))=O (O (.agg #[Y 0,Y 0,Y 0,Y 0,Y 0]),5,40):=by kernel_rfl
def aav{w:ek}{v:to}{n:Nat}{g:Nat->to}(h:aZ w 5 v n g)(X:n*40<=140737488355328)(h1:∀j,j<n*5->(g j).oneCell'=true):
 Calls prog 100 #[v] w (sJ w 40 5 n g):=by
 rcases h with⟨rfl,rfl⟩|⟨a,cap,rfl,pR,mZ,hc⟩
 ·have hq:∀(w:ek) (n' c':Nat),(binOp .eql 25 Vn (H MT n' c')).run prog w= .ok (.bool true) w:=λw n' c'=>vX w _ _ MT 0 0 n' c' underlying25;go_enter func100,ntmps100;exact To
 ·have HC:=Z hc;have H1:=Z h1;have hm:n<=maxLen:=cU pR mZ;have HM:=Z hm;have HB:=Z X;have hq:∀(w:ek) (n' c':Nat),(binOp .eql 25 (H (O a) n cap) (H MT n' c')).run prog w= .ok (.bool false) w:=λw n' c'=>vX w _ _ (O a) n cap n' c' underlying25;clear hc h1 X hm pR mZ;go_enter func100,ntmps100;go_wp2_with (at_builtin;refine bX rfl _ _ 25 rfl 40 underlying25 adO rfl bd _ 0 (λ_=> Y 0) rfl (E4 w #[] 0 (cM _) (cM _) ay) a n cap g rfl ?zZ ?E5 ?E6 ?Ii ?_)
  case zZ=>exact Tp
  case E5=>exact H1.o
  case E6=>rw[Nat.zero_add];exact HM.o
  case Ii=>rw[Nat.zero_add];exact HB.o
  exact Tq
end
end Go.Vf
namespace Go.eB
open Go.RowKit aj.Vm
open aj hiding aR an ak
def nW{P:Program}{w:ek}{ops:Array Oper}{rest:List Oper}{o:Oper}{a:Act}{Q:Exit->Act->ek->Prop}(Bz:o.guard=MT)(s x:Operand)(t:TypeId)
 (ho:o.op= .call {callee:= .builtin .append,args:=#[s,x],argTypes:=#[t,t]})
 (e:TypeId) {size bytes:Nat} {z:to} (ht:P.underlying t=O (.slice e)) (hi:(P.info? e).map (λi=>(i.zero,i.size,i.bytes))=O (O z,size,bytes)) (Nz:z.cells.size=size) (kw:0<size)
 (v:to) (n:Nat) (g:Nat->to) (hs:a.eval s=Vn) (hx:a.eval x=v) (bo:Row w e size v n g) (h1:∀j,j<n*size->(g j).oneCell'=true) (mP:n*bytes<=140737488355328)
 (h:∀v' w',Row w' e size v' n g->Below w.heap.size w w'->ki w.heap.size w'.heap.size v'->wpList P ops Q rest (a.put o.dst v') w'):wpList P ops Q (o::rest) a w:=by
 rcases bo.val with⟨rfl,rfl⟩|⟨b,cap,rfl,h2,h3,h4⟩
 ·obtain⟨i,FU,vG,MU,NA⟩:=oL hi;have hr:(Builtin.append_ #[t,t] o.type #[Vn,Vn]).run P w= .ok Vn w:=by simp[Builtin.append_,run_underlying ht,sizeOf,typeInfo,FU,Builtin.lenOf,Builtin.firstCells,storeCells]
  refine wpList_plain Bz λK hK=>?_;unfold Oper.wp execOp;simp only[ho,resolve,invoke,builtin,Sem.run_bind,Sem.run_pure,Result.andThen_ok,List.map_toArray,List.map_cons,List.map_nil,hs,hx,hr];exact hK _ _ (h _ _ (Row.nil _ _ _ _) (aY _ _) (ki.nil _ _))
 ·refine bX Bz s x t ho e ht hi Nz kw Vn 0 (λ_=> Y 0) hs (Row.nil _ _ _ _) (I b 0) n cap g hx (λj hj=>?_) h1 G (by rw[Nat.zero_add];exact mP) λv' w' r1 r2 r3=>h v' w' ?_ ?_ λb' jV=>?_
  ·rw[Addr.add_lit,Nat.zero_add];exact bo.cell hj
  ·rw[Nat.zero_add]at r1;exact r1.congr λj _=>by unfold fY;rw[aw G];congr 1;omega
  ·exact r2.below (aL _) (λb X=>by simp[Value.ownBlock]at X)
  ·have hl:=(fE r1 b' jV).2;rcases r3 with h|h<;>rw[jV]at h<;>simp[Value.ownBlock]at h
   omega
section
variable {w:ek}{ab aE nl:Nat}{V L:to}{a:Nd}
def Mc(R:Raw)(o:Nat):(eI R o).oneCell'=true:=by
 unfold eI
 repeat' split
 all_goals rfl
def Md(R:Raw)(o:Nat):(k6 R o).oneCell'=true:=by
 unfold k6
 repeat' split
 all_goals rfl
def JP(w:ek)(aE nl:Nat)(a:Nd)(e:Ending)(w':ek):Prop:=∃V' L',e=Vl (V5 w.heap.size)/\bS w' w.heap.size V' L' aE nl a/\Below w.heap.size w w'/\ki (w.heap.size+1) w'.heap.size V'/\ki (w.heap.size+1) w'.heap.size L'
def Tm(h:bS w ab V L aE nl a)(hm:aE<=4194304)(hn:nl<=256):Calls prog 83 #[V5 ab] w (JP w aE nl a):=by
 obtain⟨R,A,hC,hR,ha,vL⟩:=h;have sl:∀{e:TypeId} {sz n:Nat} {v:to} {g:Nat->to},Row w e sz v n g->∃x c,v=H x n c:=λh=>by exact YQ
 obtain⟨va,vc,rfl⟩:=sl hC.nodes;obtain⟨xl,lc,rfl⟩:=sl hC.lists;clear sl;obtain⟨c0,c1,c2,c3,c4⟩:=hC.head.c5;have la:=hC.head.lt;have HC:=Z hC;have HR:=Z (show sQ nl R A MT/\abs A=a/\R.made<=aE from⟨hR,ha,vL⟩);have HB:=Z (show R.made*64<=140737488355328/\nl*24<=140737488355328 by omega);clear hC hR ha vL hm hn;go_enter func83,ntmps83;go_wp2_with (at_builtin;refine nW rfl _ _ 189 rfl 202 underlying189 AA rfl bd (H va R.made vc) R.made (eI R) rfl rfl ?q1 (λj _=>Mc R j) HB.o.1 ?_)
 case q1=>exact HC.o.nodes.aG ((aA.refl [] w).alloc _) ay
 intro v1 w1 r1 b1 i1;obtain⟨w0,hw0⟩:∃w0,w0=w.alloc (CA #[Y aE,H va R.made vc,H xl nl lc,Y R.dm,Y R.used] 191):=⟨_,rfl⟩;rw[<-hw0]at b1;have kw:w0.heap.size=w.heap.size+1:=by rw[hw0];simp
 have f0:aA [] w w0:=by rw[hw0];exact(aA.refl [] w).alloc _
 have k0:aF w0 w.heap.size 191 #[Y aE,H va R.made vc,H xl nl lc,Y R.dm,Y R.used]:=by rw[hw0];exact aF.new _ _ _
 have b0:Below w.heap.size w w0:=by rw[hw0];exact(aY _ _).alloc (aL _) _
 rw[<-kw]at b1;have f1:aA [] w0 w1:=aA.af b1;have k1:=k0.aG f1 ay;have pR:=HC.o.aG (f0.trans f1) ay;obtain⟨xa,xc,rfl⟩:∃x c,v1=H x R.made c:=by
  rcases r1.val with⟨e,h0⟩|⟨b,cap,e,-⟩
  ·exact⟨MT,0,by rw[e,h0]⟩
  ·exact⟨_,_,e⟩
 have d2:Vo w1 (I ab 2)=O (H xl nl lc):=pR.head.cell 2;obtain⟨-,t1,t2⟩:=k1.c3;have tf:∀o,w1.frozen? (I w.heap.size o)=false:=k1.frozen;have ne:ab≠w.heap.size:=G;have F2:aA [w.heap.size] w1 (w1.setCell (I w.heap.size 1) (H xa R.made xc)):=(aA.refl _ _).setCell ay _;have HRL:=Z (pR.lists.aG F2 (λb X hc=>by
  have:=(fE HC.o.lists b X).2;simp at hc;omega))
 have nI:=Z (k1.set 1 (H xa R.made xc));have Hu:=Z (r1.aG F2 (λb X hc=>by
  have:=i1 b X;simp at hc;omega))
 have cR:=Z (show Below w.heap.size w (w1.setCell (I w.heap.size 1) (H xa R.made xc))/\ki (w.heap.size+1) w1.heap.size (H xa R.made xc)/\w.heap.size+1<=w1.heap.size from⟨(b0.trans (b1.mono b0.size)).trans (F2.below (b0.trans (b1.mono b0.size)).size ay),i1,by have:=b1.size;omega⟩);clear f0 f1 k0 b0 b1 pR k1 r1 i1 F2 hw0 kw w0 c0 c1 c2 c3 c4;go_wp2_with (at_builtin;refine nW rfl _ _ 188 rfl 194 underlying188 AF rfl bd (H xl nl lc) nl (k6 R) rfl rfl HRL.o (λj _=>Md R j) HB.o.2 ?_);intro v2 w3 r2 b2 i2;have F3:aA [] (w1.setCell (I w.heap.size 1) (H xa R.made xc)) w3:=aA.af (by rw[show(w1.setCell (I w.heap.size 1) (H xa R.made xc)).heap.size=w1.heap.size by simp];exact b2);have k3:=nI.o.aG F3 ay;have n3:=Hu.o.aG F3 ay;obtain⟨xb,xd,rfl⟩:∃x c,v2=H x nl c:=by
  rcases r2.val with⟨e,h0⟩|⟨b,cap,e,-⟩
  ·exact⟨MT,0,by rw[e,h0]⟩
  ·exact⟨_,_,e⟩
 have u2:Vo w3 (I w.heap.size 2)=O (H xl nl lc):=k3.cell 2;have a1f:∀o,w3.frozen? (I w.heap.size o)=false:=k3.frozen;have F4:aA [w.heap.size] w3 (w3.setCell (I w.heap.size 2) (H xb nl xd)):=(aA.refl _ _).setCell ay _;have hz:=cR.o.2.2;have oY:=Z (show JP w aE nl a (Vl (V5 w.heap.size)) (w3.setCell (I w.heap.size 2) (H xb nl xd))from by
  have pz:=cR.o.1.trans (b2.mono G);have Dq:w3.heap.size<=(w3.setCell (I w.heap.size 2) (H xb nl xd)).heap.size:=by simp
  refine⟨H xa R.made xc,H xb nl xd,rfl,⟨R,A,⟨k3.set 2 _,n3.aG F4 (λb X hc=>?_),r2.aG F4 (λb X hc=>?_)⟩,HR.o.1,HR.o.2.1,HR.o.2.2⟩,pz.trans (F4.below pz.size ay),λb X=>?_,λb X=>?_⟩
  ·have:=cR.o.2.1 b X;simp at hc;omega
  ·have:=i2 b X;simp at hc;omega
  ·have h1:=cR.o.2.1 b X;have h2:=b2.size;simp at h2;exact⟨h1.1,G⟩
  ·have h1:=i2 b X;exact⟨G,G⟩)
 clear F3 k3 n3 r2 b2 i2 F4 HRL nI Hu cR d2 t1 t2 tf;go_wp2;go_ret;exact oY.o
end
end Go.eB
namespace Go.gR
open Go.RowKit aj
def placesOf(D:Nat->Bool×Nat×to):Nat->List to
 |0=>[]
 |n+1=>placesOf D n++[.bool (D n).1,.int .u64 (D n).2.1,(D n).2.2]
def lT(D:Nat->Bool×Nat×to)(n:Nat):(placesOf D n).length=n*3:=by
 induction n with
 |zero=>rfl
 |succ n ih=>simp[placesOf,ih];omega
def mD(D:Nat->Bool×Nat×to)(n:Nat):∀i,i<n->(placesOf D n)[i*3]? =O (.bool (D i).1)/\(placesOf D n)[i*3+1]? =O (.int .u64 (D i).2.1)/\(placesOf D n)[i*3+2]? =O (D i).2.2:=by
 induction n with
 |zero=>intro i h;omega
 |succ n ih=>
  intro i hi;have hl:=lT D n;by_cases e:i=n
  ·subst e;unfold placesOf;refine⟨?_,?_,?_⟩
   ·rw[pO G,hl,show i*3-i*3=0 from by omega];rfl
   ·rw[pO G,hl,show i*3+1-i*3=1 from by omega];rfl
   ·rw[pO G,hl,show i*3+2-i*3=2 from by omega];rfl
  ·obtain⟨a,b,c⟩:=ih i G;unfold placesOf;refine⟨?_,?_,?_⟩
   ·rw[pP G];exact a
   ·rw[pP G];exact b
   ·rw[pP G];exact c
def CB(D:Nat->Bool×Nat×to)(E3:∀i,(D i).2.2.oneCell'=true)(n:Nat):∀u∈placesOf D n,u.oneCell'=true:=by
 induction n with
 |zero=>intro u hu;simp[placesOf]at hu
 |succ n ih=>
  intro u hu;unfold placesOf at hu;rcases List.mem_append.1 hu with h|h
  ·exact ih u h
  ·simp at h;rcases h with rfl|rfl|rfl
   ·rfl
   ·rfl
   ·exact E3 n
def Me{w:ek}{b s aE count n:Nat}{D:Nat->Bool×Nat×to}(h:dI w b s aE count n D):∀j u,(placesOf D n)[j]? =O u->Vo w (I s (0+j))=O u:=by
 intro j u hj;have hl:=lT D n;have be:j<n*3:=by rw[<-hl];exact(List.getElem?_eq_some_iff.1 hj).1
 obtain⟨a,b,c⟩:=mD D n (j / 3) G;rw[Nat.zero_add];have h3:j=j / 3*3\/j=j / 3*3+1\/j=j / 3*3+2:=G;rcases h3 with e|e|e
 ·rw[e]at hj ⊢;rw[a]at hj;cases hj;exact h.k0 _ G
 ·rw[e]at hj ⊢;rw[b]at hj;cases hj;exact h.k1 _ G
 ·rw[e]at hj ⊢;rw[c]at hj;cases hj;exact h.k2 _ G
def Twin(w:ek)(aE count n:Nat)(D:Nat->Bool×Nat×to)(r:Ending)(w':ek):Prop:=
 ∃b s,r=Vl (V5 b)/\Below w.heap.size w w'/\w.heap.size<=b/\w.heap.size<=s/\dI w' b s aE count n D
def Tn{w w1 w2:ek}{b:Nat}{aE count n:Nat}{D:Nat->Bool×Nat×to}{v:to}{t e:TypeId}{sl:to}(hn:0<n)
 (h1:w1.heap[b]? =O (CA #[Y aE,Y count,sl] t (0,0))) (X:w.heap.size=b) (hs:w1.heap.size=b+1) (hw:Below w.heap.size w w1)
 (ho:w2.ownsRow w1.heap.size e 3 v n (placesOf D n)) (bm:v≠Vn) (hB:Below w1.heap.size w1 w2):
 Twin w aE count n D (Vl (V5 b)) (w2.setCell (I b 2) v)/\Vo w2 (I b 2)=O sl/\w2.frozen? (I b 2)=false:=by
 have h2:w2.heap[b]? =O (CA #[Y aE,Y count,sl] t (0,0)):=(hB.block b G).trans h1;have mZ:Vo w2 (I b 2)=O sl:=by rw[dp h2];rfl
 refine⟨?_,mZ,eQ h2 2⟩;rcases ho.2 with⟨hv,_⟩|⟨g,cap,zF,rfl,hg,hh,_⟩
 ·exact absurd hv bm
 ·have vK:g≠b:=G;refine⟨b,g,rfl,(hw.trans (hB.mono hw.size)).setCell (by show w.heap.size<=b;omega) _,G,G,?_⟩;have hcg:∀j,j<n*3->(w2.setCell (I b 2) (H (O (I g 0)) n cap)).cell? (I g j)=(placesOf D n)[j]? :=λj hj=>by rw[bM vK];exact ho.cellAt j hj
  refine⟨λe=>vK e.symm,?_,?_,⟨cap,fN mZ⟩,λo=>?_,λo=>?_,hn,λi hi=>?_,λi hi=>?_,λi hi=>?_⟩
  ·rw[bi bd,dp h2];rfl
  ·rw[bi bd,dp h2];rfl
  ·rw[World.frozen?_setCell];exact eQ h2 o
  ·rw[World.frozen?_setCell];exact eQ hh o
  ·rw[hcg _ G];exact(mD D n i hi).1
  ·rw[hcg _ G];exact(mD D n i hi).2.1
  ·rw[hcg _ G];exact(mD D n i hi).2.2
def sI{w:ek}{b s aE count n e:Nat}{S:Tb to}(h:dI w b s aE count n (du (Y 0) S))(g:zN n e)(hint:∀i k u,S i=O (k,u)->∃x,u=Y x):
 Calls prog 84 #[V5 b] w (Twin w aE count n (du (Y 0) S)):=by
 obtain⟨i0,hi,jn,nQ,qm⟩:=oL (show(prog.info? 199).map (λi=>(i.zero,i.size,i.bytes))=O (O (.agg #[.bool false,.int .u64 0,Y 0]),3,24)by kernel_rfl);have E3:∀i,(du (Y 0) S i).2.2.oneCell'=true:=by
  intro i;unfold du;cases hS:S i with
  |none=>rfl
  |some p=>obtain⟨k,u⟩:=p;obtain⟨x,rfl⟩:=hint i k u hS;rfl
 have Ri:=g.small;obtain⟨cp,c2⟩:=h.c2;have c0:=h.c0;have c1:=h.c1;have VF:=h.lb;have HC:Hid (∀wx,dI wx b s aE count n (du (Y 0) S)->Calls prog 164 #[H (O (I s 0)) n cp] wx λr w'=>
  ∃v',r=Vl v'/\w'.ownsRow wx.heap.size 199 3 v' n (placesOf (du (Y 0) S) n)/\v'≠Vn/\Below wx.heap.size wx w'):=λwx hx=>
  Go.Proofs.AnyE.slices_Clone Proofs.Tryz.XW i0 _ 3 24 hi jn nQ qm rfl bd sizeOf199 s 0 n cp (placesOf (du (Y 0) S) n) wx (lT _ _) (by unfold maxLen;omega) G (Me hx) (CB _ E3 n)
 have HI:=Z h;clear h g hint hi jn nQ qm E3;go_enter func84,ntmps84;go_wp2_with fail;refine(HC.o _ (HI.o.aG ((aA.refl [] w).alloc _) ay ay)).mono ?_;rintro r w2 ⟨v',rfl,ho,bm,hB⟩;obtain⟨hT,c3,f3⟩:=Tn HI.o.pos (World.alloc_heap_new w _) rfl ay ((Below.refl _ _).alloc (Nat.le_refl _) _) ho bm hB;obtain⟨a,c,rfl⟩:∃a c,v'=H a n c:=by
  rcases ho.2 with⟨rfl,h0⟩|⟨g,cap,zF,rfl,_⟩
  ·subst h0;exact⟨MT,0,rfl⟩
  ·exact⟨_,_,rfl⟩
 have HT:=Z hT;clear HC HI hT ho bm hB c0 c1 c2;go_wp2;go_ret;exact HT.o
end Go.gR
namespace Go.Ix
open Go.RowKit aj gR
open Su (nR)
def ai{w:ek}{b s aE count:Nat}{f:Nat->Option Nat}(h:cX w b s aE count f):Calls prog 84 #[V5 b] w (λr w'=>∃b' s',r=Vl (V5 b')/\Below w.heap.size w w'/\w.heap.size<=b'/\w.heap.size<=s'/\cX w' b' s' aE count f):=by obtain⟨n,e,S,h1,ht,h2⟩:=h;refine(sI h1 ht.fit.Vq ht.int).mono ?_;rintro r w' ⟨b',s',rfl,X,l1,l2,h3⟩;exact⟨b',s',rfl,X,l1,l2,n,e,S,h3,ht,h2⟩
end Go.Ix
namespace aj.Vm
open Go Go.RowKit aj
section
variable {P:Program}
def pa{ops:Array Oper}{rest:List Oper}{o:Oper}{a:Act}{w:ek}{Q:Exit->Act->ek->Prop}(Bz:o.guard=MT)(t:TypeId)(parts:Array (Nat×Operand))(ho:o.op= .build t parts)(vs:List (Nat×to))(cells:Array to)
 (hp:(parts.map λ(i,x)=>(i,a.eval x)).toList=vs) (X:P.built t vs=O cells) (h:wpList P ops Q rest (a.put o.dst (.agg cells)) w):wpList P ops Q (o::rest) a w:=
 wpList_plain Bz λ_ hK=>wp_build t parts ho (by rw[hp,X];rfl) (by rw[hp,X];exact hK _ _ h)
def adN{w:ek}{b:Nat}{T:TypeId}{CC cells:Array to}(ty:TypeId)(X:aF w b T CC)(kw:CC.size=cells.size)(hi:(P.info? ty).map (·.size)=O cells.size)(h1:∀v∈cells.toList,v.oneCell'=true):
 ∃w',(storeVar ty (I b 0) (.agg cells)).run P w= .ok () w'/\aF w' b T cells/\aA [b] w w':=by
 have h:=run_storeCells_from (P:=P) b T cells.toList 0 CC w X (by simp[kw]) h1;have e:(CC.toList.take 0++cells.toList).toArray=cells:=by simp
 rw[e]at h;refine⟨w.setRow b cells,?_,setRow_heap w b CC cells T (0,0) X,⟨rfl,rfl,rfl,ay,λk _ hk=>setRow_other w b k cells (by simpa using hk)⟩⟩;cases hq:P.info? ty with
 |none=>simp[hq]at hi
 |some i=>
  have hs:cells.size=i.size:=by simp[hq]at hi;omega
  simp[storeVar,Go.sizeOf,typeInfo,hq,Value.cells,hs,h]
def fi{ops:Array Oper}{rest:List Oper}{op:Oper}{a:Act}{w:ek}{Q:Exit->Act->ek->Prop}(Bz:op.guard=MT)(ty:TypeId)(x y:Operand)(ho:op.op= .store ty x y)
 (b:Nat) {T:TypeId} {CC:Array to} (cells:Array to) (hx:a.eval x=V5 b) (hy:a.eval y= .agg cells) (X:aF w b T CC) (kw:CC.size=cells.size) (hi:(P.info? ty).map (·.size)=O cells.size) (h1:∀v∈cells.toList,v.oneCell'=true)
 (h:∀w',aF w' b T cells->aA [b] w w'->wpList P ops Q rest (a.put op.dst undef) w'):wpList P ops Q (op::rest) a w:=
 wpList_plain Bz λK hK=>by obtain⟨w',hr,h2,h3⟩:=adN (P:=P) ty X kw hi h1;have:=hK _ _ (h w' h2 h3);unfold Oper.wp execOp;simp only[ho,hx,hy,Instr.storeAt,Instr.sureAddr,Sem.run_bind,Sem.run_pure,Result.andThen_ok,hr];exact this
def bO{P:Program}{w:ek}{ops:Array Oper}{o:Oper}{a:Act}{K:Act->ek->Prop}{Q:Exit->Act->ek->Prop}{E:Prop}
 (hg:o.guard=MT) (l c:Operand) (t:TypeId) (dW:o.op=Op.makeSlice t l c)
 (e:TypeId) {size bytes:Nat} {z:to} (h1:P.underlying t=O (.slice e)) (hi:(P.info? e).map (λi=>(i.zero,i.size,i.bytes))=O (O z,size,bytes)) (hz:z.cells.size=size) (hs:0<size)
 (kl kc:IntKind) (L C:Int) (n:Nat) (hl:a.eval l= .int kl L) (hc:a.eval c= .int kc C) (hL:L=(n:Int)) (hC:C=(n:Int)) (b2:bytes*n<=281474976710656) (b3:n<=maxLen)
 (hK:∀w',Row w' e size (H (O (I w.heap.size 0)) n n) n (λo=>z.cells.getD (o % size) undef)->Below w.heap.size w w'->K (a.put o.dst (H (O (I w.heap.size 0)) n n)) w'):
 if Region.wanted o (yielded ops a.tmps)=true then Oper.wp P o a w K Q else E:=by
 have hw:Region.wanted o (yielded ops a.tmps)=true:=by simp[Region.wanted,hg]
 rw[if_pos hw];obtain⟨i,FU,vG,MU,NA⟩:=info_parts hi;obtain⟨w',wJ,r1,r2⟩:=run_make_full (P:=P) w 0 t e i z size h1 FU vG MU kl kc n (by rw[NA];exact b2) b3 (cM _);have hK2:=hK w' (by
  unfold Row;have:(madeCells z.cells (n*size)).toList=eY (n*size) (λo=>z.cells.getD (o % size) undef):=by
   unfold madeCells eY;rw[hz];simp only[Array.toList_map,Array.toList_range];refine List.map_congr_left λi _=>?_;have be:i % size<z.cells.size:=by rw[hz];exact Nat.mod_lt _ hs
   simp[Array.getD,be]
  rw[<-this];exact r1) ((eK r2).below (Nat.le_refl _) ay)
 subst hL;subst hC;unfold Oper.wp;simp[execOp,dW,hl,hc,wJ,Result.andThen];exact hK2
end
end aj.Vm
section
namespace aj.Vm
open Go Go.RowKit aj
def adM{P:Program}{ops:Array Oper}{rest:List Oper}{op:Oper}{a:Act}{w:ek}{Q:Exit->Act->ek->Prop}(Bz:op.guard=MT)(ty:TypeId)(x y:Operand)(ho:op.op= .store ty x y)
 (b o:Nat) {T:TypeId} {CC:Array to} (cells:Array to) (hx:a.eval x= .pointer (O (I b o))) (hy:a.eval y= .agg cells) (X:aF w b T CC) (kw:o+cells.size<=CC.size) (hi:(P.info? ty).map (·.size)=O cells.size) (h1:∀v∈cells.toList,v.oneCell'=true)
 (h:∀w',aF w' b T (CC.toList.take o++cells.toList++CC.toList.drop (o+cells.size)).toArray->aA [b] w w'->wpList P ops Q rest (a.put op.dst undef) w'):wpList P ops Q (op::rest) a w:=
 wpList_plain Bz λK hK=>by
  have hr:=run_storeCells_at P b o T cells.toList 0 CC w X (by simpa using kw) h1;have wJ:(storeVar ty (I b o) (.agg cells)).run P w= .ok () (w.setRow b (CC.toList.take o++cells.toList++CC.toList.drop (o+cells.size)).toArray):=by
   cases hq:P.info? ty with
   |none=>simp[hq]at hi
   |some i=>
    have hs:cells.size=i.size:=by simp[hq]at hi;omega
    simp only[Nat.add_zero,Array.length_toList]at hr;simp[storeVar,Go.sizeOf,typeInfo,hq,Value.cells,hs,hr]
  have:=hK _ _ (h _ (setRow_heap w b CC _ T (0,0) X) ⟨rfl,rfl,rfl,ay,λk _ hk=>setRow_other w b k _ (by simpa using hk)⟩);unfold Oper.wp execOp;simp only[ho,hx,hy,Instr.storeAt,Instr.sureAddr,Sem.run_bind,Sem.run_pure,Result.andThen_ok,wJ];exact this
end aj.Vm
namespace Go.Ma
open Go.RowKit aj.Vm
open aj hiding aR an ak
def bj(mb n:Nat):to:= .func (.func (EY n)) #[V5 mb] #[]
def Po(mb:Nat):Array to:=#[bj mb 0,bj mb 1,bj mb 2,bj mb 3,bj mb 4,bj mb 5,bj mb 6,bj mb 7,bj mb 8,bj mb 9,bj mb 10,bj mb 11,bj mb 12,bj mb 13,bj mb 14,bj mb 15,bj mb 16,bj mb 17,bj mb 18,bj mb 19,bj mb 20,bj mb 21,bj mb 22,bj mb 23,bj mb 24,bj mb 25,bj mb 26,bj mb 27,bj mb 28,bj mb 29,bj mb 30,bj mb 31,bj mb 32,bj mb 33,bj mb 34,bj mb 35,bj mb 36,bj mb 37,bj mb 38,bj mb 39,bj mb 40,bj mb 41]
def aau(mb:Nat):∀v∈(Po mb).toList,v.oneCell'=true:=by simp[Po,bj,Value.oneCell']
def adK:(prog.info? 110).map (·.size)=O 42:=by kernel_rfl
def wX{w:ek}{mb:Nat}{v:Nat->to}(X:aF w mb 113 #[v 0,v 1,v 2,v 3,v 4,v 5,v 6,v 7,v 8,v 9,v 10,v 11,v 12,v 13,v 14,v 15,v 16,v 17,v 18,v 19,v 20,v 21,v 22,v 23,v 24,v 25,v 26,v 27,v 28,v 29,v 30,v 31,v 32,v 33,v 34,v 35,v 36,v 37,v 38,v 39,v 40,v 41,v 42,v 43,v 44,v 45,v 46,v 47,v 48,v 49,v 50,v 51,v 52,v 53,v 54,v 55,v 56,v 57,v 58,v 59,v 60]):
 Calls prog 58 #[V5 mb] w (λe w'=>e=Vl (.tuple #[])/\aA [mb] w w'/\aF w' mb 113 #[v 0,v 1,v 2,v 3,v 4,v 5,v 6,v 7,v 8,v 9,v 10,v 11,v 12,v 13,v 14,v 15,v 16,v 17,bj mb 0,bj mb 1,bj mb 2,bj mb 3,bj mb 4,bj mb 5,bj mb 6,bj mb 7,bj mb 8,bj mb 9,bj mb 10,bj mb 11,bj mb 12,bj mb 13,bj mb 14,bj mb 15,bj mb 16,bj mb 17,bj mb 18,bj mb 19,bj mb 20,bj mb 21,bj mb 22,bj mb 23,bj mb 24,bj mb 25,bj mb 26,bj mb 27,bj mb 28,bj mb 29,bj mb 30,bj mb 31,bj mb 32,bj mb 33,bj mb 34,bj mb 35,bj mb 36,bj mb 37,bj mb 38,bj mb 39,bj mb 40,bj mb 41,v 60]):=by
 have HB:=Z X;have z_:∀(fn:Fn) (first cap:Array to) (w:ek),(Instr.makeFunc fn first cap).run prog w= .ok (.func fn first cap) w:=λ_ _ _ _=>rfl;clear X;go_enter func58,ntmps58;go_wp2_with (refine adM rfl 110 (.tmp 89) (.tmp 87) rfl mb 18 (Po mb) ?a1 ?a2 HB.o ?a3 adK (aau mb) ?a4)
 case a2=>rfl
 case a3=>show 18+42<=61;omega
 intro w1 gm MX;have HK:=Z gm;have HF:=Z MX;clear gm MX;go_wp2_with fail;refine bodyPost_end (dV rfl _ _ _) rfl ⟨rfl,HF.o,?_⟩;exact HK.o
end Go.Ma
end
namespace Go.Ma
open Go.RowKit aj.Vm
open aj hiding aR an ak
def aar{P:Program}{ops:Array Oper}{rest:List Oper}{op:Oper}{a:Act}{w:ek}{Q:Exit->Act->ek->Prop}(Bz:op.guard=MT)(ty:TypeId)(x:Operand)(ho:op.op= .load ty x)
 (b:Nat) {T:TypeId} (cs:Array to) (hx:a.eval x= .pointer (O ⟨b,0,MT⟩)) (X:aF w b T cs) {d:TypeDesc} (hu:P.underlying ty=O d) (hd:(match d with| .struct _| .array _ _=>true|_=>false)=true) (hi:(P.info? ty).map (·.size)=O cs.size)
 (h:wpList P ops Q rest (a.put op.dst (.agg cs)) w):wpList P ops Q (op::rest) a w:=
 wpList_plain Bz λK hK=>by have hr:=run_loadVar_row (P:=P) w b T ty cs (0,0) d X hu hd hi;have:=hK _ _ h;unfold Oper.wp execOp;simp only[ho,hx,Instr.loadAt,Instr.sureAddr,Sem.run_bind,Sem.run_pure,Result.andThen_ok,hr];exact this
section
variable {w:ek}{C:Co}{RO:List Nat}{K:Kc}{p:aQ}{c:Cp}{s:St}{t:dZ}{used:Int}
def nX{w:ek}{e:TypeId}{sz n:Nat}{v:to}{g:Nat->to}(h:Row w e sz v n g):∃x c,v=H x n c:=by exact YQ
def adJ(h:Mx w C RO K p c s t used (.pointer MT))(M:Gi K C.mb p c):∀v∈(iJ K C p c s.total t used (.pointer MT)).toList,v.oneCell'=true:=by obtain⟨ga,gc,eg⟩:=nX h.m.prog.g;obtain⟨va,vc,ev⟩:=nX h.m.prog.v;obtain⟨ta,tc,et⟩:=nX h.m.prog.t;obtain⟨oa,oc,eo⟩:=nX h.m.prog.o;obtain⟨ca,cc,ec⟩:=nX h.m.prog.cd;obtain⟨qa,qc,eq⟩:=nX h.m.prog.qs;obtain⟨sa,sc,es⟩:=nX h.m.vs;unfold iJ;rw[eg,ev,et,eo,ec,eq,es,M.steps 0 bd,M.steps 1 bd,M.steps 2 bd,M.steps 3 bd,M.steps 4 bd,M.steps 5 bd,M.steps 6 bd,M.steps 7 bd,M.steps 8 bd,M.steps 9 bd,M.steps 10 bd,M.steps 11 bd,M.steps 12 bd,M.steps 13 bd,M.steps 14 bd,M.steps 15 bd,M.steps 16 bd,M.steps 17 bd,M.steps 18 bd,M.steps 19 bd,M.steps 20 bd,M.steps 21 bd,M.steps 22 bd,M.steps 23 bd,M.steps 24 bd,M.steps 25 bd,M.steps 26 bd,M.steps 27 bd,M.steps 28 bd,M.steps 29 bd,M.steps 30 bd,M.steps 31 bd,M.steps 32 bd,M.steps 33 bd,M.steps 34 bd,M.steps 35 bd,M.steps 36 bd,M.steps 37 bd,M.steps 38 bd,M.steps 39 bd,M.steps 40 bd,M.steps 41 bd];simp[Value.oneCell']
def Pp(w:ek)(C:Co)(RO:List Nat)(K:Kc)(p:aQ)(c:Cp)(s:St)(t:dZ)(used:Int)(e:Ending)(w':ek):Prop:=∃C' K',e=Vl (V5 C'.mb)/\Below w.heap.size w w'/\Mx w' C' RO K' p c s t used (.pointer MT)/\Gi K' C'.mb p c/\∀b,b∈C'.l->w.heap.size<=b
def abH{w:ek}{b s aE count:Nat}{f:Nat->Option Nat}(h:Ix.cX w b s aE count f):b<w.heap.size/\s<w.heap.size/\b≠s:=by obtain⟨n,e,S,h1,-⟩:=h;exact⟨aH h1.c0,aH (h1.k0 0 h1.pos),h1.ne⟩
def adI{V3 V7:ek}{v:to}{n m:Nat}{g:Nat->to}(h:Row V3 3 1 v n g)(f:aA [m] V3 V7){lo hi:Nat}(i:ki lo hi v)(hm:m<lo):Row V7 3 1 v n g:=h.aG f λb X hc=>by have:=i b X;simp at hc;omega
def adH{w V7:ek}{n0 n1 n2 xb xs:Nat}{V' L' vs:to}(h:Mx w C RO K p c s t used (.pointer MT))(M:Gi K C.mb p c)(bw:Below w.heap.size w V7)(l0:w.heap.size<n0)(ha:eB.bS V7 n0 V' L' K.nd p.ax.length s.a)(i1:ki (n0+1) n1 V')(i2:ki (n0+1) n1 L')
 (hx:Ix.cX V7 xb xs K.nd (e_ p s.a) s.f) (lx:n1<=xb/\n1<=xs) (a1g:xb<n2/\xs<n2/\xb≠xs) (hv:Row V7 3 1 vs p.vars.length (λi=> Y (s.vars i))) {n3:Nat} (i3:ki n2 n3 vs) (l1:n0<n1)
 (k:aF V7 w.heap.size 113 (iJ {K with steps:=λn=>bj w.heap.size n} {mb:=w.heap.size,ab:=n0,xb:=xb,xs:=xs,V:=V',L:=L',vs:=vs} p c s.total t used (.pointer MT))):Pp w C RO K p c s t used (Vl (V5 w.heap.size)) V7:=by
 have h7:=h.later bw;have P:=h7.m.prog;have bm:V'.ownBlock=MT\/V'.ownBlock≠L'.ownBlock:=by obtain⟨R,A,hC,-⟩:=ha;exact hC.vl
 have all:∀b,b∈({mb:=w.heap.size,ab:=n0,xb:=xb,xs:=xs,V:=V',L:=L',vs:=vs}:Co).l->w.heap.size<=b:=λb X=>by
  simp only[Co.l,bp,dK,fk]at X;rcases X with rfl|rfl|rfl|(rfl|X|X)|X
  ·omega
  ·omega
  ·omega
  ·omega
  ·have:=i1 _ (by simpa using X);omega
  ·have:=i2 _ (by simpa using X);omega
  ·have:=i3 _ (aU.1 X);omega
 refine⟨{mb:=w.heap.size,ab:=n0,xb:=xb,xs:=xs,V:=V',L:=L',vs:=vs},{K with steps:=λn=>bj w.heap.size n},rfl,bw,⟨⟨k,⟨P.g,P.v,P.t,P.o,P.cd,P.qs,P.ro⟩,ha,hx,hv⟩,?_,λb X=>?_,λb X hc=>?_,h7.sep.dO⟩,⟨M.gM,M.nd,M.AY,M.check,λn _=>rfl⟩,all⟩
 ·cases hV:V'.ownBlock<;>cases hL:L'.ownBlock<;>cases hS:vs.ownBlock<;>simp[Co.l,bp,vb,hV,hL,hS]<;>(try have q1:=i1 _ hV)<;>(try have q2:=i2 _ hL)<;>(try have q3:=i3 _ hS)<;>(try rw[hV,hL]at bm)<;>(try simp at bm)<;>omega
 ·simp only[Co.l,dK,fk]at X;rcases X with rfl|rfl|rfl|X|X
  ·exact k.lt
  ·obtain⟨n,e,S,h1,-⟩:=hx;exact aH h1.c0
  ·obtain⟨n,e,S,h1,-⟩:=hx;exact aH (h1.k0 0 h1.pos)
  ·exact ha.lt b X
  ·exact(fE hv b (aU.1 X)).2
 ·have:=all b X;have:=h.sep.dO b hc;omega
def aaq(h:Mx w C RO K p c s t used (.pointer MT))(M:Gi K C.mb p c):Calls prog 35 #[V5 C.mb] w (Pp w C RO K p c s t used):=by
 have HK:=Z h.m.bg;have H1:=Z (adJ h M);obtain⟨-,-,-,-,-,-,-,-,-,c9,JQ,JR⟩:=HK.o.Vs;have lm:=HK.o.lt;have HM:=Z M;have HH:=Z h;have kw:(iJ K C p c s.total t used (.pointer MT)).size=61:=rfl;have zH:=Z kw;have HC9:=Z (show(iJ K C p c s.total t used (.pointer MT))[9]? =O (V5 C.ab)/\(iJ K C p c s.total t used (.pointer MT))[10]? =O (V5 C.xb)/\(iJ K C p c s.total t used (.pointer MT))[11]? =O C.vs from⟨rfl,rfl,rfl⟩);have Ww:=Z (show iJ K C p c s.total t used (.pointer MT)=iJ K C p c s.total t used (.pointer MT)from rfl);clear h M kw;generalize mB:iJ K C p c s.total t used (.pointer MT)=cs at*;clear Ww;have Ww:=Z mB;clear mB;go_enter func35,ntmps35;go_wp2_with (first
  |refine aar rfl 113 _ rfl _ cs rfl HK.o underlying113 rfl (by rw[zH.o];kernel_rfl) ?_
  |refine fi rfl 113 _ _ rfl w.heap.size cs rfl rfl (aF.new _ _ _) (by rw[zH.o];rfl) (by rw[zH.o];kernel_rfl) H1.o ?_)
 intro w1 k1 f1;have cR:=Z (show Below w.heap.size w w1.drew/\w.heap.size<w1.drew.heap.size from by
  have b1:Below w.heap.size w w1:=Below.trans ((aY _ _).alloc (aL _) _) (f1.below ay ay);exact⟨b1.trans (az _ w1 1),dz k1.lt (az 0 w1 1).size⟩)
 have JL:=Z (show aF w1.drew w.heap.size 113 cs from k1.aG (aA.af (S:=[]) (az _ w1 1)) ay);clear k1 f1;go_wp2_with fail;have d9:Vo w1.drew (I C.mb 9)=O (V5 C.ab):=(bk (cR.o.1.block _ (aH c9))).trans c9;have d10:Vo w1.drew (I C.mb 10)=O (V5 C.xb):=(bk (cR.o.1.block _ (aH JQ))).trans JQ;have d11:Vo w1.drew (I C.mb 11)=O C.vs:=(bk (cR.o.1.block _ (aH JR))).trans JR;refine Mk.bH (S:=λwx=>Vo wx (I C.mb 9)=O (V5 C.ab)/\Vo wx (I C.mb 10)=O (V5 C.xb)/\Vo wx (I C.mb 11)=O C.vs) bh ⟨d9,d10,d11⟩ (λau=>?_);generalize w1.drew=V0 at*;clear c9 JQ JR;refine Mk.fC 0 ?_;refine Mk.fC 1 ?_;refine Mk.fC 2 ?_;refine Mk.fC 3 ?_;refine Mk.fC 5 ?_;refine Mk.fC 6 ?_;refine Mk.fC 7 ?_;refine Mk.fC 8 ?_;refine Mk.fC 10 ?_;refine Mk.fC 11 ?_;refine Mk.fC 12 ?_;refine Mk.fC 13 ?_;refine Mk.oD (rs:=[4]) (bZ rfl (λK9 hK=>?_) cK);refine fH ?_;go_simp;refine(eB.Tm (HH.o.later cR.o.1).m.ar HM.o.AY (by have:=(cE HM.o.check).1.g;omega)).mono ?_;rintro e V1 ⟨V',L',rfl,ha1,fI,i1,i2⟩;have Du:=Z ha1;have eF:=Z fI;have HI:=Z (And.intro i1 i2);clear ha1 fI i1 i2;clear au;refine hK.out _ _ ⟨(bk (eF.o.block _ (aH d9))).trans d9,(bk (eF.o.block _ (aH d10))).trans d10,(bk (eF.o.block _ (aH d11))).trans d11⟩ (λau=>?_);clear hK K9;refine Mk.pt ?_;refine Mk.oD (rs:=[9]) (bZ rfl (λK9 hK=>?_) cK);refine fH ?_;go_simp;refine(Ix.ai (HH.o.later (cR.o.1.trans (eF.o.mono cR.o.1.size))).m.ix).mono ?_;rintro e V2 ⟨xb,xs,rfl,dC,l1,l2,hx⟩;have lF:=Z hx;have iy:=Z (eF.o.trans (dC.mono eF.o.size));have Pq:=Z (show Below V1.heap.size V1 V2/\V1.heap.size<=xb/\V1.heap.size<=xs from⟨dC,l1,l2⟩);clear hx dC l1 l2;clear au;refine hK.out _ _ ⟨(bk (iy.o.block _ (aH d9))).trans d9,(bk (iy.o.block _ (aH d10))).trans d10,(bk (iy.o.block _ (aH d11))).trans d11⟩ (λau=>?_);clear hK K9;refine Mk.pt ?_;refine Mk.oD (rs:=[14]) (bZ rfl (λK9 hK=>?_) cK);refine fH ?_;go_simp;refine(Vf.mM (Vf.aZ.vd (HH.o.later (cR.o.1.trans (iy.o.mono cR.o.1.size))).m.vs) (by have:=(cE HM.o.check).1.v;omega) (λj _=>rfl)).mono ?_;rintro e V3 ⟨vs,rfl,Tt,pz,i3⟩;have HR3:=Z Tt;have jK:=Z (iy.o.trans (pz.mono iy.o.size));have Tu:=Z (And.intro pz i3);clear Tt pz i3;clear au;refine hK.out _ _ ⟨(bk (jK.o.block _ (aH d9))).trans d9,(bk (jK.o.block _ (aH d10))).trans d10,(bk (jK.o.block _ (aH d11))).trans d11⟩ (λau=>?_);clear hK K9;refine Mk.pt ?_;have x9:=au.1;have uB:=au.2.1;have xz:=au.2.2;obtain⟨xv,yv,rfl⟩:=nX HR3.o;have Dw:=Z (show aF V3 w.heap.size 113 cs from JL.o.aG (aA.af (S:=[]) jK.o) ay);refine Mk.fC 15 ?_;have n9:Vo V3 (I w.heap.size 9)=_:=(Dw.o.cell 9).trans HC9.o.1;have nf1:∀o,V3.frozen? (I w.heap.size o)=false:=Dw.o.frozen;have F1:aA [w.heap.size] V3 (V3.setCell (I w.heap.size 9) (V5 V0.heap.size)):=(aA.refl _ _).setCell ay _;have HK4:=Z (Dw.o.set 9 (V5 V0.heap.size));have E7:=Z F1;refine Mk.oD (rs:=[16]) (bZ rfl (λK9 hK=>?_) cK);refine fH ?_;go_simp;clear au;refine hK.out _ _ ⟨(bk (F1.block _ (aH x9) jz)).trans x9,(bk (F1.block _ (aH uB) jz)).trans uB,(bk (F1.block _ (aH xz) jz)).trans xz⟩ (λau=>?_);clear hK K9;refine Mk.pt ?_;replace x9:=au.1;replace uB:=au.2.1;replace xz:=au.2.2;clear F1 n9 nf1;refine Mk.fC 17 ?_;have n10:(V3.setCell (I w.heap.size 9) (V5 V0.heap.size)).cell? (I w.heap.size 10)=_:=(HK4.o.cell 10).trans (show _=_ from by simpa using HC9.o.2.1);have nf2:∀o,(V3.setCell (I w.heap.size 9) (V5 V0.heap.size)).frozen? (I w.heap.size o)=false:=HK4.o.frozen;have F2:aA [w.heap.size] (V3.setCell (I w.heap.size 9) (V5 V0.heap.size)) ((V3.setCell (I w.heap.size 9) (V5 V0.heap.size)).setCell (I w.heap.size 10) (V5 xb)):=(aA.refl _ _).setCell ay _;have Hb:=Z (HK4.o.set 10 (V5 xb));have Ay:=Z F2;refine Mk.oD (rs:=[18]) (bZ rfl (λK9 hK=>?_) cK);refine fH ?_;go_simp;clear au;refine hK.out _ _ ⟨(bk (F2.block _ (aH x9) jz)).trans x9,(bk (F2.block _ (aH uB) jz)).trans uB,(bk (F2.block _ (aH xz) jz)).trans xz⟩ (λau=>?_);clear hK K9;refine Mk.pt ?_;replace x9:=au.1;replace uB:=au.2.1;replace xz:=au.2.2;clear F2 n10 nf2;refine Mk.fC 19 ?_;have n11:((V3.setCell (I w.heap.size 9) (V5 V0.heap.size)).setCell (I w.heap.size 10) (V5 xb)).cell? (I w.heap.size 11)=_:=(Hb.o.cell 11).trans (show _=_ from by simpa using HC9.o.2.2);have nf3:∀o,((V3.setCell (I w.heap.size 9) (V5 V0.heap.size)).setCell (I w.heap.size 10) (V5 xb)).frozen? (I w.heap.size o)=false:=Hb.o.frozen;have F3:aA [w.heap.size] ((V3.setCell (I w.heap.size 9) (V5 V0.heap.size)).setCell (I w.heap.size 10) (V5 xb)) (((V3.setCell (I w.heap.size 9) (V5 V0.heap.size)).setCell (I w.heap.size 10) (V5 xb)).setCell (I w.heap.size 11) (H xv p.vars.length yv)):=(aA.refl _ _).setCell ay _;have Ng:=Z (Hb.o.set 11 (H xv p.vars.length yv));have Dl:=Z F3;refine Mk.oD (rs:=[20]) (bZ rfl (λK9 hK=>?_) cK);refine fH ?_;go_simp;clear au;refine hK.out _ _ ⟨(bk (F3.block _ (aH x9) jz)).trans x9,(bk (F3.block _ (aH uB) jz)).trans uB,(bk (F3.block _ (aH xz) jz)).trans xz⟩ (λau=>?_);clear hK K9;refine Mk.pt ?_;replace x9:=au.1;replace uB:=au.2.1;replace xz:=au.2.2;clear F3 n11 nf3;refine fx bh ⟨rfl,?_⟩ _;clear au x9 uB xz;have HF:=Z (show aA [w.heap.size] V3 (((V3.setCell (I w.heap.size 9) (V5 V0.heap.size)).setCell (I w.heap.size 10) (V5 xb)).setCell (I w.heap.size 11) (H xv p.vars.length yv))from(E7.o.trans Ay.o).trans Dl.o);have HK7:=Z (show aF (((V3.setCell (I w.heap.size 9) (V5 V0.heap.size)).setCell (I w.heap.size 10) (V5 xb)).setCell (I w.heap.size 11) (H xv p.vars.length yv)) w.heap.size 113 (iJ K {C with ab:=V0.heap.size,xb:=xb,vs:=H xv p.vars.length yv} p c s.total t used (.pointer MT))from by
  have h:=Ng.o;rw[<-Ww.o]at h;exact h)
 clear HK4 Hb Ng E7 Ay Dl Dw JL;generalize(((V3.setCell (I w.heap.size 9) (V5 V0.heap.size)).setCell (I w.heap.size 10) (V5 xb)).setCell (I w.heap.size 11) (H xv p.vars.length yv))=V6 at*;have ub:=Z (wX (w:=V6) (mb:=w.heap.size) (v:=λi=>(iJ K {C with ab:=V0.heap.size,xb:=xb,vs:=H xv p.vars.length yv} p c s.total t used (.pointer MT)).getD i undef) HK7.o);go_wp2_with fail;refine ub.o.mono ?_;rintro e V7 ⟨rfl,f7,k7⟩;have oY:=Z (show Pp w C RO K p c s t used (Vl (V5 w.heap.size)) V7 from by
  have b0:=cR.o.1;have b4:=jK.o;have hf:aA [w.heap.size] V3 V7:=HF.o.trans f7;have bw:Below w.heap.size w V7:=(b0.trans (b4.mono b0.size)).trans (hf.below ((b0.trans (b4.mono b0.size)).size) ay);refine adH (n0:=V0.heap.size) (n1:=V1.heap.size) (n2:=V2.heap.size) HH.o HM.o bw cR.o.2 ((Du.o.later (Pq.o.1.trans (Tu.o.1.mono Pq.o.1.size))).aG hf λb X hc=>?_) HI.o.1 HI.o.2 ((lF.o.later Tu.o.1).aG hf ⟨λhc=>?_,λhc=>?_⟩) Pq.o.2 (abH lF.o) (adI HR3.o hf Tu.o.2 (by have:=iy.o.size;have:=cR.o.2;omega)) Tu.o.2 (Du.o.lt _ (by simp[bp])) k7
  ·have h1:=cR.o.2;unfold bp at X;simp at hc;subst hc;simp only[dK,fk]at X;rcases X with X|X|X
   ·omega
   ·have:=HI.o.1 _ (by simpa using X);omega
   ·have:=HI.o.2 _ (by simpa using X);omega
  ·simp at hc;have:=Pq.o.2.1;have:=eF.o.size;have:=cR.o.2;omega
  ·simp at hc;have:=Pq.o.2.2;have:=eF.o.size;have:=cR.o.2;omega)
 clear f7 k7 ub HK7;go_wp2;go_ret;exact oY.o
end
end Go.Ma
namespace Go.Vf
open Go.RowKit aj.Vm
open aj hiding aR an ak
open Ma (dP ci aX vb)
def sL(w:ek)(n lo hi:Int):Calls prog 241 #[Y n,Y lo,Y hi] w (λe w'=>e=Vl (.bool (aO n lo hi))/\w'=w):=by
 by_cases h1:lo<=n
 ·by_cases h2:n<=hi
  ·go_enter func241,ntmps241;go_wp2;go_ret;simp[aO,h1,h2]
  ·go_enter func241,ntmps241;go_wp2;go_ret;simp[aO,h1,h2]
 ·go_enter func241,ntmps241;go_wp2;go_ret;simp[aO,h1];omega
def Il:List (List Nat):=[[101,110,100],[110,117,109],[98,111,111,108],[118,97,114],[108,101,110],[99,97,112],[115,105,122,101],[116,111,116,97,108],[97,116],[116,97,103,120],[116,97,103,101,110,100],[109,105,110],[109,97,120],[110,101,103],[110,111,116],[109,117,108],[100,105,118],[97,100,100],[115,117,98],[101,113],[108,116],[108,101],[106,117,109,112],[101,108,115,101],[108,111,111,112],[116,117,114,110],[113,117,105,116],[97,103,97,105,110],[115,101,116],[109,97,114,107,120],[109,97,114,107,101,110,100],[105,110,115,101,114,116],[109,111,118,101],[102,111,114,103,101,116],[116,97,107,101],[103,105,118,101],[116,101,108,108],[108,111,111,115,101],[115,104,105,102,116],[115,112,105,108,108],[101,118,105,99,116],[100,114,111,112]]
def bytesOf(l:List Nat):ByteArray:=⟨(l.map UInt8.ofNat).toArray⟩
def vY(k:Nat):Nat:=[0,113,118,116,101,110,98,114,112].getD k 0
def ox(op:Nat):ByteArray:=bytesOf ((cC op).map vY)
def pd(j:Nat):to:=if j % 2=0 then .string (bytesOf (Il.getD (j / 2) []))else .string (ox (j / 2))
def jq:Array to:=((List.range 84).map pd).toArray
def ud:jq.size=84:=by simp[jq]
def yW{j:Nat}(h:j<84):jq[j]? =O (pd j):=by simp[jq,h]
def vZ:∀v∈jq.toList,v.oneCell'=true:=by intro v hv;simp only[jq,List.toList_toArray,List.mem_map]at hv;obtain⟨j,-,rfl⟩:=hv;unfold pd;split<;>rfl
def adF(w:ek)(op:Nat)(h2:op<42):Calls prog 239 #[Y op] w (λe w'=>(∃nm,e=Vl (.tuple #[.agg #[.string nm,.string (ox op)],.bool true]))/\Below w.heap.size w w'):=by
 go_enter func239,ntmps239;have e1:((op:Int)<0)=False:=by simp
 have e2:((42:Int)<=op)=False:=by simp;omega
 have hT:(prog.info? 314).map (λi=>i.size)=O jq.size:=by kernel_rfl
 go_wp2_with (first|refine pa rfl 314 _ rfl _ jq rfl (by as_aux_lemma=>kernel_rfl) ?_|refine fi rfl 314 _ _ rfl (w.heap.size+1) jq rfl rfl (aF.bR ay) (by rw[ud];rfl) hT vZ ?_);intro w' X hf;have hB:Below w.heap.size w w':=(((aY _ w).alloc (aL _) _).alloc ay _).trans (hf.below (by simp only[aM];omega) ay);have c1:Vo w' (I (w.heap.size+1) (op*2))=O (.string (bytesOf (Il.getD op []))):=by rw[X.cell,yW G];unfold pd;rw[aB G,show op*2 / 2=op by omega]
 generalize bytesOf (Il.getD op [])=nm at c1;have c2:Vo w' (I (w.heap.size+1) (op*2+1))=O (.string (ox op)):=by rw[X.cell,yW G];unfold pd;rw[aw G,show(op*2+1) / 2=op by omega]
 have dC:aF w' w.heap.size 266 #[.string ⟨#[]⟩,.string ⟨#[]⟩]:=((aF.new w _ _).alloc _).aG hf ay;obtain⟨d1,d2⟩:=dC.c2;have fz:=dC.frozen;have HB:=Z hB;have eF:=Z dC;clear X hf hB hT dC;go_wp2_with fail;have b9:=(eF.o.set 0 (.string nm)).set 1 (.string (ox op));have hB9:=(HB.o.setCell (p:=(I w.heap.size 0)) (aL _) (.string nm)).setCell (p:=(I w.heap.size 1)) (aL _) (.string (ox op));generalize(w'.setCell (I w.heap.size 0) (.string nm)).setCell (I w.heap.size 1) (.string (ox op))=W9 at*;obtain⟨i0,i1⟩:=b9.c2;refine bK (v:= .tuple #[.agg #[.string nm,.string (ox op)],.bool true]) ?_ rfl ⟨⟨_,rfl⟩,hB9⟩;simp[results,results239,go_sem,i0,i1]
def IN{p:Prop}(h:p:=by
 go_wp2_with fail;have b9:=(eF.o.set 0 (.string ⟨#[]⟩)).set 1 (.string ⟨#[]⟩);have hB9:=(HB.o.setCell (p:=(I w.heap.size 0)) (aL _) (.string ⟨#[]⟩)).setCell (p:=(I w.heap.size 1)) (aL _) (.string ⟨#[]⟩);generalize(w'.setCell (I w.heap.size 0) (.string ⟨#[]⟩)).setCell (I w.heap.size 1) (.string ⟨#[]⟩)=W9 at*;obtain⟨i0,i1⟩:=b9.c2;refine bK (v:= .tuple #[.agg #[.string ⟨#[]⟩,.string ⟨#[]⟩],.bool false]) ?_ rfl ⟨rfl,hB9⟩;simp[results,results239,go_sem,i0,i1]):p:=h
def aap(w:ek)(op:Int)(h2:op<0\/42<=op):Calls prog 239 #[Y op] w (λe w'=>e=Vl (.tuple #[.agg #[.string ⟨#[]⟩,.string ⟨#[]⟩],.bool false])/\Below w.heap.size w w'):=by
 go_enter func239,ntmps239;have hT:(prog.info? 314).map (λi=>i.size)=O jq.size:=by kernel_rfl
 go_wp2_with (first|refine pa rfl 314 _ rfl _ jq rfl (by as_aux_lemma=>kernel_rfl) ?_|refine fi rfl 314 _ _ rfl (w.heap.size+1) jq rfl rfl (aF.bR ay) (by rw[ud];rfl) hT vZ ?_);intro w' X hf;have hB:Below w.heap.size w w':=(((aY _ w).alloc (aL _) _).alloc ay _).trans (hf.below (by simp only[aM];omega) ay);have dC:aF w' w.heap.size 266 #[.string ⟨#[]⟩,.string ⟨#[]⟩]:=((aF.new w _ _).alloc _).aG hf ay;obtain⟨d1,d2⟩:=dC.c2;have fz:=dC.frozen;have HB:=Z hB;have eF:=Z dC;clear X hf hB hT dC;rcases h2 with h2|h2
 ·exact IN
 ·by_cases h3:op<0
  ·omega
  exact IN
end Go.Vf
