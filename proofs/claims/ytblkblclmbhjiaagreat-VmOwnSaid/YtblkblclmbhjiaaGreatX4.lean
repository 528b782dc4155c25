import Derived.Test.YtblkblclmbhjiaaGreatX3
import Derived.WalkMore
import Derived.ScopeJumps
import Derived.Defers
import Derived.Laws.Tables
import Derived.Shelf.Bits.Mul64
import Derived.Deep.Onto
import Derived.ArgAppend
set_option linter.all false
set_option maxHeartbeats 40000000
set_option maxRecDepth 100000
open Go.Proofs.Tryz
open Option renaming some->H,none->K7
open Go renaming Value->UL,World->UK
open Go.Value renaming slice->to
open Go.Obj renaming cells->QP
open Go.Ending renaming returned->C8
open Go.World renaming cell?->UJ
abbrev E0:=@List.length_singleton
abbrev vX:=@Go.Lib.run_eql_slice_nil
abbrev Zi:=@Go.World.ownsRow_made
abbrev yZ:=@List.getElem_of_mem
abbrev tR:=@Array.getElem?_eq_getElem
abbrev oL:=@Array.getD_eq_getD_getElem?
open Go.RowKit aj.Vm
open aj hiding aR an ak
namespace Go.Ma
open eB (bS bL eN)
open Ix (cX)
section
variable {w w':UK}{C C':Co}{U U':Ru}{RO RO':List Nat}{K:Kc}{p:aQ}{c:Cp}{t:dZ}{used:Int}{hv hv':UL}{jv kT:Nat->UL}{s s':St}{r r':Rn}{rv:UL}{mb rb:Nat}
def Cs(h:cS w C U RO K p c t used hv jv s r)(E:iT K p c s){q d:Nat}(hq:q<p.bw.length)(he:d<=1)(hj:r.bz.length<1000000):
 Calls prog 220 #[UI C.mb,Y q,Y d] w (cF w C.mb U.rb RO K p c t used (.bool (bC (aC p c) (s,r) q d).2) (bC (aC p c) (s,r) q d).1):=by
 unfold bC;dsimp only;by_cases bm:s.a.ls q=[]
 ·rw[bk bm];exact lD h hq bm
 ·rw[aw bm];exact qR h E hq he bm hj
def Ct{p:Prop}(h:p:=by
 go_wp2;exact bK (dJ rfl _ _ _) rfl Dv.o):p:=h
def adD(h:cS w C U RO K p c t used hv jv s r)(i:Ins)(E:iT K p c s){q d:Nat}(ha:i.a=q)(iL:i.b=d)(hq:q<p.bw.length)(he:d<=1)(hj:r.bz.length<1000000):
 Calls prog 124 #[UI C.mb,aV i] w (cF w C.mb U.rb RO K p c t used (.tuple #[]) (bC (aC p c) (s,r) q d).1):=by
 have h1:=h.box (QP (aI i) 40);have n1:=aF.new w 40 (aI i);have HB:=Z (Kept.af (RO:=RO) ((aB w.heap.size w).alloc (aL _) (QP (aI i) 40)) h.sep.dO);obtain⟨c0,c1,c2,c3,c4⟩:=cD n1;rw[ha]at c1;rw[iL]at c2;have HC:=Z (Cs h1 E hq he hj);have N1:=Z n1;clear h h1 n1 ha iL hj E;unfold aV;unfold aI at*;go_enter func124,ntmps124;go_wp2_with fail;refine HC.o.mono ?_;intro e w5 hd;obtain⟨rfl,RO',ho,fD,hk⟩:=hd.pre (RO:=RO) HB.o (λb X=>by simp[X]);have Dv:=Z (show cF w C.mb U.rb RO K p c t used (.tuple #[]) (bC (aC p c) (s,r) q d).1 (C8 (.tuple #[])) w5 from⟨rfl,RO',ho,fD,hk⟩);clear hd fD hk ho HC c0 c1 c2 c3 c4;exact Ct
def adC(h:cS w C U RO K p c t used hv jv s r)(i:Ins)(E:iT K p c s){q d:Nat}(ha:i.a=q)(iL:i.b=d)(hq:q<p.bw.length)(he:d<=1){x:eU}(hh:r.hand=H x)(hx:s.f x.key=K7)(hj:r.bz.length<1000000):
 Calls prog 125 #[UI C.mb,aV i] w (cF w C.mb U.rb RO K p c t used (.tuple #[]) (dX (aC p c) (s,r) q d).1):=by
 have h1:=h.box (QP (aI i) 40);have n1:=aF.new w 40 (aI i);have HB:=Z (Kept.af (RO:=RO) ((aB w.heap.size w).alloc (aL _) (QP (aI i) 40)) h.sep.dO);obtain⟨c0,c1,c2,c3,c4⟩:=cD n1;rw[ha]at c1;rw[iL]at c2;have HC:=Z (tV h1 E hq he hh hx hj);have N1:=Z n1;clear h h1 n1 ha iL hj E hh hx;unfold aV;unfold aI at*;go_enter func125,ntmps125;go_wp2_with fail;refine HC.o.mono ?_;intro e w5 hd;obtain⟨rfl,RO',ho,fD,hk⟩:=hd.pre (RO:=RO) HB.o (λb X=>by simp[X]);have Dv:=Z (show cF w C.mb U.rb RO K p c t used (.tuple #[]) (dX (aC p c) (s,r) q d).1 (C8 (.tuple #[])) w5 from⟨rfl,RO',ho,fD,hk⟩);clear hd fD hk ho HC c0 c1 c2 c3 c4;exact Ct
def aam(h:cS w C U RO K p c t used hv jv s r)(i:Ins){y:eU}(hh:r.hand=H y)(hl:r.told.length<1000000):
 Calls prog 126 #[UI C.mb,aV i] w (cF w C.mb U.rb RO K p c t used (.tuple #[]) (hZ (s,r))):=by
 have h1:=h.box (QP (aI i) 40);have n1:=aF.new w 40 (aI i);have HB:=Z (Kept.af (RO:=RO) ((aB w.heap.size w).alloc (aL _) (QP (aI i) 40)) h.sep.dO);obtain⟨c0,c1,c2,c3,c4⟩:=cD n1;have e0:hZ (s,r)=(s,{r with told:=r.told++[y.key]}):=by show(s,{r with told:=r.told++[(r.hand.getD eh).key]})=_;rw[show r.hand.getD eh=y by rw[hh];rfl]
 rw[e0];have HC:=Z (Cn h1 hh hl);have N1:=Z n1;clear h h1 n1 hh hl e0;unfold aV;unfold aI at*;go_enter func126,ntmps126;go_wp2_with fail;refine HC.o.mono ?_;intro e w5 hd;obtain⟨rfl,RO',ho,fD,hk⟩:=hd.pre (RO:=RO) HB.o (λb X=>by simp[X]);have Dv:=Z (show cF w C.mb U.rb RO K p c t used (.tuple #[]) (s,{r with told:=r.told++[y.key]}) (C8 (.tuple #[])) w5 from⟨rfl,RO',ho,fD,hk⟩);clear hd fD hk ho HC c0 c1 c2 c3 c4;exact Ct
def aal(h:cS w C U RO K p c t used hv jv s r)(i:Ins):
 Calls prog 127 #[UI C.mb,aV i] w (cF w C.mb U.rb RO K p c t used (.tuple #[]) (il (s,r))):=by
 have h1:=h.box (QP (aI i) 40);have n1:=aF.new w 40 (aI i);have HB:=Z (Kept.af (RO:=RO) ((aB w.heap.size w).alloc (aL _) (QP (aI i) 40)) h.sep.dO);obtain⟨c0,c1,c2,c3,c4⟩:=cD n1;have HC:=Z (yK h1);have N1:=Z n1;clear h h1 n1;unfold aV;unfold aI at*;go_enter func127,ntmps127;go_wp2_with fail;refine HC.o.mono ?_;intro e w5 hd;obtain⟨rfl,RO',ho,fD,hk⟩:=hd.pre (RO:=RO) HB.o (λb X=>by simp[X]);have Dv:=Z (show cF w C.mb U.rb RO K p c t used (.tuple #[]) (il (s,r)) (C8 (.tuple #[])) w5 from⟨rfl,RO',ho,fD,hk⟩);clear hd fD hk ho HC c0 c1 c2 c3 c4;exact Ct
def SV{p:Prop}(h:p:=by
 go_wp2_with fail;refine HC.o.mono ?_;intro e w5 hd;obtain⟨rfl,RO',ho,fD,hk⟩:=hd.pre (RO:=RO) HB.o (λb X=>by simp[X]);have Dv:=Z (show cF w C.mb U.rb RO K p c t used (.tuple #[]) (s,r.gd 2) (C8 (.tuple #[])) w5 from⟨rfl,RO',ho,fD,hk⟩);clear hd fD hk ho HC c0 c1 c2 c3 c4;exact Ct):p:=h
def aak(h:cS w C U RO K p c t used hv jv s r)(i:Ins){q d:Nat}(ha:i.a=q)(iL:i.b=d)(hq:q<p.bw.length)(he:d<=1)(bm:s.a.ls q=[]):
 Calls prog 131 #[UI C.mb,aV i] w (cF w C.mb U.rb RO K p c t used (.tuple #[]) (s,r.gd 2)):=by
 have h1:=h.box (QP (aI i) 40);have n1:=aF.new w 40 (aI i);have HB:=Z (Kept.af (RO:=RO) ((aB w.heap.size w).alloc (aL _) (QP (aI i) 40)) h.sep.dO);obtain⟨c0,c1,c2,c3,c4⟩:=cD n1;rw[ha]at c1;rw[iL]at c2;have HC:=Z (lD (d:=d) h1 hq bm);have N1:=Z n1;clear h h1 n1 ha iL bm;unfold aV;unfold aI at*;go_enter func131,ntmps131;exact SV
def aaj(h:cS w C U RO K p c t used hv jv s r)(i:Ins)(E:iT K p c s){q d:Nat}(ha:i.a=q)(iL:i.b=d)(hq:q<p.bw.length)(he:d<=1)(hj:r.bz.length<999990)(bm:s.a.ls q≠[]):
 Calls prog 131 #[UI C.mb,aV i] w (cF w C.mb U.rb RO K p c t used (.tuple #[]) (il (kB (aC p c) s q d,{r.note (.put q d (s.a.val (cN s.a q d)))with hand:=H (s.a.val (cN s.a q d))}))):=by
 have h1:=h.box (QP (aI i) 40);have n1:=aF.new w 40 (aI i);have HB:=Z (Kept.af (RO:=RO) ((aB w.heap.size w).alloc (aL _) (QP (aI i) 40)) h.sep.dO);obtain⟨c0,c1,c2,c3,c4⟩:=cD n1;rw[ha]at c1;rw[iL]at c2;have HC:=Z (qR h1 E hq he bm O);have E2:iT K p c (kB (aC p c) s q d):=⟨kZ E.inv hq (gr bm),E.gM,E.nd,E.AY,E.g16,E.t4⟩;have uU:(kB (aC p c) s q d).f (s.a.val (cN s.a q d)).key=K7:=an _ _ _;have pX:=Z E2;have lF:=Z uU;have HJ:=Z hj;have N1:=Z n1;clear h h1 n1 ha iL hj E bm E2 uU;unfold aV;unfold aI at*;go_enter func131,ntmps131;go_wp2_with fail;generalize hy:s.a.val (cN s.a q d)=y at*;generalize hz:kB (aC p c) s q d=z at*;have HYZ:=Z (And.intro hy hz);clear hy hz;generalize gu:w.heap.size=bx at*;refine HC.o.mono ?_;rintro e w3 ⟨rfl,Gf,Cu,⟨C3,U3,Oz,jv3,uV,uW,A3⟩,l8⟩;obtain⟨i0,i1,i2,i3,i4⟩:=cD (i:=i) (aF.lA N1.o l8 ay);have hn:=yK A3;rw[uV,uW]at hn;have HN:=Z hn;have K3:=Z (HB.o.trans l8 (λb X=>by simp[X]));have OX:=Z (show∀b,b∈bx::RO->b∈Gf from Cu);clear HC A3 hn l8 Cu uV uW c0 c1 c2 c3 c4 i0 i1 i2 i3 i4;go_wp2_with fail;refine HN.o.mono ?_;intro e w5 hd;obtain⟨rfl,RO',ho,fD,hk⟩:=hd.pre (RO:=RO) K3.o (λb X=>OX.o b (by simp[X]));have Dv:=Z (show cF w C.mb U.rb RO K p c t used (.tuple #[]) (il (z,{r.note (.put q d (y))with hand:=H (y)})) (C8 (.tuple #[])) w5 from⟨rfl,RO',ho,fD,hk⟩);clear hd fD hk ho;exact Ct
def aai(h:cS w C U RO K p c t used hv jv s r)(i:Ins)(E:iT K p c s){q d:Nat}(ha:i.a=q)(iL:i.b=d)(hq:q<p.bw.length)(he:d<=1)(hj:r.bz.length<999990):
 Calls prog 131 #[UI C.mb,aV i] w (cF w C.mb U.rb RO K p c t used (.tuple #[]) (vM (aC p c) i (s,r))):=by
 have Lv:N i.a=q:=by unfold N;rw[ha];rfl
 have YE:N i.b=d:=by unfold N;rw[iL];rfl
 unfold vM bC;dsimp only;rw[Lv,YE];by_cases bm:s.a.ls q=[]
 ·rw[bk bm];exact aak h i ha iL hq he bm
 ·rw[aw bm];exact aaj h i E ha iL hq he hj bm
def aah(h:cS w C U RO K p c t used hv jv s r)(i:Ins){q d:Nat}(ha:i.a=q)(iL:i.b=d)(hq:q<p.bw.length)(he:d<=1)(bm:s.a.ls q=[]):
 Calls prog 128 #[UI C.mb,aV i] w (cF w C.mb U.rb RO K p c t used (.tuple #[]) (s,r.gd 2)):=by
 have h1:=h.box (QP (aI i) 40);have n1:=aF.new w 40 (aI i);have HB:=Z (Kept.af (RO:=RO) ((aB w.heap.size w).alloc (aL _) (QP (aI i) 40)) h.sep.dO);obtain⟨c0,c1,c2,c3,c4⟩:=cD n1;rw[ha]at c1;rw[iL]at c2;have HC:=Z (lD (d:=d) h1 hq bm);have N1:=Z n1;clear h h1 n1 ha iL bm;unfold aV;unfold aI at*;go_enter func128,ntmps128;exact SV
def adB(h:cS w C U RO K p c t used hv jv s r)(i:Ins)(E:iT K p c s){q d:Nat}(ha:i.a=q)(iL:i.b=d)(hq:q<p.bw.length)(he:d<=1){q2 d2:Nat}(mZ:i.c=q2)(mI:i.d=d2)(nH:q2<p.bw.length)(Na:d2<=1)(hj:r.bz.length<999990)(bm:s.a.ls q≠[]):
 Calls prog 128 #[UI C.mb,aV i] w (cF w C.mb U.rb RO K p c t used (.tuple #[]) (dX (aC p c) (kB (aC p c) s q d,{r.note (.put q d (s.a.val (cN s.a q d)))with hand:=H (s.a.val (cN s.a q d))}) q2 d2).1):=by
 have h1:=h.box (QP (aI i) 40);have n1:=aF.new w 40 (aI i);have HB:=Z (Kept.af (RO:=RO) ((aB w.heap.size w).alloc (aL _) (QP (aI i) 40)) h.sep.dO);obtain⟨c0,c1,c2,c3,c4⟩:=cD n1;rw[ha]at c1;rw[iL]at c2;rw[mZ]at c3;rw[mI]at c4;have HC:=Z (qR h1 E hq he bm O);have E2:iT K p c (kB (aC p c) s q d):=⟨kZ E.inv hq (gr bm),E.gM,E.nd,E.AY,E.g16,E.t4⟩;have uU:(kB (aC p c) s q d).f (s.a.val (cN s.a q d)).key=K7:=an _ _ _;have pX:=Z E2;have lF:=Z uU;have HJ:=Z hj;have N1:=Z n1;have SY:=Z mZ;have SZ:=Z mI;clear h h1 n1 ha iL hj E bm E2 uU mZ mI;unfold aV;unfold aI at*;go_enter func128,ntmps128;go_wp2_with fail;generalize hy:s.a.val (cN s.a q d)=y at*;generalize hz:kB (aC p c) s q d=z at*;have HYZ:=Z (And.intro hy hz);clear hy hz;generalize gu:w.heap.size=bx at*;refine HC.o.mono ?_;rintro e w3 ⟨rfl,Gf,Cu,⟨C3,U3,Oz,jv3,uV,uW,A3⟩,l8⟩;obtain⟨i0,i1,i2,i3,i4⟩:=cD (i:=i) (aF.lA N1.o l8 ay);rw[SY.o]at i3;rw[SZ.o]at i4;have hn:=tV A3 pX.o nH Na (x:=y) rfl lF.o (by have:=HJ.o;simp[Rn.note];omega);rw[uV,uW]at hn;have HN:=Z hn;have K3:=Z (HB.o.trans l8 (λb X=>by simp[X]));have OX:=Z (show∀b,b∈bx::RO->b∈Gf from Cu);clear HC A3 hn l8 Cu uV uW c0 c1 c2 c3 c4 i0 i1 i2;go_wp2_with fail;refine HN.o.mono ?_;intro e w5 hd;obtain⟨rfl,RO',ho,fD,hk⟩:=hd.pre (RO:=RO) K3.o (λb X=>OX.o b (by simp[X]));have Dv:=Z (show cF w C.mb U.rb RO K p c t used (.tuple #[]) (dX (aC p c) (z,{r.note (.put q d (y))with hand:=H (y)}) q2 d2).1 (C8 (.tuple #[])) w5 from⟨rfl,RO',ho,fD,hk⟩);clear hd fD hk ho;exact Ct
def adA(h:cS w C U RO K p c t used hv jv s r)(i:Ins)(E:iT K p c s){q d:Nat}(ha:i.a=q)(iL:i.b=d)(hq:q<p.bw.length)(he:d<=1){q2 d2:Nat}(mZ:i.c=q2)(mI:i.d=d2)(nH:q2<p.bw.length)(Na:d2<=1)(hj:r.bz.length<999990):
 Calls prog 128 #[UI C.mb,aV i] w (cF w C.mb U.rb RO K p c t used (.tuple #[]) (qD (aC p c) i (s,r))):=by
 have Lv:N i.a=q:=by unfold N;rw[ha];rfl
 have YE:N i.b=d:=by unfold N;rw[iL];rfl
 have hNc:N i.c=q2:=by unfold N;rw[mZ];rfl
 have hNd:N i.d=d2:=by unfold N;rw[mI];rfl
 unfold qD bC;dsimp only;rw[Lv,YE,hNc,hNd];by_cases bm:s.a.ls q=[]
 ·rw[bk bm];exact aah h i ha iL hq he bm
 ·rw[aw bm];exact adB h i E ha iL hq he mZ mI nH Na hj bm
def aag(h:cS w C U RO K p c t used hv jv s r)(i:Ins){q d:Nat}(ha:i.a=q)(iL:i.b=d)(hq:q<p.bw.length)(he:d<=1)(bm:s.a.ls q=[]):
 Calls prog 130 #[UI C.mb,aV i] w (cF w C.mb U.rb RO K p c t used (.tuple #[]) (s,r.gd 2)):=by
 have h1:=h.box (QP (aI i) 40);have n1:=aF.new w 40 (aI i);have HB:=Z (Kept.af (RO:=RO) ((aB w.heap.size w).alloc (aL _) (QP (aI i) 40)) h.sep.dO);obtain⟨c0,c1,c2,c3,c4⟩:=cD n1;rw[ha]at c1;rw[iL]at c2;have HC:=Z (lD (d:=d) h1 hq bm);have N1:=Z n1;clear h h1 n1 ha iL bm;unfold aV;unfold aI at*;go_enter func130,ntmps130;exact SV
def adz(h:cS w C U RO K p c t used hv jv s r)(i:Ins)(E:iT K p c s){q d:Nat}(ha:i.a=q)(iL:i.b=d)(hq:q<p.bw.length)(he:d<=1)(hj:r.bz.length<999990)(hl:r.told.length<1000000)(bm:s.a.ls q≠[]):
 Calls prog 130 #[UI C.mb,aV i] w (cF w C.mb U.rb RO K p c t used (.tuple #[]) (il (hZ (kB (aC p c) s q d,{r.note (.put q d (s.a.val (cN s.a q d)))with hand:=H (s.a.val (cN s.a q d))})))):=by
 have h1:=h.box (QP (aI i) 40);have n1:=aF.new w 40 (aI i);have HB:=Z (Kept.af (RO:=RO) ((aB w.heap.size w).alloc (aL _) (QP (aI i) 40)) h.sep.dO);obtain⟨c0,c1,c2,c3,c4⟩:=cD n1;rw[ha]at c1;rw[iL]at c2;have HC:=Z (qR h1 E hq he bm O);have E2:iT K p c (kB (aC p c) s q d):=⟨kZ E.inv hq (gr bm),E.gM,E.nd,E.AY,E.g16,E.t4⟩;have uU:(kB (aC p c) s q d).f (s.a.val (cN s.a q d)).key=K7:=an _ _ _;have pX:=Z E2;have lF:=Z uU;have HJ:=Z hj;have HL:=Z hl;have N1:=Z n1;clear h h1 n1 ha iL hj E bm E2 uU hl;unfold aV;unfold aI at*;go_enter func130,ntmps130;go_wp2_with fail;generalize hy:s.a.val (cN s.a q d)=y at*;generalize hz:kB (aC p c) s q d=z at*;have HYZ:=Z (And.intro hy hz);clear hy hz;generalize gu:w.heap.size=bx at*;refine HC.o.mono ?_;rintro e w3 ⟨rfl,Gf,Cu,⟨C3,U3,Oz,jv3,uV,uW,A3⟩,l8⟩;obtain⟨i0,i1,i2,i3,i4⟩:=cD (i:=i) (aF.lA N1.o l8 ay);have hn:=Cn A3 (y:=y) rfl HL.o;rw[uV,uW]at hn;have Dw:=Z l8;have HN:=Z hn;have K3:=Z (HB.o.trans l8 (λb X=>by simp[X]));have OX:=Z (show∀b,b∈bx::RO->b∈Gf from Cu);clear HC A3 hn l8 Cu uV uW c0 c1 c2 c3 c4;go_wp2_with fail;refine HN.o.mono ?_;rintro e w4 ⟨rfl,OD,Jv,⟨C4,U4,hv4,jv4,wH,BY,A4⟩,Dp⟩;have b4:=aF.lA (aF.lA N1.o (show Kept (bx::RO) _ w3 from Dw.o) ay) Dp (OX.o bx ay);obtain⟨g0,g1,g2,g3,g4⟩:=cD (i:=i) b4;have Cv:=yK A4;rw[wH,BY]at Cv;have Hu:=Z Cv;have K4:=Z (K3.o.trans Dp (λb X=>OX.o b (by simp[X])));have Yi:=Z (show∀b,b∈RO->b∈OD from λb X=>Jv b (OX.o b (by simp[X])));clear HN A4 Cv Dp Jv wH BY b4 i0 i1 i2 i3 i4 g0 g1 g2;go_wp2_with fail;refine Hu.o.mono ?_;intro e w5 hd;obtain⟨rfl,RO',ho,fD,hk⟩:=hd.pre (RO:=RO) K4.o Yi.o;have Dv:=Z (show cF w C.mb U.rb RO K p c t used (.tuple #[]) (il (hZ (z,{r.note (.put q d (y))with hand:=H (y)}))) (C8 (.tuple #[])) w5 from⟨rfl,RO',ho,fD,hk⟩);clear hd fD hk ho;exact Ct
def aae(h:cS w C U RO K p c t used hv jv s r)(i:Ins)(E:iT K p c s){q d:Nat}(ha:i.a=q)(iL:i.b=d)(hq:q<p.bw.length)(he:d<=1)(hj:r.bz.length<999990)(hl:r.told.length<1000000):
 Calls prog 130 #[UI C.mb,aV i] w (cF w C.mb U.rb RO K p c t used (.tuple #[]) (qF (aC p c) i (s,r))):=by
 have Lv:N i.a=q:=by unfold N;rw[ha];rfl
 have YE:N i.b=d:=by unfold N;rw[iL];rfl
 unfold qF bC;dsimp only;rw[Lv,YE];by_cases bm:s.a.ls q=[]
 ·rw[bk bm];exact aag h i ha iL hq he bm
 ·rw[aw bm];exact adz h i E ha iL hq he hj hl bm
def adx(h:cS w C U RO K p c t used hv jv s r)(i:Ins){q d:Nat}(ha:i.a=q)(iL:i.b=d)(hq:q<p.bw.length)(he:d<=1)(bm:s.a.ls q=[]):
 Calls prog 129 #[UI C.mb,aV i] w (cF w C.mb U.rb RO K p c t used (.tuple #[]) (s,r.gd 2)):=by
 have h1:=h.box (QP (aI i) 40);have n1:=aF.new w 40 (aI i);have HB:=Z (Kept.af (RO:=RO) ((aB w.heap.size w).alloc (aL _) (QP (aI i) 40)) h.sep.dO);obtain⟨c0,c1,c2,c3,c4⟩:=cD n1;rw[ha]at c1;rw[iL]at c2;have HC:=Z (lD (d:=d) h1 hq bm);have N1:=Z n1;clear h h1 n1 ha iL bm;unfold aV;unfold aI at*;go_enter func129,ntmps129;exact SV
def adw(h:cS w C U RO K p c t used hv jv s r)(i:Ins)(E:iT K p c s){q d:Nat}(ha:i.a=q)(iL:i.b=d)(hq:q<p.bw.length)(he:d<=1){q2 d2:Nat}(mZ:i.c=q2)(mI:i.d=d2)(nH:q2<p.bw.length)(Na:d2<=1)(hj:r.bz.length<999990)(hl:r.told.length<1000000)(bm:s.a.ls q≠[]):
 Calls prog 129 #[UI C.mb,aV i] w (cF w C.mb U.rb RO K p c t used (.tuple #[]) (dX (aC p c) (hZ (kB (aC p c) s q d,{r.note (.put q d (s.a.val (cN s.a q d)))with hand:=H (s.a.val (cN s.a q d))})) q2 d2).1):=by
 have h1:=h.box (QP (aI i) 40);have n1:=aF.new w 40 (aI i);have HB:=Z (Kept.af (RO:=RO) ((aB w.heap.size w).alloc (aL _) (QP (aI i) 40)) h.sep.dO);obtain⟨c0,c1,c2,c3,c4⟩:=cD n1;rw[ha]at c1;rw[iL]at c2;rw[mZ]at c3;rw[mI]at c4;have HC:=Z (qR h1 E hq he bm O);have E2:iT K p c (kB (aC p c) s q d):=⟨kZ E.inv hq (gr bm),E.gM,E.nd,E.AY,E.g16,E.t4⟩;have uU:(kB (aC p c) s q d).f (s.a.val (cN s.a q d)).key=K7:=an _ _ _;have pX:=Z E2;have lF:=Z uU;have HJ:=Z hj;have HL:=Z hl;have N1:=Z n1;have SY:=Z mZ;have SZ:=Z mI;clear h h1 n1 ha iL hj E bm E2 uU mZ mI hl;unfold aV;unfold aI at*;go_enter func129,ntmps129;go_wp2_with fail;generalize hy:s.a.val (cN s.a q d)=y at*;generalize hz:kB (aC p c) s q d=z at*;have HYZ:=Z (And.intro hy hz);clear hy hz;generalize gu:w.heap.size=bx at*;refine HC.o.mono ?_;rintro e w3 ⟨rfl,Gf,Cu,⟨C3,U3,Oz,jv3,uV,uW,A3⟩,l8⟩;obtain⟨i0,i1,i2,i3,i4⟩:=cD (i:=i) (aF.lA N1.o l8 ay);rw[SY.o]at i3;rw[SZ.o]at i4;have hn:=Cn A3 (y:=y) rfl HL.o;rw[uV,uW]at hn;have Dw:=Z l8;have HN:=Z hn;have K3:=Z (HB.o.trans l8 (λb X=>by simp[X]));have OX:=Z (show∀b,b∈bx::RO->b∈Gf from Cu);clear HC A3 hn l8 Cu uV uW c0 c1 c2 c3 c4;go_wp2_with fail;refine HN.o.mono ?_;rintro e w4 ⟨rfl,OD,Jv,⟨C4,U4,hv4,jv4,wH,BY,A4⟩,Dp⟩;have b4:=aF.lA (aF.lA N1.o (show Kept (bx::RO) _ w3 from Dw.o) ay) Dp (OX.o bx ay);obtain⟨g0,g1,g2,g3,g4⟩:=cD (i:=i) b4;rw[SY.o]at g3;rw[SZ.o]at g4;have Cv:=tV A4 pX.o nH Na (x:=y) rfl lF.o (by have:=HJ.o;simp[Rn.note];omega);rw[wH,BY]at Cv;have Hu:=Z Cv;have K4:=Z (K3.o.trans Dp (λb X=>OX.o b (by simp[X])));have Yi:=Z (show∀b,b∈RO->b∈OD from λb X=>Jv b (OX.o b (by simp[X])));clear HN A4 Cv Dp Jv wH BY b4 i0 i1 i2 i3 i4 g0 g1 g2;go_wp2_with fail;refine Hu.o.mono ?_;intro e w5 hd;obtain⟨rfl,RO',ho,fD,hk⟩:=hd.pre (RO:=RO) K4.o Yi.o;have Dv:=Z (show cF w C.mb U.rb RO K p c t used (.tuple #[]) (dX (aC p c) (hZ (z,{r.note (.put q d (y))with hand:=H (y)})) q2 d2).1 (C8 (.tuple #[])) w5 from⟨rfl,RO',ho,fD,hk⟩);clear hd fD hk ho;exact Ct
def adu(h:cS w C U RO K p c t used hv jv s r)(i:Ins)(E:iT K p c s){q d:Nat}(ha:i.a=q)(iL:i.b=d)(hq:q<p.bw.length)(he:d<=1){q2 d2:Nat}(mZ:i.c=q2)(mI:i.d=d2)(nH:q2<p.bw.length)(Na:d2<=1)(hj:r.bz.length<999990)(hl:r.told.length<1000000):
 Calls prog 129 #[UI C.mb,aV i] w (cF w C.mb U.rb RO K p c t used (.tuple #[]) (qE (aC p c) i (s,r))):=by
 have Lv:N i.a=q:=by unfold N;rw[ha];rfl
 have YE:N i.b=d:=by unfold N;rw[iL];rfl
 have hNc:N i.c=q2:=by unfold N;rw[mZ];rfl
 have hNd:N i.d=d2:=by unfold N;rw[mI];rfl
 unfold qE bC;dsimp only;rw[Lv,YE,hNc,hNd];by_cases bm:s.a.ls q=[]
 ·rw[bk bm];exact adx h i ha iL hq he bm
 ·rw[aw bm];exact adw h i E ha iL hq he mZ mI nH Na hj hl bm
def adt(h:cS w C U RO K p c t used hv jv s r)(E:iT K p c s)(i:Ins){n q q2 d:Nat}(ha:i.a=q2)(iL:i.b=d)(nH:q2<p.bw.length)(he:d<=1)(hf:s.f r.key=H n)(hq:q<p.bw.length)(hn:n∈s.a.ls q)(hj:r.bz.length<999990):
 Calls prog 122 #[UI C.mb,aV i] w (cF w C.mb U.rb RO K p c t used (.tuple #[]) (iZ (aC p c) (uJ (aC p c) (s,r) n q) q2 d (s.a.val n)).1):=by
 have h1:=h.box (QP (aI i) 40);have n1:=aF.new w 40 (aI i);have HN:=Z (mL h1 hf hq hn);have HB:=Z ((aB w.heap.size w).alloc (aL _) (QP (aI i) 40));have dE:=Z h.sep.dO;have Hs:=Z (λm=>Wd ((h1.drewN m).drewN 1) E hq hn O);obtain⟨c0,c1,c2,c3,c4⟩:=cD n1;rw[ha]at c1;rw[iL]at c2;have E2:iT K p c (gB (aC p c) s q n):=⟨kZ E.inv hq hn,E.gM,E.nd,E.AY,E.g16,E.t4⟩;have uU:(gB (aC p c) s q n).f (s.a.val n).key=K7:=an _ _ _;have pX:=Z E2;have lF:=Z uU;have HJ:=Z hj;have N1:=Z n1;have HX:=Z (And.intro ha iL);have hO:uJ (aC p c) (s,r) n q=(gB (aC p c) s q n,r.note (.out q (s.a.val n) (cy (s.a.ls q) n))):=rfl;rw[hO]at Hs;rw[hO];clear h h1 n1 hf hn E E2 uU hj ha iL hO;generalize hy:s.a.val n=y at*;generalize hz:gB (aC p c) s q n=z at*;generalize hu:r.note (.out q y (cy (s.a.ls q) n))=r2 at*;have HYZ:=Z (And.intro hy (And.intro hz hu));clear hy hz hu;unfold aV;unfold aI at*;unfold bL at Hs;go_enter func122,ntmps122;go_wp2_with fail;generalize w.alloc (QP #[Y i.op,Y i.a,Y i.b,Y i.c,Y i.d] 40)=w1 at*;generalize gu:w.heap.size=bx at*;refine HN.o.mono ?_;rintro e w' ⟨rfl,m,rfl⟩;have yL:=Z (Hs.o m);have d1:(w1.drewN m).cell? (G bx 1)=H (Y q2):=c1;have d2:(w1.drewN m).cell? (G bx 2)=H (Y d):=c2;have M1:=Z ((N1.o.drewN m).drewN 1);have HK:=Z (Kept.af (RO:=RO) (w:=w) (w':=(w1.drewN m).drewN 1) (by rw[gu];exact(HB.o.trans (az bx w1 m)).trans (az bx (w1.drewN m) 1)) (by rw[gu];exact dE.o));clear HN c0 c1 c2 c3 c4 Hs N1;generalize w1.drewN m=w2 at*;have C1:Hid (Calls prog 219 #[UI C.mb,Y n,Y q] (w2.drewN 1) λe w3=>e=C8 (.agg #[.int .u64 y.key,Y (y.tg 0),Y (y.tg 1),Y (y.tg 2),Y (y.tg 3)])/\(UJ w3 (G bx 1)=H (Y q2)/\UJ w3 (G bx 2)=H (Y d))/\
  Hid (∃Gf,(∀b,b∈bx::RO->b∈Gf)/\In w3 C.mb U.rb Gf K p c t used (z,r2)/\Kept (bx::RO) (w2.drewN 1) w3)):=by
  refine Z (yL.o.mono ?_);rintro e w3 ⟨rfl,Gf,Cu,ad7,l8⟩;have b3:=aF.lA M1.o l8 ay;have hHX:=HX.o;exact⟨rfl,⟨(b3.cell 1).trans (by rw[<-hHX.1];rfl),(b3.cell 2).trans (by rw[<-hHX.2];rfl)⟩,Z ⟨Gf,Cu,ad7,l8⟩⟩
 have C2:Hid (∀w3,(∃Gf,(∀b,b∈bx::RO->b∈Gf)/\In w3 C.mb U.rb Gf K p c t used (z,r2)/\Kept (bx::RO) (w2.drewN 1) w3)->Calls prog 218 #[UI C.mb,Y q2,Y d,.agg #[.int .u64 y.key,Y (y.tg 0),Y (y.tg 1),Y (y.tg 2),Y (y.tg 3)]] w3 λe w4=>(∃b,e=C8 (.bool b))/\(UJ w4 (G bx 1)=H (Y q2)/\UJ w4 (G bx 2)=H (Y d))/\
  Hid (cF w C.mb U.rb RO K p c t used (.tuple #[]) (iZ (aC p c) (z,r2) q2 d y).1 (C8 (.tuple #[])) w4)):=by
  refine Z ?_;rintro w3 ⟨Gf,Cu,⟨C3,U3,Oz,jv3,uV,uW,A3⟩,l8⟩;have hn:=OV A3 pX.o nH he y lF.o (by have:=HJ.o;have e:=HYZ.o.2.2;rw[<-e];simp[Rn.note];omega);rw[uV,uW]at hn;refine hn.mono ?_;rintro e w4 ⟨rfl,OD,Jv,ad8,Dp⟩;have b4:=aF.lA (aF.lA M1.o l8 ay) Dp (Cu bx ay);have hHX:=HX.o;exact⟨⟨_,rfl⟩,⟨(b4.cell 1).trans (by rw[<-hHX.1];rfl),(b4.cell 2).trans (by rw[<-hHX.2];rfl)⟩,Z ⟨rfl,OD,λb X=>Jv b (Cu b (by simp[X])),ad8,(HK.o.trans l8 (λb X=>by simp[X])).trans Dp (λb X=>Cu b (by simp[X]))⟩⟩
 clear yL;go_wp2
 go_region_held3 (λwx=>UJ wx (G bx 1)=H (Y q2)/\UJ wx (G bx 2)=H (Y d)) (first|exact⟨d1,d2⟩|assumption) (first|(go_at_call 219;refine C1.o.mono ?_;rintro e w3 ⟨rfl,ET,Rz⟩)|(go_at_call 218;refine(C2.o _ Rz.o).mono ?_;rintro e w4 ⟨⟨b,rfl⟩,Wi,hQ4⟩))
 clear ET Wi;go_wp2;exact bK (dJ rfl _ _ _) rfl hQ4.o
end
end Go.Ma
section
def qX1{p:Prop}(h:p:=by
 have b2:bx<w3.heap.size:=HE3.o.lt;have Wk:=Z (λv=>mY (Eo.o.box (QP #[.int .u64 x.key,Y (x.tg 0),Y (x.tg 1),Y (x.tg 2),Y (x.tg 3)] 118)) v hl);have LR:=iy.o.trans ((aB w2.heap.size w3).alloc iy.o.size (QP #[.int .u64 x.key,Y (x.tg 0),Y (x.tg 1),Y (x.tg 2),Y (x.tg 3)] 118));have Hb:=Z (HK.o.trans (Kept.af LR HA.o.sep.dO) (λb X=>by simp[X]));clear Eo iy HE3 LR HA LS HK zT;obtain rfl|rfl|rfl|rfl:k=0\/k=1\/k=2\/k=3:=O
 all_goals
  go_wp2_with fail;refine(Wk.o _).mono ?_;intro e w' hd;obtain⟨rfl,mI⟩:=hd.pre (RO:=RO) Hb.o (λb X=>by simp[X]);go_wp2;exact bK (dJ rfl _ _ _) rfl ⟨rfl,mI⟩):p:=h
namespace Go.Ma
open eB (bS bL)
open Ix (cX)
section
variable {w w':UK}{C:Co}{U U':Ru}{RO RO':List Nat}{K:Kc}{p:aQ}{c:Cp}{t:dZ}{used:Int}{hv hv':UL}{jv kT:Nat->UL}{s:St}{r r':Rn}{mb rb:Nat}
def adi(h:cS w C U RO K p c t used hv jv s r)(i:Ins){n q:Nat}(hf:s.f r.key=H n)(hq:q<p.bw.length)(hn:n∈s.a.ls q){k:Nat}(hk:i.a=k)(Dp:k<4)(hl:r.stack.length<1000000):
 Calls prog 109 #[UI C.mb,aV i] w (cF w C.mb U.rb RO K p c t used (.tuple #[]) (s,r.push ((s.a.val n).tg k))):=by
 have H0:=h.box (QP (aI i) 40);have HB:=Z ((aB w.heap.size w).alloc (aL _) (QP (aI i) 40));have HN:=Z (yI H0 hf hq hn);have kE:=Z (aF.new w 40 (aI i));have HH:=Z (λm=>H0.drewN m);have zT:=Z hk;have dE:=Z h.sep.dO;have tW:=Z hn;clear h H0 hk hf hn;unfold aV;unfold aI at*;go_enter func109,ntmps109;go_wp2_with fail;refine HN.o.mono ?_;rintro e w' ⟨rfl,m,rfl⟩;have e1:aF ((w.alloc (QP #[Y i.op,Y i.a,Y i.b,Y i.c,Y i.d] 40)).drewN m) w.heap.size 40 #[Y i.op,Y k,Y i.b,Y i.c,Y i.d]:=by rw[<-zT.o];exact kE.o
 have LS:=Z e1;have HA:=Z (HH.o m);have HK:=Z (Kept.af (RO:=RO) (HB.o.trans (az _ _ m)) dE.o);clear HN HB kE HH e1;generalize(w.alloc (QP #[Y i.op,Y i.a,Y i.b,Y i.c,Y i.d] 40)).drewN m=w2 at*;generalize w.heap.size=bx at*;have m9:UJ w2 (G C.mb 9)=H (UI C.ab):=HA.o.m.bg.cell 9;have HGT:=Z (eB.Oi HA.o.m.ar hq tW.o);go_wp2_with fail;refine HGT.o.mono ?_;rintro e w3 ⟨rfl,X⟩;have Eo:=Z (HA.o.later X);have iy:=Z X;have HE3:=Z (LS.o.aG (aA.af (S:=[]) X) ay);clear m9 HGT X;generalize s.a.val n=x at*;unfold bL;have b1:UJ w3 (G bx 1)=H (Y k):=HE3.o.cell 1;exact qX1
end
end Go.Ma
end
namespace Go.Ma
open eB (bS bL)
open Ix (cX)
section
variable {w w':UK}{C:Co}{U U':Ru}{RO RO':List Nat}{K:Kc}{p:aQ}{c:Cp}{t:dZ}{used:Int}{hv hv':UL}{jv kT:Nat->UL}{s:St}{r r':Rn}{mb rb:Nat}
def agf(h:cS w C U RO K p c t used hv jv s r)(i:Ins){q d:Nat}(ha:i.a=q)(iL:i.b=d)(hq:q<p.bw.length)(he:d<=1)(bm:s.a.ls q≠[]){k:Nat}(hk:i.c=k)(Dp:k<4)(hl:r.stack.length<1000000):
 Calls prog 110 #[UI C.mb,aV i] w (cF w C.mb U.rb RO K p c t used (.tuple #[]) (s,r.push ((s.a.val (cN s.a q d)).tg k))):=by
 have H0:=h.box (QP (aI i) 40);have HB:=Z ((aB w.heap.size w).alloc (aL _) (QP (aI i) 40));have HN:=Z (tT H0 hq he bm);have kE:=Z (aF.new w 40 (aI i));have HH:=Z (λm=>H0.drewN m);have zT:=Z hk;have dE:=Z h.sep.dO;have tW:=Z (gr (e:=d) bm);have g1:(w.alloc (QP (aI i) 40)).cell? (G w.heap.size 1)=H (Y q):=by rw[<-ha];exact(aF.new w 40 (aI i)).cell 1
 have g2:(w.alloc (QP (aI i) 40)).cell? (G w.heap.size 2)=H (Y d):=by rw[<-iL];exact(aF.new w 40 (aI i)).cell 2
 clear h H0 hk ha iL bm;unfold aV;unfold aI at*;generalize NE:cN s.a q d=n at*;go_enter func110,ntmps110;go_wp2_with fail;refine HN.o.mono ?_;rintro e w' ⟨rfl,m,rfl⟩;have e1:aF ((w.alloc (QP #[Y i.op,Y i.a,Y i.b,Y i.c,Y i.d] 40)).drewN m) w.heap.size 40 #[Y i.op,Y i.a,Y i.b,Y k,Y i.d]:=by rw[<-zT.o];exact kE.o
 have LS:=Z e1;have HA:=Z (HH.o m);have HK:=Z (Kept.af (RO:=RO) (HB.o.trans (az _ _ m)) dE.o);clear HN HB kE HH e1 g1 g2;generalize(w.alloc (QP #[Y i.op,Y i.a,Y i.b,Y i.c,Y i.d] 40)).drewN m=w2 at*;generalize w.heap.size=bx at*;have m9:UJ w2 (G C.mb 9)=H (UI C.ab):=HA.o.m.bg.cell 9;have HGT:=Z (eB.Oi HA.o.m.ar hq tW.o);go_wp2_with fail;refine HGT.o.mono ?_;rintro e w3 ⟨rfl,X⟩;have Eo:=Z (HA.o.later X);have iy:=Z X;have HE3:=Z (LS.o.aG (aA.af (S:=[]) X) ay);clear m9 HGT X;generalize s.a.val n=x at*;unfold bL;have b1:UJ w3 (G bx 3)=H (Y k):=HE3.o.cell 3;exact qX1
end
open eB (eN)
def EY:Nat->FuncId
 |0=>101
 |1=>102
 |2=>102
 |3=>103
 |4=>104
 |5=>105
 |6=>106
 |7=>107
 |8=>108
 |9=>109
 |10=>110
 |11=>111
 |12=>111
 |13=>112
 |14=>112
 |15=>111
 |16=>111
 |17=>111
 |18=>111
 |19=>111
 |20=>111
 |21=>111
 |22=>113
 |23=>114
 |24=>115
 |25=>116
 |26=>117
 |27=>113
 |28=>118
 |29=>119
 |30=>120
 |31=>121
 |32=>122
 |33=>123
 |34=>124
 |35=>125
 |36=>126
 |37=>127
 |38=>128
 |39=>129
 |40=>130
 |_=>131
section
variable {w w':UK}{C C':Co}{U U':Ru}{RO RO':List Nat}{K:Kc}{p:aQ}{c:Cp}{t:dZ}{used:Int}{hv hv':UL}{jv kT:Nat->UL}{s s' s0:St}{r r':Rn}{rv:UL}{mb rb:Nat}{T:Map}{st:Std}
def aeb(a0d:gz p T r st){x:Nat}(h1:b_ (al p r.at_).op.toNat=[x]):∃n rest,r.stack=n::rest/\-1073741824<=n/\n<=1073741824:=by obtain⟨_,_,hf,_⟩:=lC a0d.ke.taken;rw[h1]at hf;obtain⟨n,st',t',Yn,e1,e2,hv,pk,_,_⟩:=a0d.stack.yu hf;exact⟨n,st',e1,hv.in.1,hv.in.2⟩
def aec(a0d:gz p T r st){x y:Nat}(h1:b_ (al p r.at_).op.toNat=[x,y]):∃b a rest,r.stack=b::a::rest/\(-1073741824<=a/\a<=1073741824)/\(-1073741824<=b/\b<=1073741824):=by obtain⟨_,_,hf,_⟩:=lC a0d.ke.taken;rw[h1]at hf;obtain⟨n,st1,t1,ty1,e1,e2,hv,pk,MX,_⟩:=a0d.stack.yu hf;obtain⟨m,st2,t2,Yp,e3,e4,Rj,Qx,_,_⟩:=pk.yu MX;exact⟨n,m,st2,by rw[e1,e3],Rj.in,hv.in⟩
def adf(V:Env p c T)(a0d:gz p T r st)(h:(al p r.at_).op=25\/(al p r.at_).op=26):∃m rest,r.loops=m::rest/\-1073741824<=m/\m<=1073741824:=by
 have Cm:0<r.loops.length:=by
  rw[a0d.loops];rcases h with h|h
  ·rw[bk h];omega
  ·have hj:=a0d.ke.jumps;rw[aw O];cases jo:st.lo with
   |nil=>exfalso;rw[jo]at hj;unfold cP at hj;simp[h]at hj
   |cons a l=>simp
 cases hr:r.loops with
 |nil=>rw[hr]at Cm;simp at Cm
 |cons m rest=>have:=a0d.lin m (by rw[hr];simp);exact⟨m,rest,rfl,O,O⟩
def abr(a0d:gz p T r st)(h:fo p (al p r.at_) st.ha=true->st.ha≠0):∃x,r.hand=H x:=by
 have h1:=h a0d.ke.l_;cases hr:r.hand with
 |none=>exact absurd (a0d.hand.2 hr) h1
 |some x=>exact⟨x,rfl⟩
structure JJ(r:Rn):Prop where
 stack:r.stack.length<900000
 loops:r.loops.length<900000
 told:r.told.length<900000
 bz:r.bz.length<900000
def Cx{p:Prop}(h:p:=by
 obtain⟨b,a,rest,e1,ha,X⟩:=Sh _ _ (by rw[dW];rfl);have hl:rest.length<999999:=by rw[e1]at q1;simp at q1;omega
 have:=abm h i O (a:=a) (b:=b) (rest:=rest) e1 hl ha X;rw[show(s,cw r).2.iX=b by show r.stack.headD 0=b;rw[e1];rfl,show(s,cw r).2.pop.iX=a by show r.stack.tail.headD 0=a;rw[e1];rfl];exact this):p:=h
def ade(h:cS w C U RO K p c t used hv jv s (cw r))(E:iT K p c s)(V:Env p c T)(a0d:gz p T r st)(a0f:fJ (aC p c) p.vars.length s0 (s,r))(Q:JJ r):
 Calls prog (EY (al p r.at_).op.toNat) #[UI C.mb,aV (al p r.at_)] w (cF w C.mb U.rb RO K p c t used (.tuple #[]) (aJ p c (al p r.at_) (s,cw r))):=by
 have ho:=(oV V a0d).1;unfold jH aO at ho;simp only[fp,ft]at ho;obtain⟨YL,RD⟩:=ho;have hF:=λk hk=>eO V a0d (k:=k) hk;have q1:=Q.stack;have q2:=Q.loops;have q3:=Q.told;have q4:=Q.bz;have ht:=(cE V.check).1;have Ia:=λx hx=>aeb a0d (x:=x) hx;have Sh:=λx y hx=>aec a0d (x:=x) (y:=y) hx;have EB:=λhx=>adf V a0d hx;have hhd:=λhx=>abr a0d hx;generalize al p r.at_=i at*;obtain⟨z,dW⟩:∃z,i.op=z:=⟨_,rfl⟩;rw[dW]at YL RD;have hc:z=0\/z=1\/z=2\/z=3\/z=4\/z=5\/z=6\/z=7\/z=8\/z=9\/z=10\/z=11\/z=12\/z=13\/z=14\/z=15\/z=16\/z=17\/z=18\/z=19\/z=20\/z=21\/z=22\/z=23\/z=24\/z=25\/z=26\/z=27\/z=28\/z=29\/z=30\/z=31\/z=32\/z=33\/z=34\/z=35\/z=36\/z=37\/z=38\/z=39\/z=40\/z=41:=O;clear YL RD;rcases hc with rfl|rfl|rfl|rfl|rfl|rfl|rfl|rfl|rfl|rfl|rfl|rfl|rfl|rfl|rfl|rfl|rfl|rfl|rfl|rfl|rfl|rfl|rfl|rfl|rfl|rfl|rfl|rfl|rfl|rfl|rfl|rfl|rfl|rfl|rfl|rfl|rfl|rfl|rfl|rfl|rfl|rfl
 ·have e:∀x,aJ p c i x=(x.1,{x.2 with done:=true}):=λx=>by unfold aJ;rw[dW];rfl
  rw[show i.op.toNat=0 by omega,e];exact abj h i
 ·have e:∀x,aJ p c i x=(x.1,x.2.push i.a):=λx=>by unfold aJ;rw[dW];rfl
  rw[show i.op.toNat=1 by omega,e];exact x_ h i (by show r.stack.length<_;omega)
 ·have e:∀x,aJ p c i x=(x.1,x.2.push i.a):=λx=>by unfold aJ;rw[dW];rfl
  rw[show i.op.toNat=2 by omega,e];exact x_ h i (by show r.stack.length<_;omega)
 ·have e:∀x,aJ p c i x=(x.1,x.2.push (x.1.vars (N i.a))):=λx=>by unfold aJ;rw[dW];rfl
  rw[show i.op.toNat=3 by omega,e];have hf:=hF 3 dW;obtain⟨a1,a2,a3⟩:=Hd hf.1;exact G0 h i (show i.a=(N i.a:Nat)by unfold N;omega) a3 (by show r.stack.length<_;omega)
 ·have e:∀x,aJ p c i x=(x.1,x.2.push (x.1.a.ls (N i.a)).length):=λx=>by unfold aJ;rw[dW];rfl
  rw[show i.op.toNat=4 by omega,e];have hf:=hF 4 dW;obtain⟨a1,a2,a3⟩:=ej hf.1;exact ads h i (show i.a=(N i.a:Nat)by unfold N;omega) a3 (by show r.stack.length<_;omega)
 ·have e:∀x,aJ p c i x=(x.1,x.2.push (c.aK.getD (N i.a) 0)):=λx=>by unfold aJ;rw[dW];rfl
  rw[show i.op.toNat=5 by omega,e];have hf:=hF 5 dW;obtain⟨a1,a2,a3⟩:=ej hf.1;exact adr h i (show i.a=(N i.a:Nat)by unfold N;omega) (by rw[E.gM.len];exact a3) (by show r.stack.length<_;omega)
 ·have e:∀x,aJ p c i x=(x.1,x.2.push c.size):=λx=>by unfold aJ;rw[dW];rfl
  rw[show i.op.toNat=6 by omega,e];exact adp h i (by show r.stack.length<_;omega)
 ·have e:∀x,aJ p c i x=(x.1,x.2.push x.1.total):=λx=>by unfold aJ;rw[dW];rfl
  rw[show i.op.toNat=7 by omega,e];exact JH h i (by show r.stack.length<_;omega)
 ·have e:∀x,aJ p c i x=uK (aC p c) i x:=λx=>by unfold aJ;rw[dW];rfl
  rw[show i.op.toNat=8 by omega,e];have hf:=hF 8 dW;obtain⟨a1,a2,a3⟩:=ej hf.1;unfold uK;dsimp only;rw[show(cw r).key=r.key from rfl];cases hk:s.f r.key with
  |none=>exact adm h i hk (by show r.stack.length<_;omega)
  |some n=>obtain⟨q,hq,hn,-⟩:=(E.inv.idx r.key n).1 hk;dsimp only;rw[mT E.inv.wf hq hn];have:=adn h i (show i.a=(N i.a:Nat)by unfold N;omega) hk hq hn (by show r.stack.length<_;omega);rw[show((q:Int)==((N i.a:Nat):Int))=decide ((q:Int)=i.a)by rw[<-(show i.a=(N i.a:Nat)by unfold N;omega)];rfl]at this;exact this
 ·have e:∀x,aJ p c i x=xW i x:=λx=>by unfold aJ;rw[dW];rfl
  rw[show i.op.toNat=9 by omega,e];have hf:=hF 9 dW;obtain⟨a1,a2,a3⟩:=uP hf.1;unfold xW;dsimp only;rw[show(cw r).key=r.key from rfl];cases hk:s.f r.key with
  |none=>exact adh h i hk
  |some n=>obtain⟨q,hq,hn,-⟩:=(E.inv.idx r.key n).1 hk;exact adi h i hk hq hn (show i.a=(N i.a:Nat)by unfold N;omega) (by have:=ht.t;omega) (by show r.stack.length<_;omega)
 ·have e:∀x,aJ p c i x=pE i x:=λx=>by unfold aJ;rw[dW];rfl
  rw[show i.op.toNat=10 by omega,e];have hf:=hF 10 dW;obtain⟨a1,a2,a3⟩:=ej hf.1;obtain⟨b1,b2,b3⟩:=gN hf.2.1;obtain⟨d1,d2,d3⟩:=uP hf.2.2.1;unfold pE;dsimp only;by_cases bm:s.a.ls (N i.a)=[]
  ·rw[bk bm];exact adg h i (show i.a=(N i.a:Nat)by unfold N;omega) (show i.b=(N i.b:Nat)by unfold N;omega) a3 b3 bm
  ·rw[aw bm];exact agf h i (show i.a=(N i.a:Nat)by unfold N;omega) (show i.b=(N i.b:Nat)by unfold N;omega) a3 b3 bm (show i.c=(N i.c:Nat)by unfold N;omega) (by have:=ht.t;omega) (by show r.stack.length<_;omega)
 ·have e:∀x,aJ p c i x=(x.1,x.2.pop.pop.push (ot i.op x.2.pop.iX x.2.iX)):=λx=>by unfold aJ;rw[dW];rfl
  rw[show i.op.toNat=11 by omega,e];exact Cx
 ·have e:∀x,aJ p c i x=(x.1,x.2.pop.pop.push (ot i.op x.2.pop.iX x.2.iX)):=λx=>by unfold aJ;rw[dW];rfl
  rw[show i.op.toNat=12 by omega,e];exact Cx
 ·have e:∀x,aJ p c i x=(x.1,x.2.pop.push (-x.2.iX)):=λx=>by unfold aJ;rw[dW];rfl
  rw[show i.op.toNat=13 by omega,e];obtain⟨n,rest,e1,n0,n1⟩:=Ia _ (by rw[dW];rfl);have hl:rest.length<1000000:=by rw[e1]at q1;simp at q1;omega
  have:=Wj h i (n:=n) (rest:=rest) e1 hl n0 n1;unfold Hy at this;rw[aw O]at this;rw[show(s,cw r).2.iX=n by show r.stack.headD 0=n;rw[e1];rfl];exact this
 ·have e:∀x,aJ p c i x=(x.1,x.2.pop.push (1-x.2.iX)):=λx=>by unfold aJ;rw[dW];rfl
  rw[show i.op.toNat=14 by omega,e];obtain⟨n,rest,e1,n0,n1⟩:=Ia _ (by rw[dW];rfl);have hl:rest.length<1000000:=by rw[e1]at q1;simp at q1;omega
  have:=Wj h i (n:=n) (rest:=rest) e1 hl n0 n1;unfold Hy at this;rw[bk dW]at this;rw[show(s,cw r).2.iX=n by show r.stack.headD 0=n;rw[e1];rfl];exact this
 ·have e:∀x,aJ p c i x=(x.1,x.2.pop.pop.push (ot i.op x.2.pop.iX x.2.iX)):=λx=>by unfold aJ;rw[dW];rfl
  rw[show i.op.toNat=15 by omega,e];exact Cx
 ·have e:∀x,aJ p c i x=(x.1,x.2.pop.pop.push (ot i.op x.2.pop.iX x.2.iX)):=λx=>by unfold aJ;rw[dW];rfl
  rw[show i.op.toNat=16 by omega,e];exact Cx
 ·have e:∀x,aJ p c i x=(x.1,x.2.pop.pop.push (ot i.op x.2.pop.iX x.2.iX)):=λx=>by unfold aJ;rw[dW];rfl
  rw[show i.op.toNat=17 by omega,e];exact Cx
 ·have e:∀x,aJ p c i x=(x.1,x.2.pop.pop.push (ot i.op x.2.pop.iX x.2.iX)):=λx=>by unfold aJ;rw[dW];rfl
  rw[show i.op.toNat=18 by omega,e];exact Cx
 ·have e:∀x,aJ p c i x=(x.1,x.2.pop.pop.push (ot i.op x.2.pop.iX x.2.iX)):=λx=>by unfold aJ;rw[dW];rfl
  rw[show i.op.toNat=19 by omega,e];exact Cx
 ·have e:∀x,aJ p c i x=(x.1,x.2.pop.pop.push (ot i.op x.2.pop.iX x.2.iX)):=λx=>by unfold aJ;rw[dW];rfl
  rw[show i.op.toNat=20 by omega,e];exact Cx
 ·have e:∀x,aJ p c i x=(x.1,x.2.pop.pop.push (ot i.op x.2.pop.iX x.2.iX)):=λx=>by unfold aJ;rw[dW];rfl
  rw[show i.op.toNat=21 by omega,e];exact Cx
 ·have e:∀x,aJ p c i x=(x.1,{x.2 with at_:=N i.a}):=λx=>by unfold aJ;rw[dW];rfl
  rw[show i.op.toNat=22 by omega,e];have hf:=hF 22 dW;obtain⟨a1,a2⟩:=kG hf.1;exact O2 h i (show i.a=(N i.a:Nat)by unfold N;omega)
 ·have e:∀x,aJ p c i x=(x.1,rp x.2 (N i.a)):=λx=>by unfold aJ;rw[dW];rfl
  rw[show i.op.toNat=23 by omega,e];have hf:=hF 23 dW;obtain⟨a1,a2⟩:=kG hf.1;obtain⟨n,rest,e1,n0,n1⟩:=Ia _ (by rw[dW];rfl);exact OA h i (show i.a=(N i.a:Nat)by unfold N;omega) (n:=n) (rest:=rest) e1 (by rw[e1]at q1;simp at q1;omega)
 ·have e:∀x,aJ p c i x=(x.1,{x.2 with loops:=i.a::x.2.loops}):=λx=>by unfold aJ;rw[dW];rfl
  rw[show i.op.toNat=24 by omega,e];exact agh h i rfl (by show r.loops.length<_;omega)
 ·have e:∀x,aJ p c i x=tG i x:=λx=>by unfold aJ;rw[dW];rfl
  rw[show i.op.toNat=25 by omega,e];have hf:=hF 25 dW;rw[show tG i (s,cw r)=(s,yh (cw r) (N i.a))by unfold tG yh;dsimp only;split<;>rfl];obtain⟨a1,a2⟩:=kG hf.1;obtain⟨m,rest,e1,m0,m1⟩:=EB (.inl dW);exact Hw h i (show i.a=(N i.a:Nat)by unfold N;omega) (m:=m) (rest:=rest) e1 (by rw[e1]at q2;simp at q2;omega) m0 m1
 ·have e:∀x,aJ p c i x=tH i x:=λx=>by unfold aJ;rw[dW];rfl
  rw[show i.op.toNat=26 by omega,e];have hf:=hF 26 dW;rw[show tH i (s,cw r)=(s,yf (cw r) (N i.a))by unfold tH yf;dsimp only;split<;>rfl];obtain⟨a1,a2⟩:=kG hf.1;obtain⟨n,rest,e1,n0,n1⟩:=Ia _ (by rw[dW];rfl);obtain⟨m,lrest,e2,m0,m1⟩:=EB (.inr dW);exact Yc h i (show i.a=(N i.a:Nat)by unfold N;omega) (n:=n) (rest:=rest) e1 (by rw[e1]at q1;simp at q1;omega) (m:=m) (lrest:=lrest) e2 (by rw[e2]at q2;simp at q2;omega)
 ·have e:∀x,aJ p c i x=(x.1,{x.2 with at_:=N i.a}):=λx=>by unfold aJ;rw[dW];rfl
  rw[show i.op.toNat=27 by omega,e];have hf:=hF 27 dW;obtain⟨a1,a2⟩:=kG hf.1;exact O2 h i (show i.a=(N i.a:Nat)by unfold N;omega)
 ·have e:∀x,aJ p c i x=BU p i x:=λx=>by unfold aJ;rw[dW];rfl
  rw[show i.op.toNat=28 by omega,e];have hf:=hF 28 dW;obtain⟨a1,a2,a3⟩:=Hd hf.1;obtain⟨n,rest,e1,n0,n1⟩:=Ia _ (by rw[dW];rfl);exact NW h i (show i.a=(N i.a:Nat)by unfold N;omega) a3 (n:=n) (rest:=rest) e1 (by rw[e1]at q1;simp at q1;omega) (by show r.bz.length<_;omega)
 ·have e:∀x,aJ p c i x=su p i x:=λx=>by unfold aJ;rw[dW];rfl
  rw[show i.op.toNat=29 by omega,e];have hf:=hF 29 dW;obtain⟨a1,a2,a3⟩:=uP hf.1;obtain⟨v,rest,e1,n0,n1⟩:=Ia _ (by rw[dW];rfl);have hl:rest.length<1000000:=by rw[e1]at q1;simp at q1;omega
  unfold su;dsimp only;rw[show(cw r).key=r.key from rfl,show(cw r).iX=v by show r.stack.headD 0=v;rw[e1];rfl];cases hk:s.f r.key with
  |none=>exact ac3 h i hk (v:=v) (rest:=rest) e1 hl
  |some n=>obtain⟨q,hq,hn,-⟩:=(E.inv.idx r.key n).1 hk;exact aau h i (show i.a=(N i.a:Nat)by unfold N;omega) hk hq hn a3 E.t4 (by show r.bz.length<_;omega) (v:=v) (rest:=rest) e1 hl
 ·have e:∀x,aJ p c i x=mU p i x:=λx=>by unfold aJ;rw[dW];rfl
  rw[show i.op.toNat=30 by omega,e];have hf:=hF 30 dW;obtain⟨a1,a2,a3⟩:=ej hf.1;obtain⟨b1,b2,b3⟩:=gN hf.2.1;obtain⟨d1,d2,d3⟩:=uP hf.2.2.1;obtain⟨v,rest,e1,n0,n1⟩:=Ia _ (by rw[dW];rfl);have hl:rest.length<1000000:=by rw[e1]at q1;simp at q1;omega
  unfold mU;dsimp only;rw[show(cw r).iX=v by show r.stack.headD 0=v;rw[e1];rfl];by_cases bm:s.a.ls (N i.a)=[]
  ·rw[bk bm];exact aar h i (show i.a=(N i.a:Nat)by unfold N;omega) (show i.b=(N i.b:Nat)by unfold N;omega) a3 b3 bm (v:=v) (rest:=rest) e1 hl
  ·rw[aw bm];exact aax h i (show i.a=(N i.a:Nat)by unfold N;omega) (show i.b=(N i.b:Nat)by unfold N;omega) (show i.c=(N i.c:Nat)by unfold N;omega) a3 b3 bm d3 E.t4 (by show r.bz.length<_;omega) (v:=v) (rest:=rest) e1 hl
 ·have e:∀x,aJ p c i x=pC (aC p c) i x:=λx=>by unfold aJ;rw[dW];rfl
  rw[show i.op.toNat=31 by omega,e];have hf:=hF 31 dW;obtain⟨a1,a2,a3⟩:=ej hf.1;obtain⟨b1,b2,b3⟩:=gN hf.2.1;unfold pC;dsimp only;rw[show(cw r).key=r.key from rfl];cases hk:s.f r.key with
  |none=>exact adJ h E i (show i.a=(N i.a:Nat)by unfold N;omega) (show i.b=(N i.b:Nat)by unfold N;omega) a3 b3 hk (by show r.bz.length<_;omega)
  |some n=>obtain⟨q,hq,hn,-⟩:=(E.inv.idx r.key n).1 hk;exact adI h i hk hq hn
 ·have e:∀x,aJ p c i x=xV (aC p c) i x:=λx=>by unfold aJ;rw[dW];rfl
  rw[show i.op.toNat=32 by omega,e];have hf:=hF 32 dW;obtain⟨a1,a2,a3⟩:=ej hf.1;obtain⟨b1,b2,b3⟩:=gN hf.2.1;unfold xV;dsimp only;rw[show(cw r).key=r.key from rfl];cases hk:s.f r.key with
  |none=>exact adH h i hk
  |some n=>obtain⟨q,hq,hn,-⟩:=(E.inv.idx r.key n).1 hk;dsimp only;rw[mT E.inv.wf hq hn];exact adt h E i (show i.a=(N i.a:Nat)by unfold N;omega) (show i.b=(N i.b:Nat)by unfold N;omega) a3 b3 hk hq hn (by show r.bz.length<_;omega)
 ·have e:∀x,aJ p c i x=pD (aC p c) x:=λx=>by unfold aJ;rw[dW];rfl
  rw[show i.op.toNat=33 by omega,e];unfold pD;dsimp only;rw[show(cw r).key=r.key from rfl];cases hk:s.f r.key with
  |none=>exact aaq h i hk
  |some n=>
   obtain⟨q,hq,hn,-⟩:=(E.inv.idx r.key n).1 hk;dsimp only;rw[mT E.inv.wf hq hn];by_cases hg:p.bw.getD q false=true
   ·rw[bk (show(aC p c).gh q=true from hg)];exact adE h E i hk hq hn hg (by show r.bz.length<_;omega)
   ·rw[aw (show¬(aC p c).gh q=true from hg)];exact adF h i hk hq hn (by simpa using hg)
 ·have e:∀x,aJ p c i x=(bC (aC p c) x (N i.a) (N i.b)).1:=λx=>by unfold aJ;rw[dW];rfl
  rw[show i.op.toNat=34 by omega,e];have hf:=hF 34 dW;obtain⟨a1,a2,a3⟩:=ej hf.1;obtain⟨b1,b2,b3⟩:=gN hf.2.1;exact adD h i E (show i.a=(N i.a:Nat)by unfold N;omega) (show i.b=(N i.b:Nat)by unfold N;omega) a3 b3 (by show r.bz.length<_;omega)
 ·have e:∀x,aJ p c i x=(dX (aC p c) x (N i.a) (N i.b)).1:=λx=>by unfold aJ;rw[dW];rfl
  rw[show i.op.toNat=35 by omega,e];have hf:=hF 35 dW;obtain⟨a1,a2,a3⟩:=ej hf.1;obtain⟨b1,b2,b3⟩:=gN hf.2.1;obtain⟨x,hx⟩:=hhd (λhh=>by
   unfold fo at hh;intro h0;rw[h0]at hh;simp[dW]at hh)
  exact adC h i E (show i.a=(N i.a:Nat)by unfold N;omega) (show i.b=(N i.b:Nat)by unfold N;omega) a3 b3 hx (a0f.hand x hx).1 (by show r.bz.length<_;omega)
 ·have e:∀x,aJ p c i x=hZ x:=λx=>by unfold aJ;rw[dW];rfl
  rw[show i.op.toNat=36 by omega,e];obtain⟨x,hx⟩:=hhd (λhh=>by
   unfold fo at hh;intro h0;rw[h0]at hh;simp[dW]at hh)
  exact aam h i hx (by show r.told.length<_;omega)
 ·have e:∀x,aJ p c i x=il x:=λx=>by unfold aJ;rw[dW];rfl
  rw[show i.op.toNat=37 by omega,e];exact aal h i
 ·have e:∀x,aJ p c i x=qD (aC p c) i x:=λx=>by unfold aJ;rw[dW];rfl
  rw[show i.op.toNat=38 by omega,e];have hf:=hF 38 dW;obtain⟨a1,a2,a3⟩:=ej hf.1;obtain⟨b1,b2,b3⟩:=gN hf.2.1;obtain⟨d1,d2,d3⟩:=ej hf.2.2.1;obtain⟨f1,f2,f3⟩:=gN hf.2.2.2;exact adA h i E (show i.a=(N i.a:Nat)by unfold N;omega) (show i.b=(N i.b:Nat)by unfold N;omega) a3 b3 (show i.c=(N i.c:Nat)by unfold N;omega) (show i.d=(N i.d:Nat)by unfold N;omega) d3 f3 (by show r.bz.length<_;omega)
 ·have e:∀x,aJ p c i x=qE (aC p c) i x:=λx=>by unfold aJ;rw[dW];rfl
  rw[show i.op.toNat=39 by omega,e];have hf:=hF 39 dW;obtain⟨a1,a2,a3⟩:=ej hf.1;obtain⟨b1,b2,b3⟩:=gN hf.2.1;obtain⟨d1,d2,d3⟩:=ej hf.2.2.1;obtain⟨f1,f2,f3⟩:=gN hf.2.2.2;exact adu h i E (show i.a=(N i.a:Nat)by unfold N;omega) (show i.b=(N i.b:Nat)by unfold N;omega) a3 b3 (show i.c=(N i.c:Nat)by unfold N;omega) (show i.d=(N i.d:Nat)by unfold N;omega) d3 f3 (by show r.bz.length<_;omega) (by show r.told.length<_;omega)
 ·have e:∀x,aJ p c i x=qF (aC p c) i x:=λx=>by unfold aJ;rw[dW];rfl
  rw[show i.op.toNat=40 by omega,e];have hf:=hF 40 dW;obtain⟨a1,a2,a3⟩:=ej hf.1;obtain⟨b1,b2,b3⟩:=gN hf.2.1;exact aae h i E (show i.a=(N i.a:Nat)by unfold N;omega) (show i.b=(N i.b:Nat)by unfold N;omega) a3 b3 (by show r.bz.length<_;omega) (by show r.told.length<_;omega)
 ·have e:∀x,aJ p c i x=vM (aC p c) i x:=λx=>by unfold aJ;rw[dW];rfl
  rw[show i.op.toNat=41 by omega,e];have hf:=hF 41 dW;obtain⟨a1,a2,a3⟩:=ej hf.1;obtain⟨b1,b2,b3⟩:=gN hf.2.1;exact aai h i E (show i.a=(N i.a:Nat)by unfold N;omega) (show i.b=(N i.b:Nat)by unfold N;omega) a3 b3 (by show r.bz.length<_;omega)
def enters(n:Nat)(hn:n<42)(args:Array UL)(w:UK):(callFunc (EY n) args).run prog w= .ok (.enter (EY n) args) w:=by
 have hc:n=0\/n=1\/n=2\/n=3\/n=4\/n=5\/n=6\/n=7\/n=8\/n=9\/n=10\/n=11\/n=12\/n=13\/n=14\/n=15\/n=16\/n=17\/n=18\/n=19\/n=20\/n=21\/n=22\/n=23\/n=24\/n=25\/n=26\/n=27\/n=28\/n=29\/n=30\/n=31\/n=32\/n=33\/n=34\/n=35\/n=36\/n=37\/n=38\/n=39\/n=40\/n=41:=O;rcases hc with rfl|rfl|rfl|rfl|rfl|rfl|rfl|rfl|rfl|rfl|rfl|rfl|rfl|rfl|rfl|rfl|rfl|rfl|rfl|rfl|rfl|rfl|rfl|rfl|rfl|rfl|rfl|rfl|rfl|rfl|rfl|rfl|rfl|rfl|rfl|rfl|rfl|rfl|rfl|rfl|rfl|rfl
 all_goals (unfold EY;go_simp)
def afS(K:Kc)(C:Co)(p:aQ)(c:Cp)(total:Int)(t:dZ)(used:Int)(rv:UL)(n:Nat)(hn:n<42):(iJ K C p c total t used rv)[18+n]? =H (K.steps n):=by
 have hc:n=0\/n=1\/n=2\/n=3\/n=4\/n=5\/n=6\/n=7\/n=8\/n=9\/n=10\/n=11\/n=12\/n=13\/n=14\/n=15\/n=16\/n=17\/n=18\/n=19\/n=20\/n=21\/n=22\/n=23\/n=24\/n=25\/n=26\/n=27\/n=28\/n=29\/n=30\/n=31\/n=32\/n=33\/n=34\/n=35\/n=36\/n=37\/n=38\/n=39\/n=40\/n=41:=O;rcases hc with rfl|rfl|rfl|rfl|rfl|rfl|rfl|rfl|rfl|rfl|rfl|rfl|rfl|rfl|rfl|rfl|rfl|rfl|rfl|rfl|rfl|rfl|rfl|rfl|rfl|rfl|rfl|rfl|rfl|rfl|rfl|rfl|rfl|rfl|rfl|rfl|rfl|rfl|rfl|rfl|rfl|rfl
 all_goals rfl
variable {t':dZ}{used':Int}{rv':UL}
def Mx.rH(h:Mx w C RO K p c s t used rv)(o:Nat)(v:UL)(X:(iJ K C p c s.total t used rv).setIfInBounds o v=iJ K C p c s.total t' used' rv'):bT w (w.setCell (G C.mb o) v) C C/\Mx (w.setCell (G C.mb o) v) C RO K p c s t' used' rv':=by
 have R:=h.rel;have F:aA [C.mb] w (w.setCell (G C.mb o) v):=(aA.refl _ w).setCell ay _;refine⟨⟨rfl,F.mono (by intro k hk;simp at hk;subst hk;simp[Co.l]),λ_ X=> .inl X⟩,⟨⟨?_,?_,?_,?_,?_⟩,h.sep.nd,λb X=>eJ (h.sep.lt b X) F.size,h.sep.ro,λb X=>eJ (h.sep.dO b X) F.size⟩⟩
 ·rw[<-X];exact h.m.bg.set o v
 ·exact h.m.prog.aG F λb X hc=>by simp at hc;subst hc;exact h.cr X (by simp[Co.l])
 ·exact h.m.ar.aG F λb X hc=>by simp at hc;subst hc;exact R.ma X
 ·exact h.m.ix.aG F ⟨by simp;exact λe=>R.mx e.symm,by simp;exact λe=>R.ms e.symm⟩
 ·exact h.m.vs.aG F λb X hc=>by simp at hc;subst hc;exact R.mv (aU.2 X)
def cS.rH(h:cS w C U RO K p c t used hv jv s r)(o:Nat)(v:UL)(X:(iJ K C p c s.total t used (UI U.rb)).setIfInBounds o v=iJ K C p c s.total t' used' (UI U.rb)):cS (w.setCell (G C.mb o) v) C U RO K p c t' used' hv jv s r:=by obtain⟨k1,k2⟩:=h.mx.rH o v X;exact h.ou k1 k2
def ag3{b cap:Nat}(h3:Row w 40 5 (to (H (G b 0)) p.code.length cap) p.code.length (ci p)){i:Nat}(hi:i<p.code.length):
 UJ w (G b (i*5))=H (Y (al p i).op)/\UJ w (G b (i*5+1))=H (Y (al p i).a)/\UJ w (G b (i*5+2))=H (Y (al p i).b)/\UJ w (G b (i*5+3))=H (Y (al p i).c)/\UJ w (G b (i*5+4))=H (Y (al p i).d):=by
 have key:∀k,k<5->UJ w (G b (i*5+k))=H (ci p (i*5+k)):=λk hk=>h3.cell (o:=i*5+k) O;have hd:∀k,k<5->(i*5+k) / 5=i:=λk hk=>O;have hm:∀k,k<5->(i*5+k) % 5=k:=λk hk=>O;refine⟨(key 0 O).trans ?_,(key 1 O).trans ?_,(key 2 O).trans ?_,(key 3 O).trans ?_,(key 4 O).trans ?_⟩
 ·unfold ci;rw[hd 0 O,hm 0 O];rfl
 ·unfold ci;rw[hd 1 O,hm 1 O];rfl
 ·unfold ci;rw[hd 2 O,hm 2 O];rfl
 ·unfold ci;rw[hd 3 O,hm 3 O];rfl
 ·unfold ci;rw[hd 4 O,hm 4 O];rfl
def cS.abt(h:cS w C U RO K p c t used hv jv s r)(hp:0<p.code.length):∃b cap,K.c=to (H (G b 0)) p.code.length cap/\Row w 40 5 (to (H (G b 0)) p.code.length cap) p.code.length (ci p)/\b∈RO:=by obtain⟨b,cap,iD,pR,mZ,X⟩:=h.m.prog.cd.some hp;have h3:=h.m.prog.cd;rw[iD]at h3;exact⟨b,cap,iD,h3,h.m.prog.ro b (.inr (.inr (.inr (.inr (.inl (aU.2 (by rw[iD];rfl)))))))⟩
def ny{P:Program}{a:Act}{w:UK}{Q:Exit->Act->UK->Prop}{c rest:Code}(l:Nat)(J:Act->UK->Prop)(μ:Act->UK->Nat)(hf:findLabel c l=H (Code.seq Code.skip rest))
 (pass:∀a w,J a w->rest.wp P (Exit.jump l (λa' w'=>J a' w'/\μ a' w'<μ a w) Q) a w) (first:(∀a w,J a w->rest.wp P (Exit.jump l J Q) a w)->c.wp P (Exit.jump l J Q) a w):(Code.scope c).wp P Q a w:=
 wp_scope_jumps l J μ hf (first λa w h=>Code.wp_mono (λe a' w' h'=>by
  cases e<;>first|exact h'|exact⟨h'.1,h'.2.1⟩) (pass a w h)) (λa w h=>wp_seq (wp_skip (pass a w h)))
structure Gi(K:Kc)(mb:Nat)(p:aQ)(c:Cp):Prop where
 gM:ow p c
 nd:K.nd=dw (aC p c)
 AY:K.nd<=4194304
 check:bq p=0
 steps:∀n,n<42->K.steps n= .func (.func (EY n)) #[UI mb] #[]
def Gi.ev{K:Kc}{mb:Nat}{p:aQ}{c:Cp}{s:St}(h:Gi K mb p c)(hI:Inv (aC p c) s):iT K p c s:=
 ⟨hI,h.gM,h.nd,h.AY,(cE h.check).1.g,(cE h.check).1.t⟩
def yN(w wr:UK)(mb rb:Nat)(RO:List Nat)(K:Kc)(p:aQ)(c:Cp)(t:dZ)(T:Map)(s0:St)(x0:SR)(f:Nat):Prop:=
 ∃(n:Nat) (x:SR) (st:Std) (RO':List Nat),(∀b,b∈RO->b∈RO')/\In wr mb rb RO' K p c t n x/\Kept RO w wr/\gz p T x.2 st/\fJ (aC p c) p.vars.length s0 x/\Small n x.2/\left p x.2 st<=f/\
  lR p c jC x0=(n+(lR p c f x).1,(lR p c f x).2)/\n+f<=jC
def Ran(w:UK)(mb rb:Nat)(RO:List Nat)(K:Kc)(p:aQ)(c:Cp)(t:dZ)(z:Nat×SR)(e:Ending)(w':UK):Prop:=
 e=C8 (.tuple #[])/\∃RO',(∀b,b∈RO->b∈RO')/\In w' mb rb RO' K p c t z.1 z.2/\Kept RO w w'
def yN.left{w wr:UK}{x0:SR}{f:Nat}(V:Env p c T)(h:yN w wr mb rb RO K p c t T s0 x0 f):0<f:=by obtain⟨n,x,st,RO',-,-,-,C,-,-,hl,-⟩:=h;have:=EE V C;omega
def JJ.afR{n:Nat}{r:Rn}(h:Small n r)(hn:n<=jC):JJ r:=by unfold jC at hn;exact⟨by have:=h.stack;omega,by have:=h.loops;omega,by have:=h.told;omega,by have:=h.bz;omega⟩
def FrS(mb rb:Nat)(a:Act):Prop:=∃J:Nat->UL,a={tmps:=#[UI mb,J 1,UI rb,J 3,J 4,J 5,J 6,J 7,J 8,J 9,J 10,J 11,J 12,J 13,J 14,J 15,J 16,J 17,J 18,J 19,J 20,J 21,J 22,J 23,J 24,J 25,J 26,J 27,J 28,J 29,J 30,J 31,J 32,J 33,J 34,J 35,J 36,J 37,J 38,J 39,J 40,J 41,J 42,J 43,J 44,J 45,J 46,J 47,J 48,J 49,J 50,J 51,J 52,J 53],defers:=[]}
def sE(mb:Nat)(w:UK):Nat:=match UJ w ⟨mb,17,K7⟩with|some (.int _ u)=>u.toNat|_=>0
def AZ{w:UK}{n:Nat}{x:SR}(h:In w mb rb RO K p c t (n:Nat) x):sE mb w=n:=by
 obtain⟨C,U,hv,jv,h1,h2,h3⟩:=h;have h4:UJ w (G mb 17)=H (Y n):=by rw[<-h1];exact h3.m.bg.cell 17
 unfold sE;rw[h4];rfl
def ac7(M:Gi K mb p c)(V:Env p c T){x0:SR}(hg:yN w w mb rb RO K p c t T s0 x0 jC):
 Calls prog 62 #[UI mb] w (Ran w mb rb RO K p c t (lR p c jC x0)):=by
 have h0:=hg;obtain⟨n,x,st,RO',ho,⟨C0,a1a,hv0,jv0,ig,Qc,A0⟩,-⟩:=h0;have sS:UJ w (G mb 60)=H (UI rb):=by rw[<-ig,<-Qc];exact A0.m.bg.cell 60
 have HG:=Z hg;have HM:=Z M;have HV:=Z V;clear hg ho A0 ig Qc M V;go_enter func62,ntmps62;go_wp2_with fail;refine ny 0 (λa' wr=>FrS mb rb a'/\∃f,yN w wr mb rb RO K p c t T s0 x0 f) (λ_ wr=>jC-sE mb wr) rfl ?_ ?_
 ·rintro a' wr ⟨⟨J,rfl⟩,f,N_⟩;have hf0:=N_.left HV.o;obtain⟨n,⟨s1,r1⟩,st1,pS,ho,⟨C1,U1,iD,jv1,oR,oE,A1⟩,hk,G1,H1,Q1,hl,wJ,Rc⟩:=N_;dsimp only at A1 G1 H1 Q1 hl;obtain⟨cb,Cj,Gc,Wl,Rx⟩:=A1.abt (by have:=G1.lt;omega);obtain⟨k0,k1,k2,k3,k4⟩:=ag3 Wl G1.lt;have m5:UJ wr (G mb 5)=H K.c:=by rw[<-oR];exact A1.m.bg.cell 5
  rw[Gc]at m5;have m17:UJ wr (G mb 17)=H (Y n):=by rw[<-oR];exact A1.m.bg.cell 17
  have c1:UJ wr (G rb 1)=H (Y r1.at_):=by rw[<-oE];exact A1.r.dS.cell 1
  have be:=G1.lt;have lm:mb<wr.heap.size:=by rw[<-oR];exact A1.m.bg.lt
  have lr:rb<wr.heap.size:=by rw[<-oE];exact A1.r.dS.lt
  have lc:cb<wr.heap.size:=A1.sep.dO cb Rx;have Du:=Z A1;have O7:=Z G1;have HH1:=Z H1;have Ro:=Z Q1;have Nc:=Z hl;have T_:=Z wJ;have uw:=Z hk;have Gh:=Z ho;have wI:=Z oR;have Ho:=Z oE;have abx:p.code.length<=262144:=(cE HM.o.check).1.code;clear A1 G1 H1 Q1 hl wJ hk ho oR oE Gc Wl Rx sS;generalize hi:al p r1.at_=i at*;have HI:=Z hi;clear hi;generalize M5:r1.at_=JK at*;have HAT:=Z M5;clear M5;generalize p.code.length=cl at*;go_wp2;go_region;have B1:=(Du.o.box (QP (aI i) 40)).drewN 1;have N1:aF (wr.alloc (QP (aI i) 40)).drew wr.heap.size 40 (aI i):=aF.new wr _ _;have B1:cS (wr.alloc (QP (aI i) 40)).drew C1 U1 (wr.heap.size::pS) K p c t n iD jv1 s1 r1:=B1;have K1:Kept pS wr (wr.alloc (QP (aI i) 40)).drew:=Kept.af (((aB _ wr).alloc (aL _) _).trans (az _ _ 1)) Du.o.sep.dO;have e17:(wr.alloc (QP (aI i) 40)).drew.cell? (G mb 17)=H (Y n):=by rw[<-wI.o];exact B1.m.bg.cell 17
  have e1:(wr.alloc (QP (aI i) 40)).drew.cell? (G rb 1)=H (Y JK):=by rw[<-Ho.o,<-HAT.o];exact B1.r.dS.cell 1
  have fm:∀o,(wr.alloc (QP (aI i) 40)).drew.frozen? (G mb o)=false:=by rw[<-wI.o];exact B1.m.bg.frozen
  have fr:∀o,(wr.alloc (QP (aI i) 40)).drew.frozen? (G rb o)=false:=by rw[<-Ho.o];exact B1.r.dS.frozen
  have nm:mb≠rb:=by rw[<-wI.o,<-Ho.o];exact λe=>B1.sep.cu (b:=C1.mb) (by simp[Co.l]) (by rw[e];simp[Ru.l])
  have cR:=Z B1;have JL:=Z N1;have HKW:=Z K1;have jF:IntKind.i64.wrap ((JK:Int)+1)=JK+1:=bJ _ ⟨O,O⟩;have Cv:n<=20000:=by unfold jC at Rc;omega
  have r_:IntKind.i64.wrap ((n:Int)+1)=n+1:=bJ _ ⟨O,O⟩;clear B1 N1 K1 k0 k1 k2 k3 k4 m5 m17 c1 lm lr lc;unfold aI at cR JL HKW e17 e1 fm fr;generalize(wr.alloc (QP #[Y i.op,Y i.a,Y i.b,Y i.c,Y i.d] 40)).drew=w1 at*;generalize wr.heap.size=bx at*;go_wp2_with fail;have A2:=cR.o.jW 1 (Y ((JK:Int)+1)) (r':=cw r1) (by rw[<-HAT.o];rfl) rfl rfl rfl rfl rfl cR.o.r.gP;have A3:=A2.rH 17 (Y ((n:Int)+1)) (used':=(n:Int)+1) rfl;rw[Ho.o,wI.o]at A3;have nb1:bx≠rb:=λe=>cR.o.sep.ur (b:=bx) ay (by rw[e,<-Ho.o];simp[Ru.l]);have nb2:bx≠mb:=λe=>cR.o.sep.cr (b:=bx) ay (by rw[e,<-wI.o];simp[Co.l]);have N3:=aF.other (aF.other JL.o nb1 1 (Y ((JK:Int)+1))) nb2 17 (Y ((n:Int)+1));have K3:Kept pS w1 ((w1.setCell (G rb 1) (Y ((JK:Int)+1))).setCell (G mb 17) (Y ((n:Int)+1))):=Kept.dn (S:=C1.l++U1.l) (((aA.refl _ w1).setCell (by rw[<-Ho.o];simp[Ru.l]) _).setCell (by rw[<-wI.o];simp[Co.l]) _) (λb X hc=>by
   rcases List.mem_append.1 hc with hc|hc
   ·exact cR.o.sep.cr (b:=b) (by simp[X]) hc
   ·exact cR.o.sep.ur (b:=b) (by simp[X]) hc) (λb X=>cR.o.sep.dO b (by simp[X]))
  obtain⟨YL,RD⟩:0<=i.op/\i.op<=41:=by have ho:=(oV HV.o O7.o).1;rw[HAT.o,HI.o]at ho;unfold jH aO at ho;simpa only[fp,ft]using ho
  have hoN:i.op.toNat<42:=O;have fL:((w1.setCell (G rb 1) (Y ((JK:Int)+1))).setCell (G mb 17) (Y ((n:Int)+1))).cell? (G mb (18+i.op.toNat))=H (.func (.func (EY i.op.toNat)) #[UI mb] #[]):=by have h1:=A3.m.bg.cell (18+i.op.toNat);rw[wI.o,afS _ _ _ _ _ _ _ _ _ hoN,HM.o.steps _ hoN]at h1;exact h1
  have hex:=ade (A3.drewN 1) (HM.o.ev HH1.o.inv) HV.o O7.o HH1.o (JJ.afR Ro.o O);rw[wI.o,Ho.o,HAT.o,HI.o]at hex;have aed:=λ(args:Array UL) (wz:UK)=>enters i.op.toNat hoN args wz;have y0:((w1.setCell (G rb 1) (Y ((JK:Int)+1))).setCell (G mb 17) (Y ((n:Int)+1))).cell? (G bx 0)=H (Y (i.op.toNat:Nat)):=by rw[Int.toNat_of_nonneg YL];exact N3.cell 0
  have y0':((w1.setCell (G rb 1) (Y ((JK:Int)+1))).setCell (G mb 17) (Y ((n:Int)+1))).cell? (G bx 1)=H (Y i.a):=N3.cell 1;have y2:((w1.setCell (G rb 1) (Y ((JK:Int)+1))).setCell (G mb 17) (Y ((n:Int)+1))).cell? (G bx 2)=H (Y i.b):=N3.cell 2;have y3:((w1.setCell (G rb 1) (Y ((JK:Int)+1))).setCell (G mb 17) (Y ((n:Int)+1))).cell? (G bx 3)=H (Y i.c):=N3.cell 3;have y4:((w1.setCell (G rb 1) (Y ((JK:Int)+1))).setCell (G mb 17) (Y ((n:Int)+1))).cell? (G bx 4)=H (Y i.d):=N3.cell 4;unfold aV aI at hex;rw[show(Y i.op)=Y (i.op.toNat:Nat)by rw[Int.toNat_of_nonneg YL]]at hex;have P_:=Z (((uw.o.trans HKW.o (λb X=>Gh.o b X)).trans K3 (λb X=>Gh.o b X)).trans (Kept.af (RO:=pS) (az _ ((w1.setCell (G rb 1) (Y ((JK:Int)+1))).setCell (G mb 17) (Y ((n:Int)+1))) 1) (λb X=>A3.sep.dO b (by simp[X]))) (λb X=>Gh.o b X));have HEX:=Z hex;have Wm:aJ p c i (s1,cw r1)=fG p c (s1,r1):=by unfold fG;rw[HAT.o,HI.o]
  rw[Wm]at HEX;have HOP:=Z (And.intro YL RD);clear A2 A3 nb1 nb2 N3 K3 YL RD hex Wm e17 e1 fm fr JL cR;generalize i.op.toNat=on at*;have hoI:(on:Int)<42:=O;have aee:(0:Int)<=on:=O;generalize EY on=F at*;generalize(w1.setCell (G rb 1) (Y ((JK:Int)+1))).setCell (G mb 17) (Y ((n:Int)+1))=w3 at*
  go_still_tail 8,bh
  change wpList _ _ _ _ _ (w3.drewN 1);generalize w3.drewN 1=w4 at*;go_wp2_with fail;have YM:=JE HV.o O7.o HH1.o;rw[show aJ p c (al p r1.at_) (s1,cw r1)=fG p c (s1,r1)from rfl]at YM;have Ri:=yF (p:=p) (c:=c) (x:=(s1,r1)) Ro.o;have O_:=λst' C'=>yD (c:=c) (s:=s1) HV.o O7.o (st':=st') C';rw[show aJ p c (al p r1.at_) (s1,cw r1)=fG p c (s1,r1)from rfl]at O_;have hrn:=T_.o;obtain⟨f',rfl⟩:∃f',f=f'+1:=⟨f-1,O⟩;rw[show lR p c (f'+1) (s1,r1)=if xj (fG p c (s1,r1))then(1,fG p c (s1,r1))else((lR p c f' (fG p c (s1,r1))).1+1,(lR p c f' (fG p c (s1,r1))).2)from rfl]at hrn;have S_:=Z YM;have Dx:=Z Ri;have Pa:=Z O_;have LW:=Z hrn;clear YM Ri O_ hrn jF r_ fL aed y0 y0' y2 y3 y4 hoI aee hoN nm abx be T_;generalize fG p c (s1,r1)=y at*;refine HEX.o.mono ?_;rintro e w5 ⟨rfl,RO5,YN,⟨C5,U5,hv5,jv5,IH,Ta,A5⟩,hk5⟩;have d8:UJ w5 (G rb 8)=H (.bool y.2.done):=by rw[<-Ta];exact A5.r.dS.cell 8
  have d6:UJ w5 (G rb 6)=H (Y y.2.bY):=by rw[<-Ta];exact A5.r.dS.cell 6
  have f_:∀b,b∈RO->b∈RO5:=λb X=>YN b (by simp[Gh.o b X]);have Wn:Kept RO w w5:=P_.o.trans hk5 (λb X=>by simp[Gh.o b X]);have me:=Z (show In w5 mb rb RO5 K p c t ((n+1:Nat):Int) y from⟨C5,U5,hv5,jv5,IH,Ta,A5⟩);have zU:=Z f_;have JM:=Z Wn;clear HEX A5 YN hk5 IH Ta f_ Wn P_ HKW;by_cases hs:xj y=true
  ·have oY:=Z (show Ran w mb rb RO K p c t (lR p c jC x0) (C8 (.tuple #[])) w5 from by
    have hr:=LW.o;rw[bk hs]at hr;rw[hr];exact⟨rfl,RO5,zU.o,me.o,JM.o⟩)
   have abA:y.2.done=true\/(y.2.done=false/\(y.2.bY==0)=false):=by
    unfold xj at hs;cases hd:y.2.done with
    |true=>exact .inl rfl
    |false=>rw[hd]at hs;simp at hs;exact .inr ⟨rfl,by simpa using hs⟩
   clear hs LW me S_ Dx Pa zU JM;rcases abA with hd|⟨hd,htz⟩
   ·rw[hd]at d8;go_wp2;simp only[Exit.jump];go_end0;exact oY.o
   ·rw[hd]at d8;go_wp2;simp only[Exit.jump];go_end0;exact oY.o
  ·obtain⟨ht0,iL⟩:=vS hs;rw[ht0]at d6;rw[iL]at d8;obtain⟨st',C'⟩:=S_.o.next ht0 iL;have hlf:=Pa.o st' C';have Wo:=Nc.o;have pZ:n+1+f'<=jC:=O;have N_:yN w w5 mb rb RO K p c t T s0 x0 f':=by refine⟨n+1,y,st',RO5,zU.o,me.o,JM.o,C',S_.o.hold,Dx.o,O,?_,pZ⟩;have hr:=LW.o;rw[aw hs]at hr;rw[hr];congr 1;omega
   have Ib:sE mb w5=n+1:=AZ me.o;have xK:sE mb wr=n:=AZ (show In wr mb rb pS K p c t n (s1,r1)from⟨C1,U1,iD,jv1,wI.o,Ho.o,Du.o⟩);have abB:n<jC:=O;have HGO:=Z (show(∃f,yN w w5 mb rb RO K p c t T s0 x0 f)/\jC-sE mb w5<jC-sE mb wr from⟨⟨f',N_⟩,by rw[Ib,xK];omega⟩);clear N_ Ib xK abB hlf Wo C' ht0 iL hs LW me S_ Dx Pa zU JM;go_wp2;go_step3;exact⟨rfl,⟨qi rfl,HGO.o.1⟩,HGO.o.2⟩
 ·intro hp;go_wp2;go_step3;simp only[Exit.then]
  apply_assumption
  refine hp _ _ ⟨?_,jC,HG.o⟩;exact qi rfl
def Cy(w:UK)(b:Nat)(x0 x1 x2:UL):UK:=((w.setCell (G b 0) x0).setCell (G b 1) x1).setCell (G b 2) x2
def sF(w:UK)(b:Nat)(x0 x1 x2:UL):aA [b] w (Cy w b x0 x1 x2):=(((aA.refl _ w).setCell ay _).setCell ay _).setCell ay _
def sG{w:UK}{b:Nat}{y0 y1 y2:UL}(h:aF w b 44 #[y0,y1,y2])(x0 x1 x2:UL):aF (Cy w b x0 x1 x2) b 44 #[x0,x1,x2]:=((h.set 0 _).set 1 _).set 2 _
def A_{w:UK}{b:Nat}{y0 y1 y2:UL}(h:aF w b 44 #[y0,y1,y2]):UJ w (G b 0)=H y0/\UJ w (G b 1)=H y1/\UJ w (G b 2)=H y2/\∀o,w.frozen? (G b o)=false:=⟨h.cell 0,h.cell 1,h.cell 2,h.frozen⟩
def wV(w wr:UK)(C:Co)(RO:List Nat)(K:Kc)(p:aQ)(c:Cp)(t:dZ)(used:Int)(s0:St)(j:List uC)(i:Nat):Prop:=
 ∃C' s',bT w wr C C'/\Mx wr C' RO K p c s' t used (.pointer K7)/\Inv (aC p c) s'/\Vm.Good (aC p c) p.vars.length s0 (j.drop (j.length-i)) s'
def yO(w:UK)(C:Co)(RO:List Nat)(K:Kc)(p:aQ)(c:Cp)(t:dZ)(used:Int)(s:St)(b4:Nat)(x0 x1 x2:UL)(e:Ending)(w':UK):Prop:=
 e=C8 (.tuple #[])/\∃C' wz,bT w wz C C'/\Mx wz C' RO K p c s t used (.pointer K7)/\aA [b4] wz w'/\aF w' b4 44 #[x0,x1,x2]
def agH{α:Type}{l:List α}{i:Nat}(h:i<l.length):∃u,l.reverse[i]? =H u/\l.drop (l.length - (i+1))=u::l.drop (l.length-i):=by
 have h1:l.length - (i+1)<l.length:=O;refine⟨l[l.length - (i+1)],?_,?_⟩
 ·rw[List.getElem?_reverse h,fq O];congr 1;congr 1;omega
 ·rw[qU h1];congr 2;omega
def ZO{p:Prop}(h:p:=by
 have Lk:=Z lM;clear k1 k2 lM HC;go_wp2_with fail
 go_roundg i'
 case measure=>omega
 case rel=>exact⟨i',rfl,rfl,O,Lk⟩):p:=h
def Tc{p:Prop}(h:p:=by
 go_wp2_with fail;refine HC.o.mono ?_;rintro e w9 ⟨rfl,C9,k1,k2⟩;have lM:wV w w9 C RO K p c t used s0 jl i':=⟨C9,_,uw.o.trans k1,k2,Wp.o,Wr.o⟩;exact ZO):p:=h
def agG(M:Gi K C.mb p c)(h:cS w C U RO K p c t used hv jv s r)(hI:Inv (aC p c) s)(hG:Vm.Good (aC p c) p.vars.length s0 r.bz s)(ht:r.bY≠0)(hl:r.bz.length<1000000){b2 b5 b4:Nat}{x0 x1 x2:UL}(h2:aF w b2 35 #[UI C.mb])(h5:aF w b5 111 #[UI U.rb])(h4:aF w b4 44 #[x0,x1,x2])(r5:b5∈RO)(r4:b4∈RO):
 CallsD prog 61 #[UI b2,UI b5,UI b4] .returning w (λe u' w'=>u'= .returning/\yO w C RO K p c t used s0 b4 (.bool false) Pl (Y r.bY) e w'):=by
 obtain⟨k1,k2⟩:=h.mx.rH 60 (.pointer K7) (rv':= .pointer K7) rfl;have sS:=uL h.m.bg;have ac6:∀o,w.frozen? (G C.mb o)=false:=h.m.bg.frozen;have c2:=h2.c1;have Pc:wV w (w.setCell (G C.mb 60) (.pointer K7)) C RO K p c t used s0 r.bz r.bz.length:=⟨C,s,k1,k2,hI,by rw[Nat.sub_self];exact hG⟩;have f_:∀wx C',bT w wx C C'->(UJ wx (G b5 0)=H (UI U.rb)/\UJ wx (G U.rb 6)=H (Y r.bY)/\UJ wx (G U.rb 7)=H U.jU)/\Row wx 1 1 U.jU r.bz.length jv/\(∀i u,r.bz.reverse[i]? =H u->gK wx C.mb RO (jv i) u)/\aF wx b4 44 #[x0,x1,x2]:=by intro wx C' k;have X:=h.r.dS.aG k.f (h.sep.uc (by simp[Ru.l]));exact⟨⟨(h5.aG k.f (h.sep.cr r5)).cell 0,X.cell 6,X.cell 7⟩,h.r.jU.aG k.f (λb X=>h.sep.uc (by simp[Ru.l,aU.2 X])),λi u hu=>(h.r.jat i u hu).aG k.f (λb X=>h.sep.cr X),h4.aG k.f (h.sep.cr r4)⟩
 have htz:(r.bY==0)=false:=by simpa using ht
 have HM:=Z M;have HS:=Z Pc;have zU:=Z f_;have HL:=Z hl;have HR4:=Z (And.intro (h.sep.cr r4) r4);obtain⟨⟨q5,q6,q7⟩,-⟩:=f_ _ _ k1;have Ws:=h.r.jU.val;have Of:=Z Ws;clear h k1 k2 h2 h5 h4 r5 r4 M hI hG ht Pc f_ hl Ws;generalize vQ:r.bY=tr at*;generalize hjl:r.bz=jl at*;have aeW:=HL.o;have hjv:U.jU=Pl/\jl.length=0\/∃b cap,U.jU=to (H (G b 0)) jl.length cap:=by
  rcases Of.o with h|⟨b,cap,h1,-⟩
  ·exact .inl h
  ·exact .inr ⟨b,cap,h1⟩
 clear Of vQ hjl;rcases hjv with⟨iD,hz⟩|⟨jb,ae2,iD⟩
 ·rw[iD]at q7;have HZ:=Z hz;clear iD hz
  go_enter_d func61,ntmps61
  go_wp2_with fail
  go_loopg [3] 0 (λf s3 wr=>wr=w.setCell (G C.mb 60) (.pointer K7)/\s3=Y (-1:Int))
  case atStart=>exact⟨rfl,rfl⟩
  case round=>
   obtain⟨rfl,rfl⟩:=hrel;obtain⟨C',s',k1,k2,hI',YO⟩:=HS.o;obtain⟨-,-,-,b4x⟩:=zU.o _ _ k1;obtain⟨z0,z1,z2,zf⟩:=A_ b4x;have HE:=Z (show yO w C RO K p c t used s0 b4 (.bool false) Pl (Y tr) (C8 (.tuple #[])) (Cy (w.setCell (G C.mb 60) (.pointer K7)) b4 (.bool false) Pl (Y tr))from by
    have hG2:s'=s0:=by have:=YO;rw[HZ.o,Nat.sub_zero,List.length_eq_zero_iff.1 HZ.o]at this;exact this
    subst hG2;exact⟨rfl,C',_,k1,k2,sF _ _ _ _ _,sG b4x _ _ _⟩)
   clear k1 k2 hI' YO b4x;go_wp2;exact bK (dJ rfl _ _ _) rfl HE.o
 ·rw[iD]at q7;have HV:=Z iD;clear iD
  go_enter_d func61,ntmps61
  go_wp2_with fail
  go_loopg [3] jl.length (λf s3 wr=>∃i:Nat,s3=Y ((i:Int) - 1)/\i=f/\i<=jl.length/\Hid (wV w wr C RO K p c t used s0 jl i))
  case atStart=>exact⟨jl.length,rfl,rfl,aL _,HS⟩
  case round=>
   clear HS;obtain⟨i,rfl,rfl,hi,HU⟩:=hrel;obtain⟨C',s',k1,k2,hI',YO⟩:=HU.o;obtain⟨⟨d5,d6,d7⟩,Td,dat,dbl⟩:=zU.o _ _ k1;rw[HV.o]at d7 Td;by_cases Nf:i=0
   ·subst Nf;obtain⟨z0,z1,z2,zf⟩:=A_ dbl;have HE:=Z (show yO w C RO K p c t used s0 b4 (.bool false) Pl (Y tr) (C8 (.tuple #[])) (Cy wr b4 (.bool false) Pl (Y tr))from by
     have hG2:s'=s0:=by have:=YO;rw[Nat.sub_zero,List.drop_length]at this;exact this
     subst hG2;exact⟨rfl,C',_,k1,k2,sF _ _ _ _ _,sG dbl _ _ _⟩)
    clear k1 k2 hI' YO dbl Td dat HU;go_wp2;exact bK (dJ rfl _ _ _) rfl HE.o
   ·obtain⟨i',rfl⟩:∃i',i=i'+1:=⟨i-1,O⟩;have hii:i'<jl.length:=O;obtain⟨u,Ib,xK⟩:=agH hii;rw[xK]at YO;obtain⟨Ba,Wu,Pd⟩:=YO;have hua:=dat i' u Ib;have a1b:UJ wr (G jb i')=H (jv i'):=Td.cell O;have oR:=k1.mb;have uw:=Z k1;have nI:=Z k2;have HII:=Z hI';have Wr:=Z Pd;have Wp:=Z Wu;have wI:=Z oR;have EV:=HM.o.ev hI';have JN:=Z EV;have tS:p.bw.length<=256:=by have:=EV.g16;omega
    have XW:((i'+1:Nat):Int) - 1=i':=O;have hnr:∀b,b∈RO->b∉C'.l:=λb X=>k2.cr X;have HNR:=Z hnr;clear k1 k2 hI' dat dbl Td HU Pd Wu oR EV Nf hnr Ib xK;rw[XW];generalize jv i'=fv at*;cases u with
    |var vi pW=>obtain⟨x1,x2,x3,op,bb,cc,dd,rfl,e1,e2,e3,-⟩:=hua;rw[<-wI.o]at e2;have HC:=Z (G4 nI.o Ba e1 e2 e3);clear Ba;exact Tc
    |mark pW=>obtain⟨x1,x2,rfl,e1,e2,-⟩:=hua;rw[<-wI.o]at e1;obtain⟨q,n,hq,hn,hf⟩:=Ba;have HC:=Z (Ep nI.o hf hq hn e1 e2);have HUE:=Z (show mQ (aC p c) (.mark pW) s'=lZ s' n pW by simp only[mQ,hf]);clear hf hn;go_wp2_with fail;refine HC.o.mono ?_;rintro e w9 ⟨rfl,C9,k1,k2⟩;have lM:wV w w9 C RO K p c t used s0 jl i':=⟨C9,_,uw.o.trans k1,k2,by rw[<-HUE.o];exact Wp.o,by rw[<-HUE.o];exact Wr.o⟩;exact ZO
    |cut q d=>obtain⟨x1,x2,x3,rfl,e1,e2,e3,-⟩:=hua;rw[<-wI.o]at e1;obtain⟨hq,hd,bm⟩:=Ba;have HC:=Z (G5 nI.o HII.o HM.o.AY tS hq hd bm JN.o.total e1 e2 e3);clear bm;exact Tc
    |put q d x=>obtain⟨x1,x2,x3,x4,rfl,e1,e2,e3,e4,-⟩:=hua;rw[<-wI.o]at e1;obtain⟨hq,hd,hx,be,Te⟩:=Ba;have HC:=Z (G6 nI.o HM.o.AY tS hq hd x hx (JN.o.room hq be Te) JN.o.total e1 e2 e3 e4);clear hx be Te;exact Tc
    |out q x ahead=>
     obtain⟨x1,x2,x3,x4,av,rfl,e1,e2,e3,e4,e5,y1,y2,y3,y4,y5⟩:=hua;rw[<-wI.o]at e1;obtain⟨hq,hx,be,Te,hah⟩:=Ba;have hal:ahead.length<=9223372036854775807:=by
      have h8:=e5.val;rcases h8 with⟨-,h8⟩|⟨b,cap,-,h8,h9,-⟩
      ·omega
      ·have:maxLen=9223372036854775807:=by rfl
       omega
     have HC:=Z (G_ nI.o HM.o.AY tS hq x hx (JN.o.room hq be Te) JN.o.total hah hal e1 e2 e3 e4 e5 y1 y2 y3 y4 y5);clear hx be Te hah hal e5;exact Tc
variable {RO2:List Nat}
def rest(w:UK)(C:Co):List Nat:=(List.range w.heap.size).filter (λb=>decide (b∉C.l))
def oZ{b:Nat}:b∈rest w C↔b<w.heap.size/\b∉C.l:=by unfold rest;simp
def Mx.rest(h:Mx w C RO K p c s t used rv):Mx w C (rest w C) K p c s t used rv:=
 h.less (λb X=> .inr (oZ.1 X)) (λb X=>oZ.2 ⟨h.sep.dO b X,h.cr X⟩)
def narrow(h:Mx w C RO K p c s t used rv)(ho:∀b,b∈Ma.rest w C->b∈RO2)(k:Kept (Ma.rest w C) w w')(hm:C'.mb=C.mb)(m:Mx w' C' RO2 K p c s' t' used' rv'):bT w w' C C'/\Mx w' C' RO K p c s' t' used' rv':=by
 have hr:∀b,b∈RO->b∈RO2:=λb X=>ho b (oZ.2 ⟨h.sep.dO b X,h.cr X⟩);refine⟨⟨hm,⟨k.os,k.tape,k.output,k.size,λi hi hs=>k.block i (oZ.2 ⟨hi,hs⟩)⟩,λb X=>?_⟩,⟨⟨m.m.bg,?_,m.m.ar,m.m.ix,m.m.vs⟩,m.sep.nd,m.sep.lt,λb X hc=>m.sep.ro b X (hr b hc),λb X=>eJ (h.sep.dO b X) k.size⟩⟩
 ·by_cases h1:b∈C.l
  ·exact .inl h1
  ·by_cases h2:b<w.heap.size
   ·exact absurd (ho b (oZ.2 ⟨h2,h1⟩)) (m.sep.ro b X)
   ·exact .inr O
 ·exact⟨m.m.prog.g,m.m.prog.v,m.m.prog.t,m.m.prog.o,m.m.prog.cd,m.m.prog.qs,h.m.prog.ro⟩
def Mx.begin(h:Mx w C RO K p c s t used (UI rb)){key a:Nat}(X:aF w rb 126 #[.int .u64 key,Y a,Pl,Pl,Pl,Pl,Y 0,Pl,.bool false])(hn:rb∉C.l)(ho:rb∉RO):
 cS w C ⟨rb,Pl,Pl,Pl,Pl⟩ RO K p c t used Pl (λ_=> Y 0) s (iB key a):=by
 have hl:(Ru.mk rb Pl Pl Pl Pl).l=[rb]:=rfl;refine⟨h.m,⟨X,Row.nil _ _ _ _,Row.nil _ _ _ _,Row.nil _ _ _ _,Row.nil _ _ _ _,λi u hu=>by simp[iB]at hu,rfl⟩,?_,?_,?_,h.sep.dO⟩
 ·rw[hl,vH];exact⟨h.sep.nd,ay,λx hx y hy=>by simp at hy;subst hy;rintro rfl;exact hn hx⟩
 ·rw[hl];intro b jV;rcases List.mem_append.1 jV with jV|jV
  ·exact h.sep.lt b jV
  ·simp at jV;subst jV;exact X.lt
 ·rw[hl];intro b jV;rcases List.mem_append.1 jV with jV|jV
  ·exact h.sep.ro b jV
  ·simp at jV;subst jV;exact ho
def af5(h:Mx w C RO K p c s t used (UI rb)){cs:Array UL}(hr:aF w rb 126 cs)(h6:cs[6]? =H (Y 0))(hn:rb∉C.l){b2 b5 b4:Nat}{x0 x1 x2:UL}(h2:aF w b2 35 #[UI C.mb])(h5:aF w b5 111 #[UI rb])(h4:aF w b4 44 #[x0,x1,x2])(r5:b5∈RO)(r4:b4∈RO):
 CallsD prog 61 #[UI b2,UI b5,UI b4] .returning w (λe u' w'=>u'= .returning/\yO w C RO K p c t used s b4 x0 x1 x2 e w'):=by
 obtain⟨k1,k2⟩:=h.rH 60 (.pointer K7) (rv':= .pointer K7) rfl;have sS:=uL h.m.bg;have ac6:∀o,w.frozen? (G C.mb o)=false:=h.m.bg.frozen;have c2:=h2.c1;have q5:(w.setCell (G C.mb 60) (.pointer K7)).cell? (G b5 0)=H (UI rb):=(h5.aG k1.f (h.cr r5)).cell 0;have q6:(w.setCell (G C.mb 60) (.pointer K7)).cell? (G rb 6)=H (Y 0):=((hr.aG k1.f hn).cell 6).trans h6;have HB:=Z (show yO w C RO K p c t used s b4 x0 x1 x2 (C8 (.tuple #[])) (w.setCell (G C.mb 60) (.pointer K7))from⟨rfl,C,_,k1,k2,aA.refl _ _,h4.aG k1.f (h.cr r4)⟩);clear h k1 k2 h2 h5 h4 r5 r4 hr h6 hn
 go_enter_d func61,ntmps61
 go_wp2;exact bK (dJ rfl _ _ _) rfl HB.o
structure zY(w w5:UK)(bx:Nat)(C:Co)(K:Kc)(p:aQ)(c:Cp)(s:St)(t:dZ)(used:Int)(key:Nat)(a:Int)(rv:UL):Prop where
 at_:bx=w.heap.size
 mx:Mx w5 C (bx::(bx+1)::(bx+1+1+1)::Ma.rest w C) K p c s t used rv
 b2:aF w5 bx 35 #[UI C.mb]
 b4:aF w5 (bx+1) 44 #[.bool false,Pl,Y 0]
 b5:aF w5 (bx+1+1+1) 111 #[UI (bx+1+1)]
 rb:aF w5 (bx+1+1) 126 #[.int .u64 key,Y a,Pl,Pl,Pl,Pl,Y 0,Pl,.bool false]
 nc:bx+1+1∉C.l
 no:bx+1+1∉(bx::(bx+1)::(bx+1+1+1)::Ma.rest w C)
 Cz:Kept (Ma.rest w C) w w5
def YP{p:Prop}(h:p:=by
 exact .inr ⟨O,λhc=>by have:=be _ hc;omega⟩):p:=h
def B7(h:Mx w C RO K p c s t used (.pointer K7))(key:Nat)(a:Int):zY w ((((w.alloc (QP #[UI C.mb] 35)).alloc (QP #[.bool false,Pl,Y 0] 44)).alloc (QP #[.int .u64 key,Y a,Pl,Pl,Pl,Pl,Y 0,Pl,.bool false] 126)).alloc (QP #[UI (w.heap.size+1+1)] 111)) w.heap.size C K p c s t used key a (.pointer K7):=by
 have sz:∀(w:UK) (o:Obj),(w.alloc o).heap.size=w.heap.size+1:=λw o=>by simp
 have b1:=aF.new w 35 #[UI C.mb];have h1:=h.rest.box (QP #[UI C.mb] 35);have e1:=sz w (QP #[UI C.mb] 35);have k1:Below w.heap.size w (w.alloc (QP #[UI C.mb] 35)):=(aB _ w).alloc (aL _) _;generalize w.alloc (QP #[UI C.mb] 35)=w1 at*;have b2:=aF.new w1 44 #[.bool false,Pl,Y 0];have h2:=h1.box (QP #[.bool false,Pl,Y 0] 44);have e2:=sz w1 (QP #[.bool false,Pl,Y 0] 44);have b1:=b1.alloc (QP #[.bool false,Pl,Y 0] 44);have k2:=k1.alloc O (QP #[.bool false,Pl,Y 0] 44);generalize w1.alloc (QP #[.bool false,Pl,Y 0] 44)=w2 at*;have b3:=aF.new w2 126 #[.int .u64 key,Y a,Pl,Pl,Pl,Pl,Y 0,Pl,.bool false];have h3:=h2.box (QP #[.int .u64 key,Y a,Pl,Pl,Pl,Pl,Y 0,Pl,.bool false] 126);have e3:=sz w2 (QP #[.int .u64 key,Y a,Pl,Pl,Pl,Pl,Y 0,Pl,.bool false] 126);have b1:=b1.alloc (QP #[.int .u64 key,Y a,Pl,Pl,Pl,Pl,Y 0,Pl,.bool false] 126);have b2:=b2.alloc (QP #[.int .u64 key,Y a,Pl,Pl,Pl,Pl,Y 0,Pl,.bool false] 126);have k3:=k2.alloc O (QP #[.int .u64 key,Y a,Pl,Pl,Pl,Pl,Y 0,Pl,.bool false] 126);generalize w2.alloc (QP #[.int .u64 key,Y a,Pl,Pl,Pl,Pl,Y 0,Pl,.bool false] 126)=w3 at*;have b4:=aF.new w3 111 #[UI (w.heap.size+1+1)];have h4:=h3.box (QP #[UI (w.heap.size+1+1)] 111);have e4:=sz w3 (QP #[UI (w.heap.size+1+1)] 111);have b1:=b1.alloc (QP #[UI (w.heap.size+1+1)] 111);have b2:=b2.alloc (QP #[UI (w.heap.size+1+1)] 111);have b3:=b3.alloc (QP #[UI (w.heap.size+1+1)] 111);have k4:=k3.alloc O (QP #[UI (w.heap.size+1+1)] 111);generalize w3.alloc (QP #[UI (w.heap.size+1+1)] 111)=w4 at*;rw[e1]at e2 b2;rw[e2]at e3 b3;rw[e3]at e4 b4;have be:∀b,b∈C.l->b<w.heap.size:=h.sep.lt;have hrt:∀b,b∈Ma.rest w C->b<w.heap.size:=λb X=>(oZ.1 X).1;refine⟨rfl,h4.less (λb X=>?_) (λb X=>by simp[X]),b1,b2,b4,b3,λhc=>by have:=be _ hc;omega,λhc=>?_,Kept.af k4 hrt⟩
 ·simp only[fh]at X;rcases X with rfl|rfl|rfl|X
  ·exact YP
  ·exact YP
  ·exact YP
  ·exact .inl X
 ·simp only[fh]at hc;rcases hc with hc|hc|hc|hc
  ·omega
  ·omega
  ·omega
  ·have:=hrt _ hc;omega
def zY.draw{w5:UK}{bx:Nat}{key:Nat}{a:Int}(h:zY w w5 bx C K p c s t used key a rv)(n:Nat):zY w (w5.drewN n) bx C K p c s t used key a rv:=
 ⟨h.at_,h.mx.drewN n,h.b2.drewN n,h.b4.drewN n,h.b5.drewN n,h.rb.drewN n,h.nc,h.no,h.Cz.trans (Kept.af (az w5.heap.size w5 n) (λb X=>h.mx.sep.dO b (by simp[X]))) (λb X=>X)⟩
def zY.enter{w5:UK}{bx:Nat}{key:Nat}{a:Int}(h:zY w w5 bx C K p c s t used key a (.pointer K7)):zY w ((w5.setCell (G C.mb 60) (UI (bx+1+1))).setCell (G C.mb 17) (Y 0)) bx C K p c s t 0 key a (UI (bx+1+1)):=by obtain⟨k1,m1⟩:=h.mx.rH 60 (UI (bx+1+1)) (rv':=UI (bx+1+1)) rfl;obtain⟨k2,m2⟩:=m1.rH 17 (Y 0) (used':=0) rfl;have k:=k1.trans k2;have hk:Kept (Ma.rest w C) w5 ((w5.setCell (G C.mb 60) (UI (bx+1+1))).setCell (G C.mb 17) (Y 0)):=Kept.dn k.f (λb X=>h.mx.cr (by simp[X])) (λb X=>h.mx.sep.dO b (by simp[X]));exact⟨h.at_,m2,h.b2.aG k.f (h.mx.cr ay),h.b4.aG k.f (h.mx.cr ay),h.b5.aG k.f (h.mx.cr ay),h.rb.aG k.f h.nc,h.nc,h.no,h.Cz.trans hk (λb X=>X)⟩
end
section
variable {w w' wr:UK}{C C' C1:Co}{U U':Ru}{RO RO' pS:List Nat}{K:Kc}{p:aQ}{c:Cp}{t t':dZ}{used used':Int}{hv hv':UL}{jv kT:Nat->UL}{s s' s0 s1:St}{t0:dZ}{Bb:Int}{r r':Rn}{rv rv':UL}{mb rb bx:Nat}{T:Map}{st:Std}
def pF{b o:Nat}{U:TypeId}{cs:Array UL}{v:UL}(h:aF w b U cs)(hv:cs[o]? =H v):w.setCell (G b o) v=w:=by
 have hh:(w.setCell (G b o) v).heap=w.heap:=Array.ext_getElem? λk=>by
  rw[pw];split
  ·next e=>
   subst e;unfold aF at h;rw[h];have:cs.setIfInBounds o v=cs:=Array.ext_getElem? λi=>by
    rw[Array.getElem?_setIfInBounds];split
    ·next e=>subst e;split
             ·exact hv.symm
             ·next h2=>rw[Array.getElem?_eq_none O]
    ·rfl
   simp[this]
  ·rfl
 cases w;simp only[World.setCell]at hh ⊢;congr
structure Over(w wr:UK)(bx:Nat)(C C1:Co)(pS:List Nat)(K:Kc)(p:aQ)(c:Cp)(s1:St)(t:dZ)(used:Int)(tv:UL)(told:List Nat)(bY:Int)(x0 x1 x2:UL):Prop where
 at_:bx=w.heap.size
 mb:C1.mb=C.mb
 mx:Mx wr C1 pS K p c s1 t used (UI (bx+1+1))
 ro:∀b,b∈(bx::(bx+1)::(bx+1+1+1)::Ma.rest w C)->b∈pS
 b2:aF wr bx 35 #[UI C.mb]
 b4:aF wr (bx+1) 44 #[x0,x1,x2]
 b5:aF wr (bx+1+1+1) 111 #[UI (bx+1+1)]
 rb:∃cs,aF wr (bx+1+1) 126 cs/\cs[5]? =H tv/\cs[6]? =H (Y bY)
 nc:bx+1+1∉C1.l
 td:Row wr 46 1 tv told.length (λi=> .int .u64 (told.getD i 0:Nat))
 tn:∀b,b∈vb tv->b∉C1.l/\b≠bx+1/\b∉Ma.rest w C
 Cz:Kept (Ma.rest w C) w wr
def zY.YR{key:Nat}{a:Int}(h:zY w wr bx C K p c s t used key a (UI (bx+1+1))):Over w wr bx C C (bx::(bx+1)::(bx+1+1+1)::Ma.rest w C) K p c s t used Pl [] 0 (.bool false) Pl (Y 0):=
 ⟨h.at_,rfl,h.mx,λb X=>X,h.b2,h.b4,h.b5,⟨_,h.rb,rfl,rfl⟩,h.nc,Row.nil _ _ _ _,λb X=>by simp[vb,Value.ownBlock]at X,h.Cz⟩
def zY.all{key a:Nat}(h:zY w wr bx C K p c s t used key a (UI (bx+1+1))):cS wr C ⟨bx+1+1,Pl,Pl,Pl,Pl⟩ (bx::(bx+1)::(bx+1+1+1)::Ma.rest w C) K p c t used Pl (λ_=> Y 0) s (iB key a):=h.mx.begin h.rb h.nc h.no
def zY.ran{key a:Nat}{w6:UK}(h:zY w w6 bx C K p c s t 0 key a (UI (bx+1+1))){z:Nat×SR}(hi:In wr C.mb (bx+1+1) pS K p c t z.1 z.2)(ho:∀b,b∈(bx::(bx+1)::(bx+1+1+1)::Ma.rest w C)->b∈pS)(hk:Kept (bx::(bx+1)::(bx+1+1+1)::Ma.rest w C) w6 wr):
 ∃C1 tv,Over w wr bx C C1 pS K p c z.2.1 t z.1 tv z.2.2.told z.2.2.bY (.bool false) Pl (Y 0)/\∃U hv jv,U.rb=bx+1+1/\cS wr C1 U pS K p c t z.1 hv jv z.2.1 z.2.2:=by
 obtain⟨C1,U,hv,jv,h1,h2,A⟩:=hi;have hm:=A.mx;rw[h2]at hm;have X:=A.r.dS;rw[h2]at X;refine⟨C1,U.mV,⟨h.at_,h1,hm,ho,aF.kept h.b2 hk ay,aF.kept h.b4 hk ay,aF.kept h.b5 hk ay,⟨_,X,rfl,rfl⟩,?_,A.r.mV,?_,h.Cz.trans hk (λb X=>by simp[X])⟩,U,hv,jv,h2,A⟩
 ·rw[<-h2];exact A.sep.uc (by simp[Ru.l])
 ·exact λb X=>⟨A.sep.uc (by simp[Ru.l,X]),λe=>A.sep.ur (b:=b) (ho b (by rw[e];simp)) (by simp[Ru.l,X]),λhc=>A.sep.ur (b:=b) (ho b (by simp[hc])) (by simp[Ru.l,X])⟩
def tX(t:dZ)(hit:Bool)(told:List Nat):dZ:=if hit then{t with xX:=wrap64 (t.xX+1),Ga:=wrap64 (t.Ga+told.length)}else{t with mW:=wrap64 (t.mW+1),Ga:=wrap64 (t.Ga+told.length)}
def yP(w:UK)(v:UL)(l:List Nat):Prop:=(v=Pl/\l=[])\/∃b cs,v=to (H (G b 0)) l.length l.length/\aF w b 46 cs/\∀i,i<l.length->cs[i]? =H (.int .u64 (l.getD i 0:Nat))
def je(w:UK)(C:Co)(RO:List Nat)(K:Kc)(p:aQ)(c:Cp)(t:dZ)(s:St)(key:Nat)(e:Ending)(w':UK):Prop:=
 ∃(tv:UL) (C':Co),e=C8 (.agg #[.bool (if jc p c s key=0 then rG p c s key else false),tv,Y (jc p c s key)])/\bT w w' C C'/\
  Mx w' C' RO K p c (nr p c s key) (if jc p c s key=0 then tX t (rG p c s key) (rR p c s key)else t) (uz p c s key).1 (.pointer K7)/\
  yP w' tv (if jc p c s key=0 then rR p c s key else[])/\∀b,b∈vb tv->b∉C'.l/\b∉Ma.rest w C
def Mx.abD(h:Mx w C RO' K p c s t used rv)(hs:∀b,b∈RO->b∈RO')(hp:∀b,(b∈vb K.g\/b∈vb K.v\/b∈vb K.t\/b∈vb K.o\/b∈vb K.c\/b∈vb K.qs)->b∈RO):Mx w C RO K p c s t used rv:=
 ⟨⟨h.m.bg,⟨h.m.prog.g,h.m.prog.v,h.m.prog.t,h.m.prog.o,h.m.prog.cd,h.m.prog.qs,hp⟩,h.m.ar,h.m.ix,h.m.vs⟩,h.sep.nd,h.sep.lt,λb X hc=>h.sep.ro b X (hs b hc),λb X=>h.sep.dO b (hs b X)⟩
section
variable {tv x0 x1 x2 y0 y1 y2:UL}{told:List Nat}{bY vU:Int}{w8 w9 wz:UK}{C2:Co}{s2:St}{t2:dZ}
def Over.Pf(h:Mx w C RO K p c s0 t0 Bb (.pointer K7))(a0e:Over w wr bx C C1 pS K p c s1 t used tv told bY x0 x1 x2)(k:bT wr w8 C1 C2)(m:Mx w8 C2 pS K p c s2 t2 vU rv):bT w w8 C C2/\Mx w8 C2 RO K p c s2 t2 vU rv:=
 narrow h (λb X=>a0e.ro b (by simp[X])) (a0e.Cz.trans (Kept.dn (RO:=Ma.rest w C) k.f (λb X=>a0e.mx.cr (a0e.ro b (by simp[X]))) (λb X=>a0e.mx.sep.dO b (a0e.ro b (by simp[X])))) (λb X=>X)) (k.mb.trans a0e.mb) m
def yQ(h:Mx w C RO K p c s0 t0 Bb (.pointer K7))(X:bx=w.heap.size)(k:bT w w8 C C2)(m:Mx w8 C2 RO K p c s2 t2 vU rv)(hn:bx+1∉C2.l)(f:aA [bx+1] w8 w9):bT w w9 C C2/\Mx w9 C2 RO K p c s2 t2 vU rv:=
 ⟨k.new O f,m.aG f (λb X hc=>by simp at hc;subst hc;exact hn X) (λb jV hc=>by simp at hc;subst hc;have:=h.sep.dO _ jV;omega)⟩
def Over.close(h:Mx w C RO K p c s0 t0 Bb (.pointer K7))(a0e:Over w wr bx C C1 pS K p c s1 t used tv told 0 x0 x1 x2)(k:bT wr w8 C1 C1)(m:Mx w8 C1 pS K p c s1 t2 vU (UI (bx+1+1)))(f:aA [bx+1] w8 w9)(b4:aF w9 (bx+1) 44 #[y0,y1,y2]):
 CallsD prog 61 #[UI bx,UI (bx+1+1+1),UI (bx+1)] .returning w9 (λe u' w'=>u'= .returning/\e=C8 (.tuple #[])/\
  ∃C2,bT w w' C C2/\Mx w' C2 RO K p c s1 t2 vU (.pointer K7)/\aF w' (bx+1) 44 #[y0,y1,y2]/\Row w' 46 1 tv told.length (λi=> .int .u64 (told.getD i 0:Nat))/\∀b,b∈vb tv->b∉C2.l/\b∉Ma.rest w C):=by
 obtain⟨k1,m1⟩:=a0e.Pf h k m;have n4:bx+1∉C1.l:=a0e.mx.cr (a0e.ro _ ay);obtain⟨k2,m2⟩:=yQ h a0e.at_ k1 m1 n4 f;have n2:bx∉C1.l:=a0e.mx.cr (a0e.ro _ ay);have n5:bx+1+1+1∉C1.l:=a0e.mx.cr (a0e.ro _ ay);have c2:=(a0e.b2.aG k.f n2).aG f ay;have c5:=(a0e.b5.aG k.f n5).aG f jz;obtain⟨cs,zB,-,h6⟩:=a0e.rb;have cr:=(zB.aG k.f a0e.nc).aG f ay;have td:=(a0e.td.aG k.f (λb X=>(a0e.tn b (aU.2 X)).1)).aG f (λb X=>by simp;exact(a0e.tn b (aU.2 X)).2.1);have ac5:∀b,b∈vb tv->b<w9.heap.size:=by
  intro b X;rcases td.val with⟨e,-⟩|⟨b',cap,e,-,-,hl⟩
  ·rw[e]at X;simp[vb,Value.ownBlock]at X
  ·rw[e]at X;simp[vb,Value.ownBlock]at X;subst X;exact hl
 have m3:Mx w9 C1 (bx::(bx+1)::(bx+1+1+1)::RO) K p c s1 t2 vU (UI (bx+1+1)):=m2.less (λb X=>by
  simp only[fh]at X;rcases X with rfl|rfl|rfl|X
  ·exact .inr ⟨c2.lt,n2⟩
  ·exact .inr ⟨b4.lt,n4⟩
  ·exact .inr ⟨c5.lt,n5⟩
  ·exact .inl X) (λb X=>by simp[X])
 rw[<-a0e.mb]at c2;refine(af5 m3 cr h6 a0e.nc c2 c5 b4 ay ay).mono ?_;rintro e u' w' ⟨rfl,rfl,C3,wz,k3,m4,kf,kb⟩;have m5:=m4.abD (RO:=RO) (λb X=>by simp[X]) h.m.prog.ro;have n43:bx+1∉C3.l:=m4.cr ay;obtain⟨k4,m6⟩:=yQ h a0e.at_ (k2.trans k3) m5 n43 kf;refine⟨rfl,rfl,C3,k4,m6,kb,(td.aG k3.f (λb X=>(a0e.tn b (aU.2 X)).1)).aG kf (λb X=>by simp;exact(a0e.tn b (aU.2 X)).2.1),λb X=>⟨λhc=>?_,(a0e.tn b X).2.2⟩⟩;rcases k3.c b hc with hc|hc
 ·exact(a0e.tn b X).1 hc
 ·have:=ac5 b X;omega
end
def Over.rH{tv x0 x1 x2:UL}{told:List Nat}{bY:Int}(a0e:Over w wr bx C C1 pS K p c s1 t used tv told bY x0 x1 x2)(o:Nat)(v:UL)(X:(iJ K C1 p c s1.total t used (UI (bx+1+1))).setIfInBounds o v=iJ K C1 p c s1.total t' used' (UI (bx+1+1))):
 Over w (wr.setCell (G C.mb o) v) bx C C1 pS K p c s1 t' used' tv told bY x0 x1 x2:=by
 obtain⟨k,m⟩:=a0e.mx.rH o v X;rw[a0e.mb]at k m;obtain⟨cs,q1,q2,q3⟩:=a0e.rb;exact⟨a0e.at_,a0e.mb,m,a0e.ro,a0e.b2.aG k.f (a0e.mx.cr (a0e.ro _ ay)),a0e.b4.aG k.f (a0e.mx.cr (a0e.ro _ ay)),a0e.b5.aG k.f (a0e.mx.cr (a0e.ro _ ay)),⟨cs,q1.aG k.f a0e.nc,q2,q3⟩,a0e.nc,
  a0e.td.aG k.f (λb X=>(a0e.tn b (aU.2 X)).1),a0e.tn,a0e.Cz.trans (Kept.dn (RO:=Ma.rest w C) k.f (λb X=>a0e.mx.cr (a0e.ro b (by simp[X]))) (λb X=>a0e.mx.sep.dO b (a0e.ro b (by simp[X])))) (λb X=>X)⟩
def Over.draw{tv x0 x1 x2:UL}{told:List Nat}{bY:Int}(a0e:Over w wr bx C C1 pS K p c s1 t used tv told bY x0 x1 x2)(n:Nat):Over w (wr.drewN n) bx C C1 pS K p c s1 t used tv told bY x0 x1 x2:=by
 obtain⟨cs,q1,q2,q3⟩:=a0e.rb;have b:=az wr.heap.size wr n;exact⟨a0e.at_,a0e.mb,a0e.mx.drewN n,a0e.ro,a0e.b2.drewN n,a0e.b4.drewN n,a0e.b5.drewN n,⟨cs,q1.drewN n,q2,q3⟩,a0e.nc,
  a0e.td.aG (aA.af (S:=[]) b) ay,a0e.tn,a0e.Cz.trans (Kept.af b (λb X=>a0e.mx.sep.dO b (a0e.ro b (by simp[X])))) (λb X=>X)⟩
def ZN{p:Prop}(h:p:=by
 go_enter func63,ntmps63;go_wp2;exact bK (results_tmp rfl _ _ _) rfl ⟨rfl,rfl⟩):p:=h
def ac4(w:UK):Calls prog 63 #[Pl] w (λe w'=>e=C8 Pl/\w=w'):=by exact ZN
def agp(w:UK){b n cap:Nat}(h:n<=cap):Calls prog 63 #[to (H (G b 0)) n cap] w (λe w'=>e=C8 (to (H (G b 0)) n n)/\w=w'):=by exact ZN
end
section
variable {w w' wr:UK}{C C' C1:Co}{U U':Ru}{RO RO' pS:List Nat}{K:Kc}{p:aQ}{c:Cp}{t t':dZ}{used used':Int}{hv hv':UL}{jv kT:Nat->UL}{s s' s0 s1:St}{t0:dZ}{Bb:Int}{r r':Rn}{rv rv':UL}{mb rb bx:Nat}{T:Map}{st:Std}
def zY.setAt{key:Nat}{a:Int}(h:zY w wr bx C K p c s t used key a (.pointer K7))(a':Int):zY w (wr.setCell (G (bx+1+1) 1) (Y a')) bx C K p c s t used key a' (.pointer K7):=by have F:aA [bx+1+1] wr (wr.setCell (G (bx+1+1) 1) (Y a')):=(aA.refl _ wr).setCell ay _;refine⟨h.at_,h.mx.aG F (λb X hc=>by simp at hc;subst hc;exact h.nc X) (λb X hc=>by rw[List.mem_singleton]at hc;subst hc;exact h.no X),h.b2.aG F jz,h.b4.aG F ay,h.b5.aG F ay,h.rb.set 1 _,h.nc,h.no,h.Cz.trans (Kept.dn (RO:=Ma.rest w C) F (λb X hc=>by rw[List.mem_singleton]at hc;subst hc;exact h.no (by simp[X])) (λb X=>h.mx.sep.dO b (by simp[X]))) (λb X=>X)⟩
def Qj(h:Mx w C RO K p c s t used rv):Calls prog 28 #[UI C.mb] w (λe w'=>e=C8 (Y used)/\w=w'):=by have m17:UJ w (G C.mb 17)=H (Y used):=h.m.bg.cell 17;clear h;go_enter func28,ntmps28;go_wp2;exact Tw
def Uk(t:dZ):UL:= .agg #[Y t.xX,Y t.mW,Y t.Ga,Y t.qG]
def ab0(h:Mx w C RO K p c s t used rv):Calls prog 29 #[UI C.mb] w (λe w'=>e=C8 (Uk t)/\Below w.heap.size w w'):=by have m13:UJ w (G C.mb 13)=H (Y t.xX):=h.m.bg.cell 13;have m14:UJ w (G C.mb 14)=H (Y t.mW):=h.m.bg.cell 14;have m15:UJ w (G C.mb 15)=H (Y t.Ga):=h.m.bg.cell 15;have m16:UJ w (G C.mb 16)=H (Y t.qG):=h.m.bg.cell 16;have lm:=h.m.bg.lt;clear h;unfold Uk;go_enter func29,ntmps29;go_wp2;exact bK (v:= .agg #[Y t.xX,Y t.mW,Y t.Ga,Y t.qG]) (by simp[results,results29,go_sem]) rfl ⟨rfl,(aB _ _).alloc (aL _) _⟩
end
end Go.Ma
section
def qX8{p:Prop}(h:p:=by
 rw[bk h1,aw h2];cases X:(lv q).ownBlock with
 |none=>exact .inl rfl
 |some b=>
  right;intro e;have:=(h.q q h1).i_ b X;have:=hn b e.symm;omega):p:=h
def qX9{p:Prop}(h:p:=by
 rw[aw h1,bk h2];cases X:ev.ownBlock with
 |none=>exact .inl rfl
 |some b=>
  right;intro e;have:=(h.q q' h2).i_ b e.symm;have:=hn b X;omega):p:=h
namespace aj.Vm
open Go
structure PE where
 key:Nat
 aS:List Int
 deriving DecidableEq
structure PS where
 aK:List (List PE)
 vars:List Int
 deriving DecidableEq
def tY(p:aQ)(e:eU):PE:=⟨e.key,(List.range p.aS.length).map e.tg⟩
def nz(p:aQ)(s:St)(q:Nat):List PE:=(s.a.ls q).map λn=>tY p (s.a.val n)
def nA(p:aQ)(s:St):PS:=⟨(List.range p.bw.length).map (nz p s),(List.range p.vars.length).map s.vars⟩
def jL{α:Type}(f:Nat->α){n i:Nat}(d:α)(h:i<n):((List.range n).map f).getD i d=f i:=by simp[List.getD,h]
def vu(lo hi:Nat)(v:UL):Prop:=∀b,v.ownBlock=H b->lo<=b/\b<hi
def vu.nil(lo hi:Nat):vu lo hi Pl:=λb X=>by simp[Value.ownBlock]at X
def vu.mono{lo hi tZ hi':Nat}{v:UL}(h:vu lo hi v)(h1:tZ<=lo)(h2:hi<=hi'):vu tZ hi' v:=λb X=>by have:=h b X;omega
def oF(w:UK)(lo hi:Nat)(Es:List TypeId)(S:List Nat):Prop:=∀b,b∈S->(b<lo\/hi<=b)\/(∃E cs,aF w b E cs/\E∉Es)\/∃o:Obj,w.heap[b]? =H o/\o.isCells=false
def oF.nil(w:UK)(lo hi:Nat)(Es:List TypeId):oF w lo hi Es []:=λb X=>by simp at X
def oF.sub{w:UK}{lo hi:Nat}{Es Fs:List TypeId}{S:List Nat}(h:oF w lo hi Es S)(hs:∀e,e∈Fs->e∈Es):oF w lo hi Fs S:=λb X=>by
 rcases h b X with h|⟨E,cs,h1,h2⟩|h
 ·exact .inl h
 ·exact .inr (.inl ⟨E,cs,h1,λhc=>h2 (hs _ hc)⟩)
 ·exact .inr (.inr h)
def oF.range{w:UK}{lo hi:Nat}{Es:List TypeId}{S:List Nat}(h:∀b,b∈S->b<lo\/hi<=b):oF w lo hi Es S:=λb X=> .inl (h b X)
def Row.Tf{w:UK}{e:TypeId}{size n:Nat}{v:UL}{g:Nat->UL}(h:Row w e size v n g){b:Nat}(X:v.ownBlock= .some b):∃cs,aF w b e cs:=by
 rcases h.2 with⟨rfl,_⟩|⟨b',cap,zF,rfl,_,hg,_⟩
 ·simp[Value.ownBlock]at X
 ·simp[Value.ownBlock]at X;subst X;exact⟨zF,hg⟩
def oF.row{w:UK}{lo hi:Nat}{Es:List TypeId}{S:List Nat}(k:oF w lo hi Es S){e:TypeId}{size n:Nat}{v:UL}{g:Nat->UL}(h:Row w e size v n g)(he:e∈Es)(hi':vu lo hi v){b:Nat}(X:v.ownBlock=H b):b∉S:=by
 intro hc;obtain⟨cs,h1⟩:=h.Tf X;rcases k b hc with h2|⟨E,cs',h2,h3⟩|⟨o,h2,h3⟩
 ·have:=hi' b X;omega
 ·unfold aF at h1 h2;rw[h1]at h2;simp at h2;exact h3 (h2.2▸he)
 ·unfold aF at h1;rw[h1]at h2;cases h2;simp[Obj.isCells]at h3
end aj.Vm
namespace Go.Ma
open eB (bS bL eN)
open Ix (cX)
def Row.off{w w':UK}{e:TypeId}{size n:Nat}{v:UL}{g:Nat->UL}{lo hi:Nat}{Es:List TypeId}{S:List Nat}(h:Row w e size v n g)(hi':vu lo hi v)(he:e∈Es)(f:aA S w w')(k:oF w lo hi Es S):Row w' e size v n g:=
 h.aG f λb X=>k.row h he hi' X
def uX:List TypeId:=[3]
def LZ:List TypeId:=[62,3]
def tQs:List TypeId:=[60,62,3]
structure eS(w:UK)(lo hi:Nat)(v:UL)(l:List Int):Prop where
 row:Row w 3 1 v l.length (aX l)
 i_:vu lo hi v
def eS.off{w w':UK}{lo hi:Nat}{v:UL}{l:List Int}{S:List Nat}(h:eS w lo hi v l)(f:aA S w w')(k:oF w lo hi uX S):eS w' lo hi v l:=⟨Row.off h.row h.i_ (by simp[uX]) f k,h.i_⟩
def eS.mono{w:UK}{lo hi tZ hi':Nat}{v:UL}{l:List Int}(h:eS w lo hi v l)(h1:tZ<=lo)(h2:hi<=hi'):eS w tZ hi' v l:=⟨h.row,h.i_.mono h1 h2⟩
def RE(l:List PE)(tv:Nat->UL)(o:Nat):UL:=if o % 2=0 then .int .u64 (l.getD (o / 2) ⟨0,[]⟩).key else tv (o / 2)
structure kJ(w:UK)(lo hi:Nat)(v:UL)(l:List PE)(tv:Nat->UL):Prop where
 row:Row w 62 2 v l.length (RE l tv)
 i_:vu lo hi v
 aS:∀i,i<l.length->eS w lo hi (tv i) (l.getD i ⟨0,[]⟩).aS
def kJ.off{w w':UK}{lo hi:Nat}{v:UL}{l:List PE}{tv:Nat->UL}{S:List Nat}(h:kJ w lo hi v l tv)(f:aA S w w')(k:oF w lo hi LZ S):kJ w' lo hi v l tv:=
 ⟨Row.off h.row h.i_ (by simp[LZ]) f k,h.i_,λi hi=>(h.aS i hi).off f (k.sub (by simp[uX,LZ]))⟩
def kJ.mono{w:UK}{lo hi tZ hi':Nat}{v:UL}{l:List PE}{tv:Nat->UL}(h:kJ w lo hi v l tv)(h1:tZ<=lo)(h2:hi<=hi'):kJ w tZ hi' v l tv:=⟨h.row,h.i_.mono h1 h2,λi hi=>(h.aS i hi).mono h1 h2⟩
structure uY(w:UK)(lo hi:Nat)(v:UL)(L:List (List PE))(lv:Nat->UL)(tv:Nat->Nat->UL):Prop where
 row:Row w 60 1 v L.length lv
 i_:vu lo hi v
 q:∀q,q<L.length->kJ w lo hi (lv q) (L.getD q []) (tv q)
 sep:∀q q',q<L.length->q'<L.length->q≠q'->(lv q).ownBlock=K7\/(lv q).ownBlock≠(lv q').ownBlock
def uY.off{w w':UK}{lo hi:Nat}{v:UL}{L:List (List PE)}{lv:Nat->UL}{tv:Nat->Nat->UL}{S:List Nat}(h:uY w lo hi v L lv tv)(f:aA S w w')(k:oF w lo hi tQs S):uY w' lo hi v L lv tv:=
 ⟨Row.off h.row h.i_ (by simp[tQs]) f k,h.i_,λq hq=>(h.q q hq).off f (k.sub (by simp[tQs,LZ])),h.sep⟩
def uY.mono{w:UK}{lo hi tZ hi':Nat}{v:UL}{L:List (List PE)}{lv:Nat->UL}{tv:Nat->Nat->UL}(h:uY w lo hi v L lv tv)(h1:tZ<=lo)(h2:hi<=hi'):uY w tZ hi' v L lv tv:=
 ⟨h.row,h.i_.mono h1 h2,λq hq=>(h.q q hq).mono h1 h2,h.sep⟩
structure jM(w:UK)(lo hi:Nat)(qv vv:UL)(S:PS)(lv:Nat->UL)(tv:Nat->Nat->UL):Prop where
 qs:uY w lo hi qv S.aK lv tv
 vs:eS w lo hi vv S.vars
def jM.off{w w':UK}{lo hi:Nat}{qv vv:UL}{S:PS}{lv:Nat->UL}{tv:Nat->Nat->UL}{T:List Nat}(h:jM w lo hi qv vv S lv tv)(f:aA T w w')(k:oF w lo hi tQs T):jM w' lo hi qv vv S lv tv:=⟨h.qs.off f k,h.vs.off f (k.sub (by simp[tQs,uX]))⟩
def jM.mono{w:UK}{lo hi tZ hi':Nat}{qv vv:UL}{S:PS}{lv:Nat->UL}{tv:Nat->Nat->UL}(h:jM w lo hi qv vv S lv tv)(h1:tZ<=lo)(h2:hi<=hi'):jM w tZ hi' qv vv S lv tv:=⟨h.qs.mono h1 h2,h.vs.mono h1 h2⟩
def kJ.snoc{w w':UK}{lo hi:Nat}{v v':UL}{l:List PE}{tv:Nat->UL}(h:kJ w lo hi v l tv){x:PE}{xv:UL}(hx:eS w' lo w'.heap.size xv x.aS)(hle:hi<=w.heap.size){S:List Nat}(f:aA S w w')(hS:oF w lo hi uX S)
 (hr:Row w' 62 2 v' (l.length+1) (fY (l.length*2) (RE l tv) λj=>if j % 2=0 then .int .u64 x.key else xv)) (hv:vu lo w'.heap.size v'):kJ w' lo w'.heap.size v' (l++[x]) (λi=>if i<l.length then tv i else xv):=by
 refine⟨?_,hv,λi hi'=>?_⟩
 ·rw[qS,E0];refine hr.congr λo ho=>?_;unfold fY RE;by_cases h1:o<l.length*2
  ·have h2:o / 2<l.length:=O;rw[bk h1];dsimp only;rw[bk h2];have e:(l++[x]).getD (o / 2) ⟨0,[]⟩=l.getD (o / 2) ⟨0,[]⟩:=by simp[List.getD,DV,h2]
   rw[e]
  ·have h2:o / 2=l.length:=O;rw[aw h1];dsimp only;rw[h2,aw (Nat.lt_irrefl _)];have e:(l++[x]).getD l.length ⟨0,[]⟩=x:=by simp[List.getD]
   rw[e];by_cases h3:o % 2=0
   ·rw[bk h3,bk O]
   ·rw[aw h3,aw O]
 ·rw[qS,E0]at hi';by_cases h2:i<l.length
  ·rw[bk h2];have e:(l++[x]).getD i ⟨0,[]⟩=l.getD i ⟨0,[]⟩:=by simp[List.getD,DV,h2]
   rw[e];exact((h.aS i h2).off f hS).mono (aL _) (cU hle f.size)
  ·have h3:i=l.length:=O;subst h3;rw[aw (Nat.lt_irrefl _)];have e:(l++[x]).getD l.length ⟨0,[]⟩=x:=by simp[List.getD]
   rw[e];exact hx
def uY.snoc{w w':UK}{lo hi:Nat}{v v':UL}{L:List (List PE)}{lv:Nat->UL}{tv:Nat->Nat->UL}(h:uY w lo hi v L lv tv){l:List PE}{ev:UL}{te:Nat->UL}(he:kJ w' lo w'.heap.size ev l te)(hle:hi<=w.heap.size)
 {S:List Nat} (f:aA S w w') (hS:oF w lo hi LZ S) (hr:Row w' 60 1 v' (L.length+1) (fY (L.length*1) lv λ_=>ev)) (hv:vu lo w'.heap.size v') (hn:∀b,ev.ownBlock=H b->hi<=b):
 uY w' lo w'.heap.size v' (L++[l]) (λq=>if q<L.length then lv q else ev) (λq=>if q<L.length then tv q else te):=by
 have hlen:(L++[l]).length=L.length+1:=by simp
 have e1:∀q,q<L.length->(L++[l]).getD q []=L.getD q []:=λq hq=>by simp[List.getD,DV,hq]
 have e2:(L++[l]).getD L.length []=l:=by simp[List.getD]
 refine⟨?_,hv,λq hq=>?_,λq q' hq Q_ bm=>?_⟩
 ·rw[hlen];refine hr.congr λo ho=>?_;unfold fY;dsimp only;by_cases h1:o<L.length
  ·rw[bk O,bk h1]
  ·rw[aw O,aw h1]
 ·rw[hlen]at hq;by_cases h1:q<L.length
  ·rw[bk h1,bk h1,e1 q h1];exact((h.q q h1).off f hS).mono (aL _) (cU hle f.size)
  ·obtain rfl:q=L.length:=O;rw[aw h1,aw h1,e2];exact he
 ·rw[hlen]at hq Q_;by_cases h1:q<L.length
  ·by_cases h2:q'<L.length
   ·rw[bk h1,bk h2];exact h.sep q q' h1 h2 bm
   ·exact qX8
  ·by_cases h2:q'<L.length
   ·exact qX9
   ·omega
end Go.Ma
end
namespace Go.Vf
open Ma (dP ci aX vb)
def sJ(w:UK)(E:TypeId)(size n:Nat)(g:Nat->UL)(e:Ending)(w':UK):Prop:=
 ∃v',e=C8 v'/\Row w' E size v' n g/\Below w.heap.size w w'/\vu w.heap.size w'.heap.size v'
def ck:(prog.info? 3).map (λi=>(i.zero,i.size,i.bytes))=H (H (Y 0),1,8):=by kernel_rfl
def To{p:Prop}(h:p:=by
 go_wp2;go_ret;exact⟨_,rfl,Row.nil _ _ _ _,aB _ _,vu.nil _ _⟩):p:=h
def Tp{p:Prop}(h:p:=by
 intro j hj;obtain⟨e,c⟩:=HC.o j hj;obtain⟨dS,off,sp⟩:=a;dsimp only at e c;subst e;rw[Addr.add_lit];exact Lib.cell?_alloc_some _ c):p:=h
def Tq{p:Prop}(h:p:=by
 intro v' w1 bo hf hv;go_wp2;go_ret;have hB:Below w.heap.size w w1:=((aB _ w).alloc (aL _) _).trans (hf.below ay (by intro b X;simp[Value.ownBlock]at X;omega));refine⟨v',rfl,bo.congr λo ho=>by unfold fY;rw[aw O];congr 1,hB,λb X=>?_⟩;have hl:=(fE bo b X).2;rcases hv with h|h<;>rw[X]at h<;>simp[Value.ownBlock]at h<;>omega):p:=h
def mM{w:UK}{v:UL}{n:Nat}{g:Nat->UL}(h:aZ w 1 v n g)(X:n*8<=140737488355328)(h1:∀j,j<n*1->(g j).oneCell'=true):
 Calls prog 55 #[v] w (sJ w 3 1 n g):=by
 rcases h with⟨rfl,rfl⟩|⟨a,cap,rfl,pR,mZ,hc⟩
 ·have hq:∀(w:UK) (n' c':Nat),(binOp .eql 24 Pl (to K7 n' c')).run prog w= .ok (.bool true) w:=λw n' c'=>vX w _ _ K7 0 0 n' c' underlying24;go_enter func55,ntmps55;exact To
 ·have HC:=Z hc;have H1:=Z h1;have hm:n<=maxLen:=cU pR mZ;have HM:=Z hm;have HB:=Z X;have hq:∀(w:UK) (n' c':Nat),(binOp .eql 24 (to (H a) n cap) (to K7 n' c')).run prog w= .ok (.bool false) w:=λw n' c'=>vX w _ _ (H a) n cap n' c' underlying24;clear hc h1 X hm pR mZ;go_enter func55,ntmps55;go_wp2_with (at_builtin;refine bX rfl _ _ 24 rfl 3 underlying24 ck rfl bd _ 0 (λ_=> Y 0) rfl (Zi w #[] 0 (cK _) (cK _) ay) a n cap g rfl ?zZ ?Ut ?Da ?Ii ?_)
  case zZ=>exact Tp
  case Ut=>exact H1.o
  case Da=>rw[Nat.zero_add];exact HM.o
  case Ii=>rw[Nat.zero_add];exact HB.o
  exact Tq
def sK:(prog.info? 4).map (λi=>(i.zero,i.size,i.bytes))=H (H (.bool false),1,1):=by kernel_rfl
def af4{w:UK}{v:UL}{n:Nat}{g:Nat->UL}(h:aZ w 1 v n g)(X:n*1<=140737488355328)(h1:∀j,j<n*1->(g j).oneCell'=true):
 Calls prog 98 #[v] w (sJ w 4 1 n g):=by
 rcases h with⟨rfl,rfl⟩|⟨a,cap,rfl,pR,mZ,hc⟩
 ·have hq:∀(w:UK) (n' c':Nat),(binOp .eql 22 Pl (to K7 n' c')).run prog w= .ok (.bool true) w:=λw n' c'=>vX w _ _ K7 0 0 n' c' underlying22;go_enter func98,ntmps98;exact To
 ·have HC:=Z hc;have H1:=Z h1;have hm:n<=maxLen:=cU pR mZ;have HM:=Z hm;have HB:=Z X;have hq:∀(w:UK) (n' c':Nat),(binOp .eql 22 (to (H a) n cap) (to K7 n' c')).run prog w= .ok (.bool false) w:=λw n' c'=>vX w _ _ (H a) n cap n' c' underlying22;clear hc h1 X hm pR mZ;go_enter func98,ntmps98;go_wp2_with (at_builtin;refine bX rfl _ _ 22 rfl 4 underlying22 sK rfl bd _ 0 (λ_=> Y 0) rfl (Zi w #[] 0 (cK _) (cK _) ay) a n cap g rfl ?zZ ?Ut ?Da ?Ii ?_)
  case zZ=>exact Tp
  case Ut=>exact H1.o
  case Da=>rw[Nat.zero_add];exact HM.o
  case Ii=>rw[Nat.zero_add];exact HB.o
  exact Tq
def agE:(prog.info? 122).map (λi=>(i.zero,i.size,i.bytes))=H (H (.agg #[Y 0,Y 0,Y 0]),3,24):=by kernel_rfl
def agD{w:UK}{v:UL}{n:Nat}{g:Nat->UL}(h:aZ w 3 v n g)(X:n*24<=140737488355328)(h1:∀j,j<n*3->(g j).oneCell'=true):
 Calls prog 99 #[v] w (sJ w 122 3 n g):=by
 rcases h with⟨rfl,rfl⟩|⟨a,cap,rfl,pR,mZ,hc⟩
 ·have hq:∀(w:UK) (n' c':Nat),(binOp .eql 23 Pl (to K7 n' c')).run prog w= .ok (.bool true) w:=λw n' c'=>vX w _ _ K7 0 0 n' c' underlying23;go_enter func99,ntmps99;exact To
 ·have HC:=Z hc;have H1:=Z h1;have hm:n<=maxLen:=cU pR mZ;have HM:=Z hm;have HB:=Z X;have hq:∀(w:UK) (n' c':Nat),(binOp .eql 23 (to (H a) n cap) (to K7 n' c')).run prog w= .ok (.bool false) w:=λw n' c'=>vX w _ _ (H a) n cap n' c' underlying23;clear hc h1 X hm pR mZ;go_enter func99,ntmps99;go_wp2_with (at_builtin;refine bX rfl _ _ 23 rfl 122 underlying23 agE rfl bd _ 0 (λ_=> Y 0) rfl (Zi w #[] 0 (cK _) (cK _) ay) a n cap g rfl ?zZ ?Ut ?Da ?Ii ?_)
  case zZ=>exact Tp
  case Ut=>exact H1.o
  case Da=>rw[Nat.zero_add];exact HM.o
  case Ii=>rw[Nat.zero_add];exact HB.o
  exact Tq
def ago:(prog.info? 40).map (λi=>(i.zero,i.size,i.bytes))=H (H (.agg #[Y 0,Y 0,Y 0,Y 0,Y 0]),5,40):=by kernel_rfl
def agn{w:UK}{v:UL}{n:Nat}{g:Nat->UL}(h:aZ w 5 v n g)(X:n*40<=140737488355328)(h1:∀j,j<n*5->(g j).oneCell'=true):
 Calls prog 100 #[v] w (sJ w 40 5 n g):=by
 rcases h with⟨rfl,rfl⟩|⟨a,cap,rfl,pR,mZ,hc⟩
 ·have hq:∀(w:UK) (n' c':Nat),(binOp .eql 25 Pl (to K7 n' c')).run prog w= .ok (.bool true) w:=λw n' c'=>vX w _ _ K7 0 0 n' c' underlying25;go_enter func100,ntmps100;exact To
 ·have HC:=Z hc;have H1:=Z h1;have hm:n<=maxLen:=cU pR mZ;have HM:=Z hm;have HB:=Z X;have hq:∀(w:UK) (n' c':Nat),(binOp .eql 25 (to (H a) n cap) (to K7 n' c')).run prog w= .ok (.bool false) w:=λw n' c'=>vX w _ _ (H a) n cap n' c' underlying25;clear hc h1 X hm pR mZ;go_enter func100,ntmps100;go_wp2_with (at_builtin;refine bX rfl _ _ 25 rfl 40 underlying25 ago rfl bd _ 0 (λ_=> Y 0) rfl (Zi w #[] 0 (cK _) (cK _) ay) a n cap g rfl ?zZ ?Ut ?Da ?Ii ?_)
  case zZ=>exact Tp
  case Ut=>exact H1.o
  case Da=>rw[Nat.zero_add];exact HM.o
  case Ii=>rw[Nat.zero_add];exact HB.o
  exact Tq
end Go.Vf
namespace aj.Vm
open Go Go.RowKit aj
section
variable {P:Program}
def pa{ops:Array Oper}{rest:List Oper}{o:Oper}{a:Act}{w:UK}{Q:Exit->Act->UK->Prop}(Bz:o.guard=K7)(t:TypeId)(parts:Array (Nat×Operand))(ho:o.op= .build t parts)(vs:List (Nat×UL))(cells:Array UL)
 (hp:(parts.map λ(i,x)=>(i,a.eval x)).toList=vs) (X:P.built t vs=H cells) (h:wpList P ops Q rest (a.put o.dst (.agg cells)) w):wpList P ops Q (o::rest) a w:=
 wpList_plain Bz λ_ hK=>wp_build t parts ho (by rw[hp,X];rfl) (by rw[hp,X];exact hK _ _ h)
def agm{w:UK}{b:Nat}{T:TypeId}{CC cells:Array UL}(ty:TypeId)(X:aF w b T CC)(kw:CC.size=cells.size)(hi:(P.info? ty).map (·.size)=H cells.size)(h1:∀v∈cells.toList,v.oneCell'=true):
 ∃w',(storeVar ty (G b 0) (.agg cells)).run P w= .ok () w'/\aF w' b T cells/\aA [b] w w':=by
 have h:=run_storeCells_from (P:=P) b T cells.toList 0 CC w X (by simp[kw]) h1;have e:(CC.toList.take 0++cells.toList).toArray=cells:=by simp
 rw[e]at h;refine⟨w.setRow b cells,?_,setRow_heap w b CC cells T (0,0) X,⟨rfl,rfl,rfl,ay,λk _ hk=>setRow_other w b k cells (by simpa using hk)⟩⟩;cases hq:P.info? ty with
 |none=>simp[hq]at hi
 |some i=>
  have hs:cells.size=i.size:=by simp[hq]at hi;omega
  simp[storeVar,Go.sizeOf,typeInfo,hq,Value.cells,hs,h]
def uf{ops:Array Oper}{rest:List Oper}{op:Oper}{a:Act}{w:UK}{Q:Exit->Act->UK->Prop}(Bz:op.guard=K7)(ty:TypeId)(x y:Operand)(ho:op.op= .store ty x y)
 (b:Nat) {T:TypeId} {CC:Array UL} (cells:Array UL) (hx:a.eval x=UI b) (hy:a.eval y= .agg cells) (X:aF w b T CC) (kw:CC.size=cells.size) (hi:(P.info? ty).map (·.size)=H cells.size) (h1:∀v∈cells.toList,v.oneCell'=true)
 (h:∀w',aF w' b T cells->aA [b] w w'->wpList P ops Q rest (a.put op.dst undef) w'):wpList P ops Q (op::rest) a w:=
 wpList_plain Bz λK hK=>by obtain⟨w',hr,h2,h3⟩:=agm (P:=P) ty X kw hi h1;have:=hK _ _ (h w' h2 h3);unfold Oper.wp execOp;simp only[ho,hx,hy,Instr.storeAt,Instr.sureAddr,Sem.run_bind,Sem.run_pure,Result.andThen_ok,hr];exact this
end
end aj.Vm
namespace Go.Vf
open Ma (dP ci aX vb)
def sL(w:UK)(n lo hi:Int):Calls prog 241 #[Y n,Y lo,Y hi] w (λe w'=>e=C8 (.bool (aO n lo hi))/\w'=w):=by
 by_cases h1:lo<=n
 ·by_cases h2:n<=hi
  ·go_enter func241,ntmps241;go_wp2;go_ret;simp[aO,h1,h2]
  ·go_enter func241,ntmps241;go_wp2;go_ret;simp[aO,h1,h2]
 ·go_enter func241,ntmps241;go_wp2;go_ret;simp[aO,h1];omega
def Il:List (List Nat):=[[101,110,100],[110,117,109],[98,111,111,108],[118,97,114],[108,101,110],[99,97,112],[115,105,122,101],[116,111,116,97,108],[97,116],[116,97,103,120],[116,97,103,101,110,100],[109,105,110],[109,97,120],[110,101,103],[110,111,116],[109,117,108],[100,105,118],[97,100,100],[115,117,98],[101,113],[108,116],[108,101],[106,117,109,112],[101,108,115,101],[108,111,111,112],[116,117,114,110],[113,117,105,116],[97,103,97,105,110],[115,101,116],[109,97,114,107,120],[109,97,114,107,101,110,100],[105,110,115,101,114,116],[109,111,118,101],[102,111,114,103,101,116],[116,97,107,101],[103,105,118,101],[116,101,108,108],[108,111,111,115,101],[115,104,105,102,116],[115,112,105,108,108],[101,118,105,99,116],[100,114,111,112]]
def bytesOf(l:List Nat):ByteArray:=⟨(l.map UInt8.ofNat).toArray⟩
def vY(k:Nat):Nat:=[0,113,118,116,101,110,98,114,112].getD k 0
def ox(op:Nat):ByteArray:=bytesOf ((cC op).map vY)
def pd(j:Nat):UL:=if j % 2=0 then .string (bytesOf (Il.getD (j / 2) []))else .string (ox (j / 2))
def jq:Array UL:=((List.range 84).map pd).toArray
def ud:jq.size=84:=by simp[jq]
def yW{j:Nat}(h:j<84):jq[j]? =H (pd j):=by simp[jq,h]
def vZ:∀v∈jq.toList,v.oneCell'=true:=by intro v hv;simp only[jq,List.toList_toArray,List.mem_map]at hv;obtain⟨j,-,rfl⟩:=hv;unfold pd;split<;>rfl
def agl(w:UK)(op:Nat)(h2:op<42):Calls prog 239 #[Y op] w (λe w'=>(∃nm,e=C8 (.tuple #[.agg #[.string nm,.string (ox op)],.bool true]))/\Below w.heap.size w w'):=by
 go_enter func239,ntmps239;have e1:((op:Int)<0)=False:=by simp
 have e2:((42:Int)<=op)=False:=by simp;omega
 have hT:(prog.info? 314).map (λi=>i.size)=H jq.size:=by kernel_rfl
 go_wp2_with (first|refine pa rfl 314 _ rfl _ jq rfl (by as_aux_lemma=>kernel_rfl) ?_|refine uf rfl 314 _ _ rfl (w.heap.size+1) jq rfl rfl (aF.bR ay) (by rw[ud];rfl) hT vZ ?_);intro w' X hf;have hB:Below w.heap.size w w':=(((aB _ w).alloc (aL _) _).alloc ay _).trans (hf.below (by simp only[aM];omega) ay);have c1:UJ w' (G (w.heap.size+1) (op*2))=H (.string (bytesOf (Il.getD op []))):=by rw[X.cell,yW O];unfold pd;rw[bk O,show op*2 / 2=op by omega]
 generalize bytesOf (Il.getD op [])=nm at c1;have c2:UJ w' (G (w.heap.size+1) (op*2+1))=H (.string (ox op)):=by rw[X.cell,yW O];unfold pd;rw[aw O,show(op*2+1) / 2=op by omega]
 have dC:aF w' w.heap.size 266 #[.string ⟨#[]⟩,.string ⟨#[]⟩]:=((aF.new w _ _).alloc _).aG hf ay;obtain⟨d1,d2⟩:=dC.c2;have fz:=dC.frozen;have HB:=Z hB;have eF:=Z dC;clear X hf hB hT dC;go_wp2_with fail;have b9:=(eF.o.set 0 (.string nm)).set 1 (.string (ox op));have hB9:=(HB.o.setCell (p:=(G w.heap.size 0)) (aL _) (.string nm)).setCell (p:=(G w.heap.size 1)) (aL _) (.string (ox op));generalize(w'.setCell (G w.heap.size 0) (.string nm)).setCell (G w.heap.size 1) (.string (ox op))=W9 at*;obtain⟨i0,i1⟩:=b9.c2;refine bK (v:= .tuple #[.agg #[.string nm,.string (ox op)],.bool true]) ?_ rfl ⟨⟨_,rfl⟩,hB9⟩;simp[results,results239,go_sem,i0,i1]
def ZM{p:Prop}(h:p:=by
 go_wp2_with fail;have b9:=(eF.o.set 0 (.string ⟨#[]⟩)).set 1 (.string ⟨#[]⟩);have hB9:=(HB.o.setCell (p:=(G w.heap.size 0)) (aL _) (.string ⟨#[]⟩)).setCell (p:=(G w.heap.size 1)) (aL _) (.string ⟨#[]⟩);generalize(w'.setCell (G w.heap.size 0) (.string ⟨#[]⟩)).setCell (G w.heap.size 1) (.string ⟨#[]⟩)=W9 at*;obtain⟨i0,i1⟩:=b9.c2;refine bK (v:= .tuple #[.agg #[.string ⟨#[]⟩,.string ⟨#[]⟩],.bool false]) ?_ rfl ⟨rfl,hB9⟩;simp[results,results239,go_sem,i0,i1]):p:=h
def agk(w:UK)(op:Int)(h2:op<0\/42<=op):Calls prog 239 #[Y op] w (λe w'=>e=C8 (.tuple #[.agg #[.string ⟨#[]⟩,.string ⟨#[]⟩],.bool false])/\Below w.heap.size w w'):=by
 go_enter func239,ntmps239;have hT:(prog.info? 314).map (λi=>i.size)=H jq.size:=by kernel_rfl
 go_wp2_with (first|refine pa rfl 314 _ rfl _ jq rfl (by as_aux_lemma=>kernel_rfl) ?_|refine uf rfl 314 _ _ rfl (w.heap.size+1) jq rfl rfl (aF.bR ay) (by rw[ud];rfl) hT vZ ?_);intro w' X hf;have hB:Below w.heap.size w w':=(((aB _ w).alloc (aL _) _).alloc ay _).trans (hf.below (by simp only[aM];omega) ay);have dC:aF w' w.heap.size 266 #[.string ⟨#[]⟩,.string ⟨#[]⟩]:=((aF.new w _ _).alloc _).aG hf ay;obtain⟨d1,d2⟩:=dC.c2;have fz:=dC.frozen;have HB:=Z hB;have eF:=Z dC;clear X hf hB hT dC;rcases h2 with h2|h2
 ·exact ZM
 ·by_cases h3:op<0
  ·omega
  exact ZM
structure KpS(K:Kp)(p:aQ):Prop where
 g:∃a c,K.g=to a p.bw.length c/\p.bw.length<=c/\c<=maxLen
 v:∃a c,K.v=to a p.vars.length c/\p.vars.length<=c/\c<=maxLen
 t:∃a c,K.t=to a p.aS.length c/\p.aS.length<=c/\c<=maxLen
 o:∃a c,K.o=to a p.on.length c/\p.on.length<=c/\c<=maxLen
 c:∃a c,K.c=to a p.code.length c/\p.code.length<=c/\c<=maxLen
def fW.sl{w:UK}{K:Kp}{p:aQ}(h:fW w K p):KpS K p:=⟨h.g.val,h.v.val,h.t.val,h.o.val,h.cd.val⟩
def qV(n c:Nat)(h:n<=c)(hc:c<=maxLen):IntKind.i64.wrap ((n:Int) - 1)=(n:Int) - 1:=bJ _ (by unfold maxLen at hc;constructor<;>omega)
def JS{p:Prop}(h:p:=by
 go_enter func240,ntmps240;simp only[vY,List.getD_cons_zero,List.getD_cons_succ];exact Wx):p:=h
def JT{p:Prop}(h:p:=by
 go_enter func240,ntmps240;simp only[vY,List.getD_cons_zero,List.getD_cons_succ];go_wp2;go_quiet (fail);exact Wx):p:=h
def Wx{p:Prop}(h:p:=by
 go_wp2;go_ret2
 first|exact⟨by simp[jA,jB],hB _ _⟩|exact⟨by simp[jA,jB],(hB _ _).trans (az _ _ _)⟩):p:=h
def agC(w:UK){K:Kp}{p:aQ}(h:KpS K p)(k:Nat)(hk:1<=k/\k<=8):Calls prog 240 #[pV K p,.int .u8 (vY k)] w (λe w'=>e=C8 (.tuple #[Y (jA k),Y (jB p k)])/\Below w.heap.size w w'):=by
 obtain⟨⟨ga,gc,g1,g2,g3⟩,⟨va,vc,v1,v2,v3⟩,⟨ta,tc,t1,t2,t3⟩,⟨oa,oc,o1,o2,o3⟩,⟨ca,cc,c1,c2,c3⟩⟩:=h;unfold pV;rw[g1,v1,t1,o1,c1];have w1:=qV _ _ g2 g3;have w2:=qV _ _ v2 v3;have w3:=qV _ _ t2 t3;have w4:=qV _ _ c2 c3;clear g1 g2 g3 v1 v2 v3 t1 t2 t3 o1 o2 o3 c1 c2 c3;have e:k=1\/k=2\/k=3\/k=4\/k=5\/k=6\/k=7\/k=8:=O;have hB:=qq w;rcases e with rfl|rfl|rfl|rfl|rfl|rfl|rfl|rfl
 ·exact JT
 ·exact JT
 ·exact JT
 ·exact JS
 ·exact JS
 ·exact JS
 ·exact JS
 ·exact JT
section
variable {w:UK}{K:Kp}{p:aQ}
def fW.vr(h:fW w K p){i:Nat}(hi:i<p.vars.length):∃b off cap,K.v=to (H (G b off)) p.vars.length cap/\p.vars.length<=cap/\cap<=maxLen/\b<w.heap.size/\
 UJ w (G b (off+i*3))=H (Y (p.vars.getD i ⟨0,0,0⟩).init)/\UJ w (G b (off+i*3+1))=H (Y (p.vars.getD i ⟨0,0,0⟩).lo)/\UJ w (G b (off+i*3+2))=H (Y (p.vars.getD i ⟨0,0,0⟩).hi):=by
 obtain⟨b,off,cap,hv,h1,h2,X,hc⟩:=h.v.some O O;have key:∀k,k<3->UJ w (G b (off+i*3+k))=H (dP p (i*3+k)):=λk hk=>by rw[Nat.add_assoc];exact hc (i*3+k) O
 have hd:∀k,k<3->(i*3+k) / 3=i:=λk hk=>O;have hm:∀k,k<3->(i*3+k) % 3=k:=λk hk=>O;refine⟨b,off,cap,hv,h1,h2,X,(key 0 O).trans ?_,(key 1 O).trans ?_,(key 2 O).trans ?_⟩
 ·unfold dP;dsimp only;rw[hd 0 O,hm 0 O];rfl
 ·unfold dP;dsimp only;rw[hd 1 O,hm 1 O];rfl
 ·unfold dP;dsimp only;rw[hd 2 O,hm 2 O];rfl
def all_false{α:Type}{l:List α}{f:α->Bool}{i:Nat}{d:α}(hi:i<l.length)(h:f (l.getD i d)=false):l.all f=false:=by rw[List.all_eq_false];refine⟨l[i],jO hi,?_⟩;rw[aY,fq hi]at h;simpa using h
def all_true{α:Type}{l:List α}{f:α->Bool}{d:α}(h:∀i,i<l.length->f (l.getD i d)=true):l.all f=true:=by rw[qM];intro x hx;obtain⟨i,hi,rfl⟩:=yZ hx;have:=h i hi;rw[aY,fq hi]at this;simpa using this
def FrV(w:UK)(v:UL)(n i:Nat)(a:Act):Prop:=∃J:Nat->UL,a={tmps:=#[J 0,UI w.heap.size,J 2,J 3,J 4,J 5,J 6,J 7,J 8,J 9,J 10,J 11,J 12,J 13,J 14,J 15,J 16,J 17,J 18,J 19,J 20,J 21,J 22,J 23,J 24,J 25,J 26,J 27,J 28,J 29,J 30,J 31,J 32,J 33,J 34,J 35,J 36,J 37,J 38,J 39,J 40,v,Y n,Y i,J 44,J 45,J 46,J 47,J 48,J 49,J 50,J 51,J 52,J 53,J 54,J 55,J 56,J 57,J 58,J 59,J 60,J 61,J 62,J 63,J 64,J 65,J 66,J 67,J 68,J 69,J 70,J 71,J 72,J 73,J 74,J 75,J 76,J 77,J 78,J 79,J 80,J 81,J 82,J 83,J 84,J 85,J 86,J 87,J 88,J 89,J 90,J 91,J 92,J 93,J 94,J 95,J 96,J 97,J 98,J 99,J 100,J 101,J 102],defers:=[]}
def FrT(w:UK)(v:UL)(n i:Nat)(a:Act):Prop:=∃J:Nat->UL,a={tmps:=#[J 0,UI w.heap.size,J 2,J 3,J 4,J 5,J 6,J 7,J 8,J 9,J 10,J 11,J 12,J 13,J 14,J 15,J 16,J 17,J 18,J 19,J 20,J 21,J 22,J 23,J 24,J 25,J 26,J 27,J 28,J 29,J 30,J 31,J 32,J 33,J 34,J 35,J 36,J 37,J 38,J 39,J 40,J 41,J 42,J 43,J 44,J 45,J 46,J 47,J 48,J 49,J 50,J 51,J 52,J 53,J 54,J 55,J 56,J 57,J 58,J 59,J 60,J 61,J 62,J 63,J 64,J 65,J 66,J 67,J 68,J 69,J 70,v,Y n,Y i,J 74,J 75,J 76,J 77,J 78,J 79,J 80,J 81,J 82,J 83,J 84,J 85,J 86,J 87,J 88,J 89,J 90,J 91,J 92,J 93,J 94,J 95,J 96,J 97,J 98,J 99,J 100,J 101,J 102],defers:=[]}
def FrO(w:UK)(v:UL)(n i:Nat)(a:Act):Prop:=∃J:Nat->UL,a={tmps:=#[J 0,UI w.heap.size,J 2,J 3,J 4,J 5,J 6,J 7,J 8,J 9,J 10,J 11,J 12,J 13,J 14,J 15,J 16,J 17,J 18,J 19,J 20,J 21,J 22,J 23,J 24,J 25,J 26,J 27,J 28,J 29,J 30,J 31,J 32,J 33,J 34,J 35,J 36,J 37,J 38,J 39,J 40,J 41,J 42,J 43,J 44,J 45,J 46,J 47,J 48,J 49,J 50,J 51,J 52,J 53,J 54,J 55,J 56,J 57,J 58,J 59,J 60,J 61,J 62,J 63,J 64,J 65,J 66,J 67,J 68,J 69,J 70,J 71,J 72,J 73,J 74,J 75,J 76,J 77,J 78,J 79,J 80,J 81,v,Y n,Y i,J 85,J 86,J 87,J 88,J 89,J 90,J 91,J 92,J 93,J 94,J 95,J 96,J 97,J 98,J 99,J 100,J 101,J 102],defers:=[]}
def iw(K:Kp)(p:aQ):Array UL:=#[K.g,K.v,K.t,K.o,Y p.aT,K.c]
def Ps(w:UK)(K:Kp)(p:aQ)(v:UL)(m:Nat)(a:Act)(W:UK):Prop:=
 ∃i,i<=p.vars.length/\m+i=p.vars.length+1/\FrV w v p.vars.length i a/\Below w.heap.size w W/\aF W w.heap.size 27 (iw K p)/\∀j,j<i->nV (p.vars.getD j ⟨0,0,0⟩)=true
def Pt(w:UK)(K:Kp)(p:aQ)(v:UL)(m:Nat)(a:Act)(W:UK):Prop:=
 ∃i,i<=p.aS.length/\m+i=p.aS.length+1/\FrT w v p.aS.length i a/\Below w.heap.size w W/\aF W w.heap.size 27 (iw K p)/\∀j,j<i->aO (p.aS.getD j 0) 1 255=true
def abJ(w:UK)(K:Kp)(p:aQ)(v:UL)(m:Nat)(a:Act)(W:UK):Prop:=
 ∃i,i<=p.bw.length/\m+i=p.bw.length+1/\FrO w v p.bw.length i a/\Below w.heap.size w W/\aF W w.heap.size 27 (iw K p)/\∀j,j<i->aO (p.on.getD j 0) (-1) ((p.code.length:Int) - 1)=true
def JU{p:Prop}(h:p:=by
 go_wp2;go_ret;exact⟨by rw[HF.o];rfl,JV.o.alloc JV.o.size _⟩):p:=h
def Pu{p:Prop}(h:p:=by
 go_wp2_with fail;refine sg.o.mono ?_;rintro e w' ⟨rfl,rfl⟩;go_wp2;go_ret;exact⟨by rw[HF.o];rfl,JV.o⟩):p:=h
def aeU(w:UK){K:Kp}{p:aQ}(h:fW w K p):Calls prog 238 #[pV K p] w (λe w'=>e=C8 (.bool (cm p))/\Below w.heap.size w w'):=by
 obtain⟨⟨ga,gc,g1,g2,g3⟩,⟨va,vc,v1,v2,v3⟩,⟨ta,tc,t1,t2,t3⟩,⟨oa,oc,o1,o2,o3⟩,⟨ca,cc,c1,c2,c3⟩⟩:=h.sl;have hB:=qq w;have HW:=Z (qV _ _ c2 c3);have a0f:=Z h;have Tv:aF (w.alloc (QP (iw K p) 27)) w.heap.size 27 (iw K p):=aF.new w _ _;obtain⟨kg,kv,kt,ko,kc⟩:=K;dsimp only at g1 v1 t1 o1 c1;subst g1 v1 t1 o1 c1;unfold pV;unfold iw at Tv;have nG:=Z Tv;have m3:=Z v3;have m4:=Z t3;have m5:=Z o3;clear h g2 g3 v2 v3 t2 t3 o2 o3 c2 c3 Tv;by_cases h1:p.bw.length<=16
 case neg=>go_enter func238,ntmps238;go_wp2;go_ret;exact⟨by simp[cm,h1],hB _ _⟩
 by_cases h2:p.vars.length<=16
 case neg=>go_enter func238,ntmps238;go_wp2;go_ret;exact⟨by simp[cm,h2],hB _ _⟩
 by_cases h3:p.aS.length<=4
 case neg=>go_enter func238,ntmps238;go_wp2;go_ret;exact⟨by simp[cm,h3],hB _ _⟩
 by_cases h4:p.on.length=p.bw.length
 case neg=>go_enter func238,ntmps238;go_wp2;go_ret;exact⟨by simp[cm,h4],hB _ _⟩
 by_cases h5:p.code.length<=262144
 case neg=>go_enter func238,ntmps238;go_wp2;go_ret;exact⟨by simp[cm,h5],hB _ _⟩
 go_enter func238,ntmps238;go_wp2_with fail;simp only[h4]at a0f nG;refine Mk.aN (Ps w ⟨to ga p.bw.length gc,to va p.vars.length vc,to ta p.aS.length tc,to oa p.bw.length oc,to ca p.code.length cc⟩ p (to va p.vars.length vc)) (p.vars.length+1) ?start ?zero ?round
 case start=>exact⟨0,cK _,O,qi rfl,hB _ _,nG.o,λj hj=>absurd hj O⟩
 case zero=>exact λa W hh=>by obtain⟨q,h1,h2,_⟩:=hh;omega
 clear nG
 case round=>
  rintro m a W ⟨i,hi,hm,⟨J,rfl⟩,X,hk,f_⟩;have HA:=Z f_;by_cases be:i<p.vars.length
  ·obtain⟨b,off,cap,hv,q1,q2,wD,c0,c1,c2⟩:=(a0f.o.aG (aA.af X)).vr be;simp only[cM]at hv;obtain⟨rfl,-,rfl⟩:=hv;have fin:∀r,nV (p.vars.getD i ⟨0,0,0⟩)=r->(r=false->cm p=false):=λr e hr=>by subst hr;have:=all_false be e;simp[cm,this]
   generalize hx:p.vars.getD i ⟨0,0,0⟩=x at*;have HX:=Z hx;have JV:=Z X;have HK:=Z hk;have q1':=Z q1;clear f_ hx hk q1 q2;have Nh:nV x=(decide (x.lo<=x.init)&&decide (x.init<=x.hi)&&decide (-1073741824<=x.lo)&&decide (x.hi<=1073741824)):=rfl;by_cases k1:x.lo<=x.init
   case neg=>have HF:=Z (fin false (by simp[Nh,k1]) rfl);clear fin Nh;exact JU
   by_cases k2:x.init<=x.hi
   case neg=>have HF:=Z (fin false (by simp[Nh,k2]) rfl);clear fin Nh;exact JU
   by_cases k3: -1073741824<=x.lo
   case neg=>have HF:=Z (fin false (by simp[Nh,k3]) rfl);clear fin Nh;exact JU
   by_cases k4:x.hi<=1073741824
   case neg=>have HF:=Z (fin false (by simp[Nh,k4]) rfl);clear fin Nh;exact JU
   go_wp2;refine⟨i+1,O,O,qi rfl,JV.o.alloc JV.o.size _,HK.o.alloc _,λj hj=>?_⟩;by_cases e:j=i
   ·subst e;rw[HX.o,Nh];simp[k1,k2,k3,k4]
   ·exact HA.o j O
  ·obtain rfl:i=p.vars.length:=O;have x2:UJ W (G w.heap.size 2)=H (to ta p.aS.length tc):=hk.cell 2;have lx:=hk.lt;have JV:=Z X;have HK:=Z hk;have OG:=Z (all_true HA.o);clear f_ hk X;go_wp2;refine Mk.aN (Pt w ⟨to ga p.bw.length gc,to va p.vars.length vc,to ta p.aS.length tc,to oa p.bw.length oc,to ca p.code.length cc⟩ p (to ta p.aS.length tc)) (p.aS.length+1) ?yX ?E8 ?yY
   case yX=>exact⟨0,cK _,O,qi rfl,JV.o,HK.o,λj hj=>absurd hj O⟩
   case E8=>exact λa W hh=>by obtain⟨q,h1,h2,_⟩:=hh;omega
   clear HK JV x2 lx
   case yY=>
    rintro m2 a2 W2 ⟨i,vG,rD,⟨J2,rfl⟩,X,hk,f_⟩;have HA2:=Z f_;have JV:=Z X;have HK:=Z hk;by_cases pZ:i<p.aS.length
    ·obtain⟨b,off,cap,hv,q1,q2,wD,hc⟩:=(a0f.o.aG (aA.af X)).t.some O O;simp only[cM]at hv;obtain⟨rfl,-,rfl⟩:=hv;have c0:UJ W2 (G b (off+i))=H (Y (p.aS.getD i 0)):=hc i O;generalize hx:p.aS.getD i 0=x at*;have HX:=Z hx;clear hc q1 q2 X hk f_ hx;cases hf:aO x 1 255 with
     |false=>
      have HF:=Z (show cm p=false by
       have:=all_false (f:=λt=>aO t 1 255) pZ (by rw[HX.o];exact hf);simp[cm,this])
      have sg:=Z (show Calls prog 241 #[Y x,Y 1,Y 255] W2 _ from hf▸sL W2 x 1 255);clear hf;exact Pu
     |true=>
      have sg:=Z (show Calls prog 241 #[Y x,Y 1,Y 255] W2 _ from hf▸sL W2 x 1 255);have lF:=Z hf;clear hf;go_wp2_with fail;refine sg.o.mono ?_;rintro e w' ⟨rfl,rfl⟩;go_wp2;refine⟨i+1,O,O,qi rfl,JV.o,HK.o,λj hj=>?_⟩;by_cases e:j=i
      ·subst e;rw[HX.o];exact lF.o
      ·exact HA2.o j O
    ·obtain rfl:i=p.aS.length:=O;have HTS:=Z (all_true (f:=λt=>aO t 1 255) HA2.o);have x3:UJ W2 (G w.heap.size 3)=H (to oa p.bw.length oc):=hk.cell 3;have lx:=hk.lt;clear X hk f_;go_wp2;refine Mk.aN (abJ w ⟨to ga p.bw.length gc,to va p.vars.length vc,to ta p.aS.length tc,to oa p.bw.length oc,to ca p.code.length cc⟩ p (to oa p.bw.length oc)) (p.bw.length+1) ?afP ?abK ?afO
     case afP=>exact⟨0,cK _,O,qi rfl,JV.o,HK.o,λj hj=>absurd hj O⟩
     case abK=>exact λa W hh=>by obtain⟨q,h1,h2,_⟩:=hh;omega
     clear HK JV x3 lx
     case afO=>
      rintro m3 a3 W3 ⟨i,MU,hm3,⟨J3,rfl⟩,X,hk,f_⟩;have Eo:=Z f_;have JV:=Z X;have HK:=Z hk;have y5:UJ W3 (G w.heap.size 5)=H (to ca p.code.length cc):=hk.cell 5;have y4:UJ W3 (G w.heap.size 4)=H (Y p.aT):=hk.cell 4;have lx:=hk.lt;have hws:=HW.o;by_cases ae3:i<p.bw.length
      ·obtain⟨b,off,cap,hv,q1,q2,wD,hc⟩:=(a0f.o.aG (aA.af X)).o.some O O;simp only[cM]at hv;obtain⟨rfl,-,rfl⟩:=hv;have c0:UJ W3 (G b (off+i))=H (Y (p.on.getD i 0)):=hc i O;generalize hx:p.on.getD i 0=x at*;have HX:=Z hx;clear hc q1 q2 X hk f_ hx y4;cases hf:aO x (-1) ((p.code.length:Int) - 1)with
       |false=>
        have HF:=Z (show cm p=false by
         have:=all_false (f:=λn=>aO n (-1) ((p.code.length:Int) - 1)) (l:=p.on) (i:=i) O (by rw[HX.o];exact hf);simp[cm,this])
        have sg:=Z (show Calls prog 241 #[Y x,Y (-1),Y ((p.code.length:Int) - 1)] W3 _ from hf▸sL W3 x (-1) ((p.code.length:Int) - 1));clear hf;exact Pu
       |true=>
        have sg:=Z (show Calls prog 241 #[Y x,Y (-1),Y ((p.code.length:Int) - 1)] W3 _ from hf▸sL W3 x (-1) ((p.code.length:Int) - 1));have lF:=Z hf;clear hf;go_wp2_with fail;refine sg.o.mono ?_;rintro e w' ⟨rfl,rfl⟩;go_wp2;refine⟨i+1,O,O,qi rfl,JV.o,HK.o,λj hj=>?_⟩;by_cases e:j=i
        ·subst e;rw[HX.o];exact lF.o
        ·exact Eo.o j O
      ·obtain rfl:i=p.bw.length:=O;have HOS:=Z (all_true (f:=λn=>aO n (-1) ((p.code.length:Int) - 1)) (l:=p.on) (d:=0) (λi hi=>Eo.o i O));have sg:=Z (sL W3 p.aT (-1) ((p.code.length:Int) - 1));have HF:=Z (show cm p=aO p.aT (-1) ((p.code.length:Int) - 1)by
        unfold cm;rw[OG.o,HTS.o,HOS.o];simp[h1,h2,h3,h4,h5])
       clear X hk f_;exact Pu
end
end Go.Vf
section
def lU{p:Prop}(h:p:=by
 go_wp2;go_ret;exact⟨by rw[HF.o];rfl,HB.o⟩):p:=h
namespace Go.Vf
open Ma (dP ci aX vb)
def FrC(w:UK)(v:UL)(n i:Nat)(a:Act):Prop:=∃J:Nat->UL,a={tmps:=#[J 0,UI w.heap.size,J 2,J 3,J 4,J 5,J 6,J 7,J 8,J 9,J 10,J 11,J 12,J 13,J 14,v,Y n,Y i,J 18,J 19,J 20,J 21,J 22,J 23,J 24,J 25,J 26,J 27,J 28,J 29,J 30,J 31,J 32,J 33,J 34,J 35,J 36,J 37,J 38,J 39,J 40,J 41,J 42,J 43,J 44,J 45,J 46,J 47,J 48,J 49,J 50,J 51,J 52,J 53,J 54,J 55,J 56,J 57,J 58,J 59,J 60,J 61,J 62,J 63,J 64],defers:=[]}
def FrD(w:UK)(v:UL)(n i ib sb j:Nat)(a:Act):Prop:=∃J:Nat->UL,a={tmps:=#[J 0,UI w.heap.size,J 2,J 3,UI ib,UI sb,J 6,J 7,J 8,J 9,J 10,J 11,J 12,J 13,J 14,v,Y n,Y i,J 18,J 19,J 20,J 21,J 22,J 23,J 24,J 25,J 26,J 27,J 28,J 29,J 30,J 31,J 32,J 33,J 34,J 35,J 36,to (H (G (sb+1) 0)) 4 4,Y 4,Y j,J 40,J 41,J 42,J 43,J 44,J 45,J 46,J 47,J 48,J 49,J 50,J 51,J 52,J 53,J 54,J 55,J 56,J 57,J 58,J 59,J 60,J 61,J 62,J 63,J 64],defers:=[]}
def nL(x:Ins)(j:Nat):Int:=(operands x).getD j 0
def dG(x:Ins)(j:Nat):Nat:=(cC x.op.toNat).getD j 0
def ue{p:aQ}{x:Ins}(h:∀j,j<4->br p (dG x j) (nL x j)=true):ir p x=true:=by unfold ir;have h0:=h 0 O;have h1:=h 1 O;have h2:=h 2 O;have h3:=h 3 O;simp only[dG,nL,operands,List.getD_cons_zero,List.getD_cons_succ]at h0 h1 h2 h3;rw[h0,h1,h2,h3];rfl
def pf{p:aQ}{x:Ins}{j:Nat}(hj:j<4)(h:br p (dG x j) (nL x j)=false):ir p x=false:=by unfold ir;have e:j=0\/j=1\/j=2\/j=3:=O;rcases e with rfl|rfl|rfl|rfl<;>simp only[dG,nL,operands,List.getD_cons_zero,List.getD_cons_succ]at h<;>rw[h]<;>simp
def afN:∀op,op<42->∀j,j<(cC op).length->1<=(cC op).getD j 0/\(cC op).getD j 0<=8:=by decide
def Be(op:Nat):(ox op).size=(cC op).length:=by simp[ox,bytesOf,ByteArray.size]
def JW:∀op,op<42->∀j,j<(cC op).length->((ox op).data.getD j 0).toNat=vY ((cC op).getD j 0):=by decide
def aeT(w:UK){n j:Nat}(hn:n<42)(hj:j<(cC n).length):(Instr.index 9 (.string (ox n)) (Y j)).run prog w= .ok (.int .u8 (vY ((cC n).getD j 0))) w:=by
 have hs:=Be n;have hi:0<=(j:Int)/\(j:Int)<((ox n).size:Int):=O;have h2:j<(ox n).size:=O;rw[run_index_string w _ _ _ _ underlying9,dif_pos hi];have h3:=JW n hn j hj;simp only[Int.toNat_natCast];have h4:(ox n).data.getD j 0=(ox n)[j]:=by simp only[oL];rw[tR (show j<(ox n).data.size from h2)];rfl
 rw[<-h3,h4]
def mE{p:aQ}{i:Nat}(hi:i<p.code.length):dH p (p.code.drop i)=if jH (al p i)then(if ir p (al p i)then dH p (p.code.drop (i+1))else 92)else 91:=by
 rw[qU hi];show(if _ then _ else _)=_;have e:al p i=p.code[i]:=by unfold al;rw[aY,fq hi];rfl
 rw[e]
def abL(w:UK)(K:Kp)(p:aQ)(m:Nat)(a:Act)(W:UK):Prop:=
 ∃i,i<=p.code.length/\m+i=p.code.length+1/\FrC w K.c p.code.length i a/\Hid (Below w.heap.size w W)/\Hid (aF W w.heap.size 27 (iw K p))/\Hid (dH p p.code=dH p (p.code.drop i))
def abM(w:UK)(K:Kp)(p:aQ)(i ib sb:Nat)(nm:ByteArray)(m:Nat)(a:Act)(W:UK):Prop:=
 ∃j,j<=4/\m+j=5/\FrD w K.c p.code.length i ib sb j a/\Hid (Below w.heap.size w W)/\Hid (aF W w.heap.size 27 (iw K p))/\
  Hid (aF W sb 266 #[.string nm,.string (ox (al p i).op.toNat)])/\Hid (aF W (sb+1) 3 #[Y (al p i).a,Y (al p i).b,Y (al p i).c,Y (al p i).d])/\Hid (∀j',j'<j->br p (dG (al p i) j') (nL (al p i) j')=true)
def CF(w:UK){K:Kp}{p:aQ}(h:fW w K p):Calls prog 172 #[pV K p] w (λe w'=>e=C8 (Y (bq p))/\Below w.heap.size w w'):=by
 obtain⟨⟨ga,gc,g1,g2,g3⟩,⟨va,vc,v1,v2,v3⟩,⟨ta,tc,t1,t2,t3⟩,⟨oa,oc,o1,o2,o3⟩,⟨ca,cc,c1,c2,c3⟩⟩:=h.sl;have a0f:=Z h;obtain⟨kg,kv,kt,ko,kc⟩:=K;dsimp only at g1 v1 t1 o1 c1;subst g1 v1 t1 o1 c1;have ep:Below w.heap.size w (w.alloc (QP (iw ⟨to ga p.bw.length gc,to va p.vars.length vc,to ta p.aS.length tc,to oa p.on.length oc,to ca p.code.length cc⟩ p) 27)):=(aB _ _).alloc (aL _) _;have eV:=Z ep;have Tv:aF (w.alloc (QP (iw ⟨to ga p.bw.length gc,to va p.vars.length vc,to ta p.aS.length tc,to oa p.on.length oc,to ca p.code.length cc⟩ p) 27)) w.heap.size 27 _:=aF.new w _ _;have nG:=Z Tv;have HC:=Z (aeU _ (h.aG (aA.af ep)));unfold pV at HC ⊢;unfold iw at eV nG HC;dsimp only at eV nG HC ⊢;clear h ep Tv g2 g3 v2 v3 t2 t3 o2 o3 c2 c3;cases hT:cm p with
 |false=>rw[hT]at HC;go_enter func172,ntmps172;go_wp2_with fail;refine HC.o.mono ?_;rintro e w' ⟨rfl,X⟩;have HB:=Z X;clear X;go_wp2;go_ret;exact⟨by simp[bq,hT],eV.o.trans (HB.o.mono ay)⟩
 |true=>
  rw[hT]at HC;have Px:=Z hT;have hcl:p.code.length<=262144:=by have:=hT;simp[cm]at this;omega
  clear hT;go_enter func172,ntmps172;go_wp2_with fail;refine HC.o.mono ?_;rintro e w' ⟨rfl,X⟩;have HB:=Z (eV.o.trans (X.mono ay));have kb:=nG.o.of (X.block _ ay);have k5:UJ w' (G w.heap.size 5)=H (to ca p.code.length cc):=kb.cell 5;have lw:=kb.lt;have SF:=Z kb;clear X kb eV nG HC;go_wp2;refine Mk.aN (abL w ⟨to ga p.bw.length gc,to va p.vars.length vc,to ta p.aS.length tc,to oa p.on.length oc,to ca p.code.length cc⟩ p) (p.code.length+1) ?start ?zero ?round
  case start=>exact⟨0,cK _,O,qi rfl,HB,SF,Z rfl⟩
  case zero=>exact λa W hh=>by obtain⟨q,h1,h2,_⟩:=hh;omega
  clear HB SF k5 lw w'
  case round=>
   rintro m a W ⟨i,hi,hm,⟨J,rfl⟩,HB,HK,HE⟩;by_cases be:i<p.code.length
   ·obtain⟨b,off,cap,hv,q1,q2,c0,c1,c2,c3,c4⟩:=(a0f.o.aG (aA.af HB.o)).ins be;simp only[cM]at hv;obtain⟨rfl,-,rfl⟩:=hv;have lN:=Z (mE be);clear q1 q2;by_cases dW:0<=(al p i).op/\(al p i).op<42
    ·obtain⟨n,hn⟩:=dz dW.1;have E_:n<42:=O;have Tx:(al p i).op.toNat=n:=O;have yv:jH (al p i)=true:=by unfold jH aO;simp;omega
     have YW:=Z (show dH p (p.code.drop i)=if ir p (al p i)then dH p (p.code.drop (i+1))else 92 by rw[lN.o,yv];rfl);have HS:=Z (λV=>agl V n E_);have tW:=Z Tx;have YX:=Z E_;rw[hn]at c0;have ae4:i<p.code.length:=be;clear dW lN yv hn Tx E_;go_wp2_with fail;refine(HS.o _).mono ?_;rintro e w' ⟨⟨nm,rfl⟩,X⟩;have fI:Below W.heap.size W w':=((aB _ W).alloc (aL _) _).trans (X.mono ay);have cR:=Z (HB.o.trans (fI.mono HB.o.size));have uw:=Z (HK.o.of (fI.block _ HK.o.lt));have kib:aF w' W.heap.size 40 #[Y n,Y (al p i).a,Y (al p i).b,Y (al p i).c,Y (al p i).d]:=(aF.new W _ _).of (X.block _ ay);obtain⟨-,d1,d2,d3,d4⟩:=kib.c5;have lw:=kib.lt;clear X fI kib c0 c1 c2 c3 c4;generalize W.heap.size=ib at*;go_wp2_with fail;clear HS d1 d2 d3 d4 lw HB HK;refine Mk.aN (abM w ⟨to ga p.bw.length gc,to va p.vars.length vc,to ta p.aS.length tc,to oa p.on.length oc,to (H (G b off)) p.code.length cc⟩ p i ib w'.heap.size nm) 5 ?yX ?E8 ?yY
     case yX=>exact⟨0,O,O,qi rfl,Z ((cR.o.alloc cR.o.size _).alloc (by simp only[aM];have:=cR.o.size;omega) _),Z ((uw.o.alloc _).alloc _),Z (by rw[tW.o];exact(aF.new w' _ _).alloc _),Z (aF.bR ay),Z (λj' h=>absurd h O)⟩
     case E8=>exact λa W hh=>by obtain⟨q,h1,h2,_⟩:=hh;omega
     clear cR uw;generalize w'.heap.size=sb;clear w'
     case yY=>
      rintro m2 a2 W2 ⟨j,hj,rD,⟨J2,rfl⟩,eF,nI,wL,YY,HA2⟩;by_cases hj4:j<4
      ·have d0:UJ W2 (G (sb+1) j)=H (Y (nL (al p i) j)):=by rw[YY.o.cell];have e:j=0\/j=1\/j=2\/j=3:=O;rcases e with rfl|rfl|rfl|rfl<;>rfl
       have e1:UJ W2 (G sb 1)=H (.string (ox n)):=by have h:=wL.o.cell 1;rw[tW.o]at h;exact h
       have ez:=Be n;by_cases hk:j<(cC n).length
       ·have Py:dG (al p i) j=(cC n).getD j 0:=by unfold dG;rw[tW.o]
        have wC:=afN n YX.o j hk;rw[<-Py]at wC;have Tn:=JW n YX.o j hk;rw[<-Py]at Tn;obtain⟨f0,f1,f2,f3,f4,f5⟩:=nI.o.c6;have C1:Hid (Calls prog 240 #[pV ⟨to ga p.bw.length gc,to va p.vars.length vc,to ta p.aS.length tc,to oa p.on.length oc,to (H (G b off)) p.code.length cc⟩ p,.int .u8 (vY (dG (al p i) j))] (W2.drewN 1) λe w3=>e=C8 (.tuple #[Y (jA (dG (al p i) j)),Y (jB p (dG (al p i) j))])/\
         (UJ w3 (G w.heap.size 0)=H (to ga p.bw.length gc)/\UJ w3 (G w.heap.size 1)=H (to va p.vars.length vc)/\UJ w3 (G w.heap.size 2)=H (to ta p.aS.length tc)/\UJ w3 (G w.heap.size 3)=H (to oa p.on.length oc)/\UJ w3 (G w.heap.size 4)=H (Y p.aT)/\UJ w3 (G w.heap.size 5)=H (to (H (G b off)) p.code.length cc)/\UJ w3 (G sb 1)=H (.string (ox n)))/\Hid (Below W2.heap.size W2 w3)):=by
         refine Z ((agC (W2.drewN 1) a0f.o.sl _ wC).mono ?_);rintro e w3 ⟨rfl,X⟩;have pz:Below W2.heap.size W2 w3:=(az _ W2 1).trans X;have l8:=nI.o.of (pz.block _ nI.o.lt);have Dq:=wL.o.of (pz.block _ wL.o.lt);rw[tW.o]at Dq;exact⟨rfl,⟨l8.cell 0,l8.cell 1,l8.cell 2,l8.cell 3,l8.cell 4,l8.cell 5,Dq.cell 1⟩,Z pz⟩
        have hix:∀V,(Instr.index 9 (.string (ox n)) (Y j)).run prog V= .ok (.int .u8 (vY (dG (al p i) j))) V:=λV=>by rw[Py];exact aeT V YX.o hk
        rw[<-ez]at hk;clear Tn Py wC ez;generalize ox n=ob at*;unfold pV at C1;dsimp only at C1;go_wp2
        go_region_held3 (λwx=>UJ wx (G w.heap.size 0)=H (to ga p.bw.length gc)/\UJ wx (G w.heap.size 1)=H (to va p.vars.length vc)/\UJ wx (G w.heap.size 2)=H (to ta p.aS.length tc)/\UJ wx (G w.heap.size 3)=H (to oa p.on.length oc)/\UJ wx (G w.heap.size 4)=H (Y p.aT)/\UJ wx (G w.heap.size 5)=H (to (H (G b off)) p.code.length cc)/\UJ wx (G sb 1)=H (.string ob)) (first|exact⟨f0,f1,f2,f3,f4,f5,e1⟩|assumption) (first|(go_at_call 240;refine C1.o.mono ?_;rintro e w3 ⟨rfl,ET,Rz⟩))
        have iy:=Z (eF.o.trans (Rz.o.mono eF.o.size));have Dw:=Z (nI.o.of (Rz.o.block _ nI.o.lt));have RF:=Z (wL.o.of (Rz.o.block _ wL.o.lt));have HI3:=Z (YY.o.of (Rz.o.block _ YY.o.lt));have zd:=Z (sL w3 (nL (al p i) j) (jA (dG (al p i) j)) (jB p (dG (al p i) j)));have Wg:aO (nL (al p i) j) (jA (dG (al p i) j)) (jB p (dG (al p i) j))=br p (dG (al p i) j) (nL (al p i) j):=rfl;rw[Wg]at zd;clear Wg Rz eF nI wL YY C1 hix f0 f1 f2 f3 f4 f5 e1 d0 ET;cases hf:br p (dG (al p i) j) (nL (al p i) j)with
        |false=>
         have HF:=Z (show bq p=92 by
          have h1:=HE.o;rw[YW.o,pf hj4 hf]at h1;simp[bq,Px.o,h1])
         have sg:=Z (zd.o.mono (λe w' h=>(show(e=Ending.returned (.bool false)/\w'=w3)from hf▸h)));clear hf zd;go_wp2_with fail;refine sg.o.mono ?_;rintro e w9 ⟨rfl,rfl⟩;go_wp2;go_ret;exact⟨by rw[HF.o];rfl,iy.o⟩
        |true=>
         have sg:=Z (zd.o.mono (λe w' h=>(show(e=Ending.returned (.bool true)/\w'=w3)from hf▸h)));have HF:=Z hf;clear hf zd;go_wp2_with fail;refine sg.o.mono ?_;rintro e w9 ⟨rfl,rfl⟩;go_wp2;refine⟨j+1,O,O,qi rfl,iy,Dw,RF,HI3,Z λj' hj'=>?_⟩;by_cases e:j'=j
         ·subst e;exact HF.o
         ·exact HA2.o j' O
       ·have Py:dG (al p i) j=0:=by unfold dG;rw[tW.o,aY,List.getElem?_eq_none O];rfl
        have zd:=Z (sL W2 (nL (al p i) j) 0 0);have Wg:aO (nL (al p i) j) 0 0=br p (dG (al p i) j) (nL (al p i) j):=by rw[Py];rfl
        rw[Wg]at zd;clear Wg Py;cases hf:br p (dG (al p i) j) (nL (al p i) j)with
        |false=>
         have HF:=Z (show bq p=92 by
          have h1:=HE.o;rw[YW.o,pf hj4 hf]at h1;simp[bq,Px.o,h1])
         have sg:=Z (zd.o.mono (λe w' h=>(show(e=Ending.returned (.bool false)/\w'=W2)from hf▸h)));clear hf zd;go_wp2_with fail;refine sg.o.mono ?_;rintro e w9 ⟨rfl,rfl⟩;go_wp2;go_ret;exact⟨by rw[HF.o];rfl,eF.o⟩
        |true=>
         have sg:=Z (zd.o.mono (λe w' h=>(show(e=Ending.returned (.bool true)/\w'=W2)from hf▸h)));have HF:=Z hf;clear hf zd;go_wp2_with fail;refine sg.o.mono ?_;rintro e w9 ⟨rfl,rfl⟩;go_wp2;refine⟨j+1,O,O,qi rfl,eF,nI,wL,YY,Z λj' hj'=>?_⟩;by_cases e:j'=j
         ·subst e;exact HF.o
         ·exact HA2.o j' O
      ·have Io:ir p (al p i)=true:=ue λj' hj'=>HA2.o j' O;have pX:=Z (show dH p p.code=dH p (p.code.drop (i+1))by rw[HE.o,YW.o,Io];rfl);clear Io;go_wp2;exact⟨i+1,O,O,qi rfl,eF,nI,pX⟩
    ·have HS:=Z (λV=>agk V (al p i).op O);have HF:=Z (show bq p=91 by
      have e:jH (al p i)=false:=by unfold jH aO;simp;omega
      have h1:=HE.o;rw[lN.o,e]at h1;simp[bq,Px.o,h1])
     clear dW lN;go_wp2_with fail;refine(HS.o _).mono ?_;rintro e w' ⟨rfl,X⟩;have cR:=Z (HB.o.trans (((aB _ W).alloc (aL _) _).trans (X.mono ay) |>.mono HB.o.size));clear X;go_wp2;go_ret;exact⟨by rw[HF.o];rfl,cR.o.alloc cR.o.size _⟩
   ·obtain rfl:i=p.code.length:=O;have HF:=Z (show bq p=0 by
     have h1:=HE.o;rw[List.drop_length]at h1;simp[bq,Px.o,h1,dH])
    exact lU
end Go.Vf
end
namespace Go.Vf
open Go.Shelf
def aeS:Go.Shelf.Ren:=⟨λ|264=>304|n=>n,λ|46=>256|53=>46|n=>n,λ|n=>n⟩
def aeR:Go.Proofs.Lays.n264 prog aeS:={
 mixed:=by kernel_rfl
 f264:=func304.trans (bu H bh)
 t46:=underlying256
 a46:=isAgg256
 z46:=sizeOf256
 v46:=zeroValue256
 t53:=underlying46
 a53:=isAgg46
 z53:=sizeOf46
 v53:=zeroValue46}
def aeP(x y:Nat)(hx:x<18446744073709551616)(hy:y<18446744073709551616)(w:UK):
 Calls prog 304 #[.int .u64 x,.int .u64 y] w λe w'=>e=C8 (.tuple #[.int .u64 ((x*y / 18446744073709551616:Nat):Int),.int .u64 ((x*y % 18446744073709551616:Nat):Int)])/\w'=w:=Proofs.Any.bits_Mul64 aeR x y hx hy w
def Pz(w:UK)(a b:Nat)(ha:a<=MS)(X:b<=MS):Calls prog 249 #[Y a,Y b] w λe w'=>e=C8 (Y (bG a b))/\w'=w:=by
 unfold MS at ha X;have w1:IntKind.i64.wrap (4611686018427387904 - (b:Int))=4611686018427387904 - (b:Int):=bJ _ lI;by_cases h:4611686018427387904-b<a
 ·have e:bG a b=4611686018427387904:=by unfold bG MS;rw[bk h]
  have h2:((4611686018427387904:Int) - b<a)=True:=by simp;omega
  rw[e];clear e h;go_enter func249,ntmps249;go_wp2;exact Tw
 ·have e:bG a b=a+b:=by unfold bG MS;rw[aw h]
  have h2:((4611686018427387904:Int) - b<a)=False:=by simp;omega
  have w2:IntKind.i64.wrap ((a:Int)+(b:Int))=((a+b:Nat):Int):=by rw[bJ _ lI];omega
  rw[e];clear e h;go_enter func249,ntmps249;go_wp2;go_ret;exact⟨ay,rfl⟩
def YZ{p:Prop}(h:p:=by
 go_enter func250,ntmps250;go_wp2_with fail;refine HM.o.mono ?_;rintro e w' ⟨rfl,rfl⟩;go_wp2;go_ret;exact⟨rfl,rfl⟩):p:=h
def afW(w:UK)(a b:Nat)(ha:a<=MS)(X:b<=MS):Calls prog 250 #[Y a,Y b] w λe w'=>e=C8 (Y (eM a b))/\w'=w:=by
 unfold MS at ha X;have HM:=Z (aeP a b O O w);have w1:IntKind.u64.wrap (a:Int)=a:=by rw[IntKind.wrap_u64];omega
 have w2:IntKind.u64.wrap (b:Int)=b:=by rw[IntKind.wrap_u64];omega
 generalize hx:a*b=x at*;have ht:eM a b=if x<=4611686018427387904 then x else 4611686018427387904:=by unfold eM MS;rw[hx]
 rw[ht];clear ht hx;by_cases h1:x / 18446744073709551616=0
 ·have e2:x % 18446744073709551616=x:=Nat.mod_eq_of_lt O;rw[h1,e2]at HM;by_cases h:x<=4611686018427387904
  ·rw[bk h];have w3:IntKind.i64.wrap (x:Int)=x:=bJ _ lI;have h3:((x:Int)<=4611686018427387904)=True:=by simp;omega
   clear h1 e2 h;exact YZ
  ·rw[aw h];have h3:((x:Int)<=4611686018427387904)=False:=by simp;omega
   clear h1 e2 h;exact YZ
 ·have h:¬x<=4611686018427387904:=O;rw[aw h];generalize x / 18446744073709551616=hi at*;clear h;exact YZ
end Go.Vf
namespace Go.Vf
open Ma (dP ci aX vb)
def cQ(th:Bool)(s:Std)(mv:UL):Array UL:=
 #[.bool th,.string (gE s.ty),Y (bI s.lo 0),Y (bI s.lo 1),Y (bI s.lo 2),Y (bI s.lo 3),Y (bI s.lo 4),Y (bI s.lo 5),Y (bI s.lo 6),Y (bI s.lo 7),Y s.lo.length,Y s.ha,mv]
def dY(th:Bool)(s:Std)(mv:UL):UL:= .agg (cQ th s mv)
def dx(w:UK)(mv:UL)(lo:List Nat):Prop:=aZ w 1 mv (lo.length-8) (λi=> Y (bI lo (8+i)))
def dx.aG{w w':UK}{mv:UL}{lo:List Nat}(h:dx w mv lo)(f:aA [] w w'):dx w' mv lo:=aZ.aG h f
def pH(lo:List Nat):Int:=match lo with|[]=> -1|t::_=>(t:Int)
def aeL{lo:List Nat}(h:0<lo.length):pH lo=(bI lo (lo.length-1):Nat):=by
 cases lo with
 |nil=>simp at h
 |cons t l=>show(t:Int)=_;rw[show(t::l).length-1=l.length by simp,Pm]
def Y5{p:Prop}(h:p:=by
 go_enter func300,ntmps300;go_wp2;go_ret;exact⟨rfl,hB _ _⟩):p:=h
def JX(w:UK){mv:UL}(th:Bool){s:Std}(h:dx w mv s.lo)(hl:s.lo.length<=4611686018427387904):Calls prog 300 #[dY th s mv] w (λe w'=>e=C8 (Y (pH s.lo))/\Below w.heap.size w w'):=by
 obtain⟨ty,lo,ha⟩:=s;dsimp only at h hl;obtain⟨ma,mc,rfl,m1,m2⟩:=aZ.val h;unfold dY cQ;dsimp only;have hB:=qq w;by_cases h0:lo.length=0
 ·have hi:pH lo= -1:=by have:=List.length_eq_zero_iff.1 h0;subst this;rfl
  rw[hi];generalize gE ty=tb;generalize bI lo=lc;clear h hi m1 m2;have h1:(lo.length=0)=True:=by simp[h0]
  exact Y5
 ·have hi:=aeL (lo:=lo) O;rw[hi];by_cases h8:lo.length<=8
  ·have e:lo.length=1\/lo.length=2\/lo.length=3\/lo.length=4\/lo.length=5\/lo.length=6\/lo.length=7\/lo.length=8:=O;generalize gE ty=tb;clear h hi m1 m2;generalize bI lo=lc;generalize lo.length=n at*;clear lo;rcases e with rfl|rfl|rfl|rfl|rfl|rfl|rfl|rfl
   all_goals
    exact Y5
  ·obtain⟨b,off,cap,hv,q1,q2,X,hc⟩:=aZ.some h O O;simp only[cM]at hv;obtain⟨rfl,-,rfl⟩:=hv;have c0:UJ w (G b (off+(lo.length-8-1)))=H (Y (bI lo (lo.length-1))):=by rw[hc (lo.length-8-1) O];congr 3;congr 1;omega
   have w1:IntKind.i64.wrap (((lo.length-8:Nat):Int) - 1)=((lo.length-8-1:Nat):Int):=by rw[bJ _ (by unfold maxLen at q2;constructor<;>omega)];omega
   have be:lo.length-8-1<lo.length-8:=O;generalize gE ty=tb;clear h hi hc;generalize bI lo=lc at*;generalize CG:lo.length-8=n8 at*;exact Y5
def pI(w:UK)(sv:UL)(th:Bool)(s:Std)(e:Ending)(w':UK):Prop:=∃mv,e=C8 (dY th s mv)/\dx w' mv s.lo/\Below w.heap.size w w'/\∀b,mv.ownBlock=H b->sv.ownBlock=H b\/w.heap.size<=b
def aZ.take{w:UK}{n m:Nat}{a:Option Addr}{c:Nat}{g:Nat->UL}(h:aZ w 1 (to a n c) n g)(hm:m<=n)(ha:∃x,a=Option.some x):aZ w 1 (to a m c) m g:=by
 obtain⟨x,rfl⟩:=ha;rcases h with⟨h,-⟩|⟨a',cap,hv,h1,h2,h3⟩
 ·simp at h
 ·simp only[cM,im]at hv;obtain⟨rfl,-,rfl⟩:=hv;exact .inr ⟨_,c,rfl,O,h2,λo ho=>h3 o O⟩
def aZ.zero{w:UK}{v:UL}{g g':Nat->UL}(h:aZ w 1 v 0 g):aZ w 1 v 0 g':=by
 rcases h with h|⟨a,cap,h,h1,h2,h3⟩
 ·exact .inl h
 ·exact .inr ⟨a,cap,h,h1,h2,λo ho=>absurd ho O⟩
def aZ.congr{w:UK}{v:UL}{n:Nat}{g g':Nat->UL}(h:aZ w 1 v n g)(e:∀o,o<n->g o=g' o):aZ w 1 v n g':=by
 rcases h with h|⟨a,cap,h,h1,h2,h3⟩
 ·exact .inl h
 ·exact .inr ⟨a,cap,h,h1,h2,λo ho=>⟨(h3 o ho).1,by rw[(h3 o ho).2,e o O]⟩⟩
def Bf(w:UK){mv:UL}(th:Bool){s:Std}(h:dx w mv s.lo)(h0:0<s.lo.length)(hl:s.lo.length<=4611686018427387904):Calls prog 301 #[dY th s mv] w (pI w mv th {s with lo:=s.lo.tail}):=by
 obtain⟨ty,lo,ha⟩:=s;dsimp only at h hl h0;obtain⟨ma,mc,rfl,m1,m2⟩:=aZ.val h;have a0f:=Z h;have be:lo.tail.length=lo.length-1:=by simp
 have PA:=Pn lo;by_cases h8:lo.length<=8
 ·have hm:dx w (to ma (lo.length-8) mc) lo.tail:=by have e:lo.length-8=0:=O;have e2:lo.tail.length-8=0:=O;unfold dx at h ⊢;rw[e]at h;rw[e2,e];exact aZ.zero h
  have HM:=Z hm;unfold dY cQ pI;dsimp only;unfold dY cQ;dsimp only;have e:lo.length=1\/lo.length=2\/lo.length=3\/lo.length=4\/lo.length=5\/lo.length=6\/lo.length=7\/lo.length=8:=O;have hB:=qq w;generalize gE ty=tb;rw[be];clear h hm m1 m2 a0f;simp only[PA];generalize bI lo=lc at*;rcases e with e|e|e|e|e|e|e|e
  all_goals
   simp only[e]at HM ⊢;clear PA be h0 hl h8;go_enter func301,ntmps301;go_wp2_with fail;refine bK ?_ rfl ⟨to ma 0 mc,rfl,HM.o.aG (aA.af ((hB _ _).alloc (by simp only[aM];omega) _)),(hB _ _).alloc (by simp only[aM];omega) _,λ_ X=> .inl (by simpa[Value.ownBlock]using X)⟩;simp[results,results301,go_sem]
 ·obtain⟨b,off,cap,hv,q1,q2,X,hc⟩:=aZ.some h O O;simp only[cM]at hv;obtain⟨rfl,-,rfl⟩:=hv;have hm:dx w (to (H (G b off)) (lo.length-8-1) mc) lo.tail:=by have h1:=aZ.take h (m:=lo.length-8-1) O ⟨_,rfl⟩;unfold dx;rw[show lo.tail.length-8=lo.length-8-1 by omega];refine h1.congr λo ho=>?_;rw[PA,aw O]
  have HM:=Z hm;unfold dY cQ pI;dsimp only;unfold dY cQ;dsimp only;have hB:=qq w;have w1:IntKind.i64.wrap (((lo.length-8:Nat):Int) - 1)=((lo.length-8-1:Nat):Int):=by rw[bJ _ (by unfold maxLen at q2;constructor<;>omega)];omega
  have w2:IntKind.i64.wrap ((lo.length:Int) - 1)=((lo.length-1:Nat):Int):=by rw[bJ _ lI];omega
  have h9:((lo.length-1:Nat)<8)=False:=by simp;omega
  have h7:lo.length-8-1<=mc:=O;generalize gE ty=tb;simp only[PA,be];have hn:∀k,k<8->(k+1=lo.length)=False:=λk hk=>by simp;omega
  rw[aw O,aw O,aw O,aw O,aw O,aw O,aw O,aw O];clear h hm hc a0f PA be hn;generalize bI lo=lc at*;generalize lo.length-8-1=n9 at*;generalize CG:lo.length-8=n8 at*;generalize xy:lo.length-1=n1 at*;generalize RY:lo.length=n0 at*;go_enter func301,ntmps301;go_wp2_with fail;refine bK ?_ rfl ⟨to (H (G b off)) n9 mc,rfl,HM.o.aG (aA.af ((hB _ _).alloc (by simp only[aM];omega) _)),(hB _ _).alloc (by simp only[aM];omega) _,λ_ X=> .inl X⟩;simp[results,results301,go_sem]
def FrE(v v2:UL)(n i:Nat)(a:Act):Prop:=∃J:Nat->UL,a={tmps:=#[v,v2,J 2,J 3,J 4,J 5,J 6,J 7,J 8,J 9,J 10,J 11,Y n,Y i,J 14,J 15,J 16,J 17,J 18,J 19,J 20,J 21,J 22,J 23,J 24,J 25],defers:=[]}
def JY(f:Nat->Int)(i:Nat):UL:=Y (f i)
def Ni(n n':Nat)(f f':Nat->Int):Bool:=decide (n=n'/\∀i,i<n->f i=f' i)
def abN(w:UK)(v v2:UL)(n:Nat)(f f':Nat->Int)(m:Nat)(a:Act)(W:UK):Prop:=
 ∃i,i<=n/\m+i=n+1/\FrE v v2 n i a/\Hid (Below w.heap.size w W)/\Hid (∀j,j<i->f j=f' j)
def aeK{w:UK}{v v2:UL}{n n':Nat}{f f':Nat->Int}(h:aZ w 1 v n (JY f))(h2:aZ w 1 v2 n' (JY f')):
 Calls prog 303 #[v,v2] w (λe w'=>e=C8 (.bool (Ni n n' f f'))/\Below w.heap.size w w'):=by
 obtain⟨a,c,rfl,q1,q2⟩:=h.val;obtain⟨a2,c2,rfl,p1,p2⟩:=h2.val;have a0f:=Z h;have H2:=Z h2;by_cases hn:n=n'
 case neg=>have HF:=Z (show Ni n n' f f'=false by simp[Ni,hn]);clear h h2;go_enter func303,ntmps303;go_wp2;go_ret;exact⟨by rw[HF.o];rfl,aB _ _⟩
 case pos=>
  subst hn;have hm:n<=9223372036854775807:=by unfold maxLen at q2;omega
  clear h h2;go_enter func303,ntmps303;go_wp2;refine Mk.aN (abN w (to a n c) (to a2 n c2) n f f') (n+1) ?start ?zero ?round
  case start=>exact⟨0,cK _,O,qi rfl,Z (aB _ _),Z (λj hj=>absurd hj O)⟩
  case zero=>exact λa W hh=>by obtain⟨q,h1,h2,_⟩:=hh;omega
  case round=>
   rintro m a0 W ⟨i,hi,rD,⟨J,rfl⟩,HB,HA⟩;by_cases be:i<n
   ·obtain⟨b,off,cap,hv,-,-,X,hc⟩:=(a0f.o.aG (aA.af HB.o)).some O O;simp only[cM]at hv;obtain⟨rfl,-,rfl⟩:=hv;obtain⟨b2,Ip,CH,hv,-,-,dC,mZ⟩:=(H2.o.aG (aA.af HB.o)).some O O;simp only[cM]at hv;obtain⟨rfl,-,rfl⟩:=hv;have c0:UJ W (G b (off+i))=H (Y (f i)):=hc i O;have c1:UJ W (G b2 (Ip+i))=H (Y (f' i)):=mZ i O;clear hc mZ;by_cases he:f i=f' i
    ·have HE:=Z he;rw[he]at c0;clear he;generalize f' i=y at c0 c1;go_wp2;go_quiet (fail);go_wp2;refine⟨i+1,O,O,qi rfl,Z (HB.o.trans (az _ _ _)),Z λj hj=>?_⟩;by_cases e:j=i
     ·subst e;exact HE.o
     ·exact HA.o j O
    ·have HF:=Z (show Ni n n f f'=false by
      unfold Ni;rw[ij];rintro⟨-,h⟩;exact he (h i be))
     generalize f i=x at c0 he;generalize f' i=y at c1 he;go_wp2;go_quiet (fail);go_wp2;go_ret;exact⟨by rw[HF.o];rfl,HB.o.trans (az _ _ _)⟩
   ·obtain rfl:i=n:=O;have HF:=Z (show Ni i i f f'=true by simp[Ni];exact HA.o);exact lU
def eq8(a0 a1 a2 a3 a4 a5 a6 a7 b0 b1 b2 b3 b4 b5 b6 b7:Int)(w:UK):(Op.equalIn 10000 231 (.agg #[Y a0,Y a1,Y a2,Y a3,Y a4,Y a5,Y a6,Y a7]) (.agg #[Y b0,Y b1,Y b2,Y b3,Y b4,Y b5,Y b6,Y b7])).run prog w= .ok (a0==b0&&a1==b1&&a2==b2&&a3==b3&&a4==b4&&a5==b5&&a6==b6&&a7==b7) w:=by
 have u3:=underlying3;have q3:=isAgg3;have z3:=sizeOf3;rw[show(10000:Nat)=9999+1 from rfl,Op.equalIn];simp only[Sem.run_bind,run_underlying underlying231,Result.andThen_ok];simp only[Std.Legacy.Range.forIn_eq_forIn_range',Std.Legacy.Range.size,Nat.sub_zero,Nat.add_sub_cancel,Nat.div_one,List.range'_succ,List.range'_zero,List.forIn_cons,List.forIn_nil];go_simp;by_cases h0:a0=b0
 case neg=>simp[h0]
 by_cases h1:a1=b1
 case neg=>simp[h1]
 by_cases h2:a2=b2
 case neg=>simp[h2]
 by_cases h3:a3=b3
 case neg=>simp[h3]
 by_cases h4:a4=b4
 case neg=>simp[h4]
 by_cases h5:a5=b5
 case neg=>simp[h5]
 by_cases h6:a6=b6
 case neg=>simp[h6]
 by_cases h7:a7=b7
 case neg=>simp[h7]
 simp[h0,h1,h2,h3,h4,h5,h6,h7]
def afI{a b:List Nat}(ha:fe a)(X:fe b):((gE a).toList=(gE b).toList)=(a=b):=propext ⟨λh=>Tj ha X (by
 rw[ByteArray.toList_eq,ByteArray.toList_eq]at h;exact ByteArray.ext (Array.toList_inj.1 h)),λh=>by rw[h]⟩
def TC{p:Prop}(h:p:=by
 go_enter func248,ntmps248;go_wp2;go_ret;exact⟨by rw[HF.o];rfl,hB _ _ _ _⟩):p:=h
def Iq{w:UK}{mv Y6:UL}(th th2:Bool){s s2:Std}(h:dx w mv s.lo)(h2:dx w Y6 s2.lo)(t1:fe s.ty)(t2:fe s2.ty)(l1:s.lo.length<=1000000000)(l2:s2.lo.length<=1000000000):
 Calls prog 248 #[dY th s mv,dY th2 s2 Y6] w (λe w'=>e=C8 (.bool (decide (s=s2)))/\Below w.heap.size w w'):=by
 obtain⟨ty,lo,ha⟩:=s;obtain⟨Yp,pg,JZ⟩:=s2;dsimp only at h h2 t1 t2 l1 l2;obtain⟨ma,mc,rfl,m1,m2⟩:=aZ.val h;obtain⟨ma2,mc2,rfl,m3,m4⟩:=aZ.val h2;unfold dY cQ;dsimp only;have hB:=KJ w;have RH:=Z (λcs T vF T2=>aeK (w:=(w.alloc (QP cs T)).alloc (QP vF T2)) (aZ.aG h (aA.af (hB cs T vF T2))) (aZ.aG h2 (aA.af (hB cs T vF T2))));by_cases e1:ty=Yp
 case neg=>
  have HF:=Z (show decide ((⟨ty,lo,ha⟩:Std)=⟨Yp,pg,JZ⟩)=false by simp[e1]);have e3:((gE ty).toList=(gE Yp).toList)=False:=by rw[afI t1 t2];simp[e1]
  clear RH h h2 t1 t2 e1;generalize gE ty=tb at*;generalize gE Yp=tb2 at*;exact TC
 subst e1;generalize gE ty=tb at*;have hE:=λV=>eq8 (bI lo 0) (bI lo 1) (bI lo 2) (bI lo 3) (bI lo 4) (bI lo 5) (bI lo 6) (bI lo 7) (bI pg 0) (bI pg 1) (bI pg 2) (bI pg 3) (bI pg 4) (bI pg 5) (bI pg 6) (bI pg 7) V;have hsp:decide ((⟨ty,lo,ha⟩:Std)=⟨ty,pg,JZ⟩)=decide (lo=pg/\ha=JZ):=by simp
 rw[hsp];clear hsp t1 t2 h h2;have jo:lo=pg↔(((((bI lo 0:Nat):Int)==((bI pg 0:Nat):Int)&&((bI lo 1:Nat):Int)==((bI pg 1:Nat):Int)&&((bI lo 2:Nat):Int)==((bI pg 2:Nat):Int)&&((bI lo 3:Nat):Int)==((bI pg 3:Nat):Int)&&((bI lo 4:Nat):Int)==((bI pg 4:Nat):Int)&&((bI lo 5:Nat):Int)==((bI pg 5:Nat):Int)&&((bI lo 6:Nat):Int)==((bI pg 6:Nat):Int)&&((bI lo 7:Nat):Int)==((bI pg 7:Nat):Int))=true)/\lo.length=pg.length/\Ni (lo.length-8) (pg.length-8) (λi=>((bI lo (8+i):Nat):Int)) (λi=>((bI pg (8+i):Nat):Int))=true):=by
  constructor
  ·rintro rfl;refine⟨ay,rfl,by simp[Ni]⟩
  ·rintro⟨h1,h2,h3⟩;simp only[fp,beq_iff_eq]at h1;obtain⟨⟨⟨⟨⟨⟨⟨x0,x1⟩,x2⟩,x3⟩,x4⟩,x5⟩,x6⟩,x7⟩:=h1;unfold Ni at h3;have h4:=(rS h3).2;refine Tl h2 λi hi=>?_;by_cases h8:i<8
   ·have e:i=0\/i=1\/i=2\/i=3\/i=4\/i=5\/i=6\/i=7:=O;rcases e with rfl|rfl|rfl|rfl|rfl|rfl|rfl|rfl<;>omega
   ·have:=h4 (i-8) O;dsimp only at this;rw[show 8+(i-8)=i by omega]at this;omega
 have Hl:=Z jo;clear jo;generalize qK:(((bI lo 0:Nat):Int)==((bI pg 0:Nat):Int)&&((bI lo 1:Nat):Int)==((bI pg 1:Nat):Int)&&((bI lo 2:Nat):Int)==((bI pg 2:Nat):Int)&&((bI lo 3:Nat):Int)==((bI pg 3:Nat):Int)&&((bI lo 4:Nat):Int)==((bI pg 4:Nat):Int)&&((bI lo 5:Nat):Int)==((bI pg 5:Nat):Int)&&((bI lo 6:Nat):Int)==((bI pg 6:Nat):Int)&&((bI lo 7:Nat):Int)==((bI pg 7:Nat):Int))=bb at*;clear qK;generalize xy:lo.length=n1 at*;generalize Cv:pg.length=n2 at*;clear xy Cv;cases bb with
 |false=>have HF:=Z (show decide (lo=pg/\ha=JZ)=false by rw[ij];rintro⟨h,-⟩;exact absurd (Hl.o.1 h).1 bd);clear Hl RH;exact TC
 |true=>
  by_cases e3:n1=n2
  case neg=>
   have HF:=Z (show decide (lo=pg/\ha=JZ)=false by rw[ij];rintro⟨h,-⟩;exact e3 (Hl.o.1 h).2.1);have e3':((n1:Int)=n2)=False:=by simp;omega
   clear Hl RH;exact TC
  by_cases e4:ha=JZ
  case neg=>
   have HF:=Z (show decide (lo=pg/\ha=JZ)=false by rw[ij];rintro⟨-,h⟩;exact e4 h);have e4':((ha:Int)=JZ)=False:=by simp;omega
   clear Hl RH;subst e3;exact TC
  subst e3 e4;have HF:=Z (show decide (lo=pg/\ha=ha)=Ni (n1-8) (n1-8) (λi=>((bI lo (8+i):Nat):Int)) (λi=>((bI pg (8+i):Nat):Int))by
   rw[pO,decide_eq_true_iff];constructor
   ·rintro⟨h,-⟩;exact(Hl.o.1 h).2.2
   ·intro h;exact⟨Hl.o.2 ⟨rfl,rfl,h⟩,rfl⟩)
  clear Hl;generalize Ni (n1-8) (n1-8) (λi=>((bI lo (8+i):Nat):Int)) (λi=>((bI pg (8+i):Nat):Int))=r at*;go_enter func248,ntmps248;go_wp2_with fail;refine(RH.o _ _ _ _).mono ?_;rintro e w' ⟨rfl,X⟩;have HB:=Z (X.mono (show w.heap.size<=_ by simp only[aM];omega));clear X;cases r with
  |false=>go_wp2_with fail;go_ret;exact⟨by rw[HF.o];rfl,(hB _ _ _ _).trans HB.o⟩
  |true=>go_wp2_with fail;go_ret;exact⟨by rw[HF.o];rfl,(hB _ _ _ _).trans HB.o⟩
end Go.Vf
