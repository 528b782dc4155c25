import Derived.Test.YtblkblclmbhjiaaGreatM8
import Derived.WalkMore
import Derived.ScopeJumps
import Derived.Defers
set_option linter.unusedVariables false
set_option linter.unusedSimpArgs false
set_option maxHeartbeats 40000000
set_option maxRecDepth 100000
open Go.Proofs.Tryz
namespace Go.Proofs.YtblkblclmbhjiaaGreat.Ma
open Go.RowKit ak.Vm
open ak hiding aL an aj
open dT (bP bG d_)
open Ix (cL)
section
variable {w w':World} {C C':Co} {U U':Ru} {RO RO':List Nat} {K:Kc} {p:aO} {c:Cp} {t:fI} {used:Int} {hv hv':Value} {jv jx:Nat->Value} {s s':St} {r r':Rn} {rv:Value} {mb rb:Nat}
theorem zM (h:cD w C U RO K p c t used hv jv s r) (E:im K p c s) {q d:Nat} (hq:q < p.ap.length) (he:d<=1) (hj:r.bm.length < 1000000):
 Calls prog 220 #[ρ C.mb,ι q,ι d] w (bX w C.mb U.rb RO K p c t used (.bool (bi (aw p c) (s,r) q d).2) (bi (aw p c) (s,r) q d).1):=by
 unfold bi;dsimp only;by_cases bz:s.a.ls q=[]
 ·rw [afE bz];exact jV h hq bz
 ·rw [abH bz];exact pd h E hq he bz hj
theorem abS {p:Prop} (h:p:=by
 go_wp2;exact afI (afT rfl _ _ _) rfl rK.o):p:=h
theorem Ti (h:cD w C U RO K p c t used hv jv s r) (i:Ins) (E:im K p c s) {q d:Nat} (ha:i.a=q) (ia:i.b=d) (hq:q < p.ap.length) (he:d<=1) (hj:r.bm.length < 1000000):
 Calls prog 124 #[ρ C.mb,aQ i] w (bX w C.mb U.rb RO K p c t used (.tuple #[]) (bi (aw p c) (s,r) q d).1):=by
 have h1:=h.box (.cells (aA i) 40);have n1:=ay.new w 40 (aA i);have HB:=ae (Kept.ah (RO:=RO) ((afL w.heap.size w).alloc (afF _) (.cells (aA i) 40)) h.sep.cY);obtain ⟨c0,c1,c2,c3,c4⟩:=bZ n1;rw [ha] at c1;rw [ia] at c2;have HC:=ae (zM h1 E hq he hj);have N1:=ae n1;clear h h1 n1 ha ia hj E;unfold aQ;unfold aA at*;go_enter func124,ntmps124;go_wp2_with fail;refine HC.o.mono ?_;intro e w5 hd;obtain ⟨rfl,RO',ho,dK,hk⟩:=hd.pre (RO:=RO) HB.o (fun b hb=>by simp [hb]);have rK:=ae (show bX w C.mb U.rb RO K p c t used (.tuple #[]) (bi (aw p c) (s,r) q d).1 (.returned (.tuple #[])) w5 from ⟨rfl,RO',ho,dK,hk⟩);clear hd dK hk ho HC c0 c1 c2 c3 c4;exact abS
theorem Tj (h:cD w C U RO K p c t used hv jv s r) (i:Ins) (E:im K p c s) {q d:Nat} (ha:i.a=q) (ia:i.b=d) (hq:q < p.ap.length) (he:d<=1) {x:eW} (hh:r.hand=some x) (hx:s.f x.key=none) (hj:r.bm.length < 1000000):
 Calls prog 125 #[ρ C.mb,aQ i] w (bX w C.mb U.rb RO K p c t used (.tuple #[]) (dt (aw p c) (s,r) q d).1):=by
 have h1:=h.box (.cells (aA i) 40);have n1:=ay.new w 40 (aA i);have HB:=ae (Kept.ah (RO:=RO) ((afL w.heap.size w).alloc (afF _) (.cells (aA i) 40)) h.sep.cY);obtain ⟨c0,c1,c2,c3,c4⟩:=bZ n1;rw [ha] at c1;rw [ia] at c2;have HC:=ae (rJ h1 E hq he hh hx hj);have N1:=ae n1;clear h h1 n1 ha ia hj E hh hx;unfold aQ;unfold aA at*;go_enter func125,ntmps125;go_wp2_with fail;refine HC.o.mono ?_;intro e w5 hd;obtain ⟨rfl,RO',ho,dK,hk⟩:=hd.pre (RO:=RO) HB.o (fun b hb=>by simp [hb]);have rK:=ae (show bX w C.mb U.rb RO K p c t used (.tuple #[]) (dt (aw p c) (s,r) q d).1 (.returned (.tuple #[])) w5 from ⟨rfl,RO',ho,dK,hk⟩);clear hd dK hk ho HC c0 c1 c2 c3 c4;exact abS
theorem Tk (h:cD w C U RO K p c t used hv jv s r) (i:Ins) {y:eW} (hh:r.hand=some y) (hl:r.told.length < 1000000):
 Calls prog 126 #[ρ C.mb,aQ i] w (bX w C.mb U.rb RO K p c t used (.tuple #[]) (fY (s,r))):=by
 have h1:=h.box (.cells (aA i) 40);have n1:=ay.new w 40 (aA i);have HB:=ae (Kept.ah (RO:=RO) ((afL w.heap.size w).alloc (afF _) (.cells (aA i) 40)) h.sep.cY);obtain ⟨c0,c1,c2,c3,c4⟩:=bZ n1;have e0:fY (s,r)=(s,{r with told:=r.told++[y.key]}):=by show (s,{r with told:=r.told++[(r.hand.getD dI).key]})=_;rw [show r.hand.getD dI=y by rw [hh];rfl]
 rw [e0];have HC:=ae (zJ h1 hh hl);have N1:=ae n1;clear h h1 n1 hh hl e0;unfold aQ;unfold aA at*;go_enter func126,ntmps126;go_wp2_with fail;refine HC.o.mono ?_;intro e w5 hd;obtain ⟨rfl,RO',ho,dK,hk⟩:=hd.pre (RO:=RO) HB.o (fun b hb=>by simp [hb]);have rK:=ae (show bX w C.mb U.rb RO K p c t used (.tuple #[]) (s,{r with told:=r.told++[y.key]}) (.returned (.tuple #[])) w5 from ⟨rfl,RO',ho,dK,hk⟩);clear hd dK hk ho HC c0 c1 c2 c3 c4;exact abS
theorem Pr (h:cD w C U RO K p c t used hv jv s r) (i:Ins):
 Calls prog 127 #[ρ C.mb,aQ i] w (bX w C.mb U.rb RO K p c t used (.tuple #[]) (fG (s,r))):=by
 have h1:=h.box (.cells (aA i) 40);have n1:=ay.new w 40 (aA i);have HB:=ae (Kept.ah (RO:=RO) ((afL w.heap.size w).alloc (afF _) (.cells (aA i) 40)) h.sep.cY);obtain ⟨c0,c1,c2,c3,c4⟩:=bZ n1;have HC:=ae (vS h1);have N1:=ae n1;clear h h1 n1;unfold aQ;unfold aA at*;go_enter func127,ntmps127;go_wp2_with fail;refine HC.o.mono ?_;intro e w5 hd;obtain ⟨rfl,RO',ho,dK,hk⟩:=hd.pre (RO:=RO) HB.o (fun b hb=>by simp [hb]);have rK:=ae (show bX w C.mb U.rb RO K p c t used (.tuple #[]) (fG (s,r)) (.returned (.tuple #[])) w5 from ⟨rfl,RO',ho,dK,hk⟩);clear hd dK hk ho HC c0 c1 c2 c3 c4;exact abS
theorem ace {p:Prop} (h:p:=by
 go_wp2_with fail;refine HC.o.mono ?_;intro e w5 hd;obtain ⟨rfl,RO',ho,dK,hk⟩:=hd.pre (RO:=RO) HB.o (fun b hb=>by simp [hb]);have rK:=ae (show bX w C.mb U.rb RO K p c t used (.tuple #[]) (s,r.dG 2) (.returned (.tuple #[])) w5 from ⟨rfl,RO',ho,dK,hk⟩);clear hd dK hk ho HC c0 c1 c2 c3 c4;exact abS):p:=h
theorem Et (h:cD w C U RO K p c t used hv jv s r) (i:Ins) {q d:Nat} (ha:i.a=q) (ia:i.b=d) (hq:q < p.ap.length) (he:d<=1) (bz:s.a.ls q=[]):
 Calls prog 131 #[ρ C.mb,aQ i] w (bX w C.mb U.rb RO K p c t used (.tuple #[]) (s,r.dG 2)):=by
 have h1:=h.box (.cells (aA i) 40);have n1:=ay.new w 40 (aA i);have HB:=ae (Kept.ah (RO:=RO) ((afL w.heap.size w).alloc (afF _) (.cells (aA i) 40)) h.sep.cY);obtain ⟨c0,c1,c2,c3,c4⟩:=bZ n1;rw [ha] at c1;rw [ia] at c2;have HC:=ae (jV (d:=d) h1 hq bz);have N1:=ae n1;clear h h1 n1 ha ia bz;unfold aQ;unfold aA at*;go_enter func131,ntmps131;exact ace
theorem Ps (h:cD w C U RO K p c t used hv jv s r) (i:Ins) (E:im K p c s) {q d:Nat} (ha:i.a=q) (ia:i.b=d) (hq:q < p.ap.length) (he:d<=1) (hj:r.bm.length < 999990) (bz:s.a.ls q≠[]):
 Calls prog 131 #[ρ C.mb,aQ i] w (bX w C.mb U.rb RO K p c t used (.tuple #[]) (fG (jn (aw p c) s q d,{r.note (.put q d (s.a.val (ck s.a q d))) with hand:=some (s.a.val (ck s.a q d))}))):=by
 have h1:=h.box (.cells (aA i) 40);have n1:=ay.new w 40 (aA i);have HB:=ae (Kept.ah (RO:=RO) ((afL w.heap.size w).alloc (afF _) (.cells (aA i) 40)) h.sep.cY);obtain ⟨c0,c1,c2,c3,c4⟩:=bZ n1;rw [ha] at c1;rw [ia] at c2;have HC:=ae (pd h1 E hq he bz omm);have E2:im K p c (jn (aw p c) s q d):=⟨jM E.inv hq (fi bz),E.gQ,E.nd,E.BP,E.g16,E.t4⟩;have tL:(jn (aw p c) s q d).f (s.a.val (ck s.a q d)).key=none:=an _ _ _;have nC:=ae E2;have lN:=ae tL;have HJ:=ae hj;have N1:=ae n1;clear h h1 n1 ha ia hj E bz E2 tL;unfold aQ;unfold aA at*;go_enter func131,ntmps131;go_wp2_with fail;generalize hy:s.a.val (ck s.a q d)=y at*;generalize hz:jn (aw p c) s q d=z at*;have XD:=ae (And.intro hy hz);clear hy hz;generalize eO:w.heap.size=bx at*;refine HC.o.mono ?_;rintro e w3 ⟨rfl,Dg,BX,⟨C3,U3,Ld,ς,sN,sO,A3⟩,iO⟩;obtain ⟨i0,i1,i2,i3,i4⟩:=bZ (i:=i) (ay.jU N1.o iO smm);have hn:=vS A3;rw [sN,sO] at hn;have HN:=ae hn;have K3:=ae (HB.o.trans iO (fun b hb=>by simp [hb]));have LC:=ae (show ∀b,b∈bx::RO->b∈Dg from BX);clear HC A3 hn iO BX sN sO c0 c1 c2 c3 c4 i0 i1 i2 i3 i4;go_wp2_with fail;refine HN.o.mono ?_;intro e w5 hd;obtain ⟨rfl,RO',ho,dK,hk⟩:=hd.pre (RO:=RO) K3.o (fun b hb=>LC.o b (by simp [hb]));have rK:=ae (show bX w C.mb U.rb RO K p c t used (.tuple #[]) (fG (z,{r.note (.put q d (y)) with hand:=some (y)})) (.returned (.tuple #[])) w5 from ⟨rfl,RO',ho,dK,hk⟩);clear hd dK hk ho;exact abS
theorem Tl (h:cD w C U RO K p c t used hv jv s r) (i:Ins) (E:im K p c s) {q d:Nat} (ha:i.a=q) (ia:i.b=d) (hq:q < p.ap.length) (he:d<=1) (hj:r.bm.length < 999990):
 Calls prog 131 #[ρ C.mb,aQ i] w (bX w C.mb U.rb RO K p c t used (.tuple #[]) (rz (aw p c) i (s,r))):=by
 have Hs:N i.a=q:=by unfold N;rw [ha];rfl
 have Tm:N i.b=d:=by unfold N;rw [ia];rfl
 unfold rz bi;dsimp only;rw [Hs,Tm];by_cases bz:s.a.ls q=[]
 ·rw [afE bz];exact Et h i ha ia hq he bz
 ·rw [abH bz];exact Ps h i E ha ia hq he hj bz
theorem BY (h:cD w C U RO K p c t used hv jv s r) (i:Ins) {q d:Nat} (ha:i.a=q) (ia:i.b=d) (hq:q < p.ap.length) (he:d<=1) (bz:s.a.ls q=[]):
 Calls prog 128 #[ρ C.mb,aQ i] w (bX w C.mb U.rb RO K p c t used (.tuple #[]) (s,r.dG 2)):=by
 have h1:=h.box (.cells (aA i) 40);have n1:=ay.new w 40 (aA i);have HB:=ae (Kept.ah (RO:=RO) ((afL w.heap.size w).alloc (afF _) (.cells (aA i) 40)) h.sep.cY);obtain ⟨c0,c1,c2,c3,c4⟩:=bZ n1;rw [ha] at c1;rw [ia] at c2;have HC:=ae (jV (d:=d) h1 hq bz);have N1:=ae n1;clear h h1 n1 ha ia bz;unfold aQ;unfold aA at*;go_enter func128,ntmps128;exact ace
theorem LD (h:cD w C U RO K p c t used hv jv s r) (i:Ins) (E:im K p c s) {q d:Nat} (ha:i.a=q) (ia:i.b=d) (hq:q < p.ap.length) (he:d<=1) {q2 d2:Nat} (lF:i.c=q2) (fB:i.d=d2) (kO:q2 < p.ap.length) (Jw:d2<=1) (hj:r.bm.length < 999990) (bz:s.a.ls q≠[]):
 Calls prog 128 #[ρ C.mb,aQ i] w (bX w C.mb U.rb RO K p c t used (.tuple #[]) (dt (aw p c) (jn (aw p c) s q d,{r.note (.put q d (s.a.val (ck s.a q d))) with hand:=some (s.a.val (ck s.a q d))}) q2 d2).1):=by
 have h1:=h.box (.cells (aA i) 40);have n1:=ay.new w 40 (aA i);have HB:=ae (Kept.ah (RO:=RO) ((afL w.heap.size w).alloc (afF _) (.cells (aA i) 40)) h.sep.cY);obtain ⟨c0,c1,c2,c3,c4⟩:=bZ n1;rw [ha] at c1;rw [ia] at c2;rw [lF] at c3;rw [fB] at c4;have HC:=ae (pd h1 E hq he bz omm);have E2:im K p c (jn (aw p c) s q d):=⟨jM E.inv hq (fi bz),E.gQ,E.nd,E.BP,E.g16,E.t4⟩;have tL:(jn (aw p c) s q d).f (s.a.val (ck s.a q d)).key=none:=an _ _ _;have nC:=ae E2;have lN:=ae tL;have HJ:=ae hj;have N1:=ae n1;have Pt:=ae lF;have Pu:=ae fB;clear h h1 n1 ha ia hj E bz E2 tL lF fB;unfold aQ;unfold aA at*;go_enter func128,ntmps128;go_wp2_with fail;generalize hy:s.a.val (ck s.a q d)=y at*;generalize hz:jn (aw p c) s q d=z at*;have XD:=ae (And.intro hy hz);clear hy hz;generalize eO:w.heap.size=bx at*;refine HC.o.mono ?_;rintro e w3 ⟨rfl,Dg,BX,⟨C3,U3,Ld,ς,sN,sO,A3⟩,iO⟩;obtain ⟨i0,i1,i2,i3,i4⟩:=bZ (i:=i) (ay.jU N1.o iO smm);rw [Pt.o] at i3;rw [Pu.o] at i4;have hn:=rJ A3 nC.o kO Jw (x:=y) rfl lN.o (by have:=HJ.o;simp [Rn.note];omega);rw [sN,sO] at hn;have HN:=ae hn;have K3:=ae (HB.o.trans iO (fun b hb=>by simp [hb]));have LC:=ae (show ∀b,b∈bx::RO->b∈Dg from BX);clear HC A3 hn iO BX sN sO c0 c1 c2 c3 c4 i0 i1 i2;go_wp2_with fail;refine HN.o.mono ?_;intro e w5 hd;obtain ⟨rfl,RO',ho,dK,hk⟩:=hd.pre (RO:=RO) K3.o (fun b hb=>LC.o b (by simp [hb]));have rK:=ae (show bX w C.mb U.rb RO K p c t used (.tuple #[]) (dt (aw p c) (z,{r.note (.put q d (y)) with hand:=some (y)}) q2 d2).1 (.returned (.tuple #[])) w5 from ⟨rfl,RO',ho,dK,hk⟩);clear hd dK hk ho;exact abS
theorem Pv (h:cD w C U RO K p c t used hv jv s r) (i:Ins) (E:im K p c s) {q d:Nat} (ha:i.a=q) (ia:i.b=d) (hq:q < p.ap.length) (he:d<=1) {q2 d2:Nat} (lF:i.c=q2) (fB:i.d=d2) (kO:q2 < p.ap.length) (Jw:d2<=1) (hj:r.bm.length < 999990):
 Calls prog 128 #[ρ C.mb,aQ i] w (bX w C.mb U.rb RO K p c t used (.tuple #[]) (nX (aw p c) i (s,r))):=by
 have Hs:N i.a=q:=by unfold N;rw [ha];rfl
 have Tm:N i.b=d:=by unfold N;rw [ia];rfl
 have hNc:N i.c=q2:=by unfold N;rw [lF];rfl
 have hNd:N i.d=d2:=by unfold N;rw [fB];rfl
 unfold nX bi;dsimp only;rw [Hs,Tm,hNc,hNd];by_cases bz:s.a.ls q=[]
 ·rw [afE bz];exact BY h i ha ia hq he bz
 ·rw [abH bz];exact LD h i E ha ia hq he lF fB kO Jw hj bz
theorem BZ (h:cD w C U RO K p c t used hv jv s r) (i:Ins) {q d:Nat} (ha:i.a=q) (ia:i.b=d) (hq:q < p.ap.length) (he:d<=1) (bz:s.a.ls q=[]):
 Calls prog 130 #[ρ C.mb,aQ i] w (bX w C.mb U.rb RO K p c t used (.tuple #[]) (s,r.dG 2)):=by
 have h1:=h.box (.cells (aA i) 40);have n1:=ay.new w 40 (aA i);have HB:=ae (Kept.ah (RO:=RO) ((afL w.heap.size w).alloc (afF _) (.cells (aA i) 40)) h.sep.cY);obtain ⟨c0,c1,c2,c3,c4⟩:=bZ n1;rw [ha] at c1;rw [ia] at c2;have HC:=ae (jV (d:=d) h1 hq bz);have N1:=ae n1;clear h h1 n1 ha ia bz;unfold aQ;unfold aA at*;go_enter func130,ntmps130;exact ace
theorem LF (h:cD w C U RO K p c t used hv jv s r) (i:Ins) (E:im K p c s) {q d:Nat} (ha:i.a=q) (ia:i.b=d) (hq:q < p.ap.length) (he:d<=1) (hj:r.bm.length < 999990) (hl:r.told.length < 1000000) (bz:s.a.ls q≠[]):
 Calls prog 130 #[ρ C.mb,aQ i] w (bX w C.mb U.rb RO K p c t used (.tuple #[]) (fG (fY (jn (aw p c) s q d,{r.note (.put q d (s.a.val (ck s.a q d))) with hand:=some (s.a.val (ck s.a q d))})))):=by
 have h1:=h.box (.cells (aA i) 40);have n1:=ay.new w 40 (aA i);have HB:=ae (Kept.ah (RO:=RO) ((afL w.heap.size w).alloc (afF _) (.cells (aA i) 40)) h.sep.cY);obtain ⟨c0,c1,c2,c3,c4⟩:=bZ n1;rw [ha] at c1;rw [ia] at c2;have HC:=ae (pd h1 E hq he bz omm);have E2:im K p c (jn (aw p c) s q d):=⟨jM E.inv hq (fi bz),E.gQ,E.nd,E.BP,E.g16,E.t4⟩;have tL:(jn (aw p c) s q d).f (s.a.val (ck s.a q d)).key=none:=an _ _ _;have nC:=ae E2;have lN:=ae tL;have HJ:=ae hj;have HL:=ae hl;have N1:=ae n1;clear h h1 n1 ha ia hj E bz E2 tL hl;unfold aQ;unfold aA at*;go_enter func130,ntmps130;go_wp2_with fail;generalize hy:s.a.val (ck s.a q d)=y at*;generalize hz:jn (aw p c) s q d=z at*;have XD:=ae (And.intro hy hz);clear hy hz;generalize eO:w.heap.size=bx at*;refine HC.o.mono ?_;rintro e w3 ⟨rfl,Dg,BX,⟨C3,U3,Ld,ς,sN,sO,A3⟩,iO⟩;obtain ⟨i0,i1,i2,i3,i4⟩:=bZ (i:=i) (ay.jU N1.o iO smm);have hn:=zJ A3 (y:=y) rfl HL.o;rw [sN,sO] at hn;have Dh:=ae iO;have HN:=ae hn;have K3:=ae (HB.o.trans iO (fun b hb=>by simp [hb]));have LC:=ae (show ∀b,b∈bx::RO->b∈Dg from BX);clear HC A3 hn iO BX sN sO c0 c1 c2 c3 c4;go_wp2_with fail;refine HN.o.mono ?_;rintro e w4 ⟨rfl,Lh,Js,⟨C4,U4,ε,ζ,ue,zB,A4⟩,AI⟩;have b4:=ay.jU (ay.jU N1.o (show Kept (bx::RO) _ w3 from Dh.o) smm) AI (LC.o bx smm);obtain ⟨g0,g1,g2,g3,g4⟩:=bZ (i:=i) b4;have ot:=vS A4;rw [ue,zB] at ot;have Jy:=ae ot;have K4:=ae (K3.o.trans AI (fun b hb=>LC.o b (by simp [hb])));have Td:=ae (show ∀b,b∈RO->b∈Lh from fun b hb=>Js b (LC.o b (by simp [hb])));clear HN A4 ot AI Js ue zB b4 i0 i1 i2 i3 i4 g0 g1 g2;go_wp2_with fail;refine Jy.o.mono ?_;intro e w5 hd;obtain ⟨rfl,RO',ho,dK,hk⟩:=hd.pre (RO:=RO) K4.o Td.o;have rK:=ae (show bX w C.mb U.rb RO K p c t used (.tuple #[]) (fG (fY (z,{r.note (.put q d (y)) with hand:=some (y)}))) (.returned (.tuple #[])) w5 from ⟨rfl,RO',ho,dK,hk⟩);clear hd dK hk ho;exact abS
theorem Pw (h:cD w C U RO K p c t used hv jv s r) (i:Ins) (E:im K p c s) {q d:Nat} (ha:i.a=q) (ia:i.b=d) (hq:q < p.ap.length) (he:d<=1) (hj:r.bm.length < 999990) (hl:r.told.length < 1000000):
 Calls prog 130 #[ρ C.mb,aQ i] w (bX w C.mb U.rb RO K p c t used (.tuple #[]) (nZ (aw p c) i (s,r))):=by
 have Hs:N i.a=q:=by unfold N;rw [ha];rfl
 have Tm:N i.b=d:=by unfold N;rw [ia];rfl
 unfold nZ bi;dsimp only;rw [Hs,Tm];by_cases bz:s.a.ls q=[]
 ·rw [afE bz];exact BZ h i ha ia hq he bz
 ·rw [abH bz];exact LF h i E ha ia hq he hj hl bz
theorem B0 (h:cD w C U RO K p c t used hv jv s r) (i:Ins) {q d:Nat} (ha:i.a=q) (ia:i.b=d) (hq:q < p.ap.length) (he:d<=1) (bz:s.a.ls q=[]):
 Calls prog 129 #[ρ C.mb,aQ i] w (bX w C.mb U.rb RO K p c t used (.tuple #[]) (s,r.dG 2)):=by
 have h1:=h.box (.cells (aA i) 40);have n1:=ay.new w 40 (aA i);have HB:=ae (Kept.ah (RO:=RO) ((afL w.heap.size w).alloc (afF _) (.cells (aA i) 40)) h.sep.cY);obtain ⟨c0,c1,c2,c3,c4⟩:=bZ n1;rw [ha] at c1;rw [ia] at c2;have HC:=ae (jV (d:=d) h1 hq bz);have N1:=ae n1;clear h h1 n1 ha ia bz;unfold aQ;unfold aA at*;go_enter func129,ntmps129;exact ace
theorem LG (h:cD w C U RO K p c t used hv jv s r) (i:Ins) (E:im K p c s) {q d:Nat} (ha:i.a=q) (ia:i.b=d) (hq:q < p.ap.length) (he:d<=1) {q2 d2:Nat} (lF:i.c=q2) (fB:i.d=d2) (kO:q2 < p.ap.length) (Jw:d2<=1) (hj:r.bm.length < 999990) (hl:r.told.length < 1000000) (bz:s.a.ls q≠[]):
 Calls prog 129 #[ρ C.mb,aQ i] w (bX w C.mb U.rb RO K p c t used (.tuple #[]) (dt (aw p c) (fY (jn (aw p c) s q d,{r.note (.put q d (s.a.val (ck s.a q d))) with hand:=some (s.a.val (ck s.a q d))})) q2 d2).1):=by
 have h1:=h.box (.cells (aA i) 40);have n1:=ay.new w 40 (aA i);have HB:=ae (Kept.ah (RO:=RO) ((afL w.heap.size w).alloc (afF _) (.cells (aA i) 40)) h.sep.cY);obtain ⟨c0,c1,c2,c3,c4⟩:=bZ n1;rw [ha] at c1;rw [ia] at c2;rw [lF] at c3;rw [fB] at c4;have HC:=ae (pd h1 E hq he bz omm);have E2:im K p c (jn (aw p c) s q d):=⟨jM E.inv hq (fi bz),E.gQ,E.nd,E.BP,E.g16,E.t4⟩;have tL:(jn (aw p c) s q d).f (s.a.val (ck s.a q d)).key=none:=an _ _ _;have nC:=ae E2;have lN:=ae tL;have HJ:=ae hj;have HL:=ae hl;have N1:=ae n1;have Pt:=ae lF;have Pu:=ae fB;clear h h1 n1 ha ia hj E bz E2 tL lF fB hl;unfold aQ;unfold aA at*;go_enter func129,ntmps129;go_wp2_with fail;generalize hy:s.a.val (ck s.a q d)=y at*;generalize hz:jn (aw p c) s q d=z at*;have XD:=ae (And.intro hy hz);clear hy hz;generalize eO:w.heap.size=bx at*;refine HC.o.mono ?_;rintro e w3 ⟨rfl,Dg,BX,⟨C3,U3,Ld,ς,sN,sO,A3⟩,iO⟩;obtain ⟨i0,i1,i2,i3,i4⟩:=bZ (i:=i) (ay.jU N1.o iO smm);rw [Pt.o] at i3;rw [Pu.o] at i4;have hn:=zJ A3 (y:=y) rfl HL.o;rw [sN,sO] at hn;have Dh:=ae iO;have HN:=ae hn;have K3:=ae (HB.o.trans iO (fun b hb=>by simp [hb]));have LC:=ae (show ∀b,b∈bx::RO->b∈Dg from BX);clear HC A3 hn iO BX sN sO c0 c1 c2 c3 c4;go_wp2_with fail;refine HN.o.mono ?_;rintro e w4 ⟨rfl,Lh,Js,⟨C4,U4,ε,ζ,ue,zB,A4⟩,AI⟩;have b4:=ay.jU (ay.jU N1.o (show Kept (bx::RO) _ w3 from Dh.o) smm) AI (LC.o bx smm);obtain ⟨g0,g1,g2,g3,g4⟩:=bZ (i:=i) b4;rw [Pt.o] at g3;rw [Pu.o] at g4;have ot:=rJ A4 nC.o kO Jw (x:=y) rfl lN.o (by have:=HJ.o;simp [Rn.note];omega);rw [ue,zB] at ot;have Jy:=ae ot;have K4:=ae (K3.o.trans AI (fun b hb=>LC.o b (by simp [hb])));have Td:=ae (show ∀b,b∈RO->b∈Lh from fun b hb=>Js b (LC.o b (by simp [hb])));clear HN A4 ot AI Js ue zB b4 i0 i1 i2 i3 i4 g0 g1 g2;go_wp2_with fail;refine Jy.o.mono ?_;intro e w5 hd;obtain ⟨rfl,RO',ho,dK,hk⟩:=hd.pre (RO:=RO) K4.o Td.o;have rK:=ae (show bX w C.mb U.rb RO K p c t used (.tuple #[]) (dt (aw p c) (fY (z,{r.note (.put q d (y)) with hand:=some (y)})) q2 d2).1 (.returned (.tuple #[])) w5 from ⟨rfl,RO',ho,dK,hk⟩);clear hd dK hk ho;exact abS
theorem Px (h:cD w C U RO K p c t used hv jv s r) (i:Ins) (E:im K p c s) {q d:Nat} (ha:i.a=q) (ia:i.b=d) (hq:q < p.ap.length) (he:d<=1) {q2 d2:Nat} (lF:i.c=q2) (fB:i.d=d2) (kO:q2 < p.ap.length) (Jw:d2<=1) (hj:r.bm.length < 999990) (hl:r.told.length < 1000000):
 Calls prog 129 #[ρ C.mb,aQ i] w (bX w C.mb U.rb RO K p c t used (.tuple #[]) (nY (aw p c) i (s,r))):=by
 have Hs:N i.a=q:=by unfold N;rw [ha];rfl
 have Tm:N i.b=d:=by unfold N;rw [ia];rfl
 have hNc:N i.c=q2:=by unfold N;rw [lF];rfl
 have hNd:N i.d=d2:=by unfold N;rw [fB];rfl
 unfold nY bi;dsimp only;rw [Hs,Tm,hNc,hNd];by_cases bz:s.a.ls q=[]
 ·rw [afE bz];exact B0 h i ha ia hq he bz
 ·rw [abH bz];exact LG h i E ha ia hq he lF fB kO Jw hj hl bz
theorem Iz (h:cD w C U RO K p c t used hv jv s r) (E:im K p c s) (i:Ins) {n q q2 d:Nat} (ha:i.a=q2) (ia:i.b=d) (kO:q2 < p.ap.length) (he:d<=1) (hf:s.f r.key=some n) (hq:q < p.ap.length) (hn:n∈s.a.ls q) (hj:r.bm.length < 999990):
 Calls prog 122 #[ρ C.mb,aQ i] w (bX w C.mb U.rb RO K p c t used (.tuple #[]) (gW (aw p c) (ry (aw p c) (s,r) n q) q2 d (s.a.val n)).1):=by
 have h1:=h.box (.cells (aA i) 40);have n1:=ay.new w 40 (aA i);have HN:=ae (kZ h1 hf hq hn);have HB:=ae ((afL w.heap.size w).alloc (afF _) (.cells (aA i) 40));have dh:=ae h.sep.cY;have Er:=ae (fun m=>Ro ((h1.drewN m).drewN 1) E hq hn omm);obtain ⟨c0,c1,c2,c3,c4⟩:=bZ n1;rw [ha] at c1;rw [ia] at c2;have E2:im K p c (fR (aw p c) s q n):=⟨jM E.inv hq hn,E.gQ,E.nd,E.BP,E.g16,E.t4⟩;have tL:(fR (aw p c) s q n).f (s.a.val n).key=none:=an _ _ _;have nC:=ae E2;have lN:=ae tL;have HJ:=ae hj;have N1:=ae n1;have HX:=ae (And.intro ha ia);have hO:ry (aw p c) (s,r) n q=(fR (aw p c) s q n,r.note (.out q (s.a.val n) (iI (s.a.ls q) n))):=rfl;rw [hO] at Er;rw [hO];clear h h1 n1 hf hn E E2 tL hj ha ia hO;generalize hy:s.a.val n=y at*;generalize hz:fR (aw p c) s q n=z at*;generalize hu:r.note (.out q y (iI (s.a.ls q) n))=r2 at*;have XD:=ae (And.intro hy (And.intro hz hu));clear hy hz hu;unfold aQ;unfold aA at*;unfold bG at Er;go_enter func122,ntmps122;go_wp2_with fail;generalize w.alloc (.cells #[ι i.op,ι i.a,ι i.b,ι i.c,ι i.d] 40)=w1 at*;generalize eO:w.heap.size=bx at*;refine HN.o.mono ?_;rintro e w' ⟨rfl,m,rfl⟩;have ux:=ae (Er.o m);have d1:(w1.drewN m).cell? (π bx 1)=some (ι q2):=c1;have d2:(w1.drewN m).cell? (π bx 2)=some (ι d):=c2;have M1:=ae ((N1.o.drewN m).drewN 1);have HK:=ae (Kept.ah (RO:=RO) (w:=w) (w':=(w1.drewN m).drewN 1) (by rw [eO];exact (HB.o.trans (au bx w1 m)).trans (au bx (w1.drewN m) 1)) (by rw [eO];exact dh.o));clear HN c0 c1 c2 c3 c4 Er N1;generalize w1.drewN m=w2 at*;have C1:Hid (Calls prog 219 #[ρ C.mb,ι n,ι q] (w2.drewN 1) fun e w3=>e= .returned (.agg #[.int .u64 y.key,ι (y.tg 0),ι (y.tg 1),ι (y.tg 2),ι (y.tg 3)])/\(w3.cell? (π bx 1)=some (ι q2)/\w3.cell? (π bx 2)=some (ι d))/\
  Hid (∃Dg,(∀b,b∈bx::RO->b∈Dg)/\In w3 C.mb U.rb Dg K p c t used (z,r2)/\Kept (bx::RO) (w2.drewN 1) w3)):=by
  refine ae (ux.o.mono ?_);rintro e w3 ⟨rfl,Dg,BX,aat,iO⟩;have b3:=ay.jU M1.o iO smm;have XE:=HX.o;exact ⟨rfl,⟨(b3.cell 1).trans (by rw [<-XE.1];rfl),(b3.cell 2).trans (by rw [<-XE.2];rfl)⟩,ae ⟨Dg,BX,aat,iO⟩⟩
 have C2:Hid (∀w3,(∃Dg,(∀b,b∈bx::RO->b∈Dg)/\In w3 C.mb U.rb Dg K p c t used (z,r2)/\Kept (bx::RO) (w2.drewN 1) w3)->Calls prog 218 #[ρ C.mb,ι q2,ι d,.agg #[.int .u64 y.key,ι (y.tg 0),ι (y.tg 1),ι (y.tg 2),ι (y.tg 3)]] w3 fun e w4=>(∃b,e= .returned (.bool b))/\(w4.cell? (π bx 1)=some (ι q2)/\w4.cell? (π bx 2)=some (ι d))/\
  Hid (bX w C.mb U.rb RO K p c t used (.tuple #[]) (gW (aw p c) (z,r2) q2 d y).1 (.returned (.tuple #[])) w4)):=by
  refine ae ?_;rintro w3 ⟨Dg,BX,⟨C3,U3,Ld,ς,sN,sO,A3⟩,iO⟩;have hn:=Lw A3 nC.o kO he y lN.o (by have:=HJ.o;have e:=XD.o.2.2;rw [<-e];simp [Rn.note];omega);rw [sN,sO] at hn;refine hn.mono ?_;rintro e w4 ⟨rfl,Lh,Js,aau,AI⟩;have b4:=ay.jU (ay.jU M1.o iO smm) AI (BX bx smm);have XE:=HX.o;exact ⟨⟨_,rfl⟩,⟨(b4.cell 1).trans (by rw [<-XE.1];rfl),(b4.cell 2).trans (by rw [<-XE.2];rfl)⟩,ae ⟨rfl,Lh,fun b hb=>Js b (BX b (by simp [hb])),aau,(HK.o.trans iO (fun b hb=>by simp [hb])).trans AI (fun b hb=>BX b (by simp [hb]))⟩⟩
 clear ux;go_wp2_with fail
 go_region_held3 (fun wx=>wx.cell? (π bx 1)=some (ι q2)/\wx.cell? (π bx 2)=some (ι d)) (first|exact ⟨d1,d2⟩|assumption) (first|(go_at_call 219;refine C1.o.mono ?_;rintro e w3 ⟨rfl,Gl,N0⟩)|(go_at_call 218;refine (C2.o _ N0.o).mono ?_;rintro e w4 ⟨⟨b,rfl⟩,Lz,hQ4⟩))
 clear Gl Lz;go_wp2;exact afI (afT rfl _ _ _) rfl hQ4.o
def Cb:Nat->FuncId
 |0=>101
 |1=>102
 |2=>102
 |3=>103
 |4=>104
 |5=>105
 |6=>106
 |7=>107
 |8=>108
 |9=>109
 |10=>110
 |11=>111
 |12=>111
 |13=>112
 |14=>112
 |15=>111
 |16=>111
 |17=>111
 |18=>111
 |19=>111
 |20=>111
 |21=>111
 |22=>113
 |23=>114
 |24=>115
 |25=>116
 |26=>117
 |27=>113
 |28=>118
 |29=>119
 |30=>120
 |31=>121
 |32=>122
 |33=>123
 |34=>124
 |35=>125
 |36=>126
 |37=>127
 |38=>128
 |39=>129
 |40=>130
 |_=>131
variable {s0:St} {T:Map} {st:Std}
theorem aaw (G:ft p T r st) {x:Nat} (h1:bO (ai p r.at_).op.toNat=[x]):∃n rest,r.stack=n::rest/\-1073741824<=n/\n<=1073741824:=by obtain ⟨_,_,hf,_⟩:=jQ G.iH.taken;rw [h1] at hf;obtain ⟨n,st',t',SU,e1,e2,hv,mS,_,_⟩:=G.stack.vm hf;exact ⟨n,st',e1,hv.in.1,hv.in.2⟩
theorem aax (G:ft p T r st) {x y:Nat} (h1:bO (ai p r.at_).op.toNat=[x,y]):∃b a rest,r.stack=b::a::rest/\(-1073741824<=a/\a<=1073741824)/\(-1073741824<=b/\b<=1073741824):=by obtain ⟨_,_,hf,_⟩:=jQ G.iH.taken;rw [h1] at hf;obtain ⟨n,st1,t1,ty1,e1,e2,hv,mS,Jk,_⟩:=G.stack.vm hf;obtain ⟨m,st2,t2,SX,e3,e4,NK,Xd,_,_⟩:=mS.vm Jk;exact ⟨n,m,st2,by rw [e1,e3],NK.in,hv.in⟩
theorem Tr (V:Env p c T) (G:ft p T r st) (h:(ai p r.at_).op=25\/(ai p r.at_).op=26):∃m rest,r.loops=m::rest/\-1073741824<=m/\m<=1073741824:=by
 have zI:0 < r.loops.length:=by
  rw [G.loops];rcases h with h|h
  ·rw [afE h];omega
  ·have hj:=G.iH.jumps;rw [abH omm];cases iF:st.lo with
   |nil=>exfalso;rw [iF] at hj;unfold cC at hj;simp [h] at hj
   |cons a l=>simp
 cases hr:r.loops with
 |nil=>rw [hr] at zI;simp at zI
 |cons m rest=>have:=G.Xc m (by rw [hr];simp);exact ⟨m,rest,rfl,omm,omm⟩
theorem XK (G:ft p T r st) (h:dU p (ai p r.at_) st.ha=true->st.ha≠0):∃x,r.hand=some x:=by
 have h1:=h G.iH.ji;cases hr:r.hand with
 |none=>exact absurd (G.hand.2 hr) h1
 |some x=>exact ⟨x,rfl⟩
structure Gp (r:Rn):Prop where
 stack:r.stack.length < 900000
 loops:r.loops.length < 900000
 told:r.told.length < 900000
 bm:r.bm.length < 900000
theorem abO {p:Prop} (h:p:=by
 obtain ⟨b,a,rest,e1,ha,hb⟩:=tY _ _ (by rw [cW];rfl);have hl:rest.length < 999999:=by rw [e1] at q1;simp at q1;omega
 have:=rL h i omm (a:=a) (b:=b) (rest:=rest) e1 hl ha hb;rw [show (s,bI r).2.fO=b by show r.stack.headD 0=b;rw [e1];rfl,show (s,bI r).2.pop.fO=a by show r.stack.tail.headD 0=a;rw [e1];rfl];exact this):p:=h
theorem Ts (h:cD w C U RO K p c t used hv jv s (bI r)) (E:im K p c s) (V:Env p c T) (G:ft p T r st) (H:eY (aw p c) p.vars.length s0 (s,r)) (Q:Gp r):
 Calls prog (Cb (ai p r.at_).op.toNat) #[ρ C.mb,aQ (ai p r.at_)] w (bX w C.mb U.rb RO K p c t used (.tuple #[]) (aC p c (ai p r.at_) (s,bI r))):=by
 have ho:=(np V G).1;unfold iP aF at ho;simp only [afW,afX] at ho;obtain ⟨Tt,Jz⟩:=ho;have hF:=fun k hk=>ed V G (k:=k) hk;have q1:=Q.stack;have q2:=Q.loops;have q3:=Q.told;have q4:=Q.bm;have ht:=(cK V.check).1;have EB:=fun x hx=>aaw G (x:=x) hx;have tY:=fun x y hx=>aax G (x:=x) (y:=y) hx;have C_:=fun hx=>Tr V G hx;have υ:=fun hx=>XK G hx;generalize ai p r.at_=i at*;obtain ⟨z,cW⟩:∃z,i.op=z:=⟨_,rfl⟩;rw [cW] at Tt Jz;have hc:z=0\/z=1\/z=2\/z=3\/z=4\/z=5\/z=6\/z=7\/z=8\/z=9\/z=10\/z=11\/z=12\/z=13\/z=14\/z=15\/z=16\/z=17\/z=18\/z=19\/z=20\/z=21\/z=22\/z=23\/z=24\/z=25\/z=26\/z=27\/z=28\/z=29\/z=30\/z=31\/z=32\/z=33\/z=34\/z=35\/z=36\/z=37\/z=38\/z=39\/z=40\/z=41:=omm;clear Tt Jz;rcases hc with rfl|rfl|rfl|rfl|rfl|rfl|rfl|rfl|rfl|rfl|rfl|rfl|rfl|rfl|rfl|rfl|rfl|rfl|rfl|rfl|rfl|rfl|rfl|rfl|rfl|rfl|rfl|rfl|rfl|rfl|rfl|rfl|rfl|rfl|rfl|rfl|rfl|rfl|rfl|rfl|rfl|rfl
 ·have e:∀x,aC p c i x=(x.1,{x.2 with done:=true}):=fun x=>by unfold aC;rw [cW];rfl
  rw [show i.op.toNat=0 by omega,e];exact XF h i
 ·have e:∀x,aC p c i x=(x.1,x.2.push i.a):=fun x=>by unfold aC;rw [cW];rfl
  rw [show i.op.toNat=1 by omega,e];exact vH h i (by show r.stack.length < _;omega)
 ·have e:∀x,aC p c i x=(x.1,x.2.push i.a):=fun x=>by unfold aC;rw [cW];rfl
  rw [show i.op.toNat=2 by omega,e];exact vH h i (by show r.stack.length < _;omega)
 ·have e:∀x,aC p c i x=(x.1,x.2.push (x.1.vars (N i.a))):=fun x=>by unfold aC;rw [cW];rfl
  rw [show i.op.toNat=3 by omega,e];have hf:=hF 3 cW;obtain ⟨a1,a2,a3⟩:=DW hf.1;exact Ea h i (show i.a=(N i.a:Nat) by unfold N;omega) a3 (by show r.stack.length < _;omega)
 ·have e:∀x,aC p c i x=(x.1,x.2.push (x.1.a.ls (N i.a)).length):=fun x=>by unfold aC;rw [cW];rfl
  rw [show i.op.toNat=4 by omega,e];have hf:=hF 4 cW;obtain ⟨a1,a2,a3⟩:=cX hf.1;exact LH h i (show i.a=(N i.a:Nat) by unfold N;omega) a3 (by show r.stack.length < _;omega)
 ·have e:∀x,aC p c i x=(x.1,x.2.push (c.aI.getD (N i.a) 0)):=fun x=>by unfold aC;rw [cW];rfl
  rw [show i.op.toNat=5 by omega,e];have hf:=hF 5 cW;obtain ⟨a1,a2,a3⟩:=cX hf.1;exact Eu h i (show i.a=(N i.a:Nat) by unfold N;omega) (by rw [E.gQ.len];exact a3) (by show r.stack.length < _;omega)
 ·have e:∀x,aC p c i x=(x.1,x.2.push c.size):=fun x=>by unfold aC;rw [cW];rfl
  rw [show i.op.toNat=6 by omega,e];exact Tn h i (by show r.stack.length < _;omega)
 ·have e:∀x,aC p c i x=(x.1,x.2.push x.1.total):=fun x=>by unfold aC;rw [cW];rfl
  rw [show i.op.toNat=7 by omega,e];exact Gm h i (by show r.stack.length < _;omega)
 ·have e:∀x,aC p c i x=sx (aw p c) i x:=fun x=>by unfold aC;rw [cW];rfl
  rw [show i.op.toNat=8 by omega,e];have hf:=hF 8 cW;obtain ⟨a1,a2,a3⟩:=cX hf.1;unfold sx;dsimp only;rw [show (bI r).key=r.key from rfl];cases hk:s.f r.key with
  |none=>exact Ez h i hk (by show r.stack.length < _;omega)
  |some n=>obtain ⟨q,hq,hn,-⟩:=(E.inv.idx r.key n).1 hk;dsimp only;rw [jq E.inv.wf hq hn];have:=Ey h i (show i.a=(N i.a:Nat) by unfold N;omega) hk hq hn (by show r.stack.length < _;omega);rw [show ((q:Int)==((N i.a:Nat):Int))=decide ((q:Int)=i.a) by rw [<-(show i.a=(N i.a:Nat) by unfold N;omega)];rfl] at this;exact this
 ·have e:∀x,aC p c i x=tE i x:=fun x=>by unfold aC;rw [cW];rfl
  rw [show i.op.toNat=9 by omega,e];have hf:=hF 9 cW;obtain ⟨a1,a2,a3⟩:=sD hf.1;unfold tE;dsimp only;rw [show (bI r).key=r.key from rfl];cases hk:s.f r.key with
  |none=>exact IB h i hk
  |some n=>obtain ⟨q,hq,hn,-⟩:=(E.inv.idx r.key n).1 hk;exact IA h i hk hq hn (show i.a=(N i.a:Nat) by unfold N;omega) (by have:=ht.t;omega) (by show r.stack.length < _;omega)
 ·have e:∀x,aC p c i x=l_ i x:=fun x=>by unfold aC;rw [cW];rfl
  rw [show i.op.toNat=10 by omega,e];have hf:=hF 10 cW;obtain ⟨a1,a2,a3⟩:=cX hf.1;obtain ⟨b1,b2,b3⟩:=fZ hf.2.1;obtain ⟨d1,d2,d3⟩:=sD hf.2.2.1;unfold l_;dsimp only;by_cases bz:s.a.ls (N i.a)=[]
  ·rw [afE bz];exact B_ h i (show i.a=(N i.a:Nat) by unfold N;omega) (show i.b=(N i.b:Nat) by unfold N;omega) a3 b3 bz
  ·rw [abH bz];exact Ca h i (show i.a=(N i.a:Nat) by unfold N;omega) (show i.b=(N i.b:Nat) by unfold N;omega) a3 b3 bz (show i.c=(N i.c:Nat) by unfold N;omega) (by have:=ht.t;omega) (by show r.stack.length < _;omega)
 ·have e:∀x,aC p c i x=(x.1,x.2.pop.pop.push (mL i.op x.2.pop.fO x.2.fO)):=fun x=>by unfold aC;rw [cW];rfl
  rw [show i.op.toNat=11 by omega,e];exact abO
 ·have e:∀x,aC p c i x=(x.1,x.2.pop.pop.push (mL i.op x.2.pop.fO x.2.fO)):=fun x=>by unfold aC;rw [cW];rfl
  rw [show i.op.toNat=12 by omega,e];exact abO
 ·have e:∀x,aC p c i x=(x.1,x.2.pop.push (-x.2.fO)):=fun x=>by unfold aC;rw [cW];rfl
  rw [show i.op.toNat=13 by omega,e];obtain ⟨n,rest,e1,n0,n1⟩:=EB _ (by rw [cW];rfl);have hl:rest.length < 1000000:=by rw [e1] at q1;simp at q1;omega
  have:=Rs h i (n:=n) (rest:=rest) e1 hl n0 n1;unfold Ex at this;rw [abH omm] at this;rw [show (s,bI r).2.fO=n by show r.stack.headD 0=n;rw [e1];rfl];exact this
 ·have e:∀x,aC p c i x=(x.1,x.2.pop.push (1 - x.2.fO)):=fun x=>by unfold aC;rw [cW];rfl
  rw [show i.op.toNat=14 by omega,e];obtain ⟨n,rest,e1,n0,n1⟩:=EB _ (by rw [cW];rfl);have hl:rest.length < 1000000:=by rw [e1] at q1;simp at q1;omega
  have:=Rs h i (n:=n) (rest:=rest) e1 hl n0 n1;unfold Ex at this;rw [afE cW] at this;rw [show (s,bI r).2.fO=n by show r.stack.headD 0=n;rw [e1];rfl];exact this
 ·have e:∀x,aC p c i x=(x.1,x.2.pop.pop.push (mL i.op x.2.pop.fO x.2.fO)):=fun x=>by unfold aC;rw [cW];rfl
  rw [show i.op.toNat=15 by omega,e];exact abO
 ·have e:∀x,aC p c i x=(x.1,x.2.pop.pop.push (mL i.op x.2.pop.fO x.2.fO)):=fun x=>by unfold aC;rw [cW];rfl
  rw [show i.op.toNat=16 by omega,e];exact abO
 ·have e:∀x,aC p c i x=(x.1,x.2.pop.pop.push (mL i.op x.2.pop.fO x.2.fO)):=fun x=>by unfold aC;rw [cW];rfl
  rw [show i.op.toNat=17 by omega,e];exact abO
 ·have e:∀x,aC p c i x=(x.1,x.2.pop.pop.push (mL i.op x.2.pop.fO x.2.fO)):=fun x=>by unfold aC;rw [cW];rfl
  rw [show i.op.toNat=18 by omega,e];exact abO
 ·have e:∀x,aC p c i x=(x.1,x.2.pop.pop.push (mL i.op x.2.pop.fO x.2.fO)):=fun x=>by unfold aC;rw [cW];rfl
  rw [show i.op.toNat=19 by omega,e];exact abO
 ·have e:∀x,aC p c i x=(x.1,x.2.pop.pop.push (mL i.op x.2.pop.fO x.2.fO)):=fun x=>by unfold aC;rw [cW];rfl
  rw [show i.op.toNat=20 by omega,e];exact abO
 ·have e:∀x,aC p c i x=(x.1,x.2.pop.pop.push (mL i.op x.2.pop.fO x.2.fO)):=fun x=>by unfold aC;rw [cW];rfl
  rw [show i.op.toNat=21 by omega,e];exact abO
 ·have e:∀x,aC p c i x=(x.1,{x.2 with at_:=N i.a}):=fun x=>by unfold aC;rw [cW];rfl
  rw [show i.op.toNat=22 by omega,e];have hf:=hF 22 cW;obtain ⟨a1,a2⟩:=js hf.1;exact LI h i (show i.a=(N i.a:Nat) by unfold N;omega)
 ·have e:∀x,aC p c i x=(x.1,pK x.2 (N i.a)):=fun x=>by unfold aC;rw [cW];rfl
  rw [show i.op.toNat=23 by omega,e];have hf:=hF 23 cW;obtain ⟨a1,a2⟩:=js hf.1;obtain ⟨n,rest,e1,n0,n1⟩:=EB _ (by rw [cW];rfl);exact Le h i (show i.a=(N i.a:Nat) by unfold N;omega) (n:=n) (rest:=rest) e1 (by rw [e1] at q1;simp at q1;omega)
 ·have e:∀x,aC p c i x=(x.1,{x.2 with loops:=i.a::x.2.loops}):=fun x=>by unfold aC;rw [cW];rfl
  rw [show i.op.toNat=24 by omega,e];exact To h i rfl (by show r.loops.length < _;omega)
 ·have e:∀x,aC p c i x=ql i x:=fun x=>by unfold aC;rw [cW];rfl
  rw [show i.op.toNat=25 by omega,e];have hf:=hF 25 cW;rw [show ql i (s,bI r)=(s,vJ (bI r) (N i.a)) by unfold ql vJ;dsimp only;split<;>rfl];obtain ⟨a1,a2⟩:=js hf.1;obtain ⟨m,rest,e1,m0,m1⟩:=C_ (.inl cW);exact Ev h i (show i.a=(N i.a:Nat) by unfold N;omega) (m:=m) (rest:=rest) e1 (by rw [e1] at q2;simp at q2;omega) m0 m1
 ·have e:∀x,aC p c i x=qm i x:=fun x=>by unfold aC;rw [cW];rfl
  rw [show i.op.toNat=26 by omega,e];have hf:=hF 26 cW;rw [show qm i (s,bI r)=(s,vI (bI r) (N i.a)) by unfold qm vI;dsimp only;split<;>rfl];obtain ⟨a1,a2⟩:=js hf.1;obtain ⟨n,rest,e1,n0,n1⟩:=EB _ (by rw [cW];rfl);obtain ⟨m,lrest,e2,m0,m1⟩:=C_ (.inr cW);exact S5 h i (show i.a=(N i.a:Nat) by unfold N;omega) (n:=n) (rest:=rest) e1 (by rw [e1] at q1;simp at q1;omega) (m:=m) (lrest:=lrest) e2 (by rw [e2] at q2;simp at q2;omega)
 ·have e:∀x,aC p c i x=(x.1,{x.2 with at_:=N i.a}):=fun x=>by unfold aC;rw [cW];rfl
  rw [show i.op.toNat=27 by omega,e];have hf:=hF 27 cW;obtain ⟨a1,a2⟩:=js hf.1;exact LI h i (show i.a=(N i.a:Nat) by unfold N;omega)
 ·have e:∀x,aC p c i x=zp p i x:=fun x=>by unfold aC;rw [cW];rfl
  rw [show i.op.toNat=28 by omega,e];have hf:=hF 28 cW;obtain ⟨a1,a2,a3⟩:=DW hf.1;obtain ⟨n,rest,e1,n0,n1⟩:=EB _ (by rw [cW];rfl);exact Kj h i (show i.a=(N i.a:Nat) by unfold N;omega) a3 (n:=n) (rest:=rest) e1 (by rw [e1] at q1;simp at q1;omega) (by show r.bm.length < _;omega)
 ·have e:∀x,aC p c i x=oO p i x:=fun x=>by unfold aC;rw [cW];rfl
  rw [show i.op.toNat=29 by omega,e];have hf:=hF 29 cW;obtain ⟨a1,a2,a3⟩:=sD hf.1;obtain ⟨v,rest,e1,n0,n1⟩:=EB _ (by rw [cW];rfl);have hl:rest.length < 1000000:=by rw [e1] at q1;simp at q1;omega
  unfold oO;dsimp only;rw [show (bI r).key=r.key from rfl,show (bI r).fO=v by show r.stack.headD 0=v;rw [e1];rfl];cases hk:s.f r.key with
  |none=>exact Ep h i hk (v:=v) (rest:=rest) e1 hl
  |some n=>obtain ⟨q,hq,hn,-⟩:=(E.inv.idx r.key n).1 hk;exact Em h i (show i.a=(N i.a:Nat) by unfold N;omega) hk hq hn a3 E.t4 (by show r.bm.length < _;omega) (v:=v) (rest:=rest) e1 hl
 ·have e:∀x,aC p c i x=jO p i x:=fun x=>by unfold aC;rw [cW];rfl
  rw [show i.op.toNat=30 by omega,e];have hf:=hF 30 cW;obtain ⟨a1,a2,a3⟩:=cX hf.1;obtain ⟨b1,b2,b3⟩:=fZ hf.2.1;obtain ⟨d1,d2,d3⟩:=sD hf.2.2.1;obtain ⟨v,rest,e1,n0,n1⟩:=EB _ (by rw [cW];rfl);have hl:rest.length < 1000000:=by rw [e1] at q1;simp at q1;omega
  unfold jO;dsimp only;rw [show (bI r).fO=v by show r.stack.headD 0=v;rw [e1];rfl];by_cases bz:s.a.ls (N i.a)=[]
  ·rw [afE bz];exact zL h i (show i.a=(N i.a:Nat) by unfold N;omega) (show i.b=(N i.b:Nat) by unfold N;omega) a3 b3 bz (v:=v) (rest:=rest) e1 hl
  ·rw [abH bz];exact zK h i (show i.a=(N i.a:Nat) by unfold N;omega) (show i.b=(N i.b:Nat) by unfold N;omega) (show i.c=(N i.c:Nat) by unfold N;omega) a3 b3 bz d3 E.t4 (by show r.bm.length < _;omega) (v:=v) (rest:=rest) e1 hl
 ·have e:∀x,aC p c i x=lZ (aw p c) i x:=fun x=>by unfold aC;rw [cW];rfl
  rw [show i.op.toNat=31 by omega,e];have hf:=hF 31 cW;obtain ⟨a1,a2,a3⟩:=cX hf.1;obtain ⟨b1,b2,b3⟩:=fZ hf.2.1;unfold lZ;dsimp only;rw [show (bI r).key=r.key from rfl];cases hk:s.f r.key with
  |none=>exact BS h E i (show i.a=(N i.a:Nat) by unfold N;omega) (show i.b=(N i.b:Nat) by unfold N;omega) a3 b3 hk (by show r.bm.length < _;omega)
  |some n=>obtain ⟨q,hq,hn,-⟩:=(E.inv.idx r.key n).1 hk;exact BT h i hk hq hn
 ·have e:∀x,aC p c i x=tD (aw p c) i x:=fun x=>by unfold aC;rw [cW];rfl
  rw [show i.op.toNat=32 by omega,e];have hf:=hF 32 cW;obtain ⟨a1,a2,a3⟩:=cX hf.1;obtain ⟨b1,b2,b3⟩:=fZ hf.2.1;unfold tD;dsimp only;rw [show (bI r).key=r.key from rfl];cases hk:s.f r.key with
  |none=>exact Iy h i hk
  |some n=>obtain ⟨q,hq,hn,-⟩:=(E.inv.idx r.key n).1 hk;dsimp only;rw [jq E.inv.wf hq hn];exact Iz h E i (show i.a=(N i.a:Nat) by unfold N;omega) (show i.b=(N i.b:Nat) by unfold N;omega) a3 b3 hk hq hn (by show r.bm.length < _;omega)
 ·have e:∀x,aC p c i x=l8 (aw p c) x:=fun x=>by unfold aC;rw [cW];rfl
  rw [show i.op.toNat=33 by omega,e];unfold l8;dsimp only;rw [show (bI r).key=r.key from rfl];cases hk:s.f r.key with
  |none=>exact BU h i hk
  |some n=>
   obtain ⟨q,hq,hn,-⟩:=(E.inv.idx r.key n).1 hk;dsimp only;rw [jq E.inv.wf hq hn];by_cases hg:p.ap.getD q false=true
   ·rw [afE (show (aw p c).gh q=true from hg)];exact BW h E i hk hq hn hg (by show r.bm.length < _;omega)
   ·rw [abH (show ¬(aw p c).gh q=true from hg)];exact BV h i hk hq hn (by simpa using hg)
 ·have e:∀x,aC p c i x=(bi (aw p c) x (N i.a) (N i.b)).1:=fun x=>by unfold aC;rw [cW];rfl
  rw [show i.op.toNat=34 by omega,e];have hf:=hF 34 cW;obtain ⟨a1,a2,a3⟩:=cX hf.1;obtain ⟨b1,b2,b3⟩:=fZ hf.2.1;exact Ti h i E (show i.a=(N i.a:Nat) by unfold N;omega) (show i.b=(N i.b:Nat) by unfold N;omega) a3 b3 (by show r.bm.length < _;omega)
 ·have e:∀x,aC p c i x=(dt (aw p c) x (N i.a) (N i.b)).1:=fun x=>by unfold aC;rw [cW];rfl
  rw [show i.op.toNat=35 by omega,e];have hf:=hF 35 cW;obtain ⟨a1,a2,a3⟩:=cX hf.1;obtain ⟨b1,b2,b3⟩:=fZ hf.2.1;obtain ⟨x,hx⟩:=υ (fun hh=>by
   unfold dU at hh;intro h0;rw [h0] at hh;simp [cW] at hh)
  exact Tj h i E (show i.a=(N i.a:Nat) by unfold N;omega) (show i.b=(N i.b:Nat) by unfold N;omega) a3 b3 hx (H.hand x hx).1 (by show r.bm.length < _;omega)
 ·have e:∀x,aC p c i x=fY x:=fun x=>by unfold aC;rw [cW];rfl
  rw [show i.op.toNat=36 by omega,e];obtain ⟨x,hx⟩:=υ (fun hh=>by
   unfold dU at hh;intro h0;rw [h0] at hh;simp [cW] at hh)
  exact Tk h i hx (by show r.told.length < _;omega)
 ·have e:∀x,aC p c i x=fG x:=fun x=>by unfold aC;rw [cW];rfl
  rw [show i.op.toNat=37 by omega,e];exact Pr h i
 ·have e:∀x,aC p c i x=nX (aw p c) i x:=fun x=>by unfold aC;rw [cW];rfl
  rw [show i.op.toNat=38 by omega,e];have hf:=hF 38 cW;obtain ⟨a1,a2,a3⟩:=cX hf.1;obtain ⟨b1,b2,b3⟩:=fZ hf.2.1;obtain ⟨d1,d2,d3⟩:=cX hf.2.2.1;obtain ⟨f1,f2,f3⟩:=fZ hf.2.2.2;exact Pv h i E (show i.a=(N i.a:Nat) by unfold N;omega) (show i.b=(N i.b:Nat) by unfold N;omega) a3 b3 (show i.c=(N i.c:Nat) by unfold N;omega) (show i.d=(N i.d:Nat) by unfold N;omega) d3 f3 (by show r.bm.length < _;omega)
 ·have e:∀x,aC p c i x=nY (aw p c) i x:=fun x=>by unfold aC;rw [cW];rfl
  rw [show i.op.toNat=39 by omega,e];have hf:=hF 39 cW;obtain ⟨a1,a2,a3⟩:=cX hf.1;obtain ⟨b1,b2,b3⟩:=fZ hf.2.1;obtain ⟨d1,d2,d3⟩:=cX hf.2.2.1;obtain ⟨f1,f2,f3⟩:=fZ hf.2.2.2;exact Px h i E (show i.a=(N i.a:Nat) by unfold N;omega) (show i.b=(N i.b:Nat) by unfold N;omega) a3 b3 (show i.c=(N i.c:Nat) by unfold N;omega) (show i.d=(N i.d:Nat) by unfold N;omega) d3 f3 (by show r.bm.length < _;omega) (by show r.told.length < _;omega)
 ·have e:∀x,aC p c i x=nZ (aw p c) i x:=fun x=>by unfold aC;rw [cW];rfl
  rw [show i.op.toNat=40 by omega,e];have hf:=hF 40 cW;obtain ⟨a1,a2,a3⟩:=cX hf.1;obtain ⟨b1,b2,b3⟩:=fZ hf.2.1;exact Pw h i E (show i.a=(N i.a:Nat) by unfold N;omega) (show i.b=(N i.b:Nat) by unfold N;omega) a3 b3 (by show r.bm.length < _;omega) (by show r.told.length < _;omega)
 ·have e:∀x,aC p c i x=rz (aw p c) i x:=fun x=>by unfold aC;rw [cW];rfl
  rw [show i.op.toNat=41 by omega,e];have hf:=hF 41 cW;obtain ⟨a1,a2,a3⟩:=cX hf.1;obtain ⟨b1,b2,b3⟩:=fZ hf.2.1;exact Tl h i E (show i.a=(N i.a:Nat) by unfold N;omega) (show i.b=(N i.b:Nat) by unfold N;omega) a3 b3 (by show r.bm.length < _;omega)
theorem enters (n:Nat) (hn:n < 42) (args:Array Value) (w:World):(callFunc (Cb n) args).run prog w= .ok (.enter (Cb n) args) w:=by
 have hc:n=0\/n=1\/n=2\/n=3\/n=4\/n=5\/n=6\/n=7\/n=8\/n=9\/n=10\/n=11\/n=12\/n=13\/n=14\/n=15\/n=16\/n=17\/n=18\/n=19\/n=20\/n=21\/n=22\/n=23\/n=24\/n=25\/n=26\/n=27\/n=28\/n=29\/n=30\/n=31\/n=32\/n=33\/n=34\/n=35\/n=36\/n=37\/n=38\/n=39\/n=40\/n=41:=omm;rcases hc with rfl|rfl|rfl|rfl|rfl|rfl|rfl|rfl|rfl|rfl|rfl|rfl|rfl|rfl|rfl|rfl|rfl|rfl|rfl|rfl|rfl|rfl|rfl|rfl|rfl|rfl|rfl|rfl|rfl|rfl|rfl|rfl|rfl|rfl|rfl|rfl|rfl|rfl|rfl|rfl|rfl|rfl
 all_goals (unfold Cb;go_simp)
theorem Cc (K:Kc) (C:Co) (p:aO) (c:Cp) (total:Int) (t:fI) (used:Int) (rv:Value) (n:Nat) (hn:n < 42):(rD K C p c total t used rv)[18+n]? =some (K.steps n):=by
 have hc:n=0\/n=1\/n=2\/n=3\/n=4\/n=5\/n=6\/n=7\/n=8\/n=9\/n=10\/n=11\/n=12\/n=13\/n=14\/n=15\/n=16\/n=17\/n=18\/n=19\/n=20\/n=21\/n=22\/n=23\/n=24\/n=25\/n=26\/n=27\/n=28\/n=29\/n=30\/n=31\/n=32\/n=33\/n=34\/n=35\/n=36\/n=37\/n=38\/n=39\/n=40\/n=41:=omm;rcases hc with rfl|rfl|rfl|rfl|rfl|rfl|rfl|rfl|rfl|rfl|rfl|rfl|rfl|rfl|rfl|rfl|rfl|rfl|rfl|rfl|rfl|rfl|rfl|rfl|rfl|rfl|rfl|rfl|rfl|rfl|rfl|rfl|rfl|rfl|rfl|rfl|rfl|rfl|rfl|rfl|rfl|rfl
 all_goals rfl
variable {t':fI} {used':Int} {rv':Value}
theorem Mx.sX (h:Mx w C RO K p c s t used rv) (o:Nat) (v:Value) (hb:(rD K C p c s.total t used rv).setIfInBounds o v=rD K C p c s.total t' used' rv'):bu w (w.setCell (π C.mb o) v) C C/\Mx (w.setCell (π C.mb o) v) C RO K p c s t' used' rv':=by
 have R:=h.rel;have F:da [C.mb] w (w.setCell (π C.mb o) v):=(da.refl _ w).setCell smm _;refine ⟨⟨rfl,F.mono (by intro k hk;simp at hk;subst hk;simp [Co.l]),fun _ hb=> .inl hb⟩,⟨⟨?_,?_,?_,?_,?_⟩,h.sep.nd,fun b hb=>afQ (h.sep.lt b hb) F.size,h.sep.ro,fun b hb=>afQ (h.sep.cY b hb) F.size⟩⟩
 ·rw [<-hb];exact h.m.aM.set o v
 ·exact h.m.prog.aB F fun b hb hc=>by simp at hc;subst hc;exact h.cr hb (by simp [Co.l])
 ·exact h.m.ar.aB F fun b hb hc=>by simp at hc;subst hc;exact R.ma hb
 ·exact h.m.ix.aB F ⟨by simp;exact fun e=>R.mx e.symm,by simp;exact fun e=>R.ms e.symm⟩
 ·exact h.m.vs.aB F fun b hb hc=>by simp at hc;subst hc;exact R.mv (aK.2 hb)
theorem cD.sX (h:cD w C U RO K p c t used hv jv s r) (o:Nat) (v:Value) (hb:(rD K C p c s.total t used (ρ U.rb)).setIfInBounds o v=rD K C p c s.total t' used' (ρ U.rb)):cD (w.setCell (π C.mb o) v) C U RO K p c t' used' hv jv s r:=by obtain ⟨k1,k2⟩:=h.mx.sX o v hb;exact h.oh k1 k2
theorem LK {b cap:Nat} (h3:Row w 40 5 (.slice (some (π b 0)) p.code.length cap) p.code.length (bQ p)) {i:Nat} (hi:i < p.code.length):
 w.cell? (π b (i*5))=some (ι (ai p i).op)/\w.cell? (π b (i*5+1))=some (ι (ai p i).a)/\w.cell? (π b (i*5+2))=some (ι (ai p i).b)/\w.cell? (π b (i*5+3))=some (ι (ai p i).c)/\w.cell? (π b (i*5+4))=some (ι (ai p i).d):=by
 have key:∀k,k < 5->w.cell? (π b (i*5+k))=some (bQ p (i*5+k)):=fun k hk=>h3.cell (o:=i*5+k) omm;have hd:∀k,k < 5->(i*5+k) / 5=i:=fun k hk=>omm;have hm:∀k,k < 5->(i*5+k) % 5=k:=fun k hk=>omm;refine ⟨(key 0 omm).trans ?_,(key 1 omm).trans ?_,(key 2 omm).trans ?_,(key 3 omm).trans ?_,(key 4 omm).trans ?_⟩
 ·unfold bQ;rw [hd 0 omm,hm 0 omm];rfl
 ·unfold bQ;rw [hd 1 omm,hm 1 omm];rfl
 ·unfold bQ;rw [hd 2 omm,hm 2 omm];rfl
 ·unfold bQ;rw [hd 3 omm,hm 3 omm];rfl
 ·unfold bQ;rw [hd 4 omm,hm 4 omm];rfl
theorem cD.XL (h:cD w C U RO K p c t used hv jv s r) (hp:0 < p.code.length):∃b cap,K.c= .slice (some (π b 0)) p.code.length cap/\Row w 40 5 (.slice (some (π b 0)) p.code.length cap) p.code.length (bQ p)/\b∈RO:=by obtain ⟨b,cap,fN,nO,lF,hb⟩:=h.m.prog.cd.some hp;have h3:=h.m.prog.cd;rw [fN] at h3;exact ⟨b,cap,fN,h3,h.m.prog.ro b (.inr (.inr (.inr (.inr (.inl (aK.2 (by rw [fN];rfl)))))))⟩
theorem lG {P:Program} {a:Act} {w:World} {Q:Exit->Act->World->Prop} {c rest:Code} (l:Nat) (J:Act->World->Prop) (μ:Act->World->Nat) (hf:findLabel c l=some (Code.seq Code.skip rest))
 (pass:∀a w,J a w->rest.wp P (Exit.jump l (fun a' w'=>J a' w'/\μ a' w' < μ a w) Q) a w) (first:(∀a w,J a w->rest.wp P (Exit.jump l J Q) a w)->c.wp P (Exit.jump l J Q) a w):(Code.scope c).wp P Q a w:=
 wp_scope_jumps l J μ hf (first fun a w h=>Code.wp_mono (fun e a' w' h'=>by
  cases e<;>first|exact h'|exact ⟨h'.1,h'.2.1⟩) (pass a w h)) (fun a w h=>wp_seq (wp_skip (pass a w h)))
structure N6 (K:Kc) (mb:Nat) (p:aO) (c:Cp):Prop where
 gQ:sC p c
 nd:K.nd=bH (aw p c)
 BP:K.nd<=4194304
 check:bo p=0
 steps:∀n,n < 42->K.steps n= .func (.func (Cb n)) #[ρ mb] #[]
theorem N6.ev {K:Kc} {mb:Nat} {p:aO} {c:Cp} {s:St} (h:N6 K mb p c) (hI:Inv (aw p c) s):im K p c s:=
 ⟨hI,h.gQ,h.nd,h.BP,(cK h.check).1.g,(cK h.check).1.t⟩
def rN (w wr:World) (mb rb:Nat) (RO:List Nat) (K:Kc) (p:aO) (c:Cp) (t:fI) (T:Map) (s0:St) (x0:SR) (f:Nat):Prop:=
 ∃(n:Nat) (x:SR) (st:Std) (RO':List Nat),(∀b,b∈RO->b∈RO')/\In wr mb rb RO' K p c t n x/\Kept RO w wr/\ft p T x.2 st/\eY (aw p c) p.vars.length s0 x/\Small n x.2/\left p x.2 st<=f/\
  iU p c gD x0=(n+(iU p c f x).1,(iU p c f x).2)/\n+f<=gD
def Ran (w:World) (mb rb:Nat) (RO:List Nat) (K:Kc) (p:aO) (c:Cp) (t:fI) (z:Nat×SR) (e:Ending) (w':World):Prop:=
 e= .returned (.tuple #[])/\∃RO',(∀b,b∈RO->b∈RO')/\In w' mb rb RO' K p c t z.1 z.2/\Kept RO w w'
theorem rN.left {w wr:World} {x0:SR} {f:Nat} (V:Env p c T) (h:rN w wr mb rb RO K p c t T s0 x0 f):0 < f:=by obtain ⟨n,x,st,RO',-,-,-,C,-,-,hl,-⟩:=h;have:=BA V C;omega
theorem Gp.LM {n:Nat} {r:Rn} (h:Small n r) (hn:n<=gD):Gp r:=by unfold gD at hn;exact ⟨by have:=h.stack;omega,by have:=h.loops;omega,by have:=h.told;omega,by have:=h.bm;omega⟩
def FrS (mb rb:Nat) (a:Act):Prop:=∃J:Nat->Value,a={tmps:=#[ρ mb,J 1,ρ rb,J 3,J 4,J 5,J 6,J 7,J 8,J 9,J 10,J 11,J 12,J 13,J 14,J 15,J 16,J 17,J 18,J 19,J 20,J 21,J 22,J 23,J 24,J 25,J 26,J 27,J 28,J 29,J 30,J 31,J 32,J 33,J 34,J 35,J 36,J 37,J 38,J 39,J 40,J 41,J 42,J 43,J 44,J 45,J 46,J 47,J 48,J 49,J 50,J 51,J 52,J 53],defers:=[]}
def qO (mb:Nat) (w:World):Nat:=match w.cell? ⟨mb,17,none⟩ with|some (.int _ u)=>u.toNat|_=>0
theorem yu {w:World} {n:Nat} {x:SR} (h:In w mb rb RO K p c t (n:Nat) x):qO mb w=n:=by
 obtain ⟨C,U,hv,jv,h1,h2,h3⟩:=h;have h4:w.cell? (π mb 17)=some (ι n):=by rw [<-h1];exact h3.m.aM.cell 17
 unfold qO;rw [h4];rfl
theorem vT (M:N6 K mb p c) (V:Env p c T) {x0:SR} (hg:rN w w mb rb RO K p c t T s0 x0 gD):
 Calls prog 62 #[ρ mb] w (Ran w mb rb RO K p c t (iU p c gD x0)):=by
 have h0:=hg;obtain ⟨n,x,st,RO',ho,⟨C0,U0,Ρ,jv0,XM,XN,A0⟩,-⟩:=h0;have oC:w.cell? (π mb 60)=some (ρ rb):=by rw [<-XM,<-XN];exact A0.m.aM.cell 60
 have HG:=ae hg;have HM:=ae M;have HV:=ae V;clear hg ho A0 XM XN M V;go_enter func62,ntmps62;go_wp2_with fail;refine lG 0 (fun a' wr=>FrS mb rb a'/\∃f,rN w wr mb rb RO K p c t T s0 x0 f) (fun _ wr=>gD - qO mb wr) rfl ?_ ?_
 ·rintro a' wr ⟨⟨J,rfl⟩,f,Bk⟩;have hf0:=Bk.left HV.o;obtain ⟨n,⟨s1,r1⟩,st1,kG,ho,⟨C1,U1,fN,jv1,kX,lE,A1⟩,hk,G1,H1,Q1,hl,uh,NH⟩:=Bk;dsimp only at A1 G1 H1 Q1 hl;obtain ⟨cb,zF,Dd,Rt,NY⟩:=A1.XL (by have:=G1.lt;omega);obtain ⟨k0,k1,k2,k3,k4⟩:=LK Rt G1.lt;have m5:wr.cell? (π mb 5)=some K.c:=by rw [<-kX];exact A1.m.aM.cell 5
  rw [Dd] at m5;have m17:wr.cell? (π mb 17)=some (ι n):=by rw [<-kX];exact A1.m.aM.cell 17
  have c1:wr.cell? (π rb 1)=some (ι r1.at_):=by rw [<-lE];exact A1.r.c_.cell 1
  have a8:=G1.lt;have lm:mb < wr.heap.size:=by rw [<-kX];exact A1.m.aM.lt
  have lr:rb < wr.heap.size:=by rw [<-lE];exact A1.r.c_.lt
  have lc:cb < wr.heap.size:=A1.sep.cY cb NY;have Eo:=ae A1;have N7:=ae G1;have HH1:=ae H1;have SM:=ae Q1;have AK:=ae hl;have XO:=ae uh;have pZ:=ae hk;have B7:=ae ho;have qN:=ae kX;have Df:=ae lE;have XP:p.code.length<=262144:=(cK HM.o.check).1.code;clear A1 G1 H1 Q1 hl uh hk ho kX lE Dd Rt NY oC;generalize hi:ai p r1.at_=i at*;have HI:=ae hi;clear hi;generalize Da:r1.at_=Gq at*;have XQ:=ae Da;clear Da;generalize p.code.length=cl at*;go_wp2_with fail;go_region;have B1:=(Eo.o.box (.cells (aA i) 40)).drewN 1;have N1:ay (wr.alloc (.cells (aA i) 40)).drew wr.heap.size 40 (aA i):=ay.new wr _ _;have B1:cD (wr.alloc (.cells (aA i) 40)).drew C1 U1 (wr.heap.size::kG) K p c t n fN jv1 s1 r1:=B1;have K1:Kept kG wr (wr.alloc (.cells (aA i) 40)).drew:=Kept.ah (((afL _ wr).alloc (afF _) _).trans (au _ _ 1)) Eo.o.sep.cY;have e17:(wr.alloc (.cells (aA i) 40)).drew.cell? (π mb 17)=some (ι n):=by rw [<-qN.o];exact B1.m.aM.cell 17
  have e1:(wr.alloc (.cells (aA i) 40)).drew.cell? (π rb 1)=some (ι Gq):=by rw [<-Df.o,<-XQ.o];exact B1.r.c_.cell 1
  have fm:∀o,(wr.alloc (.cells (aA i) 40)).drew.frozen? (π mb o)=false:=by rw [<-qN.o];exact B1.m.aM.frozen
  have fr:∀o,(wr.alloc (.cells (aA i) 40)).drew.frozen? (π rb o)=false:=by rw [<-Df.o];exact B1.r.c_.frozen
  have nm:mb≠rb:=by rw [<-qN.o,<-Df.o];exact fun e=>B1.sep.cu (b:=C1.mb) (by simp [Co.l]) (by rw [e];simp [Ru.l])
  have dC:=ae B1;have N8:=ae N1;have φ:=ae K1;have jo:IntKind.i64.wrap ((Gq:Int)+1)=Gq+1:=afU _ ⟨omm,omm⟩;have ot:n<=20000:=by unfold gD at NH;omega
  have qD:IntKind.i64.wrap ((n:Int)+1)=n+1:=afU _ ⟨omm,omm⟩;clear B1 N1 K1 k0 k1 k2 k3 k4 m5 m17 c1 lm lr lc;unfold aA at dC N8 φ e17 e1 fm fr;generalize (wr.alloc (.cells #[ι i.op,ι i.a,ι i.b,ι i.c,ι i.d] 40)).drew=w1 at*;generalize wr.heap.size=bx at*;go_wp2_with fail;have A2:=dC.o.iu 1 (ι ((Gq:Int)+1)) (r':=bI r1) (by rw [<-XQ.o];rfl) rfl rfl rfl rfl rfl dC.o.r.gm;have A3:=A2.sX 17 (ι ((n:Int)+1)) (used':=(n:Int)+1) rfl;rw [Df.o,qN.o] at A3;have nb1:bx≠rb:=fun e=>dC.o.sep.ur (b:=bx) smm (by rw [e,<-Df.o];simp [Ru.l]);have nb2:bx≠mb:=fun e=>dC.o.sep.cr (b:=bx) smm (by rw [e,<-qN.o];simp [Co.l]);have N3:=ay.other (ay.other N8.o nb1 1 (ι ((Gq:Int)+1))) nb2 17 (ι ((n:Int)+1));have K3:Kept kG w1 ((w1.setCell (π rb 1) (ι ((Gq:Int)+1))).setCell (π mb 17) (ι ((n:Int)+1))):=Kept.cE (S:=C1.l++U1.l) (((da.refl _ w1).setCell (by rw [<-Df.o];simp [Ru.l]) _).setCell (by rw [<-qN.o];simp [Co.l]) _) (fun b hb hc=>by
   rcases List.mem_append.1 hc with hc|hc
   ·exact dC.o.sep.cr (b:=b) (by simp [hb]) hc
   ·exact dC.o.sep.ur (b:=b) (by simp [hb]) hc) (fun b hb=>dC.o.sep.cY b (by simp [hb]))
  obtain ⟨Tt,Jz⟩:0<=i.op/\i.op<=41:=by have ho:=(np HV.o N7.o).1;rw [XQ.o,HI.o] at ho;unfold iP aF at ho;simpa only [afW,afX] using ho
  have χ:i.op.toNat < 42:=omm;have fj:((w1.setCell (π rb 1) (ι ((Gq:Int)+1))).setCell (π mb 17) (ι ((n:Int)+1))).cell? (π mb (18+i.op.toNat))=some (.func (.func (Cb i.op.toNat)) #[ρ mb] #[]):=by have h1:=A3.m.aM.cell (18+i.op.toNat);rw [qN.o,Cc _ _ _ _ _ _ _ _ _ χ,HM.o.steps _ χ] at h1;exact h1
  have hex:=Ts (A3.drewN 1) (HM.o.ev HH1.o.inv) HV.o N7.o HH1.o (Gp.LM SM.o omm);rw [qN.o,Df.o,XQ.o,HI.o] at hex;have aay:=fun (args:Array Value) (wz:World)=>enters i.op.toNat χ args wz;have y0:((w1.setCell (π rb 1) (ι ((Gq:Int)+1))).setCell (π mb 17) (ι ((n:Int)+1))).cell? (π bx 0)=some (ι (i.op.toNat:Nat)):=by rw [Int.toNat_of_nonneg Tt];exact N3.cell 0
  have y0':((w1.setCell (π rb 1) (ι ((Gq:Int)+1))).setCell (π mb 17) (ι ((n:Int)+1))).cell? (π bx 1)=some (ι i.a):=N3.cell 1;have y2:((w1.setCell (π rb 1) (ι ((Gq:Int)+1))).setCell (π mb 17) (ι ((n:Int)+1))).cell? (π bx 2)=some (ι i.b):=N3.cell 2;have y3:((w1.setCell (π rb 1) (ι ((Gq:Int)+1))).setCell (π mb 17) (ι ((n:Int)+1))).cell? (π bx 3)=some (ι i.c):=N3.cell 3;have y4:((w1.setCell (π rb 1) (ι ((Gq:Int)+1))).setCell (π mb 17) (ι ((n:Int)+1))).cell? (π bx 4)=some (ι i.d):=N3.cell 4;unfold aQ aA at hex;rw [show (ι i.op)=ι (i.op.toNat:Nat) by rw [Int.toNat_of_nonneg Tt]] at hex;have XR:=ae (((pZ.o.trans φ.o (fun b hb=>B7.o b hb)).trans K3 (fun b hb=>B7.o b hb)).trans (Kept.ah (RO:=kG) (au _ ((w1.setCell (π rb 1) (ι ((Gq:Int)+1))).setCell (π mb 17) (ι ((n:Int)+1))) 1) (fun b hb=>A3.sep.cY b (by simp [hb]))) (fun b hb=>B7.o b hb));have HEX:=ae hex;have Rw:aC p c i (s1,bI r1)=dY p c (s1,r1):=by unfold dY;rw [XQ.o,HI.o]
  rw [Rw] at HEX;have Gn:=ae (And.intro Tt Jz);clear A2 A3 nb1 nb2 N3 K3 Tt Jz hex Rw e17 e1 fm fr N8 dC;generalize i.op.toNat=on at*;have hoI:(on:Int) < 42:=omm;have aaz:(0:Int)<=on:=omm;generalize Cb on=F at*;generalize (w1.setCell (π rb 1) (ι ((Gq:Int)+1))).setCell (π mb 17) (ι ((n:Int)+1))=w3 at*
  go_still_tail 8,krr
  change wpList _ _ _ _ _ (w3.drewN 1);generalize w3.drewN 1=w4 at*;go_wp2_with fail;have Tu:=zs HV.o N7.o HH1.o;rw [show aC p c (ai p r1.at_) (s1,bI r1)=dY p c (s1,r1) from rfl] at Tu;have hsm:=vy (p:=p) (c:=c) (x:=(s1,r1)) SM.o;have LN:=fun st' C'=>qH (c:=c) (s:=s1) HV.o N7.o (st':=st') C';rw [show aC p c (ai p r1.at_) (s1,bI r1)=dY p c (s1,r1) from rfl] at LN;have hrn:=XO.o;obtain ⟨f',rfl⟩:∃f',f=f'+1:=⟨f - 1,omm⟩;rw [show iU p c (f'+1) (s1,r1)=if jH (dY p c (s1,r1)) then (1,dY p c (s1,r1)) else ((iU p c f' (dY p c (s1,r1))).1+1,(iU p c f' (dY p c (s1,r1))).2) from rfl] at hrn;have Pz:=ae Tu;have HSM:=ae hsm;have LO:=ae LN;have Dj:=ae hrn;clear Tu hsm LN hrn jo qD fj aay y0 y0' y2 y3 y4 hoI aaz χ nm XP a8 XO;generalize dY p c (s1,r1)=y at*;refine HEX.o.mono ?_;rintro e w5 ⟨rfl,ψ,Rx,⟨C5,U5,XS,jv5,XT,PA,A5⟩,VD⟩;have d8:w5.cell? (π rb 8)=some (.bool y.2.done):=by rw [<-PA];exact A5.r.c_.cell 8
  have d6:w5.cell? (π rb 6)=some (ι y.2.br):=by rw [<-PA];exact A5.r.c_.cell 6
  have fF:∀b,b∈RO->b∈ψ:=fun b hb=>Rx b (by simp [B7.o b hb]);have Ry:Kept RO w w5:=XR.o.trans VD (fun b hb=>by simp [B7.o b hb]);have iM:=ae (show In w5 mb rb ψ K p c t ((n+1:Nat):Int) y from ⟨C5,U5,XS,jv5,XT,PA,A5⟩);have xi:=ae fF;have Gr:=ae Ry;clear HEX A5 Rx VD XT PA fF Ry XR φ;by_cases hs:jH y=true
  ·have fy:=ae (show Ran w mb rb RO K p c t (iU p c gD x0) (.returned (.tuple #[])) w5 from by
    have hr:=Dj.o;rw [afE hs] at hr;rw [hr];exact ⟨rfl,ψ,xi.o,iM.o,Gr.o⟩)
   have XU:y.2.done=true\/(y.2.done=false/\(y.2.br==0)=false):=by
    unfold jH at hs;cases hd:y.2.done with
    |true=>exact .inl rfl
    |false=>rw [hd] at hs;simp at hs;exact .inr ⟨rfl,by simpa using hs⟩
   clear hs Dj iM Pz HSM LO xi Gr;rcases XU with hd|⟨hd,htz⟩
   ·rw [hd] at d8;go_wp2;simp only [Exit.jump];go_end0;exact fy.o
   ·rw [hd] at d8;go_wp2;simp only [Exit.jump];go_end0;exact fy.o
  ·obtain ⟨ht0,ia⟩:=oU hs;rw [ht0] at d6;rw [ia] at d8;obtain ⟨st',C'⟩:=Pz.o.next ht0 ia;have hlf:=LO.o st' C';have JB:=AK.o;have qP:n+1+f'<=gD:=omm;have Bk:rN w w5 mb rb RO K p c t T s0 x0 f':=by refine ⟨n+1,y,st',ψ,xi.o,iM.o,Gr.o,C',Pz.o.hold,HSM.o,omm,?_,qP⟩;have hr:=Dj.o;rw [abH hs] at hr;rw [hr];congr 1;omega
   have EC:qO mb w5=n+1:=yu iM.o;have uP:qO mb wr=n:=yu (show In wr mb rb kG K p c t n (s1,r1) from ⟨C1,U1,fN,jv1,qN.o,Df.o,Eo.o⟩);have XV:n < gD:=omm;have HGO:=ae (show (∃f,rN w w5 mb rb RO K p c t T s0 x0 f)/\gD - qO mb w5 < gD - qO mb wr from ⟨⟨f',Bk⟩,by rw [EC,uP];omega⟩);clear Bk EC uP XV hlf JB C' ht0 ia hs Dj iM Pz HSM LO xi Gr;go_wp2;go_step3;exact ⟨rfl,⟨pC rfl,HGO.o.1⟩,HGO.o.2⟩
 ·intro hp;go_wp2;go_step3;simp only [Exit.then]
  apply_assumption
  refine hp _ _ ⟨?_,gD,HG.o⟩;exact pC rfl
def zO (w:World) (b:Nat) (x0 x1 x2:Value):World:=((w.setCell (π b 0) x0).setCell (π b 1) x1).setCell (π b 2) x2
theorem eT (w:World) (b:Nat) (x0 x1 x2:Value):da [b] w (zO w b x0 x1 x2):=(((da.refl _ w).setCell smm _).setCell smm _).setCell smm _
theorem eU {w:World} {b:Nat} {y0 y1 y2:Value} (h:ay w b 44 #[y0,y1,y2]) (x0 x1 x2:Value):ay (zO w b x0 x1 x2) b 44 #[x0,x1,x2]:=((h.set 0 _).set 1 _).set 2 _
theorem yv {w:World} {b:Nat} {y0 y1 y2:Value} (h:ay w b 44 #[y0,y1,y2]):w.cell? (π b 0)=some y0/\w.cell? (π b 1)=some y1/\w.cell? (π b 2)=some y2/\∀o,w.frozen? (π b o)=false:=⟨h.cell 0,h.cell 1,h.cell 2,h.frozen⟩
def ou (w wr:World) (C:Co) (RO:List Nat) (K:Kc) (p:aO) (c:Cp) (t:fI) (used:Int) (s0:St) (j:List sm) (i:Nat):Prop:=
 ∃C' s',bu w wr C C'/\Mx wr C' RO K p c s' t used (.pointer none)/\Inv (aw p c) s'/\Vm.Good (aw p c) p.vars.length s0 (j.drop (j.length - i)) s'
def vU (w:World) (C:Co) (RO:List Nat) (K:Kc) (p:aO) (c:Cp) (t:fI) (used:Int) (s:St) (b4:Nat) (x0 x1 x2:Value) (e:Ending) (w':World):Prop:=
 e= .returned (.tuple #[])/\∃C' wz,bu w wz C C'/\Mx wz C' RO K p c s t used (.pointer none)/\da [b4] wz w'/\ay w' b4 44 #[x0,x1,x2]
theorem IC {α:Type} {l:List α} {i:Nat} (h:i < l.length):∃u,l.reverse[i]? =some u/\l.drop (l.length - (i+1))=u::l.drop (l.length - i):=by
 have h1:l.length - (i+1) < l.length:=omm;refine ⟨l[l.length - (i+1)],?_,?_⟩
 ·rw [List.getElem?_reverse h,afP omm];congr 1;congr 1;omega
 ·rw [agu h1];congr 2;omega
theorem aeu {p:Prop} (h:p:=by
 have rF:=ae gM;clear k1 k2 gM HC;go_wp2_with fail
 go_roundg i'
 case measure=>omega
 case rel=>exact ⟨i',rfl,rfl,omm,rF⟩):p:=h
theorem acg {p:Prop} (h:p:=by
 go_wp2_with fail;refine HC.o.mono ?_;rintro e w9 ⟨rfl,C9,k1,k2⟩;have gM:ou w w9 C RO K p c t used s0 jl i':=⟨C9,_,pZ.o.trans k1,k2,Ce.o,Cd.o⟩;exact aeu):p:=h
theorem vV (M:N6 K C.mb p c) (h:cD w C U RO K p c t used hv jv s r) (hI:Inv (aw p c) s) (hG:Vm.Good (aw p c) p.vars.length s0 r.bm s) (ht:r.br≠0) (hl:r.bm.length < 1000000) {b2 b5 b4:Nat} {x0 x1 x2:Value} (h2:ay w b2 35 #[ρ C.mb]) (h5:ay w b5 111 #[ρ U.rb]) (h4:ay w b4 44 #[x0,x1,x2]) (r5:b5∈RO) (r4:b4∈RO):
 CallsD prog 61 #[ρ b2,ρ b5,ρ b4] .returning w (fun e u' w'=>u'= .returning/\vU w C RO K p c t used s0 b4 (.bool false) ν (ι r.br) e w'):=by
 obtain ⟨k1,k2⟩:=h.mx.sX 60 (.pointer none) (rv':= .pointer none) rfl;have oC:=agS h.m.aM;have mf:∀o,w.frozen? (π C.mb o)=false:=h.m.aM.frozen;have c2:=h2.c1;have LP:ou w (w.setCell (π C.mb 60) (.pointer none)) C RO K p c t used s0 r.bm r.bm.length:=⟨C,s,k1,k2,hI,by rw [Nat.sub_self];exact hG⟩;have fF:∀wx C',bu w wx C C'->(wx.cell? (π b5 0)=some (ρ U.rb)/\wx.cell? (π U.rb 6)=some (ι r.br)/\wx.cell? (π U.rb 7)=some U.i_)/\Row wx 1 1 U.i_ r.bm.length jv/\(∀i u,r.bm.reverse[i]? =some u->fK wx C.mb RO (jv i) u)/\ay wx b4 44 #[x0,x1,x2]:=by intro wx C' k;have hb:=h.r.c_.aB k.f (h.sep.uc (by simp [Ru.l]));exact ⟨⟨(h5.aB k.f (h.sep.cr r5)).cell 0,hb.cell 6,hb.cell 7⟩,h.r.i_.aB k.f (fun b hb=>h.sep.uc (by simp [Ru.l,aK.2 hb])),fun i u hu=>(h.r.NS i u hu).aB k.f (fun b hb=>h.sep.cr hb),h4.aB k.f (h.sep.cr r4)⟩
 have htz:(r.br==0)=false:=by simpa using ht
 have HM:=ae M;have HS:=ae LP;have xi:=ae fF;have HL:=ae hl;have HR4:=ae (And.intro (h.sep.cr r4) r4);obtain ⟨⟨q5,q6,q7⟩,-⟩:=fF _ _ k1;have Rz:=h.r.i_.val;have Kz:=ae Rz;clear h k1 k2 h2 h5 h4 r5 r4 M hI hG ht LP fF hl Rz;generalize gB:r.br=tr at*;generalize N9:r.bm=jl at*;have aa1:=HL.o;have hjv:U.i_=ν/\jl.length=0\/∃b cap,U.i_= .slice (some (π b 0)) jl.length cap:=by
  rcases Kz.o with h|⟨b,cap,h1,-⟩
  ·exact .inl h
  ·exact .inr ⟨b,cap,h1⟩
 clear Kz gB N9;rcases hjv with ⟨fN,hz⟩|⟨jb,aa7,fN⟩
 ·rw [fN] at q7;have HZ:=ae hz;clear fN hz
  go_enter_d func61,ntmps61
  go_wp2_with fail
  go_loopg [3] 0 (fun f s3 wr=>wr=w.setCell (π C.mb 60) (.pointer none)/\s3=ι (-1:Int))
  case atStart=>exact ⟨rfl,rfl⟩
  case round=>
   obtain ⟨rfl,rfl⟩:=hrel;obtain ⟨C',s',k1,k2,hI',Tv⟩:=HS.o;obtain ⟨-,-,-,b4x⟩:=xi.o _ _ k1;obtain ⟨z0,z1,z2,zf⟩:=yv b4x;have HE:=ae (show vU w C RO K p c t used s0 b4 (.bool false) ν (ι tr) (.returned (.tuple #[])) (zO (w.setCell (π C.mb 60) (.pointer none)) b4 (.bool false) ν (ι tr)) from by
    have hG2:s'=s0:=by have:=Tv;rw [HZ.o,Nat.sub_zero,List.length_eq_zero_iff.1 HZ.o] at this;exact this
    subst hG2;exact ⟨rfl,C',_,k1,k2,eT _ _ _ _ _,eU b4x _ _ _⟩)
   clear k1 k2 hI' Tv b4x;go_wp2;exact afI (afT rfl _ _ _) rfl HE.o
 ·rw [fN] at q7;have HV:=ae fN;clear fN
  go_enter_d func61,ntmps61
  go_wp2_with fail
  go_loopg [3] jl.length (fun f s3 wr=>∃i:Nat,s3=ι ((i:Int) - 1)/\i=f/\i<=jl.length/\Hid (ou w wr C RO K p c t used s0 jl i))
  case atStart=>exact ⟨jl.length,rfl,rfl,afF _,HS⟩
  case round=>
   clear HS;obtain ⟨i,rfl,rfl,hi,HU⟩:=hrel;obtain ⟨C',s',k1,k2,hI',Tv⟩:=HU.o;obtain ⟨⟨d5,d6,d7⟩,PB,dat,ω⟩:=xi.o _ _ k1;rw [HV.o] at d7 PB;by_cases N_:i=0
   ·subst N_;obtain ⟨z0,z1,z2,zf⟩:=yv ω;have HE:=ae (show vU w C RO K p c t used s0 b4 (.bool false) ν (ι tr) (.returned (.tuple #[])) (zO wr b4 (.bool false) ν (ι tr)) from by
     have hG2:s'=s0:=by have:=Tv;rw [Nat.sub_zero,List.drop_length] at this;exact this
     subst hG2;exact ⟨rfl,C',_,k1,k2,eT _ _ _ _ _,eU ω _ _ _⟩)
    clear k1 k2 hI' Tv ω PB dat HU;go_wp2;exact afI (afT rfl _ _ _) rfl HE.o
   ·obtain ⟨i',rfl⟩:∃i',i=i'+1:=⟨i - 1,omm⟩;have hii:i' < jl.length:=omm;obtain ⟨u,EC,uP⟩:=IC hii;rw [uP] at Tv;obtain ⟨yw,RC,LQ⟩:=Tv;have XW:=dat i' u EC;have dj:wr.cell? (π jb i')=some (jv i'):=PB.cell omm;have kX:=k1.mb;have pZ:=ae k1;have kY:=ae k2;have HII:=ae hI';have Cd:=ae LQ;have Ce:=ae RC;have qN:=ae kX;have EV:=HM.o.ev hI';have Gs:=ae EV;have pa:p.ap.length<=256:=by have:=EV.g16;omega
    have yO:((i'+1:Nat):Int) - 1=i':=omm;have hnr:∀b,b∈RO->b∉C'.l:=fun b hb=>k2.cr hb;have HNR:=ae hnr;clear k1 k2 hI' dat ω PB HU LQ RC kX EV N_ hnr EC uP;rw [yO];generalize jv i'=fv at*;cases u with
    |var vi oE=>obtain ⟨x1,x2,x3,op,bb,cc,dd,rfl,e1,e2,e3,-⟩:=XW;rw [<-qN.o] at e2;have HC:=ae (Ec kY.o yw e1 e2 e3);clear yw;exact acg
    |mark oE=>obtain ⟨x1,x2,rfl,e1,e2,-⟩:=XW;rw [<-qN.o] at e1;obtain ⟨q,n,hq,hn,hf⟩:=yw;have HC:=ae (BH kY.o hf hq hn e1 e2);have HUE:=ae (show k_ (aw p c) (.mark oE) s'=kD s' n oE by simp only [k_,hf]);clear hf hn;go_wp2_with fail;refine HC.o.mono ?_;rintro e w9 ⟨rfl,C9,k1,k2⟩;have gM:ou w w9 C RO K p c t used s0 jl i':=⟨C9,_,pZ.o.trans k1,k2,by rw [<-HUE.o];exact Ce.o,by rw [<-HUE.o];exact Cd.o⟩;exact aeu
    |cut q d=>obtain ⟨x1,x2,x3,rfl,e1,e2,e3,-⟩:=XW;rw [<-qN.o] at e1;obtain ⟨hq,hd,bz⟩:=yw;have HC:=ae (Ed kY.o HII.o HM.o.BP pa hq hd bz Gs.o.total e1 e2 e3);clear bz;exact acg
    |put q d x=>obtain ⟨x1,x2,x3,x4,rfl,e1,e2,e3,e4,-⟩:=XW;rw [<-qN.o] at e1;obtain ⟨hq,hd,hx,a8,Cf⟩:=yw;have HC:=ae (Ee kY.o HM.o.BP pa hq hd x hx (Gs.o.room hq a8 Cf) Gs.o.total e1 e2 e3 e4);clear hx a8 Cf;exact acg
    |out q x ahead=>
     obtain ⟨x1,x2,x3,x4,av,rfl,e1,e2,e3,e4,e5,y1,y2,y3,y4,y5⟩:=XW;rw [<-qN.o] at e1;obtain ⟨hq,hx,a8,Cf,hah⟩:=yw;have hal:ahead.length<=9223372036854775807:=by
      have h8:=e5.val;rcases h8 with ⟨-,h8⟩|⟨b,cap,-,h8,h9,-⟩
      ·omega
      ·have:maxLen=9223372036854775807:=by rfl
       omega
     have HC:=ae (Eg kY.o HM.o.BP pa hq x hx (Gs.o.room hq a8 Cf) Gs.o.total hah hal e1 e2 e3 e4 e5 y1 y2 y3 y4 y5);clear hx a8 Cf hah hal e5;exact acg
variable {XI:List Nat}
def rest (w:World) (C:Co):List Nat:=(List.range w.heap.size).filter (fun b=>decide (b∉C.l))
theorem nE {b:Nat}:b∈rest w C↔b < w.heap.size/\b∉C.l:=by unfold rest;simp
theorem Mx.rest (h:Mx w C RO K p c s t used rv):Mx w C (rest w C) K p c s t used rv:=
 h.less (fun b hb=> .inr (nE.1 hb)) (fun b hb=>nE.2 ⟨h.sep.cY b hb,h.cr hb⟩)
theorem narrow (h:Mx w C RO K p c s t used rv) (ho:∀b,b∈Ma.rest w C->b∈XI) (k:Kept (Ma.rest w C) w w') (hm:C'.mb=C.mb) (m:Mx w' C' XI K p c s' t' used' rv'):bu w w' C C'/\Mx w' C' RO K p c s' t' used' rv':=by
 have hr:∀b,b∈RO->b∈XI:=fun b hb=>ho b (nE.2 ⟨h.sep.cY b hb,h.cr hb⟩);refine ⟨⟨hm,⟨k.os,k.tape,k.output,k.size,fun i hi hs=>k.block i (nE.2 ⟨hi,hs⟩)⟩,fun b hb=>?_⟩,⟨⟨m.m.aM,?_,m.m.ar,m.m.ix,m.m.vs⟩,m.sep.nd,m.sep.lt,fun b hb hc=>m.sep.ro b hb (hr b hc),fun b hb=>afQ (h.sep.cY b hb) k.size⟩⟩
 ·by_cases h1:b∈C.l
  ·exact .inl h1
  ·by_cases h2:b < w.heap.size
   ·exact absurd (ho b (nE.2 ⟨h2,h1⟩)) (m.sep.ro b hb)
   ·exact .inr omm
 ·exact ⟨m.m.prog.g,m.m.prog.v,m.m.prog.t,m.m.prog.o,m.m.prog.cd,m.m.prog.qs,h.m.prog.ro⟩
theorem Mx.begin (h:Mx w C RO K p c s t used (ρ rb)) {key a:Nat} (hb:ay w rb 126 #[.int .u64 key,ι a,ν,ν,ν,ν,ι 0,ν,.bool false]) (hn:rb∉C.l) (ho:rb∉RO):
 cD w C ⟨rb,ν,ν,ν,ν⟩ RO K p c t used ν (fun _=> ι 0) s (eR key a):=by
 have hl:(Ru.mk rb ν ν ν ν).l=[rb]:=rfl;refine ⟨h.m,⟨hb,Row.nil _ _ _ _,Row.nil _ _ _ _,Row.nil _ _ _ _,Row.nil _ _ _ _,fun i u hu=>by simp [eR] at hu,rfl⟩,?_,?_,?_,h.sep.cY⟩
 ·rw [hl,agj];exact ⟨h.sep.nd,smm,fun x hx y hy=>by simp at hy;subst hy;rintro rfl;exact hn hx⟩
 ·rw [hl];intro b iN;rcases List.mem_append.1 iN with iN|iN
  ·exact h.sep.lt b iN
  ·simp at iN;subst iN;exact hb.lt
 ·rw [hl];intro b iN;rcases List.mem_append.1 iN with iN|iN
  ·exact h.sep.ro b iN
  ·simp at iN;subst iN;exact ho
theorem LR (h:Mx w C RO K p c s t used (ρ rb)) {cs:Array Value} (hr:ay w rb 126 cs) (h6:cs[6]? =some (ι 0)) (hn:rb∉C.l) {b2 b5 b4:Nat} {x0 x1 x2:Value} (h2:ay w b2 35 #[ρ C.mb]) (h5:ay w b5 111 #[ρ rb]) (h4:ay w b4 44 #[x0,x1,x2]) (r5:b5∈RO) (r4:b4∈RO):
 CallsD prog 61 #[ρ b2,ρ b5,ρ b4] .returning w (fun e u' w'=>u'= .returning/\vU w C RO K p c t used s b4 x0 x1 x2 e w'):=by
 obtain ⟨k1,k2⟩:=h.sX 60 (.pointer none) (rv':= .pointer none) rfl;have oC:=agS h.m.aM;have mf:∀o,w.frozen? (π C.mb o)=false:=h.m.aM.frozen;have c2:=h2.c1;have q5:(w.setCell (π C.mb 60) (.pointer none)).cell? (π b5 0)=some (ρ rb):=(h5.aB k1.f (h.cr r5)).cell 0;have q6:(w.setCell (π C.mb 60) (.pointer none)).cell? (π rb 6)=some (ι 0):=((hr.aB k1.f hn).cell 6).trans h6;have HB:=ae (show vU w C RO K p c t used s b4 x0 x1 x2 (.returned (.tuple #[])) (w.setCell (π C.mb 60) (.pointer none)) from ⟨rfl,C,_,k1,k2,da.refl _ _,h4.aB k1.f (h.cr r4)⟩);clear h k1 k2 h2 h5 h4 r5 r4 hr h6 hn
 go_enter_d func61,ntmps61
 go_wp2;exact afI (afT rfl _ _ _) rfl HB.o
structure xp (w w5:World) (bx:Nat) (C:Co) (K:Kc) (p:aO) (c:Cp) (s:St) (t:fI) (used:Int) (key:Nat) (a:Int) (rv:Value):Prop where
 at_:bx=w.heap.size
 mx:Mx w5 C (bx::(bx+1)::(bx+1+1+1)::Ma.rest w C) K p c s t used rv
 b2:ay w5 bx 35 #[ρ C.mb]
 b4:ay w5 (bx+1) 44 #[.bool false,ν,ι 0]
 b5:ay w5 (bx+1+1+1) 111 #[ρ (bx+1+1)]
 rb:ay w5 (bx+1+1) 126 #[.int .u64 key,ι a,ν,ν,ν,ν,ι 0,ν,.bool false]
 nc:bx+1+1∉C.l
 no:bx+1+1∉(bx::(bx+1)::(bx+1+1+1)::Ma.rest w C)
 zP:Kept (Ma.rest w C) w w5
theorem acK {p:Prop} (h:p:=by
 exact .inr ⟨omm,fun hc=>by have:=a8 _ hc;omega⟩):p:=h
theorem u_ (h:Mx w C RO K p c s t used (.pointer none)) (key:Nat) (a:Int):xp w ((((w.alloc (.cells #[ρ C.mb] 35)).alloc (.cells #[.bool false,ν,ι 0] 44)).alloc (.cells #[.int .u64 key,ι a,ν,ν,ν,ν,ι 0,ν,.bool false] 126)).alloc (.cells #[ρ (w.heap.size+1+1)] 111)) w.heap.size C K p c s t used key a (.pointer none):=by
 have sz:∀(w:World) (o:Obj),(w.alloc o).heap.size=w.heap.size+1:=fun w o=>by simp
 have b1:=ay.new w 35 #[ρ C.mb];have h1:=h.rest.box (.cells #[ρ C.mb] 35);have e1:=sz w (.cells #[ρ C.mb] 35);have k1:Below w.heap.size w (w.alloc (.cells #[ρ C.mb] 35)):=(afL _ w).alloc (afF _) _;generalize w.alloc (.cells #[ρ C.mb] 35)=w1 at*;have b2:=ay.new w1 44 #[.bool false,ν,ι 0];have h2:=h1.box (.cells #[.bool false,ν,ι 0] 44);have e2:=sz w1 (.cells #[.bool false,ν,ι 0] 44);have b1:=b1.alloc (.cells #[.bool false,ν,ι 0] 44);have k2:=k1.alloc omm (.cells #[.bool false,ν,ι 0] 44);generalize w1.alloc (.cells #[.bool false,ν,ι 0] 44)=w2 at*;have b3:=ay.new w2 126 #[.int .u64 key,ι a,ν,ν,ν,ν,ι 0,ν,.bool false];have h3:=h2.box (.cells #[.int .u64 key,ι a,ν,ν,ν,ν,ι 0,ν,.bool false] 126);have e3:=sz w2 (.cells #[.int .u64 key,ι a,ν,ν,ν,ν,ι 0,ν,.bool false] 126);have b1:=b1.alloc (.cells #[.int .u64 key,ι a,ν,ν,ν,ν,ι 0,ν,.bool false] 126);have b2:=b2.alloc (.cells #[.int .u64 key,ι a,ν,ν,ν,ν,ι 0,ν,.bool false] 126);have k3:=k2.alloc omm (.cells #[.int .u64 key,ι a,ν,ν,ν,ν,ι 0,ν,.bool false] 126);generalize w2.alloc (.cells #[.int .u64 key,ι a,ν,ν,ν,ν,ι 0,ν,.bool false] 126)=w3 at*;have b4:=ay.new w3 111 #[ρ (w.heap.size+1+1)];have h4:=h3.box (.cells #[ρ (w.heap.size+1+1)] 111);have e4:=sz w3 (.cells #[ρ (w.heap.size+1+1)] 111);have b1:=b1.alloc (.cells #[ρ (w.heap.size+1+1)] 111);have b2:=b2.alloc (.cells #[ρ (w.heap.size+1+1)] 111);have b3:=b3.alloc (.cells #[ρ (w.heap.size+1+1)] 111);have k4:=k3.alloc omm (.cells #[ρ (w.heap.size+1+1)] 111);generalize w3.alloc (.cells #[ρ (w.heap.size+1+1)] 111)=w4 at*;rw [e1] at e2 b2;rw [e2] at e3 b3;rw [e3] at e4 b4;have a8:∀b,b∈C.l->b < w.heap.size:=h.sep.lt;have hrt:∀b,b∈Ma.rest w C->b < w.heap.size:=fun b hb=>(nE.1 hb).1;refine ⟨rfl,h4.less (fun b hb=>?_) (fun b hb=>by simp [hb]),b1,b2,b4,b3,fun hc=>by have:=a8 _ hc;omega,fun hc=>?_,Kept.ah k4 hrt⟩
 ·simp only [afV] at hb;rcases hb with rfl|rfl|rfl|hb
  ·exact acK
  ·exact acK
  ·exact acK
  ·exact .inl hb
 ·simp only [afV] at hc;rcases hc with hc|hc|hc|hc
  ·omega
  ·omega
  ·omega
  ·have:=hrt _ hc;omega
theorem xp.draw {w5:World} {bx:Nat} {key:Nat} {a:Int} (h:xp w w5 bx C K p c s t used key a rv) (n:Nat):xp w (w5.drewN n) bx C K p c s t used key a rv:=
 ⟨h.at_,h.mx.drewN n,h.b2.drewN n,h.b4.drewN n,h.b5.drewN n,h.rb.drewN n,h.nc,h.no,h.zP.trans (Kept.ah (au w5.heap.size w5 n) (fun b hb=>h.mx.sep.cY b (by simp [hb]))) (fun b hb=>hb)⟩
theorem xp.enter {w5:World} {bx:Nat} {key:Nat} {a:Int} (h:xp w w5 bx C K p c s t used key a (.pointer none)):xp w ((w5.setCell (π C.mb 60) (ρ (bx+1+1))).setCell (π C.mb 17) (ι 0)) bx C K p c s t 0 key a (ρ (bx+1+1)):=by obtain ⟨k1,m1⟩:=h.mx.sX 60 (ρ (bx+1+1)) (rv':=ρ (bx+1+1)) rfl;obtain ⟨k2,m2⟩:=m1.sX 17 (ι 0) (used':=0) rfl;have k:=k1.trans k2;have hk:Kept (Ma.rest w C) w5 ((w5.setCell (π C.mb 60) (ρ (bx+1+1))).setCell (π C.mb 17) (ι 0)):=Kept.cE k.f (fun b hb=>h.mx.cr (by simp [hb])) (fun b hb=>h.mx.sep.cY b (by simp [hb]));exact ⟨h.at_,m2,h.b2.aB k.f (h.mx.cr smm),h.b4.aB k.f (h.mx.cr smm),h.b5.aB k.f (h.mx.cr smm),h.rb.aB k.f h.nc,h.nc,h.no,h.zP.trans hk (fun b hb=>hb)⟩
end
end Go.Proofs.YtblkblclmbhjiaaGreat.Ma
