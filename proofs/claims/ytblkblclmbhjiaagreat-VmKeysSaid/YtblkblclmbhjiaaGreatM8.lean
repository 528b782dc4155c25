import Derived.Test.YtblkblclmbhjiaaGreatM7
set_option linter.unusedVariables false
set_option linter.unusedSimpArgs false
set_option maxHeartbeats 40000000
set_option maxRecDepth 100000
open Go.Proofs.Tryz
theorem qX4 {p:Prop} (h:p:=by
 have b2:bx < w3.heap.size:=Tq.o.lt;have N5:=ae (fun v=>ku (zy.o.box (.cells #[.int .u64 x.key,ι (x.tg 0),ι (x.tg 1),ι (x.tg 2),ι (x.tg 3)] 118)) v hl);have LJ:=ki.o.trans ((afL w2.heap.size w3).alloc ki.o.size (.cells #[.int .u64 x.key,ι (x.tg 0),ι (x.tg 1),ι (x.tg 2),ι (x.tg 3)] 118));have Lk:=ae (HK.o.trans (Kept.ah LJ HA.o.sep.cY) (fun b hb=>by simp [hb]));clear zy ki Tq LJ HA EA HK uu;obtain rfl|rfl|rfl|rfl:k=0\/k=1\/k=2\/k=3:=omm
 all_goals
  go_wp2_with fail;refine (N5.o _).mono ?_;intro e w' hd;obtain ⟨rfl,fB⟩:=hd.pre (RO:=RO) Lk.o (fun b hb=>by simp [hb]);go_wp2;exact afI (afT rfl _ _ _) rfl ⟨rfl,fB⟩):p:=h
abbrev afJ:=@Go.AllReadyH.cons
abbrev af1:=@Go.AllReadyH.nil
abbrev afZ:=@Go.wpAnyH_done
namespace Go.Proofs.YtblkblclmbhjiaaGreat.Ma
open Go.RowKit ak.Vm
open ak hiding aL an aj
open dT (bP bG)
open Ix (cL)
section
variable {w w':World} {C C':Co} {U U':Ru} {RO RO':List Nat} {K:Kc} {p:aO} {c:Cp} {t:fI} {used:Int} {hv hv':Value} {jv jx:Nat->Value} {s s':St} {r r':Rn} {rv:Value} {mb rb:Nat}
theorem bZ {b:Nat} {i:Ins} (h:ay w b 40 (aA i)):w.cell? (π b 0)=some (ι i.op)/\w.cell? (π b 1)=some (ι i.a)/\w.cell? (π b 2)=some (ι i.b)/\w.cell? (π b 3)=some (ι i.c)/\w.cell? (π b 4)=some (ι i.d):=
 ⟨h.cell 0,h.cell 1,h.cell 2,h.cell 3,h.cell 4⟩
theorem ads {p:Prop} (h:p:=by
 go_wp2_with fail;refine HM.o.mono ?_;intro e w5 hd;have mT:=hd.pre (RO:=RO) K2.o (fun b hb=>by simp [hb]);rw [xR.o] at mT;obtain ⟨rfl,fB⟩:=mT;go_wp2;exact afI (afT rfl _ _ _) rfl ⟨rfl,fB⟩):p:=h
theorem Em (h:cD w C U RO K p c t used hv jv s r) (i:Ins) {k n q:Nat} (hk:i.a=k) (hf:s.f r.key=some n) (hq:q < p.ap.length) (hn:n∈s.a.ls q) (Ln:k < p.aW.length) (η:p.aW.length<=4) (hj:r.bm.length < 1000000) {v:Int} {rest:List Int} (fj:r.stack=v::rest) (hl:rest.length < 1000000):
 Calls prog 119 #[ρ C.mb,aQ i] w (bX w C.mb U.rb RO K p c t used (.tuple #[]) (oB p (s,r.pop) n k v)):=by
 have h1:=h.box (.cells (aA i) 40);have n1:=ay.new w 40 (aA i);have HP:=ae (BK h1 fj hl);have kW:=ae (Kept.ah (RO:=RO) ((afL w.heap.size w).alloc (afF _) (.cells (aA i) 40)) h.sep.cY);have En:=ae (fun b (hb:b∈w.heap.size::RO)=>h1.sep.ur hb);have dh:=ae h1.sep.cY;have N1:=ae n1;have Xhf:=ae hf;have Xhn:=ae hn;have Xhk:=ae hk;have Xhj:=ae hj;clear h h1 n1 fj hf hn hk hj;unfold aQ;unfold aA at*;go_enter func119,ntmps119;go_wp2_with fail;refine HP.o.mono ?_;rintro e w2 ⟨rfl,U1,Gk,A1,f1⟩;have K1:=ae (kW.o.trans (Kept.cE f1 En.o dh.o) (fun b hb=>by simp [hb]));have n2:=N1.o.aB f1 (En.o _ smm);obtain ⟨c0,c1,c2,c3,c4⟩:=bZ (i:=i) n2;have xR:=ae Gk;have Eo:=ae A1;clear HP kW A1 f1 Gk n2 N1 En;generalize eO:w.heap.size=bx at*;rw [Xhk.o] at c1;have HN:=ae (vQ Eo.o (show s.f r.pop.key=_ from Xhf.o) hq Xhn.o);go_wp2_with fail;refine HN.o.mono ?_;rintro e w3 ⟨rfl,m,rfl⟩;have HM:=ae (Lm (Eo.o.drewN m) hq Xhn.o Ln η v Xhj.o);have K2:=ae (K1.o.trans (Kept.ah (RO:=RO) (au w2.heap.size w2 m) (fun b hb=>Eo.o.sep.cY b (by simp [hb]))) (fun b hb=>hb));have g1:(w2.drewN m).cell? _=_:=c1;clear HN c0 c1 c2 c3 c4 K1;generalize w2.drewN m=w4 at*;exact ads
theorem adt {p:Prop} (h:p:=by
 go_wp2_with fail;refine HN.o.mono ?_;intro e w3 hd;have mT:=hd.pre (RO:=RO) K1.o (fun b hb=>by simp [hb]);rw [xR.o] at mT;obtain ⟨rfl,fB⟩:=mT;clear HN c0 c1 c2 c3 c4 K1;go_wp2;exact afI (afT rfl _ _ _) rfl ⟨rfl,fB⟩):p:=h
theorem Ep (h:cD w C U RO K p c t used hv jv s r) (i:Ins) (hf:s.f r.key=none) {v:Int} {rest:List Int} (fj:r.stack=v::rest) (hl:rest.length < 1000000):
 Calls prog 119 #[ρ C.mb,aQ i] w (bX w C.mb U.rb RO K p c t used (.tuple #[]) ((s,r.pop.dG 3))):=by
 have h1:=h.box (.cells (aA i) 40);have n1:=ay.new w 40 (aA i);have HP:=ae (BK h1 fj hl);have kW:=ae (Kept.ah (RO:=RO) ((afL w.heap.size w).alloc (afF _) (.cells (aA i) 40)) h.sep.cY);have En:=ae (fun b (hb:b∈w.heap.size::RO)=>h1.sep.ur hb);have dh:=ae h1.sep.cY;have N1:=ae n1;have Xhf:=ae hf;clear h h1 n1 fj hf;unfold aQ;unfold aA at*;go_enter func119,ntmps119;go_wp2_with fail;refine HP.o.mono ?_;rintro e w2 ⟨rfl,U1,Gk,A1,f1⟩;have K1:=ae (kW.o.trans (Kept.cE f1 En.o dh.o) (fun b hb=>by simp [hb]));have n2:=N1.o.aB f1 (En.o _ smm);obtain ⟨c0,c1,c2,c3,c4⟩:=bZ (i:=i) n2;have xR:=ae Gk;have Eo:=ae A1;clear HP kW A1 f1 Gk n2 N1 En;generalize eO:w.heap.size=bx at*;have HN:=ae (vR Eo.o (show s.f r.pop.key=_ from Xhf.o));exact adt
theorem zK (h:cD w C U RO K p c t used hv jv s r) (i:Ins) {k q d:Nat} (ha:i.a=q) (ia:i.b=d) (hk:i.c=k) (hq:q < p.ap.length) (he:d<=1) (bz:s.a.ls q≠[]) (Ln:k < p.aW.length) (η:p.aW.length<=4) (hj:r.bm.length < 1000000) {v:Int} {rest:List Int} (fj:r.stack=v::rest) (hl:rest.length < 1000000):
 Calls prog 120 #[ρ C.mb,aQ i] w (bX w C.mb U.rb RO K p c t used (.tuple #[]) (oB p (s,r.pop) (ck s.a q d) k v)):=by
 have h1:=h.box (.cells (aA i) 40);have n1:=ay.new w 40 (aA i);have HP:=ae (BK h1 fj hl);have kW:=ae (Kept.ah (RO:=RO) ((afL w.heap.size w).alloc (afF _) (.cells (aA i) 40)) h.sep.cY);have En:=ae (fun b (hb:b∈w.heap.size::RO)=>h1.sep.ur hb);have dh:=ae h1.sep.cY;have N1:=ae n1;have Pq:=ae bz;have Xha:=ae ha;have Tg:=ae ia;have Xhk:=ae hk;have Xhj:=ae hj;clear h h1 n1 fj bz ha ia hk hj;unfold aQ;unfold aA at*;go_enter func120,ntmps120;go_wp2_with fail;refine HP.o.mono ?_;rintro e w2 ⟨rfl,U1,Gk,A1,f1⟩;have K1:=ae (kW.o.trans (Kept.cE f1 En.o dh.o) (fun b hb=>by simp [hb]));have n2:=N1.o.aB f1 (En.o _ smm);obtain ⟨c0,c1,c2,c3,c4⟩:=bZ (i:=i) n2;have xR:=ae Gk;have Eo:=ae A1;clear HP kW A1 f1 Gk n2 N1 En;generalize eO:w.heap.size=bx at*;rw [Xha.o] at c1;rw [Tg.o] at c2;rw [Xhk.o] at c3;have HN:=ae (rH Eo.o hq he Pq.o);go_wp2_with fail;refine HN.o.mono ?_;rintro e w3 ⟨rfl,m,rfl⟩;have HM:=ae (Lm (Eo.o.drewN m) hq (fi (e:=d) Pq.o) Ln η v Xhj.o);have K2:=ae (K1.o.trans (Kept.ah (RO:=RO) (au w2.heap.size w2 m) (fun b hb=>Eo.o.sep.cY b (by simp [hb]))) (fun b hb=>hb));have g1:(w2.drewN m).cell? _=_:=c3;clear HN c0 c1 c2 c3 c4 K1;generalize w2.drewN m=w4 at*;exact ads
theorem zL (h:cD w C U RO K p c t used hv jv s r) (i:Ins) {q d:Nat} (ha:i.a=q) (ia:i.b=d) (hq:q < p.ap.length) (he:d<=1) (bz:s.a.ls q=[]) {v:Int} {rest:List Int} (fj:r.stack=v::rest) (hl:rest.length < 1000000):
 Calls prog 120 #[ρ C.mb,aQ i] w (bX w C.mb U.rb RO K p c t used (.tuple #[]) ((s,r.pop.dG 2))):=by
 have h1:=h.box (.cells (aA i) 40);have n1:=ay.new w 40 (aA i);have HP:=ae (BK h1 fj hl);have kW:=ae (Kept.ah (RO:=RO) ((afL w.heap.size w).alloc (afF _) (.cells (aA i) 40)) h.sep.cY);have En:=ae (fun b (hb:b∈w.heap.size::RO)=>h1.sep.ur hb);have dh:=ae h1.sep.cY;have N1:=ae n1;have Pq:=ae bz;have Xha:=ae ha;have Tg:=ae ia;clear h h1 n1 fj bz ha ia;unfold aQ;unfold aA at*;go_enter func120,ntmps120;go_wp2_with fail;refine HP.o.mono ?_;rintro e w2 ⟨rfl,U1,Gk,A1,f1⟩;have K1:=ae (kW.o.trans (Kept.cE f1 En.o dh.o) (fun b hb=>by simp [hb]));have n2:=N1.o.aB f1 (En.o _ smm);obtain ⟨c0,c1,c2,c3,c4⟩:=bZ (i:=i) n2;have xR:=ae Gk;have Eo:=ae A1;clear HP kW A1 f1 Gk n2 N1 En;generalize eO:w.heap.size=bx at*;rw [Xha.o] at c1;rw [Tg.o] at c2;have HN:=ae (rI Eo.o hq he Pq.o);exact adt
def Ex (op n:Int):Int:=if op=14 then 1 - n else -n
theorem adw {p:Prop} (h:p:=by
 have EX:=ae ex;clear ho ex;go_wp2_with fail;refine (HPU.o _).mono ?_;intro e w2 hd;exact adx):p:=h
theorem adx {p:Prop} (h:p:=by
 rw [<-EX.o] at hd;obtain ⟨rfl,fB⟩:=hd.pre (RO:=RO) oF.o HO.o;go_wp2;exact afI (afT rfl _ _ _) rfl ⟨rfl,fB⟩):p:=h
theorem Rs (h:cD w C U RO K p c t used hv jv s r) (i:Ins) {n:Int} {rest:List Int} (fj:r.stack=n::rest) (hl:rest.length < 1000000) (Ov: -1073741824<=n) (uG:n<=1073741824):
 Calls prog 112 #[ρ C.mb,aQ i] w (bX w C.mb U.rb RO K p c t used (.tuple #[]) (s,r.pop.push (Ex i.op n))):=by
 have H0:=h.box (.cells (aA i) 40);have HP:=ae (uQ H0 fj hl);have jg:=ae (ay.new w 40 (aA i));have kW:=ae (Kept.ah (RO:=RO) ((afL w.heap.size w).alloc (afF _) (.cells (aA i) 40)) h.sep.cY);have zw:=ae (show r.fO=n by unfold Rn.fO;rw [fj];rfl);clear h H0;unfold aQ;unfold aA at*;go_enter func112,ntmps112;go_wp2_with fail;generalize eO:w.heap.size=bx at HP jg ⊢;refine HP.o.mono ?_;rintro e w' ⟨rfl,RO',ho,⟨C',U',hv',jx,kX,lE,A⟩,uK⟩;have e1:w'.cell? (π bx 0)=some (ι i.op):=(ay.jU jg.o uK smm).cell 0;have HA:=ae A;have oF:=ae (kW.o.trans uK (fun b hb=>by simp [hb]));have HO:=ae (show ∀b,b∈RO->b∈RO' from fun b hb=>ho b (by simp [hb]));have HM:=ae kX;have HR:=ae lE;clear A uK ho kX lE HP jg eO kW;have τ:r.pop.stack=rest:=by unfold Rn.pop;rw [fj];rfl
 have w1:IntKind.i64.wrap (1 - n)=1 - n:=afU _ ⟨omm,omm⟩;have w2:IntKind.i64.wrap (-n)= -n:=afU _ ⟨omm,omm⟩;have HPU:=ae (fun m:Int=>ku HA.o m (by rw [τ];exact hl));rw [HM.o,HR.o] at HPU;by_cases ho:i.op=14
 ·have hz:(i.op==14)=true:=by simpa using ho
  have ex:Ex i.op n=1 - n:=by unfold Ex;rw [afE ho]
  exact adw
 ·have hz:(i.op==14)=false:=by simpa using ho
  have ex:Ex i.op n= -n:=by unfold Ex;rw [abH ho]
  exact adw
theorem acJ {p:Prop} (h:p:=by
 rw [ho] at e1;clear ho AJ Gn;go_wp2_with fail;refine (pM.o _).mono ?_;rintro e w3 ⟨rfl,rfl⟩;exact ab7):p:=h
theorem acI {p:Prop} (h:p:=by
 rw [ho] at e1;clear ho AJ Gn;go_wp2_with fail;refine (ug.o _).mono ?_;rintro e w3 ⟨rfl,rfl⟩;exact ab7):p:=h
theorem ab7 {p:Prop} (h:p:=by
 go_wp2_with fail;refine (HPU.o _).mono ?_;intro e w4 hd;exact adx):p:=h
theorem rL (h:cD w C U RO K p c t used hv jv s r) (i:Ins) (cW:i.op=11\/i.op=12\/i.op=15\/i.op=16\/i.op=17\/i.op=18\/i.op=19\/i.op=20\/i.op=21) {a b:Int} {rest:List Int} (fj:r.stack=b::a::rest) (hl:rest.length < 999999)
 (ha: -1073741824<=a/\a<=1073741824) (hb: -1073741824<=b/\b<=1073741824):
 Calls prog 111 #[ρ C.mb,aQ i] w (bX w C.mb U.rb RO K p c t used (.tuple #[]) (s,r.pop.pop.push (mL i.op a b))):=by
 have H0:=h.box (.cells (aA i) 40);have HP:=ae (uQ H0 fj sso);have jg:=ae (ay.new w 40 (aA i));have kW:=ae (Kept.ah (RO:=RO) ((afL w.heap.size w).alloc (afF _) (.cells (aA i) 40)) h.sep.cY);have τ:r.pop.stack=a::rest:=by unfold Rn.pop;rw [fj];rfl
 have aav:r.pop.pop.stack=rest:=by show r.pop.stack.tail=rest;rw [τ];rfl
 have hwm:IntKind.i64.wrap (a*b)=a*b:=by
  have h1:(a*b).natAbs<=1073741824*1073741824:=by rw [Int.natAbs_mul];exact Nat.mul_le_mul omm omm
  exact afU _ ⟨omm,omm⟩
 have hwa:IntKind.i64.wrap (a+b)=a+b:=afU _ ⟨omm,omm⟩;have hws:IntKind.i64.wrap (a - b)=a - b:=afU _ ⟨omm,omm⟩;have Gn:=ae cW;have HAB:=ae (And.intro ha hb);clear h H0 cW ha hb;unfold aQ;unfold aA at*;go_enter func111,ntmps111;go_wp2_with fail;generalize eO:w.heap.size=bx at HP jg ⊢;refine HP.o.mono ?_;rintro e w' ⟨rfl,kG,Jz,⟨C1,U1,fN,jv1,XG,XH,A1⟩,fq⟩;have JA:=ae (uQ A1 τ omm);rw [XG,XH] at JA;have pZ:=ae fq;have B7:=ae Jz;clear HP XG XH A1 fq Jz;go_wp2_with fail;refine JA.o.mono ?_;rintro e w2 ⟨rfl,XI,zN,⟨C',U',hv',jx,kX,lE,A⟩,jd⟩;have iO:=pZ.o.trans jd B7.o;have e1:w2.cell? (π bx 0)=some (ι i.op):=(ay.jU jg.o iO smm).cell 0;have oF:=ae (kW.o.trans iO (fun b hb=>by simp [hb]));have HO:=ae (show ∀b,b∈RO->b∈XI from fun b hb=>zN b (B7.o b (by simp [hb])));have HPU:=ae (fun m:Int=>ku A m (by rw [aav];omega));rw [kX,lE] at HPU;clear A jd iO zN kX lE jg eO kW JA pZ B7;have ug:=ae (Gh w2);have pM:=ae (zA w2);have HQU:=ae (Ei w2 HAB.o.1 HAB.o.2);generalize cW:i.op=op at*;have AJ:∀o v,op=o->mL o a b=v->mL op a b=v:=fun o v h1 h2=>by rw [h1];exact h2
 rcases Gn.o with ho|ho|ho|ho|ho|ho|ho|ho|ho
 ·have EX:=ae (AJ 11 (min a b) ho rfl);rw [ho] at e1;clear ho AJ Gn;exact ab7
 ·have EX:=ae (AJ 12 (max a b) ho rfl);rw [ho] at e1;clear ho AJ Gn;exact ab7
 ·have EX:=ae (AJ 15 (kj (a*b)) ho rfl);exact acI
 ·have EX:=ae (AJ 16 (uZ a b) ho rfl);rw [ho] at e1;clear ho AJ Gn;go_wp2_with fail;refine (HQU.o).mono ?_;rintro e w3 ⟨rfl,rfl⟩;exact ab7
 ·have EX:=ae (AJ 17 (kj (a+b)) ho rfl);exact acI
 ·have EX:=ae (AJ 18 (kj (a - b)) ho rfl);exact acI
 ·have EX:=ae (AJ 19 (ni (a==b)) ho rfl);exact acJ
 ·have EX:=ae (AJ 20 (ni (decide (a < b))) ho rfl);exact acJ
 ·have EX:=ae (AJ 21 (ni (decide (a<=b))) ho rfl);exact acJ
theorem ady {p:Prop} (h:p:=by
 have Tp:=ae (HPU.o m);have HK:=ae (Kept.ah (RO:=RO) (HB.o.trans (au _ _ m)) dh.o);have pM:=ae (zA ((w.alloc (.cells #[ι i.op,ι i.a,ι i.b,ι i.c,ι i.d] 40)).drewN m));clear HPU HN HB jg;generalize (w.alloc (.cells #[ι i.op,ι i.a,ι i.b,ι i.c,ι i.d] 40)).drewN m=w2 at*;go_wp2_with fail;refine (pM.o _).mono ?_;rintro e w' ⟨rfl,rfl⟩;go_wp2_with fail;refine (Tp.o _).mono ?_;intro e w' hd;obtain ⟨rfl,fB⟩:=hd.pre (RO:=RO) HK.o (fun b hb=>by simp [hb]);go_wp2;exact afI (afT rfl _ _ _) rfl ⟨rfl,fB⟩):p:=h
theorem Ey (h:cD w C U RO K p c t used hv jv s r) (i:Ins) {k:Nat} (hk:i.a=k) {n q:Nat} (hf:s.f r.key=some n) (hq:q < p.ap.length) (hn:n∈s.a.ls q) (hl:r.stack.length < 1000000):
 Calls prog 108 #[ρ C.mb,aQ i] w (bX w C.mb U.rb RO K p c t used (.tuple #[]) (s,r.push (ni ((q:Int)==(k:Int))))):=by
 have H0:=h.box (.cells (aA i) 40);have HB:=ae ((afL w.heap.size w).alloc (afF _) (.cells (aA i) 40));have HN:=ae (kZ H0 hf hq hn);have HPU:=ae (fun (m:Nat) (x:Int)=>ku (H0.drewN m) x hl);have jg:=ae (ay.new w 40 (aA i));have H:=ae h;have uu:=ae hk;have dh:=ae h.sep.cY;clear h H0 hk hf hn;unfold aQ;unfold aA at*;go_enter func108,ntmps108;go_wp2_with fail;refine HN.o.mono ?_;rintro e w' ⟨rfl,m,rfl⟩;have e1:((w.alloc (.cells #[ι i.op,ι i.a,ι i.b,ι i.c,ι i.d] 40)).drewN m).cell? (π w.heap.size 1)=some (ι k):=by rw [<-uu.o];exact jg.o.cell 1
 exact ady
theorem Ez (h:cD w C U RO K p c t used hv jv s r) (i:Ins) (hf:s.f r.key=none) (hl:r.stack.length < 1000000):
 Calls prog 108 #[ρ C.mb,aQ i] w (bX w C.mb U.rb RO K p c t used (.tuple #[]) (s,r.push (ni false))):=by
 have H0:=h.box (.cells (aA i) 40);have HB:=ae ((afL w.heap.size w).alloc (afF _) (.cells (aA i) 40));have HN:=ae (nB H0 hf);have HPU:=ae (fun (m:Nat) (x:Int)=>ku (H0.drewN m) x hl);have jg:=ae (ay.new w 40 (aA i));have H:=ae h;have dh:=ae h.sep.cY;clear h H0 hf;unfold aQ;unfold aA at*;go_enter func108,ntmps108;go_wp2_with fail;refine HN.o.mono ?_;rintro e w' ⟨rfl,m,rfl⟩;exact ady
theorem IA (h:cD w C U RO K p c t used hv jv s r) (i:Ins) {n q:Nat} (hf:s.f r.key=some n) (hq:q < p.ap.length) (hn:n∈s.a.ls q) {k:Nat} (hk:i.a=k) (AI:k < 4) (hl:r.stack.length < 1000000):
 Calls prog 109 #[ρ C.mb,aQ i] w (bX w C.mb U.rb RO K p c t used (.tuple #[]) (s,r.push ((s.a.val n).tg k))):=by
 have H0:=h.box (.cells (aA i) 40);have HB:=ae ((afL w.heap.size w).alloc (afF _) (.cells (aA i) 40));have HN:=ae (vQ H0 hf hq hn);have jg:=ae (ay.new w 40 (aA i));have HH:=ae (fun m=>H0.drewN m);have uu:=ae hk;have dh:=ae h.sep.cY;have rM:=ae hn;clear h H0 hk hf hn;unfold aQ;unfold aA at*;go_enter func109,ntmps109;go_wp2_with fail;refine HN.o.mono ?_;rintro e w' ⟨rfl,m,rfl⟩;have e1:ay ((w.alloc (.cells #[ι i.op,ι i.a,ι i.b,ι i.c,ι i.d] 40)).drewN m) w.heap.size 40 #[ι i.op,ι k,ι i.b,ι i.c,ι i.d]:=by rw [<-uu.o];exact jg.o
 have EA:=ae e1;have HA:=ae (HH.o m);have HK:=ae (Kept.ah (RO:=RO) (HB.o.trans (au _ _ m)) dh.o);clear HN HB jg HH e1;generalize (w.alloc (.cells #[ι i.op,ι i.a,ι i.b,ι i.c,ι i.d] 40)).drewN m=w2 at*;generalize w.heap.size=bx at*;have m9:w2.cell? (π C.mb 9)=some (ρ C.ab):=HA.o.m.aM.cell 9;have XJ:=ae (dT.KH HA.o.m.ar hq rM.o);go_wp2_with fail;refine XJ.o.mono ?_;rintro e w3 ⟨rfl,hb⟩;have zy:=ae (HA.o.later hb);have ki:=ae hb;have Tq:=ae (EA.o.aB (da.ah (S:=[]) hb) smm);clear m9 XJ hb;generalize s.a.val n=x at*;unfold bG;have b1:w3.cell? (π bx 1)=some (ι k):=Tq.o.cell 1;exact qX4
theorem Ca (h:cD w C U RO K p c t used hv jv s r) (i:Ins) {q d:Nat} (ha:i.a=q) (ia:i.b=d) (hq:q < p.ap.length) (he:d<=1) (bz:s.a.ls q≠[]) {k:Nat} (hk:i.c=k) (AI:k < 4) (hl:r.stack.length < 1000000):
 Calls prog 110 #[ρ C.mb,aQ i] w (bX w C.mb U.rb RO K p c t used (.tuple #[]) (s,r.push ((s.a.val (ck s.a q d)).tg k))):=by
 have H0:=h.box (.cells (aA i) 40);have HB:=ae ((afL w.heap.size w).alloc (afF _) (.cells (aA i) 40));have HN:=ae (rH H0 hq he bz);have jg:=ae (ay.new w 40 (aA i));have HH:=ae (fun m=>H0.drewN m);have uu:=ae hk;have dh:=ae h.sep.cY;have rM:=ae (fi (e:=d) bz);have g1:(w.alloc (.cells (aA i) 40)).cell? (π w.heap.size 1)=some (ι q):=by rw [<-ha];exact (ay.new w 40 (aA i)).cell 1
 have g2:(w.alloc (.cells (aA i) 40)).cell? (π w.heap.size 2)=some (ι d):=by rw [<-ia];exact (ay.new w 40 (aA i)).cell 2
 clear h H0 hk ha ia bz;unfold aQ;unfold aA at*;generalize JV:ck s.a q d=n at*;go_enter func110,ntmps110;go_wp2_with fail;refine HN.o.mono ?_;rintro e w' ⟨rfl,m,rfl⟩;have e1:ay ((w.alloc (.cells #[ι i.op,ι i.a,ι i.b,ι i.c,ι i.d] 40)).drewN m) w.heap.size 40 #[ι i.op,ι i.a,ι i.b,ι k,ι i.d]:=by rw [<-uu.o];exact jg.o
 have EA:=ae e1;have HA:=ae (HH.o m);have HK:=ae (Kept.ah (RO:=RO) (HB.o.trans (au _ _ m)) dh.o);clear HN HB jg HH e1 g1 g2;generalize (w.alloc (.cells #[ι i.op,ι i.a,ι i.b,ι i.c,ι i.d] 40)).drewN m=w2 at*;generalize w.heap.size=bx at*;have m9:w2.cell? (π C.mb 9)=some (ρ C.ab):=HA.o.m.aM.cell 9;have XJ:=ae (dT.KH HA.o.m.ar hq rM.o);go_wp2_with fail;refine XJ.o.mono ?_;rintro e w3 ⟨rfl,hb⟩;have zy:=ae (HA.o.later hb);have ki:=ae hb;have Tq:=ae (EA.o.aB (da.ah (S:=[]) hb) smm);clear m9 XJ hb;generalize s.a.val n=x at*;unfold bG;have b1:w3.cell? (π bx 3)=some (ι k):=Tq.o.cell 3;exact qX4
end
end Go.Proofs.YtblkblclmbhjiaaGreat.Ma
namespace Go.Proofs.YtblkblclmbhjiaaGreat.Ma
open Go.RowKit ak.Vm
open ak hiding aL an aj
open dT (bP bG d_)
open Ix (cL)
def It (A:List Nat) (k:Nat):Int:=if k < A.length then (A.getD k 0:Nat) else 0
def Lr (A:List Nat) (k:Nat):Value:= .tuple #[ι (It A k),.bool (decide (k < A.length))]
theorem Ek {l:List Nat} {n:Nat} (pR:l.Nodup) (h:n∈l):d_ (kK (dir 0 l) n)=Lr (iI l n) 0:=by
 rw [BO pR h];unfold d_ Lr It;by_cases h0:0 < (iI l n).length
 ·simp [h0]
 ·simp [h0]
theorem Iu {l:List Nat} {n k:Nat} (pR:l.Nodup) (h:n∈l) (hk:k < (iI l n).length):d_ (kK (dir 0 l) ((iI l n).getD k 0))=Lr (iI l n) (k+1):=by
 rw [Ej pR h hk];unfold d_ Lr It;by_cases h0:k+1 < (iI l n).length
 ·simp [h0]
 ·simp [h0]
theorem Pp {A:List Nat} {k:Nat} (h:k < A.length):It A k=(A.getD k 0:Nat):=by unfold It;rw [afE h]
section
variable {w w':World} {C C':Co} {U U':Ru} {RO RO':List Nat} {K:Kc} {p:aO} {c:Cp} {t:fI} {used:Int} {hv hv':Value} {jv jx:Nat->Value} {s s':St} {r r':Rn} {rv:Value} {mb rb:Nat}
def gg (w:World) (C:Co) (q:Nat):World:=
 (((w.alloc (.cells #[ρ C.mb] 35)).alloc (.cells #[ι q] 3)).alloc (.cells ky 118)).alloc (.cells #[ν] 24)
theorem cD.agE (h:cD w C U RO K p c t used hv jv s r) (q:Nat):cD (gg w C q) C U ((w.heap.size+1)::w.heap.size::RO) K p c t used hv jv s r/\
 ay (gg w C q) w.heap.size 35 #[ρ C.mb]/\ay (gg w C q) (w.heap.size+1) 3 #[ι q]/\ay (gg w C q) (w.heap.size+1+1) 118 ky/\ay (gg w C q) (w.heap.size+1+1+1) 24 #[ν]/\
 Below w.heap.size w (gg w C q)/\(gg w C q).heap.size=w.heap.size+4:=by
 unfold gg;have h1:=h.box (.cells #[ρ C.mb] 35);have h2:=h1.box (.cells #[ι q] 3);have s1:(w.alloc (.cells #[ρ C.mb] 35)).heap.size=w.heap.size+1:=by simp
 have s2:((w.alloc (.cells #[ρ C.mb] 35)).alloc (.cells #[ι q] 3)).heap.size=w.heap.size+1+1:=by simp
 have s3:(((w.alloc (.cells #[ρ C.mb] 35)).alloc (.cells #[ι q] 3)).alloc (.cells ky 118)).heap.size=w.heap.size+1+1+1:=by simp
 have n1:=ay.new w 35 #[ρ C.mb];have n2:=ay.new (w.alloc (.cells #[ρ C.mb] 35)) 3 #[ι q];have n3:=ay.new ((w.alloc (.cells #[ρ C.mb] 35)).alloc (.cells #[ι q] 3)) 118 ky;have n4:=ay.new (((w.alloc (.cells #[ρ C.mb] 35)).alloc (.cells #[ι q] 3)).alloc (.cells ky 118)) 24 #[ν];have h3:=h2.later (((afL _ _).alloc (afF _) (.cells ky 118)).alloc smm (.cells #[ν] 24));rw [s1] at h2 h3 n2;rw [s2] at n3;rw [s3] at n4;exact ⟨h3,((n1.alloc _).alloc _).alloc _,(n2.alloc _).alloc _,n3.alloc _,n4,((((afL _ w).alloc (afF _) _).alloc smm _).alloc sso _).alloc sso _,smm⟩
theorem cD.Xv (h:cD w C U RO K p c t used hv jv s r) {l:List Nat} (hl:∀b,b∈l->b < w.heap.size/\b∉C.l/\b∉U.l):cD w C U (l++RO) K p c t used hv jv s r:=by
 induction l with
 |nil=>exact h
 |cons b l ih=>obtain ⟨h1,h2,h3⟩:=hl b smm;exact (ih fun x hx=>hl x (by simp [hx])).add h1 h2 h3
def zH (w4 wr:World) (b:Nat) (A:List Nat) (k:Nat):Prop:=∃av,oD w4 wr b 24 3 1 k (fun i=> ι (A.getD i 0:Nat)) av
theorem ado {p:Prop} (h:p:=by
 rw [HA.o,e];exact afI (v:= .agg #[.int .u64 y.key,ι (y.tg 0),ι (y.tg 1),ι (y.tg 2),ι (y.tg 3)]) (by simp [results,results219,go_sem,e0,e1,e2,e3,e4]) rfl ⟨rfl,(vb av++[yb,bx+1+1+1]++(bx+1)::bx::RO),fun b hb=>by simp [hb],⟨C,U7,hv,jv7,rfl,Df.o,HA9.o⟩,Lg.o⟩):p:=h
theorem adn {p:Prop} (h:p:=by
 intro hc;simp only [af2,afV,List.not_mem_nil,or_false] at hc;rcases hc with (hc|hc|hc)|hc|hc|hc
 ·have:=De.o.own _ (aK.1 hc);have:=ze.o;omega
 ·have:=HYL.o;have:=De.o.f.size;have:=ze.o;omega
 ·omega
 ·omega
 ·omega
 ·exact F6.o.2.2 hc):p:=h
theorem Ro (h:cD w C U RO K p c t used hv jv s r) (E:im K p c s) {q n:Nat} (hq:q < p.ap.length) (hn:n∈s.a.ls q) (hj:r.bm.length < 1000000):
 Calls prog 219 #[ρ C.mb,ι n,ι q] w (bX w C.mb U.rb RO K p c t used (bG (s.a.val n)) (ry (aw p c) (s,r) n q)):=by
 obtain ⟨i0,hi,gA,jF,r_⟩:=aga vG;obtain ⟨h4,n1,n2,n3,n4,B4,kN⟩:=h.agE q;have gm:=E.inv.wf.nd q hq;have hNX:=dT.DQ h4.m.ar hq hn (afO 1);rw [Ek gm hn] at hNX;have m9:(gg w C q).cell? (π C.mb 9)=some (ρ C.ab):=h4.mx.reads.1;have e1:=n1.c1;have f6:=h.fresh (b:=w.heap.size+1+1) omm;have f7:=h.fresh (b:=w.heap.size+1+1+1) omm;have HG:=ae (show zH (gg w C q) (gg w C q) (w.heap.size+1+1+1) (iI (s.a.ls q) n) 0 from ⟨_,oD.start n4⟩);have Jo:=ae hNX;have hlen:(iI (s.a.ls q) n).length<=4194304:=by have h1:=Iq (s.a.ls q) n;have h2:=E.inv.len q hq;have h3:=(Lo E.gQ E.g16).2 q hq;omega
 have Xw:=ae hlen;have WW:=ae gm;have HN:=ae hn;have H4:=ae h4;have mU:=ae B4;have N1:=ae n1;have N2:=ae n2;have N3:=ae n3;have HE:=ae E;have HJ:=ae hj;have F6:=ae f6;have F7:=ae f7;have dh:=ae h.sep.cY;have ze:=ae kN;have Xx:=ae (fun k (hk:k < (iI (s.a.ls q) n).length)=>Ip hn hk);have HTN:=ae (fun k (hk:k < (iI (s.a.ls q) n).length)=>Iu gm hn hk);clear h h4 n1 n2 n3 n4 B4 hn hj E gm hNX f6 f7 hlen kN;have HA:=ae (show ry (aw p c) (s,r) n q=(fR (aw p c) s q n,r.note (.out q (s.a.val n) (iI (s.a.ls q) n))) from rfl);generalize hA:iI (s.a.ls q) n=A at*;have HAA:=ae hA;clear hA;generalize hy:s.a.val n=y at*;have HY:=ae hy;clear hy;unfold gg ky at*;unfold bG;unfold Lr at Jo HTN;go_enter func219,ntmps219;go_wp2_with fail;refine Jo.o.mono ?_;rintro e w' ⟨rfl,rfl⟩;generalize (((w.alloc (.cells #[ρ C.mb] 35)).alloc (.cells #[ι q] 3)).alloc (.cells #[.int .u64 0,ι 0,ι 0,ι 0,ι 0] 118)).alloc (.cells #[ν] 24)=w4 at*;generalize eO:w.heap.size=bx at*;go_wp2_with fail
 go_loopg [8,9] A.length (fun f s8 s9 wr=>∃k:Nat,s8=ι (It A k)/\s9= .bool (decide (k < A.length))/\k+f=A.length/\Hid (zH w4 wr (bx+1+1+1) A k))
 case atStart=>exact ⟨0,rfl,rfl,omm,HG⟩
 case round=>
  clear HG Jo m9 e1;obtain ⟨k,rfl,rfl,hk,HR⟩:=hrel;obtain ⟨av,hg⟩:=HR.o;have h7:bx+1+1+1∉C.l/\bx+1+1+1∉U.l/\bx+1+1+1∉(bx+1)::bx::RO:=⟨F7.o.1,F7.o.2.1,fun hc=>by
   simp only [afV] at hc;rcases hc with hc|hc|hc
   ·omega
   ·omega
   ·exact F7.o.2.2 hc⟩
  have H7:=ae h7;have fF:∀wx,da [bx+1+1+1] w4 wx->cD wx C U ((bx+1)::bx::RO) K p c t used hv jv s r:=fun wx f=>H4.o.zC f h7;have xi:=ae fF;by_cases a8:k < A.length
  ·have hb:decide (k < A.length)=true:=by simpa using a8
   have e8:=Pp a8;have d7:=hg.c_.c1;have De:=ae hg;have Lf:=ae (HTN.o k a8);have HSK:=ae (Xx.o k a8);have hlen:=Xw.o;have C3:=ae (show k+1<=maxLen by unfold maxLen;omega);have C4:=ae (show (k+1)*8<=140737488355328 by omega);have l7:bx+1+1+1 < wr.heap.size:=hg.c_.lt;have l4:bx+1+1+1 < w4.heap.size:=by rw [ze.o];omega
   have n7:C.mb≠bx+1+1+1:=fun e=>h7.1 (by simp [Co.l,<-e]);have HN7:=ae n7;clear hg h7 fF HR;generalize hm:A.getD k 0=m at*;have HM:=ae hm;have sd:=ae (show ([ι m]:List Value)=(List.range (1*1)).map fun i=> ι (A.getD (k*1+i) 0:Nat) by
    show [_]=[ι ((A.getD (k*1+0) 0:Nat))];rw [Nat.mul_one,Nat.add_zero,hm])
   have NZ:=ae (show bx∉[bx+1+1+1] by simp;omega);clear hm;rw [e8];go_wp2_with ((at_builtin;refine wpList_append_lies _ rfl (.tmp 31) (.tmp 33) 24 rfl 0 3 i0 (ι 0) 1 8 underlying24 hi gA jF r_ rfl dee av _ _ rfl (De.o.row.alloc _) (π wr.heap.size 0) 1 1 [ι m] rfl rfl (gP.gr _ [ι m] _ _ smm) (by simp [Value.oneCell']) dee C3.o C4.o smm _ rfl ?_;intro g cap w5 fo fe pG um;obtain ⟨b5,f5⟩:=De.o.mid l4 ((afL _ _).alloc (afF _) _) fe;have Rp:=ae (De.o.step (m:=1) l4 ((afL _ _).alloc (afF _) _) fe fo pG sd.o);have d5:=b5.cell 0;have z5:=b5.frozen;have h6:=xi.o _ Rp.o.f;have c9:=h6.mx.reads.1;have c1:=(N1.o.aB Rp.o.f NZ.o).cell 0;have HNT:=ae (dT.DQ h6.m.ar hq HSK.o (afO 1));clear b5 f5 fo fe pG um h6));have hnt:=HNT.o;rw [Lf.o] at hnt;refine hnt.mono ?_;rintro e w' ⟨rfl,rfl⟩;have gM:zH w4 (w5.setCell (π (bx+1+1+1) 0) (.slice (some (π g 0)) (k+1) cap)) (bx+1+1+1) A (k+1):=⟨_,Rp.o⟩;have rF:=ae gM;clear gM hnt HNT Rp c9 c1 d5 z5;go_wp2_with fail
   go_roundg (gk - 1)
   case measure=>omega
   case rel=>exact ⟨k+1,rfl,rfl,omm,rF⟩
  ·have hb:decide (k < A.length)=false:=by simpa using a8
   have AC:k=A.length:=omm;have NW:=ae AC;have h5:=fF wr hg.f;have H5:=ae h5;have F5:da ((bx+1+1+1)::(C.l++U.l)) w4 wr:=hg.f.mono smm;have OR:=ae F5;have m9:wr.cell? (π C.mb 9)=some (ρ C.ab):=h5.mx.reads.1;have pa:=HE.o.g16;have HU:=ae (dT.Br h5.m.ar HE.o.BP omm hq HN.o);have Wy:bx∉(bx+1+1+1)::(C.l++U.l)/\bx+1∉(bx+1+1+1)::(C.l++U.l)/\bx+1+1∉(bx+1+1+1)::(C.l++U.l):=by have i1:=h5.sep.cr (b:=bx) smm;have i2:=h5.sep.ur (b:=bx) smm;have i3:=h5.sep.cr (b:=bx+1) smm;have i4:=h5.sep.ur (b:=bx+1) smm;have i5:=F6.o.1;have i6:=F6.o.2.1;simp only [afV,af2,not_or];exact ⟨⟨omm,i1,i2⟩,⟨omm,i3,i4⟩,⟨omm,i5,i6⟩⟩
   have Ls:=ae Wy;have e1:wr.cell? (π bx 0)=some (ρ C.mb):=(N1.o.aB F5 Wy.1).cell 0;have De:=ae hg;clear hg h7 fF HR h5 F5 Wy pa AC HTN Xx;rw [HY.o] at HU;unfold bG at HU;go_wp2_with fail;refine HU.o.mono ?_;rintro e w2 ⟨rfl,f2,a2⟩;have Jr:=H5.o.mx.zx a2 f2 (fun b hb=> .inl hb);have F3:da (bp C.ab C.V C.L) wr ((w2.alloc (.cells #[.int .u64 y.key,ι (y.tg 0),ι (y.tg 1),ι (y.tg 2),ι (y.tg 3)] 118)).drewN 1):=(f2.alloc _).drewN 1;have B3:Below w2.heap.size w2 ((w2.alloc (.cells #[.int .u64 y.key,ι (y.tg 0),ι (y.tg 1),ι (y.tg 2),ι (y.tg 3)] 118)).drewN 1):=((afL _ w2).alloc (afF _) _).trans (au _ _ 1);have A3:=a2.later B3;have X3:=Jr.2.2.2.later B3;rw [<-o_ (a:=s.a) hq HN.o] at X3;have Rq:s.f y.key=some n:=(HE.o.inv.idx _ _).2 ⟨q,hq,HN.o,by rw [HY.o]⟩;have HD:=ae (Ix.qK X3 Rq);have hy:=ay.new w2 118 #[.int .u64 y.key,ι (y.tg 0),ι (y.tg 1),ι (y.tg 2),ι (y.tg 3)];have HY3:=ae (hy.drewN 1);have i10:(w2.alloc (.cells #[.int .u64 y.key,ι (y.tg 0),ι (y.tg 1),ι (y.tg 2),ι (y.tg 3)] 118)).cell? (π C.mb 10)=some (ρ C.xb):=(H5.o.mx.vL (f2.alloc _)).2.1;have y0:=hy.c1;have FF:da C.l wr ((w2.alloc (.cells #[.int .u64 y.key,ι (y.tg 0),ι (y.tg 1),ι (y.tg 2),ι (y.tg 3)] 118)).drewN 1):=F3.mono (by intro x hx;simp [Co.l,hx]);have e3:(w2.alloc (.cells #[.int .u64 y.key,ι (y.tg 0),ι (y.tg 1),ι (y.tg 2),ι (y.tg 3)] 118)).cell? (π bx 0)=some (ρ C.mb):=(N1.o.aB (OR.o.trans (FF.mono (fun x hx=>by simp [hx]))) Ls.o.1).cell 0;have hyl:wr.heap.size<=w2.heap.size:=f2.size;have DK:=ae F3;have zy:=ae A3;have HFF:=ae FF;have HYL:=ae hyl;clear f2 a2 Jr F3 B3 A3 X3 Rq hy FF m9 e1 HU hyl;go_wp2_with fail;generalize w2.alloc (.cells #[.int .u64 y.key,ι (y.tg 0),ι (y.tg 1),ι (y.tg 2),ι (y.tg 3)] 118)=w3 at*;generalize w2.heap.size=yb at*
   go_still_tail 6,krr
   change wpList _ _ _ _ _ (w3.drewN 1);generalize w3.drewN 1=wd at*;go_wp2_with fail;refine HD.o.mono ?_;rintro e we ⟨rfl,f5,x5⟩;obtain ⟨Rj,Eb⟩:=H5.o.mx.both DK.o zy.o (fun b hb=> .inl hb) f5 x5;have h8:=H5.o.oh Rj Eb;have F8:da C.l wr we:=HFF.o.trans (f5.mono (by intro x hx;simp at hx;rcases hx with rfl|rfl<;>simp [Co.l]));have Vz:yb∉C.l/\yb∉U.l:=⟨(H5.o.fresh HYL.o).1,(H5.o.fresh HYL.o).2.1⟩;have hy8:=HY3.o.aB f5 (fun hc=>Vz.1 (by simp at hc;rcases hc with rfl|rfl<;>simp [Co.l]));obtain ⟨-,-,g12,g0,gf⟩:=Eb.reads;obtain ⟨gb,kw,jZ,vM,UC⟩:=Eb.ap hq;have p1:we.cell? (π bx 0)=some (ρ C.mb):=(N1.o.aB (OR.o.trans (F8.mono (fun x hx=>by simp [hx]))) Ls.o.1).cell 0;have p2:we.cell? (π (bx+1) 0)=some (ι q):=(N2.o.aB (OR.o.trans (F8.mono (fun x hx=>by simp [hx]))) Ls.o.2.1).cell 0;rw [jZ] at g0;have H8:=ae h8;have ξ:=ae F8;have HY8:=ae hy8;have Rl:=ae Vz;have HM8:=ae Eb;clear Rj Eb h8 F8 Vz hy8 jZ vM f5 x5 i10 y0 e3 HD;dsimp only at g12;generalize Xy:p.ap.getD q false=gq at*;have HGQ:=ae Xy;clear Xy;cases gq
   ·
    go_wp2_with fail;go_quiet (fail);have q12:(we.drewN nq).cell? (π C.mb 12)=some (ι s.total):=g12;have qf:∀o,(we.drewN nq).frozen? (π C.mb o)=false:=gf;have q1:(we.drewN nq).cell? (π bx 0)=some (ρ C.mb):=p1;have H9:=ae (H8.o.drewN nq);have HY9:=ae (HY8.o.drewN nq);have Xz:=ae (ξ.o.drewN nq);clear g12 gf p1 p2 g0 UC;generalize we.drewN nq=wf at*;obtain ⟨k1,k2⟩:=H9.o.mx.total (s.total - 1);have H10:=ae (H9.o.oh k1 k2);have vP:=ae (HY9.o.aB k1.f Rl.o.1);have BR:=ae (Xz.o.trans k1.f);have n1:C.mb≠bx:=fun e=>Ls.o.1 (by simp [Co.l,<-e]);have r1:(wf.setCell (π C.mb 12) (ι (s.total - 1))).cell? (π bx 0)=some (ρ C.mb):=(N1.o.aB (OR.o.trans (BR.o.mono (fun x hx=>by simp [hx]))) Ls.o.1).cell 0;clear k1 k2;have S7:IntKind.i64.wrap (s.total - 1)=s.total - 1:=afU _ ⟨by have:=HE.o.total;omega,by have:=HE.o.total;omega⟩;go_wp2_with fail;generalize wf.setCell (π C.mb 12) (ι (s.total - 1))=wg at*;have FX:=OR.o.trans (BR.o.mono (fun x hx=>by simp [hx]));have z1:=N1.o.aB FX Ls.o.1;have z2:=N2.o.aB FX Ls.o.2.1;have z3:=N3.o.aB FX Ls.o.2.2;have Te:∀b,b∈vb av->b∉C.l/\b∉U.l:=fun b hb=>⟨(H4.o.fresh (De.o.own b (aK.1 hb))).1,(H4.o.fresh (De.o.own b (aK.1 hb))).2.1⟩;have z7:=De.o.c_.aB BR.o F7.o.1;have zr:=De.o.row.aB BR.o (fun b hb=>(Te b (aK.2 hb)).1);rw [NW.o] at zr;have Lt:=H10.o.Xv (l:=vb av++[yb,bx+1+1+1]) (fun b hb=>by
     simp only [af2,afV,List.not_mem_nil,or_false] at hb;rcases hb with hb|rfl|rfl
     ·exact ⟨(af3 zr b (aK.1 hb)).2,Te b hb⟩
     ·exact ⟨vP.o.lt,Rl.o⟩
     ·exact ⟨z7.lt,F7.o.1,F7.o.2.1⟩)
    have hu:fK wg C.mb (vb av++[yb,bx+1+1+1]++(bx+1)::bx::RO) (.func (.func 273) #[] #[ρ bx,ρ (bx+1),ρ yb,ρ (bx+1+1+1)]) (.out q y A):=
     ⟨_,_,_,_,av,rfl,z1,z2,vP.o,z7,zr,smm,smm,smm,smm,fun b hb=>by simp [hb]⟩
    have HC:=ae (vO Lt hu HJ.o);have XA:bx+1+1∉(vb av++[yb,bx+1+1+1]++(bx+1)::bx::RO):=by exact adn
    have H6U:=ae XA;have Z3:=ae z3;have ZY:=ae vP.o;have HLG:bx+1+1 < wg.heap.size:=z3.lt;have HFX:=ae FX;clear z1 z2 z3 z7 zr Lt hu XA Te FX;go_wp2_with fail;refine HC.o.mono ?_;rintro e wh ⟨rfl,U7,jv7,Lv,A7,f7,g7⟩;have z8:=Z3.o.aB f7 F6.o.2.1;have y8:=vP.o.aB f7 Rl.o.2;obtain ⟨a0,a1,a2,a3,a4,-⟩:=jc y8;obtain ⟨b0,b1,b2,b3,b4,bf⟩:=jc z8;have uw:bx+1+1∉C.l/\bx+1+1∉U7.l/\bx+1+1∉(vb av++[yb,bx+1+1+1]++(bx+1)::bx::RO):=⟨F6.o.1,fun hc=>by
     rcases g7 _ hc with hc|hc
     ·exact F6.o.2.1 hc
     ·omega,H6U.o⟩
    have F9:da [bx+1+1] wh (dr wh (bx+1+1) 0 y):=fD (da.refl _ _) smm 0 y;have A9:=A7.zC F9 uw;have r9:=dT.jp z8 y;have HA9:=ae A9;have XB:=ae r9;have Df:=ae Lv;have Lg:=ae (show Kept RO w (dr wh (bx+1+1) 0 y) from (Kept.ah (RO:=RO) (by rw [eO];exact mU.o) (by rw [eO];exact dh.o)).trans (Kept.cE (S:=(bx+1+1)::(bx+1+1+1)::(C.l++U.l)) (((HFX.o.mono (fun x hx=>by simp at hx ⊢;exact .inr hx)).trans (f7.mono (fun x hx=>by simp [hx]))).trans (F9.mono (fun x hx=>by simp at hx;simp [hx]))) (fun b hb hc=>by
     simp only [afV,af2] at hc;rcases hc with rfl|rfl|hc|hc
     ·exact F6.o.2.2 hb
     ·exact F7.o.2.2 hb
     ·exact H4.o.sep.cr (by simp [hb]) hc
     ·exact H4.o.sep.ur (by simp [hb]) hc) (fun b hb=>H4.o.sep.cY b (by simp [hb]))) (fun b hb=>hb))
    clear HC A7 f7 g7 uw F9 A9 r9 Lv z8 y8;go_wp2;change bodyPost _ _ _ _ _ (dr wh (bx+1+1) 0 y);generalize dr wh (bx+1+1) 0 y=wi at*;obtain ⟨e0,e1,e2,e3,e4,_⟩:=jc XB.o;have e:fR (aw p c) s q n=⟨takeN s.a q n,Vm.aL s.f y.key none,s.vars,s.total - 1⟩:=by unfold fR;rw [HY.o,show (aw p c).gh q=false from HGQ.o];rfl
    exact ado
   ·
    go_wp2_with fail;go_quiet (fail);have q12:(we.drewN nq).cell? (π C.mb 12)=some (ι s.total):=g12;have qf:∀o,(we.drewN nq).frozen? (π C.mb o)=false:=gf;have q1:(we.drewN nq).cell? (π bx 0)=some (ρ C.mb):=p1;have H9:=ae (H8.o.drewN nq);have HY9:=ae (HY8.o.drewN nq);have Xz:=ae (ξ.o.drewN nq);clear g12 gf p1 p2 g0 UC;generalize we.drewN nq=wf at*;have H10:=H9;have vP:=HY9;have BR:=Xz;have r1:=q1;go_wp2_with fail;generalize wf=wg at*;have FX:=OR.o.trans (BR.o.mono (fun x hx=>by simp [hx]));have z1:=N1.o.aB FX Ls.o.1;have z2:=N2.o.aB FX Ls.o.2.1;have z3:=N3.o.aB FX Ls.o.2.2;have Te:∀b,b∈vb av->b∉C.l/\b∉U.l:=fun b hb=>⟨(H4.o.fresh (De.o.own b (aK.1 hb))).1,(H4.o.fresh (De.o.own b (aK.1 hb))).2.1⟩;have z7:=De.o.c_.aB BR.o F7.o.1;have zr:=De.o.row.aB BR.o (fun b hb=>(Te b (aK.2 hb)).1);rw [NW.o] at zr;have Lt:=H10.o.Xv (l:=vb av++[yb,bx+1+1+1]) (fun b hb=>by
     simp only [af2,afV,List.not_mem_nil,or_false] at hb;rcases hb with hb|rfl|rfl
     ·exact ⟨(af3 zr b (aK.1 hb)).2,Te b hb⟩
     ·exact ⟨vP.o.lt,Rl.o⟩
     ·exact ⟨z7.lt,F7.o.1,F7.o.2.1⟩)
    have hu:fK wg C.mb (vb av++[yb,bx+1+1+1]++(bx+1)::bx::RO) (.func (.func 273) #[] #[ρ bx,ρ (bx+1),ρ yb,ρ (bx+1+1+1)]) (.out q y A):=
     ⟨_,_,_,_,av,rfl,z1,z2,vP.o,z7,zr,smm,smm,smm,smm,fun b hb=>by simp [hb]⟩
    have HC:=ae (vO Lt hu HJ.o);have XA:bx+1+1∉(vb av++[yb,bx+1+1+1]++(bx+1)::bx::RO):=by exact adn
    have H6U:=ae XA;have Z3:=ae z3;have ZY:=ae vP.o;have HLG:bx+1+1 < wg.heap.size:=z3.lt;have HFX:=ae FX;clear z1 z2 z3 z7 zr Lt hu XA Te FX;go_wp2_with fail;refine HC.o.mono ?_;rintro e wh ⟨rfl,U7,jv7,Lv,A7,f7,g7⟩;have z8:=Z3.o.aB f7 F6.o.2.1;have y8:=vP.o.aB f7 Rl.o.2;obtain ⟨a0,a1,a2,a3,a4,-⟩:=jc y8;obtain ⟨b0,b1,b2,b3,b4,bf⟩:=jc z8;have uw:bx+1+1∉C.l/\bx+1+1∉U7.l/\bx+1+1∉(vb av++[yb,bx+1+1+1]++(bx+1)::bx::RO):=⟨F6.o.1,fun hc=>by
     rcases g7 _ hc with hc|hc
     ·exact F6.o.2.1 hc
     ·omega,H6U.o⟩
    have F9:da [bx+1+1] wh (dr wh (bx+1+1) 0 y):=fD (da.refl _ _) smm 0 y;have A9:=A7.zC F9 uw;have r9:=dT.jp z8 y;have HA9:=ae A9;have XB:=ae r9;have Df:=ae Lv;have Lg:=ae (show Kept RO w (dr wh (bx+1+1) 0 y) from (Kept.ah (RO:=RO) (by rw [eO];exact mU.o) (by rw [eO];exact dh.o)).trans (Kept.cE (S:=(bx+1+1)::(bx+1+1+1)::(C.l++U.l)) (((HFX.o.mono (fun x hx=>by simp at hx ⊢;exact .inr hx)).trans (f7.mono (fun x hx=>by simp [hx]))).trans (F9.mono (fun x hx=>by simp at hx;simp [hx]))) (fun b hb hc=>by
     simp only [afV,af2] at hc;rcases hc with rfl|rfl|hc|hc
     ·exact F6.o.2.2 hb
     ·exact F7.o.2.2 hb
     ·exact H4.o.sep.cr (by simp [hb]) hc
     ·exact H4.o.sep.ur (by simp [hb]) hc) (fun b hb=>H4.o.sep.cY b (by simp [hb]))) (fun b hb=>hb))
    clear HC A7 f7 g7 uw F9 A9 r9 Lv z8 y8;go_wp2;change bodyPost _ _ _ _ _ (dr wh (bx+1+1) 0 y);generalize dr wh (bx+1+1) 0 y=wi at*;obtain ⟨e0,e1,e2,e3,e4,_⟩:=jc XB.o;have e:fR (aw p c) s q n=⟨takeN s.a q n,Vm.aL s.f y.key none,s.vars,s.total⟩:=by unfold fR;rw [HY.o,show (aw p c).gh q=true from HGQ.o];rfl
    exact ado
theorem Lw (h:cD w C U RO K p c t used hv jv s r) (E:im K p c s) {q d:Nat} (hq:q < p.ap.length) (he:d<=1) (x:eW) (hx:s.f x.key=none) (hj:r.bm.length < 1000000):
 Calls prog 218 #[ρ C.mb,ι q,ι d,bG x] w (bX w C.mb U.rb RO K p c t used (.bool (gW (aw p c) (s,r) q d x).2) (gW (aw p c) (s,r) q d x).1):=by
 have Bp:=E.gQ.q1 q hq;have El:=E.gQ.s1;have Hq:(aw p c).cq q=(c.aI.getD q 0).toNat:=rfl;have kN:(aw p c).sz=c.size.toNat:=rfl;have Pa:(aw p c).gh q=p.ap.getD q false:=rfl;have hlen:=E.inv.len q hq;unfold gW;dsimp only;by_cases h1:((s.a.ls q).length:Int)=c.aI.getD q 0
 ·rw [afE (.inl (by rw [Hq];omega))];exact Ir h E hq he x h1
 ·have a8:(s.a.ls q).length < (aw p c).cq q:=omm;by_cases h2:p.ap.getD q false=true
  ·rw [abH (by
    rintro (h3|h3)
    ·omega
    ·rw [Pa,h2] at h3;simp at h3)]
   exact Pn h E hq he x h1 h2 hx (E.room hq a8 (.inl (by rw [Pa];exact h2))) hj
  ·have h2':p.ap.getD q false=false:=by simpa using h2
   by_cases h3:s.total=c.size
   ·rw [afE (.inr ⟨by rw [Pa];exact h2',by rw [kN];omega⟩)];exact Is h E hq he x h1 h2' h3
   ·have h4:s.total < (aw p c).sz:=by have:=E.inv.Kd;have:=E.inv.NJ;omega
    rw [abH (by
     rintro (h5|h5)
     ·omega
     ·omega)]
    exact Po h E hq he x h1 h2' h3 hx (E.room hq a8 (.inr h4)) hj
def gz (w:World) (C:Co) (q d:Nat):World:=
 ((w.alloc (.cells #[ρ C.mb] 35)).alloc (.cells #[ι q] 3)).alloc (.cells #[ι d] 3)
theorem cD.Rr (h:cD w C U RO K p c t used hv jv s r) (q d:Nat):cD (gz w C q d) C U ((w.heap.size+1+1)::(w.heap.size+1)::w.heap.size::RO) K p c t used hv jv s r/\
 ay (gz w C q d) w.heap.size 35 #[ρ C.mb]/\ay (gz w C q d) (w.heap.size+1) 3 #[ι q]/\ay (gz w C q d) (w.heap.size+1+1) 3 #[ι d]/\
 Below w.heap.size w (gz w C q d):=by
 unfold gz;have h1:=h.box (.cells #[ρ C.mb] 35);have h2:=h1.box (.cells #[ι q] 3);have h3:=h2.box (.cells #[ι d] 3);have s1:(w.alloc (.cells #[ρ C.mb] 35)).heap.size=w.heap.size+1:=by simp
 have s2:((w.alloc (.cells #[ρ C.mb] 35)).alloc (.cells #[ι q] 3)).heap.size=w.heap.size+1+1:=by simp
 have n1:=ay.new w 35 #[ρ C.mb];have n2:=ay.new (w.alloc (.cells #[ρ C.mb] 35)) 3 #[ι q];have n3:=ay.new ((w.alloc (.cells #[ρ C.mb] 35)).alloc (.cells #[ι q] 3)) 3 #[ι d];rw [s1] at h2 h3 n2;rw [s2] at h3 n3;exact ⟨h3,(n1.alloc _).alloc _,n2.alloc _,n3,(((afL _ w).alloc (afF _) _).alloc smm _).alloc sso _⟩
theorem jV (h:cD w C U RO K p c t used hv jv s r) {q d:Nat} (hq:q < p.ap.length) (bz:s.a.ls q=[]):
 Calls prog 220 #[ρ C.mb,ι q,ι d] w (bX w C.mb U.rb RO K p c t used (.bool false) (s,r.dG 2)):=by
 obtain ⟨h4,n1,n2,n3,B4⟩:=h.Rr q d;have pY:=ae (fun k=>dT.uT (h4.m.ar.drewN k) hq);rw [bz] at pY;have m9:(gz w C q d).cell? (π C.mb 9)=some (ρ C.ab):=h4.mx.reads.1;have e1:=n1.c1;have e2:=n2.c1;have dh:=ae h.sep.cY;have mU:=ae B4;have H4:=ae h4;clear h h4 n1 n2 n3 B4 bz;unfold gz at*;go_enter func220,ntmps220;go_wp2_with fail;generalize ((w.alloc (.cells #[ρ C.mb] 35)).alloc (.cells #[ι q] 3)).alloc (.cells #[ι d] 3)=w4 at*;generalize eO:w.heap.size=bx at*;go_quiet ((go_at_call 204;exact sM (pY.o _)));have HK:=ae ((Kept.ah (RO:=RO) (by rw [eO];exact mU.o) (by rw [eO];exact dh.o)).trans (Kept.ah (au w4.heap.size w4 nq) (fun b hb=>H4.o.sep.cY b (by simp [hb]))) (fun b hb=>hb));have H5:=ae (H4.o.drewN nq);have oC:(w4.drewN nq).cell? (π C.mb 60)=some (ρ U.rb):=H5.o.m.aM.cell 60;have r6:(w4.drewN nq).cell? (π U.rb 6)=some (ι r.br):=H5.o.r.c_.cell 6;have rf:∀o,(w4.drewN nq).frozen? (π U.rb o)=false:=H5.o.r.c_.frozen;have i1:(w4.drewN nq).cell? (π bx 0)=some (ρ C.mb):=e1;have kY:=ae (Kept.cE (RO:=RO) (S:=U.l) ((da.refl _ (w4.drewN nq)).setCell (p:=(π U.rb 6)) (by simp [Ru.l]) (ι 2)) (fun b hb=>H5.o.sep.ur (by simp [hb])) (fun b hb=>H5.o.sep.cY b (by simp [hb])));clear e1 e2 m9;generalize w4.drewN nq=w5 at*;go_wp2;go_ret;exact ⟨rfl,_,fun b hb=>by simp [hb],(H5.o.iu 6 (ι 2) (r':=r.dG 2) rfl rfl rfl rfl rfl rfl H5.o.r.gm).jy,HK.o.trans kY.o (fun b hb=>hb)⟩
theorem pd (h:cD w C U RO K p c t used hv jv s r) (E:im K p c s) {q d:Nat} (hq:q < p.ap.length) (he:d<=1) (bz:s.a.ls q≠[]) (hj:r.bm.length < 1000000):
 Calls prog 220 #[ρ C.mb,ι q,ι d] w (bX w C.mb U.rb RO K p c t used (.bool true) (jn (aw p c) s q d,{r.note (.put q d (s.a.val (ck s.a q d))) with hand:=some (s.a.val (ck s.a q d))})):=by
 obtain ⟨h4,n1,n2,n3,B4⟩:=h.Rr q d;have pY:=ae (fun k=>dT.uT (h4.m.ar.drewN k) hq);have zI:0 < (s.a.ls q).length:=List.length_pos_iff.2 bz;have hz:(((s.a.ls q).length:Int)==0)=false:=by simp;omega
 have m9:(gz w C q d).cell? (π C.mb 9)=some (ρ C.ab):=h4.mx.reads.1;have e1:=n1.c1;have e2:=n2.c1;have e3:=n3.c1;have pa:=E.g16;have Tf:=ae (fun k=>Rk (h4.mx.drewN k) E.inv E.BP omm hq he bz E.total);have dh:=ae h.sep.cY;have mU:=ae B4;have H4:=ae h4;have N1:=ae n1;have N2:=ae n2;have N3:=ae n3;have HJ:=ae hj;clear h h4 n1 n2 n3 B4 bz hj pa E zI;unfold gz at*;generalize s.a.val (ck s.a q d)=y at*;unfold bG at Tf;generalize (s.a.ls q).length=ln at*;go_enter func220,ntmps220;go_wp2_with fail;generalize ((w.alloc (.cells #[ρ C.mb] 35)).alloc (.cells #[ι q] 3)).alloc (.cells #[ι d] 3)=w4 at*;generalize eO:w.heap.size=bx at*;go_quiet ((go_at_call 204;exact sM (pY.o _)));have HK:=ae ((Kept.ah (RO:=RO) (by rw [eO];exact mU.o) (by rw [eO];exact dh.o)).trans (Kept.ah (au w4.heap.size w4 nq) (fun b hb=>H4.o.sep.cY b (by simp [hb]))) (fun b hb=>hb));have H5:=ae (H4.o.drewN nq);have HC5:=ae (Tf.o nq);have i1:(w4.drewN nq).cell? (π bx 0)=some (ρ C.mb):=e1;have i2:(w4.drewN nq).cell? (π (bx+1) 0)=some (ι q):=e2;have i3:(w4.drewN nq).cell? (π (bx+1+1) 0)=some (ι d):=e3;have M1:=ae (N1.o.drewN nq);have M2:=ae (N2.o.drewN nq);have M3:=ae (N3.o.drewN nq);clear e1 e2 e3 m9 Tf pY hz N1 N2 N3;generalize w4.drewN nq=w5 at*;go_wp2_with fail;refine HC5.o.mono ?_;rintro e w6 ⟨rfl,C6,k1,k2⟩;have h6:=H5.o.oh k1 k2;have x1:bx∈(bx+1+1)::(bx+1)::bx::RO:=by simp
 have x2:bx+1∈(bx+1+1)::(bx+1)::bx::RO:=by simp
 have x3:bx+1+1∈(bx+1+1)::(bx+1)::bx::RO:=by simp
 have p1:=(M1.o.aB k1.f (H5.o.sep.cr x1)).alloc (.cells (aH y) 118);have p2:=(M2.o.aB k1.f (H5.o.sep.cr x2)).alloc (.cells (aH y) 118);have p3:=(M3.o.aB k1.f (H5.o.sep.cr x3)).alloc (.cells (aH y) 118);have kX:=k1.mb;have h7:=h6.box (.cells (aH y) 118);have py:=ay.new w6 118 (aH y);have hu:fK (w6.alloc (.cells (aH y) 118)) C6.mb (w6.heap.size::(bx+1+1)::(bx+1)::bx::RO) (.func (.func 275) #[] #[ρ bx,ρ (bx+1),ρ (bx+1+1),ρ w6.heap.size]) (.put q d y):=by rw [kX];exact ⟨_,_,_,_,rfl,p1,p2,p3,py,smm,smm,smm,smm⟩
 have hc:=vO h7 hu HJ.o;rw [kX] at hc;have HC:=ae hc;have NW:=ae (HK.o.trans (RO':=RO) ((H5.o.kept k1).less (fun b hb=>by simp [hb])) (fun b hb=>hb));have Lx:=ae (Kept.ah (RO:=RO) ((afL w6.heap.size w6).alloc (afF _) (.cells (aH y) 118)) (fun b hb=>h6.sep.cY b (by simp [hb])));have H7:=ae h7;have P1:=ae p1;have PY:=ae py;have qN:=ae kX;have j1:=p1.c1;clear k1 k2 h6 hu p1 p2 p3 x1 x2 x3 HC5 kX hc i1 i2 i3 h7 py M1 M2 M3;unfold aH at*;go_wp2_with fail;generalize w6.alloc (.cells #[.int .u64 y.key,ι (y.tg 0),ι (y.tg 1),ι (y.tg 2),ι (y.tg 3)] 118)=w7 at*;generalize w6.heap.size=yb at*;refine HC.o.mono ?_;rintro e w8 ⟨rfl,U8,jv8,Iv,A8,f8,g8⟩;have d1:w8.cell? (π bx 0)=some (ρ C.mb):=(P1.o.aB f8 (H7.o.sep.ur smm)).cell 0;have d60:w8.cell? (π C.mb 60)=some (ρ U.rb):=by rw [<-qN.o,<-Iv];exact A8.m.aM.cell 60
 have d4:w8.cell? (π U.rb 4)=some hv:=by rw [<-Iv];exact A8.r.c_.cell 4
 have df:∀o,w8.frozen? (π U.rb o)=false:=by rw [<-Iv];exact A8.r.c_.frozen
 obtain ⟨y0,y1,y2,y3,y4,-⟩:=jc (PY.o.aB f8 (H7.o.sep.ur smm));have l1:bx < w8.heap.size:=A8.sep.cY bx smm;have l2:C.mb < w8.heap.size:=by rw [<-qN.o];exact A8.m.aM.lt
 have l3:yb < w8.heap.size:=A8.sep.cY yb smm;have l4:U.rb < w8.heap.size:=by rw [<-Iv];exact A8.r.c_.lt
 have Df:=ae Iv;have HA8:=ae A8;have ο:=ae (Kept.cE (RO:=RO) f8 (fun b hb=>H7.o.sep.ur (by simp [hb])) (fun b hb=>H7.o.sep.cY b (by simp [hb])));clear HC A8 f8 g8 Iv j1;go_wp2_with fail;go_region;go_wp2;go_ret;have Fv:=ay.new w8 118 (aH y);have A9:=(HA8.o.box (.cells (aH y) 118)).iu 4 (.slice (some (π w8.heap.size 0)) 1 1) (r':={r.note (.put q d y) with hand:=some y}) (hv':= .slice (some (π w8.heap.size 0)) 1 1) rfl rfl rfl rfl rfl rfl ⟨_,_,rfl,Fv,smm⟩;rw [Df.o] at A9;have Xt:Kept RO w8 ((w8.alloc (.cells (aH y) 118)).setCell (π U.rb 4) (.slice (some (π w8.heap.size 0)) 1 1)):=Kept.cE (S:=[U.rb]) (((da.refl _ w8).alloc _).setCell smm _) (fun b hb hc=>by
  simp at hc;subst hc;exact HA8.o.sep.ur (b:=U.rb) (by simp [hb]) (by rw [<-Df.o];simp [Ru.l])) (fun b hb=>HA8.o.sep.cY b (by simp [hb]))
 rw [World.setCell_alloc_past _ _ _ _ l4] at A9 Xt;refine ⟨rfl,_,fun b hb=>?_,(A9.drewN 1).xh qN.o Df.o,(((NW.o.trans Lx.o (fun b hb=>hb)).trans ο.o (fun b hb=>hb)).trans Xt (fun b hb=>hb)).trans (Kept.ah (RO:=RO) (au _ _ 1) (fun b hb=>A9.sep.cY b (by simp [hb]))) (fun b hb=>hb)⟩;simp [hb]
theorem Ly:(prog.info? 46).map (fun i=>(i.zero,i.size,i.bytes))=some (some (.int .u64 0),1,8):=by kernel_rfl
theorem yr {α:Type} (x d:α) (l:List α):(∀i,i < l.length->(l++[x]).getD i d=l.getD i d)/\(l++[x]).getD l.length d=x:=by
 constructor
 ·intro i hi;simp [List.getD,agt,hi]
 ·simp [List.getD]
theorem abD {p:Prop} (h:p:=by
 intro wz bR
 (try dsimp only at bR)
 exact qU):p:=h
theorem adr {p:Prop} (h:p:=by
 refine Mk.pt ?_;refine afR (rs:=[22]) krr smm ?_;refine afJ rfl (fun K hK=>?_) af1;refine ags _ rfl (.tmp 13) (.tmp 24) 41 rfl 0 46 i0 (.int .u64 0) 1 8 underlying41 hi gA jF r_ rfl dee U.kF _ _ (by simp [Act.eval,Act.put]) (HD.o.r.kF.alloc _) (π w.heap.size 0) 1 1 [.int .u64 key] (by simp [Act.eval,Act.put]) rfl (gP.gr _ [.int .u64 key] _ _ smm) (by simp [Value.oneCell']) dee C3.o C4.o smm _ rfl ?_;intro g cap w4 fo fe pG um;obtain ⟨qW,xf⟩:=If (w:=w) (n:=r.told.length+1) (cap:=cap) ((au w.heap.size w 1).alloc (afF _) _) fe pG rfl;obtain ⟨Lz,c5,f5,Dc⟩:=HSV.o g cap w4 qW;have HO:=ae fo;have HF:=ae qW;have HS:=ae xf;clear fo fe pG um qW xf;clear al;refine hK.out _ _ Lz (fun al=>?_);clear hK K;refine Mk.pt ?_;refine af4 (i:=23) (v:=?_) rfl krr krr krr (fun _ _ _ h=>h) (Or.inl ⟨by rfl,?_⟩) aas ?_;rotate_left
 ·exact abD
 refine Mk.pt ?_;refine af4 (i:=24) (v:=?_) rfl krr krr krr (fun _ _ _ h=>h) (Or.inl ⟨by rfl,?_⟩) aas ?_;rotate_left
 ·exact abD
 refine Mk.pt ?_;refine afR (rs:=[25]) krr smm ?_;refine afJ rfl (fun K hK=>?_) af1;refine QX ?_;go_simp;refine hK.out _ _ Dc (fun al=>?_);clear hK K;refine Mk.pt ?_;refine afZ krr ?_ _;clear al Lz Dc;go_wp2;go_ret;obtain ⟨q1,q2⟩:=yr key 0 r.told;have bq:=kU (f':=fun i=> .int .u64 ((r.told++[key]).getD i 0:Nat)) HO.o (fun i hi=>by show Value.int _ _=Value.int _ _;rw [q1 i hi]) (by show Value.int _ _=Value.int _ _;rw [q2]);have A:=H.o.kF HF.o (l:=r.told++[key]) (by rw [age];exact bq) HS.o;exact ⟨rfl,RO,fun b hb=>hb,A.jy,Kept.cE (S:=U.l) ((HF.o.mono (by intro k hk;simp [Ru.l,hk])).setCell (by simp [Ru.l]) _) (fun b hb=>H.o.sep.ur hb) H.o.sep.cY⟩):p:=h
theorem zJ (h:cD w C U RO K p c t used hv jv s r) {y:eW} (hh:r.hand=some y) (hl:r.told.length < 1000000):
 Calls prog 222 #[ρ C.mb] w (bX w C.mb U.rb RO K p c t used (.bool true) (s,{r with told:=r.told++[y.key]})):=by
 obtain ⟨i0,hi,gA,jF,r_⟩:=aga Ly;have gR:=h.r.gm;rw [hh] at gR;obtain ⟨hb,Bp,XC,Jv,NI⟩:=gR;have oC:=agS h.m.aM;have r4:w.cell? (π U.rb 4)=some hv:=h.r.c_.cell 4;rw [XC] at r4;have r5:w.cell? (π U.rb 5)=some U.kF:=h.r.c_.cell 5;have rf:∀o,w.frozen? (π U.rb o)=false:=h.r.c_.frozen;have k0:=Jv.c1;have lm:=h.m.aM.lt;have lr:=h.r.c_.lt;have lh:=Jv.lt;have nh:hb≠U.rb:=fun e=>h.sep.ur NI (by simp [e,Ru.l]);have nm:C.mb≠U.rb:=fun e=>h.sep.cu (b:=C.mb) (by simp [Co.l]) (by rw [e];simp [Ru.l]);have HD:=ae (h.drewN 1);have C3:=ae (show r.told.length+1<=maxLen by unfold maxLen;omega);have C4:=ae (show (r.told.length+1)*8<=140737488355328 by omega);have HBK:=ae Jv;have HBR:=ae NI;have H:=ae h;clear h XC hh Jv NI;generalize y.key=key at*;have hSv:∀(g cap:Nat) (w4:World),da (vb U.kF) w w4->(w4.cell? (π C.mb 60)=some (ρ U.rb)/\w4.cell? (π U.rb 4)=some (.slice (some (π hb 0)) 1 Bp)/\w4.cell? (π hb 0)=some (.int .u64 key))/\w4.cell? (π U.rb 5)=some U.kF/\(∀o,w4.frozen? (π U.rb o)=false)/\
  ((w4.setCell (π U.rb 5) (.slice (some (π g 0)) (r.told.length+1) cap)).cell? (π C.mb 60)=some (ρ U.rb)/\(w4.setCell (π U.rb 5) (.slice (some (π g 0)) (r.told.length+1) cap)).cell? (π U.rb 4)=some (.slice (some (π hb 0)) 1 Bp)/\(w4.setCell (π U.rb 5) (.slice (some (π g 0)) (r.told.length+1) cap)).cell? (π hb 0)=some (.int .u64 key)):=by
  intro g cap w4 f;obtain ⟨c5,cf,Vx⟩:=H.o.Ij f;have b4:=H.o.r.c_.aB f H.o.sep.u.t;have c4:w4.cell? (π U.rb 4)=w.cell? (π U.rb 4):=(b4.cell 4).trans (H.o.r.c_.cell 4).symm;have ch:w4.cell? (π hb 0)=w.cell? (π hb 0):=((HBK.o.aB f (fun hc=>H.o.sep.ur HBR.o (by simp [Ru.l,hc]))).cell 0).trans (HBK.o.cell 0).symm;refine ⟨⟨Vx,c4.trans r4,ch.trans k0⟩,c5,cf,?_,?_,?_⟩
  ·rw [fT nm];exact Vx
  ·rw [World.cell?_setCell_other _ _ _ _ (by intro e;have:=afK Addr.off e;simp at this)];exact c4.trans r4
  ·rw [fT nh];exact ch.trans k0
 have HSV:=ae hSv;clear hSv;go_enter func222,ntmps222;go_wp2_with fail;refine wp_region_held_drew (S:=(fun wx=>wx.cell? (π C.mb 60)=some (ρ U.rb)/\wx.cell? (π U.rb 4)=some (.slice (some (π hb 0)) 1 Bp)/\wx.cell? (π hb 0)=some (.int .u64 key))) krr ⟨oC,r4,k0⟩ (fun al=>?_);refine af4 (i:=0) (v:=?_) rfl krr krr krr (fun _ _ _ h=>h) (Or.inl ⟨by rfl,?_⟩) aas ?_;rotate_left
 ·exact abD
 refine Mk.pt ?_;refine af4 (i:=1) (v:=?_) rfl krr krr krr (fun _ _ _ h=>h) (Or.inl ⟨by rfl,?_⟩) aas ?_;rotate_left
 ·exact abD
 refine Mk.pt ?_;refine af4 (i:=2) (v:=?_) rfl krr krr krr (fun _ _ _ h=>h) (Or.inl ⟨by rfl,?_⟩) aas ?_;rotate_left
 ·exact abD
 refine Mk.pt ?_;refine af4 (i:=3) (v:=?_) rfl krr krr krr (fun _ _ _ h=>h) (Or.inl ⟨by rfl,?_⟩) aas ?_;rotate_left
 ·exact abD
 refine Mk.pt ?_;refine af4 (i:=4) (v:=?_) rfl krr krr krr (fun _ _ _ h=>h) (Or.inl ⟨by rfl,?_⟩) aas ?_;rotate_left
 ·exact abD
 refine Mk.pt ?_;refine af4 (i:=5) (v:=?_) rfl krr krr krr (fun _ _ _ h=>h) (Or.inl ⟨by rfl,?_⟩) aas ?_;rotate_left
 ·exact abD
 refine Mk.pt ?_;refine af4 (i:=6) (v:=?_) rfl krr krr krr (fun _ _ _ h=>h) (Or.inl ⟨by rfl,?_⟩) aas ?_;rotate_left
 ·exact abD
 refine Mk.pt ?_;refine af4 (i:=7) (v:=?_) rfl krr krr krr (fun _ _ _ h=>h) (Or.inl ⟨by rfl,?_⟩) aas ?_;rotate_left
 ·exact abD
 refine Mk.pt ?_;refine af4 (i:=8) (v:=?_) rfl krr krr krr (fun _ _ _ h=>h) (Or.inl ⟨by rfl,?_⟩) aas ?_;rotate_left
 ·exact abD
 refine Mk.pt ?_;refine af4 (i:=9) (v:=?_) rfl krr krr krr (fun _ _ _ h=>h) (Or.inl ⟨by rfl,?_⟩) aas ?_;rotate_left
 ·exact abD
 refine Mk.pt ?_;refine af4 (i:=11) (v:=?_) rfl krr krr krr (fun _ _ _ h=>h) (Or.inl ⟨by rfl,?_⟩) aas ?_;rotate_left
 ·exact abD
 refine Mk.pt ?_;refine af4 (i:=12) (v:=?_) rfl krr krr krr (fun _ _ _ h=>h) (Or.inl ⟨by rfl,?_⟩) aas ?_;rotate_left
 ·exact abD
 refine Mk.pt ?_;refine af4 (i:=13) (v:=?_) rfl krr krr krr (fun _ _ _ h=>h) (Or.inl ⟨by rfl,?_⟩) aas ?_;rotate_left
 ·exact abD
 refine Mk.pt ?_;refine af4 (i:=14) (v:=?_) rfl krr krr krr (fun _ _ _ h=>h) (Or.inl ⟨by rfl,?_⟩) aas ?_;rotate_left
 ·exact abD
 refine Mk.pt ?_;refine af4 (i:=15) (v:=?_) rfl krr krr krr (fun _ _ _ h=>h) (Or.inl ⟨by rfl,?_⟩) aas ?_;rotate_left
 ·exact abD
 refine Mk.pt ?_;refine af4 (i:=16) (v:=?_) rfl krr krr krr (fun _ _ _ h=>h) (Or.inl ⟨by rfl,?_⟩) aas ?_;rotate_left
 ·exact abD
 refine Mk.pt ?_;refine af4 (i:=17) (v:=?_) rfl krr krr krr (fun _ _ _ h=>h) (Or.inl ⟨by rfl,?_⟩) aas ?_;rotate_left
 ·exact abD
 refine Mk.pt ?_;refine af4 (i:=18) (v:=?_) rfl krr krr krr (fun _ _ _ h=>h) (Or.inl ⟨by rfl,?_⟩) aas ?_;rotate_left
 ·exact abD
 refine Mk.pt ?_;refine af4 (i:=19) (v:=?_) rfl krr krr krr (fun _ _ _ h=>h) (Or.inl ⟨by rfl,?_⟩) aas ?_;rotate_left
 ·exact abD
 refine Mk.pt ?_;refine af4 (i:=20) (v:=?_) rfl krr krr krr (fun _ _ _ h=>h) (Or.inl ⟨by rfl,?_⟩) aas ?_;rotate_left
 ·exact abD
 refine Mk.pt ?_;refine afR (rs:=[10,21]) krr smm ?_;refine afJ rfl (fun K hK=>?_) (afJ rfl (fun K hK=>?_) af1)
 ·refine QX ?_;go_simp;refine hK.out _ _ al (fun al=>?_);clear hK K;refine Mk.pt ?_;refine afR (rs:=[21]) krr smm ?_;refine afJ rfl (fun K hK=>?_) af1;refine QX ?_;go_simp;refine hK.out _ _ (by have:=al;exact ⟨by go_simp,by go_simp,by go_simp⟩) (fun al=>?_);clear hK K;exact adr
 ·refine QX ?_;go_simp;refine hK.out _ _ (by have:=al;exact ⟨by go_simp,by go_simp,by go_simp⟩) (fun al=>?_);clear hK K;refine Mk.pt ?_;refine afR (rs:=[10]) krr smm ?_;refine afJ rfl (fun K hK=>?_) af1;refine QX ?_;go_simp;refine hK.out _ _ al (fun al=>?_);clear hK K;exact adr
theorem rJ (h:cD w C U RO K p c t used hv jv s r) (E:im K p c s) {q d:Nat} (hq:q < p.ap.length) (he:d<=1) {x:eW} (hh:r.hand=some x) (hx:s.f x.key=none) (hj:r.bm.length < 1000000):
 Calls prog 221 #[ρ C.mb,ι q,ι d] w (bX w C.mb U.rb RO K p c t used (.bool (dt (aw p c) (s,r) q d).2) (dt (aw p c) (s,r) q d).1):=by
 have gR:=h.r.gm;rw [hh] at gR;obtain ⟨hb,Bp,XC,Jv,NI⟩:=gR;have oC:=agS h.m.aM;have r4:w.cell? (π U.rb 4)=some hv:=h.r.c_.cell 4;rw [XC] at r4;have rf:∀o,w.frozen? (π U.rb o)=false:=h.r.c_.frozen;have lm:=h.m.aM.lt;have lr:=h.r.c_.lt;have lh:=Jv.lt;have Th:=Jv;unfold aH at Th;obtain ⟨e0,e1,e2,e3,e4,-⟩:=jc Th;have hA:=(h.box (.cells (aH x) 118)).iu 4 ν (r':={r with hand:=none}) (hv':=ν) rfl rfl rfl rfl rfl rfl rfl;have hk:Kept RO w ((w.alloc (.cells (aH x) 118)).setCell (π U.rb 4) ν):=Kept.cE (S:=[U.rb]) (((da.refl _ w).alloc _).setCell smm _) (fun b hb hc=>by
  simp at hc;subst hc;exact h.sep.ur hb (by simp [Ru.l])) h.sep.cY
 have Ig:=((ay.new w 118 (aH x)).other (c:=U.rb) omm 4 ν);rw [World.setCell_alloc_past _ _ _ _ lr] at hA hk Ig;unfold aH at Ig;obtain ⟨g0,g1,g2,g3,g4,-⟩:=jc Ig;have HL:=ae (Lw hA E hq he x hx hj);have HK:=ae hk;have HE:=ae (show dt (aw p c) (s,r) q d=gW (aw p c) (s,{r with hand:=none}) q d x by unfold dt oA;rw [hh];rfl);clear h hA hk Ig Jv Th hh hx hj XC E NI;unfold aH at HL HK;unfold bG at HL;rw [HE.o];generalize gW (aw p c) (s,{r with hand:=none}) q d x=z at*;go_enter func221,ntmps221;go_wp2_with fail;refine HL.o.mono ?_;intro e w5 hd;have mT:=hd.pre (RO:=RO) HK.o (fun b hb=>by simp [hb]);obtain ⟨rfl,fB⟩:=mT;have rK:=ae fB;clear hd fB HL;go_wp2;go_ret;exact ⟨rfl,rK.o⟩
theorem BS (h:cD w C U RO K p c t used hv jv s r) (E:im K p c s) (i:Ins) {q d:Nat} (ha:i.a=q) (ia:i.b=d) (hq:q < p.ap.length) (he:d<=1) (hf:s.f r.key=none) (hj:r.bm.length < 1000000):
 Calls prog 121 #[ρ C.mb,aQ i] w (bX w C.mb U.rb RO K p c t used (.tuple #[]) (gW (aw p c) (s,r) q d ⟨r.key,fun _=>0⟩).1):=by
 have h1:=h.box (.cells (aA i) 40);have n1:=ay.new w 40 (aA i);have HN:=ae (nB h1 hf);have HB:=ae ((afL w.heap.size w).alloc (afF _) (.cells (aA i) 40));have dh:=ae h.sep.cY;have HL:=ae (fun m=>Lw ((h1.drewN m).drewN 1) E hq he ⟨r.key,fun _=>0⟩ hf hj);have H1:=ae h1;obtain ⟨c0,c1,c2,c3,c4⟩:=bZ n1;rw [ha] at c1;rw [ia] at c2;have k60:(w.alloc (.cells (aA i) 40)).cell? (π C.mb 60)=some (ρ U.rb):=h1.m.aM.cell 60;have r0:=h1.r.c_.c1;clear h h1 n1 ha ia hf hj E;unfold bG at HL;generalize gW (aw p c) (s,r) q d ⟨r.key,fun _=>0⟩=z at*;generalize r.key=key at*;unfold aQ;unfold aA at*;go_enter func121,ntmps121;go_wp2_with fail;generalize w.alloc (.cells #[ι i.op,ι i.a,ι i.b,ι i.c,ι i.d] 40)=w1 at*;generalize eO:w.heap.size=bx at*;refine HN.o.mono ?_;rintro e w' ⟨rfl,m,rfl⟩;have Iw:=ae (HL.o m);have HK:=ae (Kept.ah (RO:=RO) (w:=w) (w':=(w1.drewN m).drewN 1) (by rw [eO];exact (HB.o.trans (au bx w1 m)).trans (au bx (w1.drewN m) 1)) (by rw [eO];exact dh.o));have d1:(w1.drewN m).cell? (π bx 1)=some (ι q):=c1;have d2:(w1.drewN m).cell? (π bx 2)=some (ι d):=c2;have d60:(w1.drewN m).cell? (π C.mb 60)=some (ρ U.rb):=k60;have d0:(w1.drewN m).cell? (π U.rb 0)=some (.int .u64 key):=r0;clear HN HL c0 c1 c2 c3 c4 k60 r0;generalize w1.drewN m=w2 at*;go_wp2_with fail
 go_still_tail 13,krr
 change wpList _ _ _ _ _ (w2.drewN 1);generalize w2.drewN 1=w3 at*;go_wp2_with fail;refine Iw.o.mono ?_;intro e w5 hd;have mT:=hd.pre (RO:=RO) HK.o (fun b hb=>by simp [hb]);obtain ⟨rfl,RO',ho,dK,hk⟩:=mT;have rK:=ae (show bX w C.mb U.rb RO K p c t used (.tuple #[]) z.1 (.returned (.tuple #[])) w5 from ⟨rfl,RO',ho,dK,hk⟩);clear hd dK hk ho Iw;go_wp2;exact afI (afT rfl _ _ _) rfl rK.o
theorem aet {p:Prop} (h:p:=by
 go_wp2;exact afI (afT rfl _ _ _) rfl ⟨rfl,_,fun b hb=>by simp [hb],(HH.o.iu 6 (ι 3) (r':=r.dG 3) rfl rfl rfl rfl rfl rfl HH.o.r.gm).jy,HK.o⟩):p:=h
theorem acH {p:Prop} (h:p:=by
 go_wp2_with fail;generalize w.alloc (.cells #[ι i.op,ι i.a,ι i.b,ι i.c,ι i.d] 40)=w1 at*;generalize eO:w.heap.size=bx at*;refine HN.o.mono ?_;rintro e w' ⟨rfl,m,rfl⟩;have HH:=ae (H1.o.drewN m);have oC:(w1.drewN m).cell? (π C.mb 60)=some (ρ U.rb):=HH.o.m.aM.cell 60;have r6:(w1.drewN m).cell? (π U.rb 6)=some (ι r.br):=HH.o.r.c_.cell 6;have rf:∀o,(w1.drewN m).frozen? (π U.rb o)=false:=HH.o.r.c_.frozen;have HK:=ae ((Kept.ah (RO:=RO) (w:=w) (w':=w1.drewN m) (by rw [eO];exact HB.o.trans (au bx w1 m)) (by rw [eO];exact dh.o)).trans (Kept.cE (RO:=RO) (S:=U.l) ((da.refl _ (w1.drewN m)).setCell (p:=(π U.rb 6)) (by simp [Ru.l]) (ι 3)) (fun b hb=>HH.o.sep.ur (by simp [hb])) (fun b hb=>HH.o.sep.cY b (by simp [hb]))) (fun b hb=>hb));clear HN;generalize w1.drewN m=w2 at*;exact aet):p:=h
theorem BT (h:cD w C U RO K p c t used hv jv s r) (i:Ins) {n q:Nat} (hf:s.f r.key=some n) (hq:q < p.ap.length) (hn:n∈s.a.ls q):
 Calls prog 121 #[ρ C.mb,aQ i] w (bX w C.mb U.rb RO K p c t used (.tuple #[]) (s,r.dG 3)):=by
 have h1:=h.box (.cells (aA i) 40);have HN:=ae (kZ h1 hf hq hn);have HB:=ae ((afL w.heap.size w).alloc (afF _) (.cells (aA i) 40));have dh:=ae h.sep.cY;have H1:=ae h1;clear h h1 hf hn;unfold aQ;unfold aA at*;go_enter func121,ntmps121;exact acH
theorem Iy (h:cD w C U RO K p c t used hv jv s r) (i:Ins) (hf:s.f r.key=none):
 Calls prog 122 #[ρ C.mb,aQ i] w (bX w C.mb U.rb RO K p c t used (.tuple #[]) (s,r.dG 3)):=by
 have h1:=h.box (.cells (aA i) 40);have HN:=ae (nB h1 hf);have HB:=ae ((afL w.heap.size w).alloc (afF _) (.cells (aA i) 40));have dh:=ae h.sep.cY;have H1:=ae h1;clear h h1 hf;unfold aQ;unfold aA at*;go_enter func122,ntmps122;exact acH
theorem BU (h:cD w C U RO K p c t used hv jv s r) (i:Ins) (hf:s.f r.key=none):
 Calls prog 123 #[ρ C.mb,aQ i] w (bX w C.mb U.rb RO K p c t used (.tuple #[]) (s,r.dG 3)):=by
 have h1:=h.box (.cells (aA i) 40);have HN:=ae (nB h1 hf);have HB:=ae ((afL w.heap.size w).alloc (afF _) (.cells (aA i) 40));have dh:=ae h.sep.cY;have H1:=ae h1;clear h h1 hf;unfold aQ;unfold aA at*;go_enter func123,ntmps123;exact acH
theorem BV (h:cD w C U RO K p c t used hv jv s r) (i:Ins) {n q:Nat} (hf:s.f r.key=some n) (hq:q < p.ap.length) (hn:n∈s.a.ls q) (hg:p.ap.getD q false=false):
 Calls prog 123 #[ρ C.mb,aQ i] w (bX w C.mb U.rb RO K p c t used (.tuple #[]) (s,r.dG 3)):=by
 have h1:=h.box (.cells (aA i) 40);have HN:=ae (kZ h1 hf hq hn);have HB:=ae ((afL w.heap.size w).alloc (afF _) (.cells (aA i) 40));have dh:=ae h.sep.cY;have H1:=ae h1;obtain ⟨gb,kw,jZ,vM,UC⟩:=h1.mx.ap hq;have k0:(w.alloc (.cells (aA i) 40)).cell? (π C.mb 0)=some K.g:=h1.m.aM.cell 0;rw [jZ] at k0;rw [hg] at UC;clear h h1 hf hn jZ vM hg;generalize p.ap.length=ng at*;unfold aQ;unfold aA at*;go_enter func123,ntmps123;go_wp2_with fail;generalize w.alloc (.cells #[ι i.op,ι i.a,ι i.b,ι i.c,ι i.d] 40)=w1 at*;generalize eO:w.heap.size=bx at*;refine HN.o.mono ?_;rintro e w' ⟨rfl,m,rfl⟩;have HH:=ae (H1.o.drewN m);have oC:(w1.drewN m).cell? (π C.mb 60)=some (ρ U.rb):=HH.o.m.aM.cell 60;have r6:(w1.drewN m).cell? (π U.rb 6)=some (ι r.br):=HH.o.r.c_.cell 6;have rf:∀o,(w1.drewN m).frozen? (π U.rb o)=false:=HH.o.r.c_.frozen;have d0:(w1.drewN m).cell? (π C.mb 0)=some (.slice (some (π gb 0)) ng kw):=k0;have dg:(w1.drewN m).cell? (π gb q)=some (.bool false):=UC;have HK:=ae ((Kept.ah (RO:=RO) (w:=w) (w':=w1.drewN m) (by rw [eO];exact HB.o.trans (au bx w1 m)) (by rw [eO];exact dh.o)).trans (Kept.cE (RO:=RO) (S:=U.l) ((da.refl _ (w1.drewN m)).setCell (p:=(π U.rb 6)) (by simp [Ru.l]) (ι 3)) (fun b hb=>HH.o.sep.ur (by simp [hb])) (fun b hb=>HH.o.sep.cY b (by simp [hb]))) (fun b hb=>hb));clear HN k0 UC;generalize w1.drewN m=w2 at*;exact aet
theorem BW (h:cD w C U RO K p c t used hv jv s r) (E:im K p c s) (i:Ins) {n q:Nat} (hf:s.f r.key=some n) (hq:q < p.ap.length) (hn:n∈s.a.ls q) (hg:p.ap.getD q false=true) (hj:r.bm.length < 1000000):
 Calls prog 123 #[ρ C.mb,aQ i] w (bX w C.mb U.rb RO K p c t used (.tuple #[]) (ry (aw p c) (s,r) n q)):=by
 have h1:=h.box (.cells (aA i) 40);have HN:=ae (kZ h1 hf hq hn);have HB:=ae ((afL w.heap.size w).alloc (afF _) (.cells (aA i) 40));have dh:=ae h.sep.cY;have Er:=ae (fun m=>Ro (h1.drewN m) E hq hn hj);obtain ⟨gb,kw,jZ,vM,UC⟩:=h1.mx.ap hq;have k0:(w.alloc (.cells (aA i) 40)).cell? (π C.mb 0)=some K.g:=h1.m.aM.cell 0;rw [jZ] at k0;rw [hg] at UC;clear h h1 hf hn jZ vM hg E;generalize ry (aw p c) (s,r) n q=z at*;generalize p.ap.length=ng at*;unfold aQ;unfold aA at*;go_enter func123,ntmps123;go_wp2_with fail;generalize w.alloc (.cells #[ι i.op,ι i.a,ι i.b,ι i.c,ι i.d] 40)=w1 at*;generalize eO:w.heap.size=bx at*;refine HN.o.mono ?_;rintro e w' ⟨rfl,m,rfl⟩;have ux:=ae (Er.o m);have d0:(w1.drewN m).cell? (π C.mb 0)=some (.slice (some (π gb 0)) ng kw):=k0;have dg:(w1.drewN m).cell? (π gb q)=some (.bool true):=UC;have HK:=ae (Kept.ah (RO:=RO) (w:=w) (w':=w1.drewN m) (by rw [eO];exact HB.o.trans (au bx w1 m)) (by rw [eO];exact dh.o));clear HN k0 UC Er;generalize w1.drewN m=w2 at*;go_wp2_with fail;refine ux.o.mono ?_;intro e w5 hd;have mT:=hd.pre (RO:=RO) HK.o (fun b hb=>by simp [hb]);obtain ⟨rfl,RO',ho,dK,hk⟩:=mT;have rK:=ae (show bX w C.mb U.rb RO K p c t used (.tuple #[]) z (.returned (.tuple #[])) w5 from ⟨rfl,RO',ho,dK,hk⟩);clear hd dK hk ho ux;go_wp2;exact afI (afT rfl _ _ _) rfl rK.o
end
end Go.Proofs.YtblkblclmbhjiaaGreat.Ma
