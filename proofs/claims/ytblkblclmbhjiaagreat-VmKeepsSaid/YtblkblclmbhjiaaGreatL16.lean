/- Of the proof that VmKeeps holds: a key keeps its node, what traps leaves no trace. No condition. -/
import Derived.Test.YtblkblclmbhjiaaGreatL15
set_option linter.unusedVariables false
set_option linter.unusedSimpArgs false
set_option maxHeartbeats 40000000
set_option maxRecDepth 100000
namespace Go.Proofs.YtblkblclmbhjiaaGreat.Vf
open Go.RowKit ak.Vm
open ak hiding aL an aj
open Ma (dx bQ aU vb aA aQ)
def sg (a:Nat) (s:Std) (mv:Value):Array Value:=
 #[ι a,.bool true,.string (fH s.ty),ι (bE s.lo 0),ι (bE s.lo 1),ι (bE s.lo 2),ι (bE s.lo 3),ι (bE s.lo 4),ι (bE s.lo 5),ι (bE s.lo 6),ι (bE s.lo 7),ι s.lo.length,ι s.ha,mv]
def eh:Nat×Std:=(0,TG)
def wyC (l:List (Nat×Std)) (mv:Nat->Value) (o:Nat):Value:=(sg (l.getD (o / 14) eh).1 (l.getD (o / 14) eh).2 (mv (o / 14))).getD (o % 14) undef
structure gV (w:World) (lo:Nat) (sv lv:Value) (l:List (Nat×Std)) (mv:Nat->Value):Prop where
 row:aV w 14 lv l.length (wyC l mv)
 more:∀i,i < l.length->cZ w (mv i) (l.getD i eh).2.lo
 off:∀i,i < l.length->∀b,(mv i).ownBlock=some b->sv.ownBlock=some b\/lo<=b
def Mf (w:World) (sv:Value) (l:List (Nat×Std)) (e:Ending) (w':World):Prop:=∃lv mv,e= .returned lv/\gV w' w.heap.size sv lv l mv/\Below w.heap.size w w'/\∀b,lv.ownBlock=some b->w.heap.size<=b
theorem gV.nil (w:World) (lo:Nat) (sv:Value):gV w lo sv ν [] (fun _=>undef):=⟨.inl ⟨rfl,rfl⟩,fun i hi=>absurd hi (by simp),fun i hi=>absurd hi (by simp)⟩
theorem gV.one {W:World} {lo b:Nat} {sv:Value} {a:Nat} {s:Std} {mv:Value} {cs:Array Value} (hb:ay W b 279 cs) (e:cs=sg a s mv) (hm:cZ W mv s.lo) (ho:∀b,mv.ownBlock=some b->sv.ownBlock=some b\/lo<=b):
 gV W lo sv (.slice (some (π b 0)) 1 1) [(a,s)] (fun _=>mv):=by
 subst e;refine ⟨.inr ⟨_,_,rfl,Nat.le_refl _,by decide,fun o h=>⟨rfl,?_⟩⟩,fun i hi=>?_,fun i hi=>?_⟩
 ·have ho:o < 14:=by simpa using h
  rw [Nat.zero_add];have hc:=hb.cell o;rw [hc];unfold wyC;rw [show o / 14=0 by omega,show o % 14=o by omega];show _=some ((sg a s mv).getD o undef);rw [Array.getD_eq_getD_getElem?,Array.getElem?_eq_getElem (show o < (sg a s mv).size from ho)];rfl
 ·obtain rfl:i=0:=by simpa using hi
  exact hm
 ·exact ho
theorem gV.two {W:World} {lo b:Nat} {sv:Value} {a a':Nat} {s s':Std} {mv Mg:Value} {cs:Array Value} (hb:ay W b 279 cs) (e:cs=sg a s mv++sg a' s' Mg) (hm:cZ W mv s.lo) (ho:∀b,mv.ownBlock=some b->sv.ownBlock=some b\/lo<=b) (iR:cZ W Mg s'.lo) (ho':∀b,Mg.ownBlock=some b->sv.ownBlock=some b\/lo<=b):
 gV W lo sv (.slice (some (π b 0)) 2 2) [(a,s),(a',s')] (fun i=>if i=0 then mv else Mg):=by
 subst e;have z1:(sg a s mv).size=14:=rfl;have z2:(sg a' s' Mg).size=14:=rfl;refine ⟨.inr ⟨_,_,rfl,Nat.le_refl _,by decide,fun o h=>⟨rfl,?_⟩⟩,fun i hi=>?_,fun i hi=>?_⟩
 ·have ho:o < 28:=by simpa using h
  rw [Nat.zero_add];have hc:=hb.cell o;rw [hc];unfold wyC;by_cases h14:o < 14
  ·rw [show o / 14=0 by omega,show o % 14=o by omega];show _=some ((sg a s mv).getD o undef);rw [Array.getD_eq_getD_getElem?,Array.getElem?_append_left (by rw [z1];exact h14),Array.getElem?_eq_getElem (show o < (sg a s mv).size by rw [z1];exact h14)];rfl
  ·rw [show o / 14=1 by omega,show o % 14=o - 14 by omega];show _=some ((sg a' s' Mg).getD (o - 14) undef);rw [Array.getD_eq_getD_getElem?,Array.getElem?_append_right (by rw [z1];omega),z1,Array.getElem?_eq_getElem (show o - 14 < (sg a' s' Mg).size by rw [z2];omega)];rfl
 ·have:i=0\/i=1:=by have:i < 2:=hi;omega
  rcases this with rfl|rfl
  ·exact hm
  ·exact iR
 ·have:i=0\/i=1:=by have:i < 2:=hi;omega
  rcases this with rfl|rfl
  ·exact ho
  ·exact ho'
theorem adI {p:Prop} (h:p:=by
 go_enter Tryz.func247,Tryz.ntmps247;go_wp2_with fail;go_ret;exact ⟨_,fun _=> .slice ma (s.lo.length - 8) mc,rfl,gV.one (ay.a_ (by simp)) EA.o.symm (HM.o.aB (ax.ah ((hB _ _ _ _).alloc (by simp only [aE];omega) _))) (fun _ hb=> .inl hb),(hB _ _ _ _).alloc (by simp only [aE];omega) _,fun b hb=>by have h1:_=b:=Option.some.inj hb;simp only [aE] at h1 ⊢;omega⟩):p:=h
theorem adH {p:Prop} (h:p:=by
 refine ae fun V V' qq hs=>?_;have key:∀b i v,V.cell? (π b i)=some v->V'.cell? (π b i)=some v:=fun b i v hc=>(World.cell?_of_block (qq.block _ (aS hc))).trans hc;exact ⟨key _ _ _ (hs.1),key _ _ _ (hs.2.1),key _ _ _ (hs.2.2.1),key _ _ _ (hs.2.2.2.1),key _ _ _ (hs.2.2.2.2.1),key _ _ _ (hs.2.2.2.2.2.1),key _ _ _ (hs.2.2.2.2.2.2.1),key _ _ _ (hs.2.2.2.2.2.2.2.1),key _ _ _ (hs.2.2.2.2.2.2.2.2.1),key _ _ _ (hs.2.2.2.2.2.2.2.2.2.1),key _ _ _ (hs.2.2.2.2.2.2.2.2.2.2.1),key _ _ _ (hs.2.2.2.2.2.2.2.2.2.2.2.1),key _ _ _ (hs.2.2.2.2.2.2.2.2.2.2.2.2.1),key _ _ _ (hs.2.2.2.2.2.2.2.2.2.2.2.2.2)⟩):p:=h
theorem TN (w:World) {pc:Nat} {x:Ins} {s:Std} {smv:Value} (hm:cZ w smv s.lo) (nj:pc < 262144) (h0:0<=x.op) (ha:x.op=22\/x.op=23\/x.op=25\/x.op=26->0<=x.a) (hl:s.lo.length<=262144) (hq:x.op=26->0 < s.lo.length):
 Calls Tryz.prog 247 #[ι pc,aQ x,cT true s smv] w (Mf w smv (cm pc x s)):=by
 obtain ⟨op,xa,xb,xc,xd⟩:=x;dsimp only at h0 ha hq;obtain ⟨ma,mc,rfl,m1,m2⟩:=aV.val hm;have HM:=ae hm;have hB:∀cs T mV T2,Below w.heap.size w ((w.alloc (.cells cs T)).alloc (.cells mV T2)):=fun cs T mV T2=>((Below.refl _ _).alloc (Nat.le_refl _) _).alloc (by simp) _;have w1:IntKind.i64.wrap ((pc:Int)+1)=((pc+1:Nat):Int):=by rw [IntWalk.i64_in _ (by constructor<;>omega)];omega
 by_cases o1:op=0\/op=27
 ·have hf:cm pc ⟨op,xa,xb,xc,xd⟩ s=[]:=by unfold cm;rw [if_pos o1]
  rw [hf];clear hf hm ha hq;unfold aQ aA cT bU;dsimp only;generalize fH s.ty=tb;generalize bE s.lo=lc;rcases o1 with rfl|rfl
  all_goals
   go_enter Tryz.func247,Tryz.ntmps247;go_wp2_with fail;go_ret;exact ⟨ν,fun _=>undef,rfl,gV.nil _ _ _,hB _ _ _ _,fun b hb=>by cases hb⟩
 by_cases o2:op=22
 ·subst o2;obtain ⟨m,rfl⟩:=Int.eq_ofNat_of_zero_le (ha (by simp));have hf:cm pc ⟨22,m,xb,xc,xd⟩ s=[(m,s)]:=rfl;rw [hf];clear hf hm ha hq o1 h0;unfold aQ aA cT bU;dsimp only;have EA:Hid (sg (m) s (.slice ma (s.lo.length - 8) mc)=#[ι (m:Nat),.bool true,.string (fH s.ty),ι (bE s.lo 0),ι (bE s.lo 1),ι (bE s.lo 2),ι (bE s.lo 3),ι (bE s.lo 4),ι (bE s.lo 5),ι (bE s.lo 6),ι (bE s.lo 7),ι s.lo.length,ι s.ha,.slice ma (s.lo.length - 8) mc]):=ae rfl;generalize fH s.ty=tb at*;generalize bE s.lo=lc at*;exact adI
 by_cases o3:op=23
 ·subst o3;obtain ⟨m,rfl⟩:=Int.eq_ofNat_of_zero_le (ha (by simp));have hf:cm pc ⟨23,m,xb,xc,xd⟩ s=[(pc+1,s),(m,s)]:=rfl;rw [hf];clear hf hm ha hq o1 h0 o2;unfold aQ aA cT bU;dsimp only;have EA:Hid (sg (pc+1) s (.slice ma (s.lo.length - 8) mc)=#[ι (pc+1:Nat),.bool true,.string (fH s.ty),ι (bE s.lo 0),ι (bE s.lo 1),ι (bE s.lo 2),ι (bE s.lo 3),ι (bE s.lo 4),ι (bE s.lo 5),ι (bE s.lo 6),ι (bE s.lo 7),ι s.lo.length,ι s.ha,.slice ma (s.lo.length - 8) mc]):=ae rfl;have nC:Hid (sg (m) s (.slice ma (s.lo.length - 8) mc)=#[ι (m:Nat),.bool true,.string (fH s.ty),ι (bE s.lo 0),ι (bE s.lo 1),ι (bE s.lo 2),ι (bE s.lo 3),ι (bE s.lo 4),ι (bE s.lo 5),ι (bE s.lo 6),ι (bE s.lo 7),ι s.lo.length,ι s.ha,.slice ma (s.lo.length - 8) mc]):=ae rfl;generalize fH s.ty=tb at*;generalize bE s.lo=lc at*;go_enter Tryz.func247,Tryz.ntmps247;go_wp2_with fail;go_ret;exact ⟨_,fun i=>if i=0 then .slice ma (s.lo.length - 8) mc else .slice ma (s.lo.length - 8) mc,rfl,gV.two (ay.a_ (by simp)) (by rw [EA.o,nC.o];rfl) (HM.o.aB (ax.ah ((hB _ _ _ _).alloc (by simp only [aE];omega) _))) (fun _ hb=> .inl hb) (HM.o.aB (ax.ah ((hB _ _ _ _).alloc (by simp only [aE];omega) _))) (fun _ hb=> .inl hb),(hB _ _ _ _).alloc (by simp only [aE];omega) _,fun b hb=>by have h1:_=b:=Option.some.inj hb;simp only [aE] at h1 ⊢;omega⟩
 by_cases o4:op=25
 ·subst o4;obtain ⟨m,rfl⟩:=Int.eq_ofNat_of_zero_le (ha (by simp));have hf:cm pc ⟨25,m,xb,xc,xd⟩ s=[(pc+1,{s with lo:=pc::s.lo}),(m,s)]:=rfl;rw [hf];have HW:=ae (fun V (hb:Below w.heap.size w V)=>TL V true (s:=s) pc (cZ.aB HM.o (ax.ah hb)) (by omega));clear hf hm ha hq o1 h0;unfold aQ aA cT bU;dsimp only;unfold cT bU at HW;have EA:Hid (∀(a:Nat),sg a s (.slice ma (s.lo.length - 8) mc)=#[ι a,.bool true,.string (fH s.ty),ι (bE s.lo 0),ι (bE s.lo 1),ι (bE s.lo 2),ι (bE s.lo 3),ι (bE s.lo 4),ι (bE s.lo 5),ι (bE s.lo 6),ι (bE s.lo 7),ι s.lo.length,ι s.ha,.slice ma (s.lo.length - 8) mc]):=ae fun _=>rfl;have nC:Hid (∀(a:Nat) (mv:Value),sg a {s with lo:=pc::s.lo} mv=#[ι a,.bool true,.string (fH s.ty),ι (bE (pc::s.lo) 0),ι (bE (pc::s.lo) 1),ι (bE (pc::s.lo) 2),ι (bE (pc::s.lo) 3),ι (bE (pc::s.lo) 4),ι (bE (pc::s.lo) 5),ι (bE (pc::s.lo) 6),ι (bE (pc::s.lo) 7),ι (pc::s.lo).length,ι s.ha,mv]):=ae fun _ _=>rfl;generalize tO:fH s.ty=tb at*;have qX:=ae tO;clear tO;generalize bE s.lo=lc at*;generalize Ae:s.lo.length=ln at*;generalize ln - 8=n8 at*;have Cj:ay (((w.alloc (.cells #[ι 25,ι m,ι xb,ι xc,ι xd] 40)).alloc (.cells #[.bool true,.string tb,ι (lc 0),ι (lc 1),ι (lc 2),ι (lc 3),ι (lc 4),ι (lc 5),ι (lc 6),ι (lc 7),ι ln,ι s.ha,.slice ma n8 mc] 233)).drew) w.heap.size 40 #[ι 25,ι m,ι xb,ι xc,ι xd]:=((ay.new w _ _).alloc _).drewN 1;have fq:ay (((w.alloc (.cells #[ι 25,ι m,ι xb,ι xc,ι xd] 40)).alloc (.cells #[.bool true,.string tb,ι (lc 0),ι (lc 1),ι (lc 2),ι (lc 3),ι (lc 4),ι (lc 5),ι (lc 6),ι (lc 7),ι ln,ι s.ha,.slice ma n8 mc] 233)).drew) (w.heap.size+1) 233 #[.bool true,.string tb,ι (lc 0),ι (lc 1),ι (lc 2),ι (lc 3),ι (lc 4),ι (lc 5),ι (lc 6),ι (lc 7),ι ln,ι s.ha,.slice ma n8 mc]:=(ay.a_ (by simp)).drewN 1;have sS:StI w (((w.alloc (.cells #[ι 25,ι m,ι xb,ι xc,ι xd] 40)).alloc (.cells #[.bool true,.string tb,ι (lc 0),ι (lc 1),ι (lc 2),ι (lc 3),ι (lc 4),ι (lc 5),ι (lc 6),ι (lc 7),ι ln,ι s.ha,.slice ma n8 mc] 233)).drew) (ι m) (.bool true) (.string tb) (ι (lc 0)) (ι (lc 1)) (ι (lc 2)) (ι (lc 3)) (ι (lc 4)) (ι (lc 5)) (ι (lc 6)) (ι (lc 7)) (ι ln) (ι s.ha) (.slice ma n8 mc):=⟨Cj.cell 1,fq.cell 0,fq.cell 1,fq.cell 2,fq.cell 3,fq.cell 4,fq.cell 5,fq.cell 6,fq.cell 7,fq.cell 8,fq.cell 9,fq.cell 10,fq.cell 11,fq.cell 12⟩;have dQ:Below w.heap.size w (((w.alloc (.cells #[ι 25,ι m,ι xb,ι xc,ι xd] 40)).alloc (.cells #[.bool true,.string tb,ι (lc 0),ι (lc 1),ι (lc 2),ι (lc 3),ι (lc 4),ι (lc 5),ι (lc 6),ι (lc 7),ι ln,ι s.ha,.slice ma n8 mc] 233)).drew):=(hB _ _ _ _).trans (au _ _ 1);have gp:=ae dQ;have KA:Hid (∀V V':World,Below V.heap.size V V'->(StI w V (ι m) (.bool true) (.string tb) (ι (lc 0)) (ι (lc 1)) (ι (lc 2)) (ι (lc 3)) (ι (lc 4)) (ι (lc 5)) (ι (lc 6)) (ι (lc 7)) (ι ln) (ι s.ha) (.slice ma n8 mc))->(StI w V' (ι m) (.bool true) (.string tb) (ι (lc 0)) (ι (lc 1)) (ι (lc 2)) (ι (lc 3)) (ι (lc 4)) (ι (lc 5)) (ι (lc 6)) (ι (lc 7)) (ι ln) (ι s.ha) (.slice ma n8 mc))):=by exact adH
  clear Cj fq dQ;go_enter Tryz.func247,Tryz.ntmps247;go_wp2_with fail;refine Mk.bF (S:=fun wx=>wx.cell? (π w.heap.size 1)=some (ι m)/\wx.cell? (π (w.heap.size+1) 0)=some (.bool true)/\wx.cell? (π (w.heap.size+1) 1)=some (.string tb)/\wx.cell? (π (w.heap.size+1) 2)=some (ι (lc 0))/\wx.cell? (π (w.heap.size+1) 3)=some (ι (lc 1))/\wx.cell? (π (w.heap.size+1) 4)=some (ι (lc 2))/\wx.cell? (π (w.heap.size+1) 5)=some (ι (lc 3))/\wx.cell? (π (w.heap.size+1) 6)=some (ι (lc 4))/\wx.cell? (π (w.heap.size+1) 7)=some (ι (lc 5))/\wx.cell? (π (w.heap.size+1) 8)=some (ι (lc 6))/\wx.cell? (π (w.heap.size+1) 9)=some (ι (lc 7))/\wx.cell? (π (w.heap.size+1) 10)=some (ι ln)/\wx.cell? (π (w.heap.size+1) 11)=some (ι s.ha)/\wx.cell? (π (w.heap.size+1) 12)=some (.slice ma n8 mc)) (by kernel_rfl) sS (fun al=>?_);generalize World.drew _=V0 at*;refine Mk.bL 0 ?_;refine Mk.bL 1 ?_;refine Mk.bL 2 ?_;refine Mk.bL 3 ?_;refine Mk.bL 6 ?_;refine Mk.bL 7 ?_;refine Mk.bL 8 ?_;refine Mk.bL 9 ?_;refine wpAnyH_ready (rs:=[4]) (by kernel_rfl) (by simp) ?_;refine AllReadyH.cons rfl (fun K hK=>?_) AllReadyH.nil;refine QX ?_;go_simp;go_at_call 302;refine (HW.o _ gp.o).mono ?_;rintro e w2 ⟨TC,rfl,qV,dn,zN⟩;obtain ⟨na,nc,Ad,-,-⟩:=aV.val qV;dsimp only at qV Ad;subst Ad;have yz:=KA.o _ _ dn sS;have Mc:=ae qV;have fg:=ae (gp.o.trans (dn.mono gp.o.size));have ux:=ae zN;have LJ:=ae dn;clear qV dn zN HW;unfold cT bU;dsimp only;rw [qX.o];generalize (pc::s.lo).length - 8=n9 at*;generalize bE (pc::s.lo)=mW at*;generalize (pc::s.lo).length=RE at*;clear al;refine hK.out _ _ yz (fun al=>?_);clear hK K;refine Mk.pt ?_;refine Mk.bL 5 ?_;refine wpAnyH_ready (rs:=[10]) (by kernel_rfl) (by simp) ?_;refine AllReadyH.cons rfl (fun K hK=>?_) AllReadyH.nil;refine QX ?_;go_simp;refine hK.out _ _ (KA.o _ _ ((Below.refl _ _).alloc (Nat.le_refl _) _) yz) (fun al=>?_);clear hK K;refine Mk.pt ?_;refine Mk.bL 11 ?_;refine wpAnyH_done (by kernel_rfl) ⟨rfl,?_⟩ _;clear al;go_wp2_with fail;refine eP rfl ?_;have BF:=fg.o.alloc fg.o.size (.cells #[ι ((pc:Int)+1),.bool true,.string tb,ι (mW 0),ι (mW 1),ι (mW 2),ι (mW 3),ι (mW 4),ι (mW 5),ι (mW 6),ι (mW 7),ι RE,ι s.ha,.slice na n9 nc,ι m,.bool true,.string tb,ι (lc 0),ι (lc 1),ι (lc 2),ι (lc 3),ι (lc 4),ι (lc 5),ι (lc 6),ι (lc 7),ι ln,ι s.ha,.slice ma n8 mc] 279);have KB:=ay.new w2 279 #[ι ((pc:Int)+1),.bool true,.string tb,ι (mW 0),ι (mW 1),ι (mW 2),ι (mW 3),ι (mW 4),ι (mW 5),ι (mW 6),ι (mW 7),ι RE,ι s.ha,.slice na n9 nc,ι m,.bool true,.string tb,ι (lc 0),ι (lc 1),ι (lc 2),ι (lc 3),ι (lc 4),ι (lc 5),ι (lc 6),ι (lc 7),ι ln,ι s.ha,.slice ma n8 mc];exact ⟨_,fun i=>if i=0 then .slice na n9 nc else .slice ma n8 mc,rfl,gV.two KB (by rw [nC.o,EA.o];rfl) (Mc.o.aB ((ax.refl [] w2).alloc _)) (fun b hb=>(ux.o b hb).imp id (fun h=>Nat.le_trans gp.o.size h)) (HM.o.aB (ax.ah BF)) (fun _ hb=> .inl hb),BF,fun b hb=>by have h1:w2.heap.size=b:=Option.some.inj hb;have h2:=fg.o.size;omega⟩
 by_cases o5:op=26
 ·subst o5;obtain ⟨m,rfl⟩:=Int.eq_ofNat_of_zero_le (ha (by simp));have hf:cm pc ⟨26,m,xb,xc,xd⟩ s=[(pc+1,s),(m,{s with lo:=s.lo.tail})]:=rfl;rw [hf];have HW:=ae (fun V (hb:Below w.heap.size w V)=>yy V true (s:=s) (cZ.aB HM.o (ax.ah hb)) (hq rfl) (by omega));clear hf hm ha hq o1 h0;unfold aQ aA cT bU;dsimp only;unfold cT bU at HW;have EA:Hid (∀(a:Nat),sg a s (.slice ma (s.lo.length - 8) mc)=#[ι a,.bool true,.string (fH s.ty),ι (bE s.lo 0),ι (bE s.lo 1),ι (bE s.lo 2),ι (bE s.lo 3),ι (bE s.lo 4),ι (bE s.lo 5),ι (bE s.lo 6),ι (bE s.lo 7),ι s.lo.length,ι s.ha,.slice ma (s.lo.length - 8) mc]):=ae fun _=>rfl;have nC:Hid (∀(a:Nat) (mv:Value),sg a {s with lo:=s.lo.tail} mv=#[ι a,.bool true,.string (fH s.ty),ι (bE s.lo.tail 0),ι (bE s.lo.tail 1),ι (bE s.lo.tail 2),ι (bE s.lo.tail 3),ι (bE s.lo.tail 4),ι (bE s.lo.tail 5),ι (bE s.lo.tail 6),ι (bE s.lo.tail 7),ι s.lo.tail.length,ι s.ha,mv]):=ae fun _ _=>rfl;generalize tO:fH s.ty=tb at*;have qX:=ae tO;clear tO;generalize bE s.lo=lc at*;generalize Ae:s.lo.length=ln at*;generalize ln - 8=n8 at*;have Cj:ay (((w.alloc (.cells #[ι 26,ι m,ι xb,ι xc,ι xd] 40)).alloc (.cells #[.bool true,.string tb,ι (lc 0),ι (lc 1),ι (lc 2),ι (lc 3),ι (lc 4),ι (lc 5),ι (lc 6),ι (lc 7),ι ln,ι s.ha,.slice ma n8 mc] 233)).drew) w.heap.size 40 #[ι 26,ι m,ι xb,ι xc,ι xd]:=((ay.new w _ _).alloc _).drewN 1;have fq:ay (((w.alloc (.cells #[ι 26,ι m,ι xb,ι xc,ι xd] 40)).alloc (.cells #[.bool true,.string tb,ι (lc 0),ι (lc 1),ι (lc 2),ι (lc 3),ι (lc 4),ι (lc 5),ι (lc 6),ι (lc 7),ι ln,ι s.ha,.slice ma n8 mc] 233)).drew) (w.heap.size+1) 233 #[.bool true,.string tb,ι (lc 0),ι (lc 1),ι (lc 2),ι (lc 3),ι (lc 4),ι (lc 5),ι (lc 6),ι (lc 7),ι ln,ι s.ha,.slice ma n8 mc]:=(ay.a_ (by simp)).drewN 1;have sS:StI w (((w.alloc (.cells #[ι 26,ι m,ι xb,ι xc,ι xd] 40)).alloc (.cells #[.bool true,.string tb,ι (lc 0),ι (lc 1),ι (lc 2),ι (lc 3),ι (lc 4),ι (lc 5),ι (lc 6),ι (lc 7),ι ln,ι s.ha,.slice ma n8 mc] 233)).drew) (ι m) (.bool true) (.string tb) (ι (lc 0)) (ι (lc 1)) (ι (lc 2)) (ι (lc 3)) (ι (lc 4)) (ι (lc 5)) (ι (lc 6)) (ι (lc 7)) (ι ln) (ι s.ha) (.slice ma n8 mc):=⟨Cj.cell 1,fq.cell 0,fq.cell 1,fq.cell 2,fq.cell 3,fq.cell 4,fq.cell 5,fq.cell 6,fq.cell 7,fq.cell 8,fq.cell 9,fq.cell 10,fq.cell 11,fq.cell 12⟩;have dQ:Below w.heap.size w (((w.alloc (.cells #[ι 26,ι m,ι xb,ι xc,ι xd] 40)).alloc (.cells #[.bool true,.string tb,ι (lc 0),ι (lc 1),ι (lc 2),ι (lc 3),ι (lc 4),ι (lc 5),ι (lc 6),ι (lc 7),ι ln,ι s.ha,.slice ma n8 mc] 233)).drew):=(hB _ _ _ _).trans (au _ _ 1);have gp:=ae dQ;have KA:Hid (∀V V':World,Below V.heap.size V V'->(StI w V (ι m) (.bool true) (.string tb) (ι (lc 0)) (ι (lc 1)) (ι (lc 2)) (ι (lc 3)) (ι (lc 4)) (ι (lc 5)) (ι (lc 6)) (ι (lc 7)) (ι ln) (ι s.ha) (.slice ma n8 mc))->(StI w V' (ι m) (.bool true) (.string tb) (ι (lc 0)) (ι (lc 1)) (ι (lc 2)) (ι (lc 3)) (ι (lc 4)) (ι (lc 5)) (ι (lc 6)) (ι (lc 7)) (ι ln) (ι s.ha) (.slice ma n8 mc))):=by exact adH
  clear Cj fq dQ;go_enter Tryz.func247,Tryz.ntmps247;go_wp2_with fail;refine Mk.bF (S:=fun wx=>wx.cell? (π w.heap.size 1)=some (ι m)/\wx.cell? (π (w.heap.size+1) 0)=some (.bool true)/\wx.cell? (π (w.heap.size+1) 1)=some (.string tb)/\wx.cell? (π (w.heap.size+1) 2)=some (ι (lc 0))/\wx.cell? (π (w.heap.size+1) 3)=some (ι (lc 1))/\wx.cell? (π (w.heap.size+1) 4)=some (ι (lc 2))/\wx.cell? (π (w.heap.size+1) 5)=some (ι (lc 3))/\wx.cell? (π (w.heap.size+1) 6)=some (ι (lc 4))/\wx.cell? (π (w.heap.size+1) 7)=some (ι (lc 5))/\wx.cell? (π (w.heap.size+1) 8)=some (ι (lc 6))/\wx.cell? (π (w.heap.size+1) 9)=some (ι (lc 7))/\wx.cell? (π (w.heap.size+1) 10)=some (ι ln)/\wx.cell? (π (w.heap.size+1) 11)=some (ι s.ha)/\wx.cell? (π (w.heap.size+1) 12)=some (.slice ma n8 mc)) (by kernel_rfl) sS (fun al=>?_);generalize World.drew _=V0 at*;refine Mk.bL 0 ?_;refine Mk.bL 1 ?_;refine Mk.bL 2 ?_;refine Mk.bL 3 ?_;refine Mk.bL 4 ?_;refine Mk.bL 5 ?_;refine Mk.bL 6 ?_;refine wpAnyH_ready (rs:=[7]) (by kernel_rfl) (by simp) ?_;refine AllReadyH.cons rfl (fun K hK=>?_) AllReadyH.nil;refine QX ?_;go_simp;go_at_call 301;refine (HW.o _ gp.o).mono ?_;rintro e w2 ⟨TC,rfl,qV,dn,zN⟩;obtain ⟨na,nc,Ad,-,-⟩:=aV.val qV;dsimp only at qV Ad;subst Ad;have yz:=KA.o _ _ dn sS;have Mc:=ae qV;have fg:=ae (gp.o.trans (dn.mono gp.o.size));have ux:=ae zN;have LJ:=ae dn;clear qV dn zN HW;unfold cT bU;dsimp only;rw [qX.o];generalize s.lo.tail.length - 8=n9 at*;generalize bE s.lo.tail=mW at*;generalize s.lo.tail.length=RE at*;clear al;refine hK.out _ _ yz (fun al=>?_);clear hK K;refine Mk.pt ?_;refine Mk.bL 8 ?_;refine wpAnyH_ready (rs:=[9]) (by kernel_rfl) (by simp) ?_;refine AllReadyH.cons rfl (fun K hK=>?_) AllReadyH.nil;refine QX ?_;go_simp;refine hK.out _ _ (KA.o _ _ ((Below.refl _ _).alloc (Nat.le_refl _) _) yz) (fun al=>?_);clear hK K;refine Mk.pt ?_;refine Mk.bL 10 ?_;refine wpAnyH_done (by kernel_rfl) ⟨rfl,?_⟩ _;clear al;go_wp2_with fail;refine eP rfl ?_;have BF:=fg.o.alloc fg.o.size (.cells #[ι ((pc:Int)+1),.bool true,.string tb,ι (lc 0),ι (lc 1),ι (lc 2),ι (lc 3),ι (lc 4),ι (lc 5),ι (lc 6),ι (lc 7),ι ln,ι s.ha,.slice ma n8 mc,ι m,.bool true,.string tb,ι (mW 0),ι (mW 1),ι (mW 2),ι (mW 3),ι (mW 4),ι (mW 5),ι (mW 6),ι (mW 7),ι RE,ι s.ha,.slice na n9 nc] 279);have KB:=ay.new w2 279 #[ι ((pc:Int)+1),.bool true,.string tb,ι (lc 0),ι (lc 1),ι (lc 2),ι (lc 3),ι (lc 4),ι (lc 5),ι (lc 6),ι (lc 7),ι ln,ι s.ha,.slice ma n8 mc,ι m,.bool true,.string tb,ι (mW 0),ι (mW 1),ι (mW 2),ι (mW 3),ι (mW 4),ι (mW 5),ι (mW 6),ι (mW 7),ι RE,ι s.ha,.slice na n9 nc];exact ⟨_,fun i=>if i=0 then .slice ma n8 mc else .slice na n9 nc,rfl,gV.two KB (by rw [nC.o,EA.o];rfl) (HM.o.aB (ax.ah BF)) (fun _ hb=> .inl hb) (Mc.o.aB ((ax.refl [] w2).alloc _)) (fun b hb=>(ux.o b hb).imp id (fun h=>Nat.le_trans gp.o.size h)),BF,fun b hb=>by have h1:w2.heap.size=b:=Option.some.inj hb;have h2:=fg.o.size;omega⟩
 ·have hf:cm pc ⟨op,xa,xb,xc,xd⟩ s=[(pc+1,s)]:=by unfold cm;dsimp only;rw [if_neg o1,if_neg o2,if_neg o3,if_neg o4,if_neg o5]
  rw [hf];have o6:¬op=0:=fun e=>o1 (.inl e);have o7:¬op=27:=fun e=>o1 (.inr e);clear hf hm ha hq o1;unfold aQ aA cT bU;dsimp only;have EA:Hid (sg (pc+1) s (.slice ma (s.lo.length - 8) mc)=#[ι (pc+1:Nat),.bool true,.string (fH s.ty),ι (bE s.lo 0),ι (bE s.lo 1),ι (bE s.lo 2),ι (bE s.lo 3),ι (bE s.lo 4),ι (bE s.lo 5),ι (bE s.lo 6),ι (bE s.lo 7),ι s.lo.length,ι s.ha,.slice ma (s.lo.length - 8) mc]):=ae rfl;generalize fH s.ty=tb at*;generalize bE s.lo=lc at*;exact adI
def Mh (op:Nat) (i:Nat):Value:=ι ((bO op).getD i 0:Nat)
def IN (w:World) (op:Nat) (e:Ending) (w':World):Prop:=∃tv,e= .returned (.agg #[tv,ι (aR op:Nat)])/\aV w' 1 tv (bO op).length (Mh op)/\Below w.heap.size w w'
theorem EN {W:World} {b:Nat} {x:Value} {g:Nat->Value} (h:ay W b 3 #[x]) (e:g 0=x):aV W 1 (.slice (some (π b 0)) 1 1) 1 g:=
 .inr ⟨_,_,rfl,Nat.le_refl _,by unfold maxLen;omega,fun o ho=>⟨rfl,by
   obtain rfl:o=0:=(by omega);rw [e];exact h.cell 0⟩⟩
theorem Af {W:World} {b:Nat} {x y:Value} {g:Nat->Value} (h:ay W b 3 #[x,y]) (e:g 0=x) (e2:g 1=y):aV W 1 (.slice (some (π b 0)) 2 2) 2 g:=
 .inr ⟨_,_,rfl,Nat.le_refl _,by unfold maxLen;omega,fun o ho=>⟨rfl,by
   have:o=0\/o=1:=by omega
   rcases this with rfl|rfl
   ·rw [e];exact h.cell 0
   ·rw [e2];exact h.cell 1⟩⟩
theorem Mi (w:World) (op:Nat) (cW:op < 42):Calls Tryz.prog 298 #[ι op] w (IN w op):=by
 have hB:∀cs T,Below w.heap.size w (w.alloc (.cells cs T)):=fun cs T=>(Below.refl _ _).alloc (Nat.le_refl _) _;have e:op=0\/op=1\/op=2\/op=3\/op=4\/op=5\/op=6\/op=7\/op=8\/op=9\/op=10\/op=11\/op=12\/op=13\/op=14\/op=15\/op=16\/op=17\/op=18\/op=19\/op=20\/op=21\/op=22\/op=23\/op=24\/op=25\/op=26\/op=27\/op=28\/op=29\/op=30\/op=31\/op=32\/op=33\/op=34\/op=35\/op=36\/op=37\/op=38\/op=39\/op=40\/op=41:=by omega
 rcases e with rfl|rfl|rfl|rfl|rfl|rfl|rfl|rfl|rfl|rfl|rfl|rfl|rfl|rfl|rfl|rfl|rfl|rfl|rfl|rfl|rfl|rfl|rfl|rfl|rfl|rfl|rfl|rfl|rfl|rfl|rfl|rfl|rfl|rfl|rfl|rfl|rfl|rfl|rfl|rfl|rfl|rfl
 all_goals
  go_enter Tryz.func298,Tryz.ntmps298;go_wp2_with fail
  first
  |(refine bodyPost_ret ?_ rfl ⟨.slice none 0 0,rfl,.inl ⟨rfl,rfl⟩,hB _ _⟩;simp [results,Tryz.results298,go_sem,aR];done)
  |(refine bodyPost_ret ?_ rfl ⟨.slice (some ⟨w.heap.size+1,0,none⟩) 2 2,rfl,Af (ay.a_ (by simp)) rfl rfl,(hB _ _).alloc (by simp only [aE];omega) _⟩;simp [results,Tryz.results298,go_sem,aR];done)
  |(refine bodyPost_ret ?_ rfl ⟨.slice (some ⟨w.heap.size+1,0,none⟩) 1 1,rfl,EN (ay.a_ (by simp)) rfl,(hB _ _).alloc (by simp only [aE];omega) _⟩;simp [results,Tryz.results298,go_sem,aR];done)
theorem IP (n:Nat):∃k c,bO n=List.replicate k c/\k<=2/\(c=1\/c=2\/(c=3/\k=2))/\(n=19↔c=3):=by
 have sE:bO 19=[3,3]:=rfl;rcases sJ n with h|h|h|h|⟨e,h⟩
 ·exact ⟨0,1,h,by omega,.inl rfl,⟨fun e=>(by subst e;rw [sE] at h;cases h),fun e=>by cases e⟩⟩
 ·exact ⟨1,1,h,by omega,.inl rfl,⟨fun e=>(by subst e;rw [sE] at h;cases h),fun e=>by cases e⟩⟩
 ·exact ⟨1,2,h,by omega,.inr (.inl rfl),⟨fun e=>(by subst e;rw [sE] at h;cases h),fun e=>by cases e⟩⟩
 ·exact ⟨2,1,h,by omega,.inl rfl,⟨fun e=>(by subst e;rw [sE] at h;cases h),fun e=>by cases e⟩⟩
 ·exact ⟨2,3,h,by omega,.inr (.inr ⟨rfl,rfl⟩),⟨fun _=>rfl,fun _=>e⟩⟩
theorem Mj:∀n,n < 42->aR n<=2:=by decide
theorem PK (ty:List Nat) (w:World) {j:Nat} (hj:j < ty.length) (ht:eI ty):(Instr.index 9 (.string (fH ty)) (ι ((ty.length - 1 - j:Nat):Int))).run Tryz.prog w= .ok (.int .u8 (ty.getD j 0)) w:=by
 have hs:=nw ty;have hi:0<=((ty.length - 1 - j:Nat):Int)/\((ty.length - 1 - j:Nat):Int) < ((fH ty).size:Int):=by omega
 rw [run_index_string w _ _ _ _ Tryz.underlying9,dif_pos hi];have h3:=BB ty (ty.length - 1 - j);rw [D7 hj] at h3;simp only [Int.toNat_natCast];have h2:ty.length - 1 - j < (fH ty).size:=by omega
 rw [getElem?_pos (fH ty) _ h2] at h3;simp only [Option.map_some,Option.some.injEq] at h3;rw [h3];rcases ht.at hj with e|e<;>rw [e]<;>rfl
theorem Ml {k c:Nat} {ty:List Nat} (hk:k<=ty.length) (hc:c≠3):hZ (List.replicate k c) ty=true↔∀j,j < k->ty.getD j 0=c:=by
 induction k generalizing ty with
 |zero=>simp [hZ]
 |succ k ih=>
  cases ty with
  |nil=>simp at hk
  |cons t ts=>
   rw [List.replicate_succ,hZ];simp only [Bool.and_eq_true,Bool.or_eq_true,beq_iff_eq,hc,false_or];rw [ih (by simpa using hk)];constructor
   ·rintro ⟨e,h⟩ j hj;cases j with
    |zero=>exact e
    |succ j=>exact h j (by omega)
   ·intro h;exact ⟨h 0 (by omega),fun j hj=>h (j+1) (by omega)⟩
def pO (w:World) (th:Bool) (s:Std) (mv:Value) (x:Ins) (e:Ending) (w':World):Prop:=
 ∃s',e= .returned (.tuple #[cT th s' mv,ι (bM x s.ty)])/\(bM x s.ty=0->s'={s with ty:=aT x s.ty})/\Below w.heap.size w w'
def Ya (xb sb rb hb n:Nat) (tv:Value) (k i:Nat) (a:Act):Prop:=∃J:Nat->Value,a={tmps:=#[J 0,J 1,J 2,J 3,ρ xb,ρ sb,ρ rb,J 7,ρ hb,ι n,J 10,J 11,J 12,J 13,J 14,J 15,J 16,J 17,J 18,J 19,J 20,J 21,J 22,J 23,J 24,J 25,J 26,J 27,J 28,J 29,J 30,J 31,J 32,J 33,J 34,J 35,J 36,J 37,J 38,J 39,J 40,J 41,J 42,J 43,J 44,J 45,tv,ι k,ι i,J 49,J 50,J 51,J 52,J 53,J 54,J 55,J 56,J 57,J 58,J 59,J 60,J 61,J 62,J 63,J 64,J 65,J 66,J 67,J 68,J 69,J 70,J 71,J 72,J 73,J 74,J 75,J 76,J 77,J 78,J 79,J 80,J 81,J 82,J 83,J 84,J 85,J 86,J 87,J 88,J 89,J 90,J 91,J 92,J 93,J 94,J 95,J 96,J 97,J 98,J 99,J 100,J 101,J 102,J 103],defers:=[]}
def VL (ty:List Nat) (k c i:Nat):Prop:=(c=3->0 < i->ty.getD 0 0=ty.getD 1 0)/\(c≠3->∀j,j < i->ty.getD (k - 1 - j) 0=c)
def EO (w:World) (xb sb rb hb n:Nat) (tv:Value) (k:Nat) (P:World->Prop) (O:Nat->Prop) (m:Nat) (a:Act) (W:World):Prop:=
 ∃i,i<=k/\m+i=k+1/\Ya xb sb rb hb n tv k i a/\Hid (Below w.heap.size w W)/\Hid (P W)/\Hid (O i)
structure Mm (W:World) (bh:Nat) (op xa xb xc xd:Int) (th:Bool) (tb:ByteArray) (lc:Nat->Nat) (ln ha:Nat) (mv tv:Value) (k n:Nat):Prop where
 x:ay W bh 40 #[ι op,ι xa,ι xb,ι xc,ι xd]
 s:ay W (bh+1) 233 #[.bool th,.string tb,ι (lc 0),ι (lc 1),ι (lc 2),ι (lc 3),ι (lc 4),ι (lc 5),ι (lc 6),ι (lc 7),ι ln,ι ha,mv]
 r:ay W (bh+1+1) 233 #[.bool false,.string ⟨#[]⟩,ι 0,ι 0,ι 0,ι 0,ι 0,ι 0,ι 0,ι 0,ι 0,ι 0,ν]
 t:aV W 1 tv k (Mh n)
theorem Mm.aB {W W':World} {bh:Nat} {op xa xb xc xd:Int} {th:Bool} {tb:ByteArray} {lc:Nat->Nat} {ln ha:Nat} {mv tv:Value} {k n:Nat} (h:Mm W bh op xa xb xc xd th tb lc ln ha mv tv k n) (f:ax [] W W'):Mm W' bh op xa xb xc xd th tb lc ln ha mv tv k n:=
 ⟨h.x.aB f (by simp),h.s.aB f (by simp),h.r.aB f (by simp),h.t.aB f⟩
def Yb (w:World) (bh hb n:Nat) (xa xb xc xd:Int) (th:Bool) (tb:ByteArray) (lc:Nat->Nat) (ln ha:Nat) (mv:Value) (ty:List Nat) (k c g:Nat) (ta:Option Addr) (tc:Nat) (a:Act) (W:World):Prop:=
 Ya bh (bh+1) (bh+1+1) hb (ty.length - k) (.slice ta k tc) k k a/\Hid (Below w.heap.size w W)/\Hid (Mm W bh n xa xb xc xd th tb lc ln ha mv (.slice ta k tc) k n/\ay W hb 316 #[.slice ta k tc,ι g])/\Hid (VL ty k c k)
def jz:Code->Option Code
 | .loop c=>some c
 | .seq a b=>match jz a with
   |some c=>some c
   |none=>jz b
 | .block _ c=>jz c
 | .scope c=>jz c
 | .cond _ a b=>match jz a with
   |some c=>some c
   |none=>jz b
 |_=>none
noncomputable def TO:Code:=(Tryz.f243.body.bind jz).getD .skip
theorem adL {p:Prop} (h:p:=by
 go_wp2_with fail;go_quiet (fail);go_wp2_with fail;exact ⟨i+1,by omega,by omega,pC rfl,ae (HB.o.trans (au _ _ _)),ae (HPD.o _),ux⟩):p:=h
theorem adJ {p:Prop} (h:p:=by
 rw [HE.o];simp [results,Tryz.results243,go_sem,i0,i1,i2,i3,i4,i5,i6,i7,i8,i9,i10,i11,i12,cT,bU,qX.o,uy.o,oH.o]):p:=h
theorem adK {p:Prop} (h:p:=by
 go_wp2_with fail;go_quiet (fail);generalize Od:W.drewN _=W2 at*;have P2:Mm W2 bh n xa xb xc xd th tb lc ln ha (.slice ma mn mc) (.slice (some (π Yc Mo)) k tc) k n/\ay W2 hb 316 #[.slice (some (π Yc Mo)) k tc,ι g]:=by rw [<-Od];exact HPD.o _
 have B2:Below w.heap.size w W2:=by rw [<-Od];exact HB.o.trans (au _ _ _)
 clear Od;obtain ⟨K2,kh2⟩:=P2;have fg:=ae B2;have kY:=ae K2;obtain ⟨s0,s1,s2,s3,s4,s5,s6,s7,s8,s9,JF,FE,zz⟩:=K2.s.nN;obtain ⟨z0,z1,z2,z3,z4,z5,z6,z7,z8,z9,TM,Ob,z12⟩:=K2.r.nN;have fz:=K2.r.frozen;have l0:=K2.x.lt;have l1:=K2.s.lt;have l2:=K2.r.lt;clear K2 kh2 B2;go_wp2_with fail;have f9:ax [bh+1+1] W2 _:=((((((((((((((ax.refl [bh+1+1] W2).setCell (p:=(π (bh+1+1) 0)) (by simp) (.bool th)).setCell (p:=(π (bh+1+1) 1)) (by simp) (.string tb)).setCell (p:=(π (bh+1+1) 2)) (by simp) (ι (lc 0))).setCell (p:=(π (bh+1+1) 3)) (by simp) (ι (lc 1))).setCell (p:=(π (bh+1+1) 4)) (by simp) (ι (lc 2))).setCell (p:=(π (bh+1+1) 5)) (by simp) (ι (lc 3))).setCell (p:=(π (bh+1+1) 6)) (by simp) (ι (lc 4))).setCell (p:=(π (bh+1+1) 7)) (by simp) (ι (lc 5))).setCell (p:=(π (bh+1+1) 8)) (by simp) (ι (lc 6))).setCell (p:=(π (bh+1+1) 9)) (by simp) (ι (lc 7))).setCell (p:=(π (bh+1+1) 10)) (by simp) (ι ln)).setCell (p:=(π (bh+1+1) 11)) (by simp) (ι ha)).setCell (p:=(π (bh+1+1) 12)) (by simp) (.slice ma mn mc));have b9:=(((((((((((((kY.o.r.set 0 (.bool th)).set 1 (.string tb)).set 2 (ι (lc 0))).set 3 (ι (lc 1))).set 4 (ι (lc 2))).set 5 (ι (lc 3))).set 6 (ι (lc 4))).set 7 (ι (lc 5))).set 8 (ι (lc 6))).set 9 (ι (lc 7))).set 10 (ι ln)).set 11 (ι ha)).set 12 (.slice ma mn mc));simp only [List.setIfInBounds_toArray,List.set_cons_zero,List.set_cons_succ] at b9;have B9:=fg.o.trans (f9.below (B:=w.heap.size) fg.o.size (by simp only [List.mem_singleton];intro k hk;have:=Oc.o;omega));generalize (((((((((((((W2.setCell (π (bh+1+1) 0) (.bool th)).setCell (π (bh+1+1) 1) (.string tb)).setCell (π (bh+1+1) 2) (ι (lc 0))).setCell (π (bh+1+1) 3) (ι (lc 1))).setCell (π (bh+1+1) 4) (ι (lc 2))).setCell (π (bh+1+1) 5) (ι (lc 3))).setCell (π (bh+1+1) 6) (ι (lc 4))).setCell (π (bh+1+1) 7) (ι (lc 5))).setCell (π (bh+1+1) 8) (ι (lc 6))).setCell (π (bh+1+1) 9) (ι (lc 7))).setCell (π (bh+1+1) 10) (ι ln)).setCell (π (bh+1+1) 11) (ι ha)).setCell (π (bh+1+1) 12) (.slice ma mn mc))=W9 at*;obtain ⟨i0,i1,i2,i3,i4,i5,i6,i7,i8,i9,i10,i11,i12⟩:=b9.nN;clear b9 f9;refine gO _ _ (bodyPost_ret ?_ rfl ⟨⟨ty,lo,ha⟩,rfl,fun h=>(by rw [HE.o] at h;cases h),B9⟩);exact adJ):p:=h
theorem Mn {w:World} {bh hb n k c g ln ha tc mn mc:Nat} {xa xb xc xd:Int} {th:Bool} {tb:ByteArray} {lc:Nat->Nat} {ta ma:Option Addr} {ty lo:List Nat} (Oc:Hid (w.heap.size=bh)) (Gz:Hid (∀(V:World) (j:Nat),j < ty.length->(Instr.index 9 (.string tb) (ι ((ty.length - 1 - j:Nat):Int))).run Tryz.prog V= .ok (.int .u8 (ty.getD j 0:Nat)) V)) (Lf:Hid (eI ty)) (qX:Hid (fH ty=tb)) (uy:Hid (bE lo=lc)) (oH:Hid (lo.length=ln))
 (uW:Hid (bM ⟨n,xa,xb,xc,xd⟩ ty=if (!hZ (List.replicate k c) ty||(decide ((n:Int)=19)&&ty.getD 0 0 !=ty.getD 1 0))=true then 94 else 0)) (nU:Hid (k<=ty.length->c≠3->(hZ (List.replicate k c) ty=true↔∀j,j < k->ty.getD j 0=c))) (HL:Hid (bO n=List.replicate k c)) (sE:n=19↔c=3) (hc:c=1\/c=2\/c=3/\k=2) (hk:k<=2) (TI:k<=ty.length) (hl:ty.length<=256) (l9:bh+1+1 < hb)
 {Q:Exit->Act->World->Prop} (gO:∀a W,bodyPost Tryz.prog Tryz.f243 (pO w th ⟨ty,lo,ha⟩ (.slice ma mn mc) ⟨n,xa,xb,xc,xd⟩) .ret a W->Q .ret a W) (eZ:∀a W,Yb w bh hb n xa xb xc xd th tb lc ln ha (.slice ma mn mc) ty k c g ta tc a W->Q (.exit 0) a W)
 {m:Nat} {a0:Act} {W:World} (hI:(EO w bh (bh+1) (bh+1+1) hb (ty.length - k) (.slice ta k tc) k (fun W=>Mm W bh n xa xb xc xd th tb lc ln ha (.slice ma mn mc) (.slice ta k tc) k n/\ay W hb 316 #[.slice ta k tc,ι g]) (VL ty k c)) (m+1) a0 W):TO.wp Tryz.prog (Exit.then ((EO w bh (bh+1) (bh+1+1) hb (ty.length - k) (.slice ta k tc) k (fun W=>Mm W bh n xa xb xc xd th tb lc ln ha (.slice ma mn mc) (.slice ta k tc) k n/\ay W hb 316 #[.slice ta k tc,ι g]) (VL ty k c)) m) Q) a0 W:=by
 have w2:IntKind.i64.wrap (((ty.length - k:Nat):Int)+1)=((ty.length - k:Nat):Int)+1:=IntWalk.i64_in _ (by constructor<;>omega);unfold pO at gO;obtain ⟨i,hi,hm,⟨J,rfl⟩,HB,HP,HO⟩:=hI
 conv=>arg 2;whnf
 obtain ⟨K1,kh⟩:=HP.o;obtain ⟨h0,h1⟩:=kh.c2;have lh:=kh.lt;clear kh;obtain ⟨s0,s1,s2,s3,s4,s5,s6,s7,s8,s9,JF,FE,zz⟩:=K1.s.nN;obtain ⟨z0,z1,z2,z3,z4,z5,z6,z7,z8,z9,TM,Ob,z12⟩:=K1.r.nN;have fz:=K1.r.frozen;have l0:=K1.x.lt;have l1:=K1.s.lt;have l2:=K1.r.lt;have c0:=K1.x.c1;have HPD:=ae (fun q=>(show Mm (W.drewN q) bh n xa xb xc xd th tb lc ln ha (.slice ma mn mc) (.slice ta k tc) k n/\ay (W.drewN q) hb 316 #[.slice ta k tc,ι g] from ⟨K1.aB ((ax.refl [] W).drewN q),HP.o.2.drewN q⟩));by_cases a8:i < k
 ·obtain ⟨Yc,Mo,abb,hv,-,-,lE,GA⟩:=K1.t.some (by omega) (by omega);simp only [Value.slice.injEq] at hv;obtain ⟨rfl,-,rfl⟩:=hv;have d0:W.cell? (π Yc (Mo+i))=some (ι c):=by rw [GA i (by omega)];unfold Mh;rw [HL.o,List.getD_eq_getElem?_getD,List.getElem?_replicate,if_pos a8];rfl
  have N9:k - 1 - i < ty.length:=by omega
  have Ξ:∀V,(Instr.index 9 (.string tb) (ι (((ty.length - k:Nat):Int)+(i:Int)))).run Tryz.prog V= .ok (.int .u8 (ty.getD (k - 1 - i) 0:Nat)) V:=fun V=>by have:=Gz.o V (k - 1 - i) N9;rw [show ((ty.length - k:Nat):Int)+(i:Int)=((ty.length - 1 - (k - 1 - i):Nat):Int) by omega];exact this
  have w3:IntKind.i64.wrap (((ty.length - k:Nat):Int)+(i:Int))=((ty.length - k:Nat):Int)+(i:Int):=IntWalk.i64_in _ (by constructor<;>omega);have w4:IntKind.i64.wrap ((i:Int)+1)=(i:Int)+1:=IntWalk.i64_in _ (by constructor<;>omega);have hti:=Lf.o.at N9;have HTI:=ae (rfl:ty.getD (k - 1 - i) 0=ty.getD (k - 1 - i) 0);clear K1 GA lE HP;by_cases IQ:c=3
  ·have jd:k=2:=by omega
   have aaB:((n:Int)==19)=true:=by have:=sE.2 IQ;simp;omega
   have ha0:ty.getD 0 0=1\/ty.getD 0 0=2:=Lf.o.at (by omega);have ha1:ty.getD 1 0=1\/ty.getD 1 0=2:=Lf.o.at (by omega);have N_:∀V,(Instr.index 9 (.string tb) (ι ((ty.length - k:Nat):Int))).run Tryz.prog V= .ok (.int .u8 (ty.getD 1 0:Nat)) V:=fun V=>by have:=Gz.o V 1 (by omega);rw [show ((ty.length - k:Nat):Int)=((ty.length - 1 - 1:Nat):Int) by omega];exact this
   have NT:∀V,(Instr.index 9 (.string tb) (ι (((ty.length - k:Nat):Int)+1))).run Tryz.prog V= .ok (.int .u8 (ty.getD 0 0:Nat)) V:=fun V=>by have:=Gz.o V 0 (by omega);rw [show ((ty.length - k:Nat):Int)+1=((ty.length - 1 - 0:Nat):Int) by omega];exact this
   have abc:=ae jd;have Yd:=ae (sE.2 IQ);clear jd sE hc HTI;subst IQ;generalize ty.getD (k - 1 - i) 0=t at*;generalize TP:ty.getD 0 0=t0 at*;generalize C7:ty.getD 1 0=t1 at*;have PM:=ae TP;have N7:=ae C7;clear TP C7;by_cases he:t0=t1
   ·subst he;have ux:=ae (show VL ty k 3 (i+1) from ⟨fun _ _=>PM.o.trans N7.o.symm,fun e=>absurd rfl e⟩);clear HO PM N7 ha0;have e1:((t0:Int)!=(t0:Int))=false:=by simp
    clear hti ha1
    all_goals
     exact adL
   ·have HE:=ae (show bM ⟨n,xa,xb,xc,xd⟩ ty=94 by
     rw [uW.o,if_pos];rw [Yd.o];simp [he])
    clear HO uW PM N7 nU HL Yd;have e1:((t1:Int)!=(t0:Int))=true:=by simp;omega
    clear hti ha1 ha0
    all_goals
     clear he;exact adK
  ·have aaB:((n:Int)==19)=false:=by have:=fun e=>IQ (sE.1 e);simp;omega
   have lF:c=1\/c=2:=by omega
   have Η:=ae IQ;clear IQ sE hc;generalize ht9:ty.getD (k - 1 - i) 0=t at*;have HT9:=ae ht9;clear ht9 HTI;by_cases yq:t=c
   ·subst yq;clear hti;have ux:=ae (show VL ty k t (i+1) from ⟨fun e=>absurd e Η.o,fun e j hj=>by
     by_cases e2:j=i
     ·subst e2;exact HT9.o
     ·exact HO.o.2 e j (by omega)⟩)
    clear HO;have e1:((t:Int)!=3)=true:=by simp;omega
    have e3:((t:Int)!=(t:Int))=false:=by simp
    have ui:t<=2:=by omega
    clear lF
    all_goals
     exact adL
   ·have HE:=ae (show bM ⟨n,xa,xb,xc,xd⟩ ty=94 by
     rw [uW.o,if_pos];have:hZ (List.replicate k c) ty=false:=by
      cases hf:hZ (List.replicate k c) ty with
      |false=>rfl
      |true=>exact absurd (HT9.o.symm.trans ((nU.o TI Η.o).1 hf (k - 1 - i) (by omega))) yq
     rw [this];rfl)
    clear HO uW HT9 nU HL;have e1:((c:Int)!=3)=true:=by simp;omega
    have e2:((t:Int)!=(c:Int))=true:=by simp;omega
    have ui:t<=2:=by omega
    clear lF hti
    all_goals
     clear yq;exact adK
 ·obtain rfl:i=k:=by omega
  go_wp2_with fail
  first
  |exact eZ _ _ ⟨pC rfl,HB,HP,HO⟩
  |exact ⟨pC rfl,HB,HP,HO⟩
theorem adM {p:Prop} (h:p:=by
 obtain ⟨i0,i1,i2,i3,i4,i5,i6,i7,i8,i9,i10,i11,i12⟩:=b9.nN;clear b9 f9;refine bodyPost_ret ?_ rfl ⟨⟨aT ⟨n,xa,xb,xc,xd⟩ ty,lo,ha⟩,rfl,fun _=>rfl,B9⟩;rw [HE.o];simp [results,Tryz.results243,go_sem,i0,i1,i2,i3,i4,i5,i6,i7,i8,i9,i10,i11,i12,cT,bU,HTV.o,uy.o,oH.o]):p:=h
theorem acQ {p:Prop} (h:p:=by
 go_wp2_with fail;have f9:ax [bh+1+1] w' _:=(((((((((((((((ax.refl [bh+1+1] w').setCell (p:=(π (bh+1+1) 0)) (by simp) (.bool th)).setCell (p:=(π (bh+1+1) 1)) (by simp) (.string tb)).setCell (p:=(π (bh+1+1) 2)) (by simp) (ι (lc 0))).setCell (p:=(π (bh+1+1) 3)) (by simp) (ι (lc 1))).setCell (p:=(π (bh+1+1) 4)) (by simp) (ι (lc 2))).setCell (p:=(π (bh+1+1) 5)) (by simp) (ι (lc 3))).setCell (p:=(π (bh+1+1) 6)) (by simp) (ι (lc 4))).setCell (p:=(π (bh+1+1) 7)) (by simp) (ι (lc 5))).setCell (p:=(π (bh+1+1) 8)) (by simp) (ι (lc 6))).setCell (p:=(π (bh+1+1) 9)) (by simp) (ι (lc 7))).setCell (p:=(π (bh+1+1) 10)) (by simp) (ι ln)).setCell (p:=(π (bh+1+1) 11)) (by simp) (ι ha)).setCell (p:=(π (bh+1+1) 12)) (by simp) (.slice ma mn mc)).alloc (.cells #[.slice ta k tc,ι g] 316));have b9:=(((((((((((((kW.o.r.set 0 (.bool th)).set 1 (.string tb)).set 2 (ι (lc 0))).set 3 (ι (lc 1))).set 4 (ι (lc 2))).set 5 (ι (lc 3))).set 6 (ι (lc 4))).set 7 (ι (lc 5))).set 8 (ι (lc 6))).set 9 (ι (lc 7))).set 10 (ι ln)).set 11 (ι ha)).set 12 (.slice ma mn mc));simp only [List.setIfInBounds_toArray,List.set_cons_zero,List.set_cons_succ] at b9;replace b9:=b9.alloc (.cells #[.slice ta k tc,ι g] 316);have B9:=EP.o.trans (f9.below (B:=w.heap.size) EP.o.size (by simp only [List.mem_singleton];intro k hk;have:=Oc.o;omega));generalize ((((((((((((((w'.setCell (π (bh+1+1) 0) (.bool th)).setCell (π (bh+1+1) 1) (.string tb)).setCell (π (bh+1+1) 2) (ι (lc 0))).setCell (π (bh+1+1) 3) (ι (lc 1))).setCell (π (bh+1+1) 4) (ι (lc 2))).setCell (π (bh+1+1) 5) (ι (lc 3))).setCell (π (bh+1+1) 6) (ι (lc 4))).setCell (π (bh+1+1) 7) (ι (lc 5))).setCell (π (bh+1+1) 8) (ι (lc 6))).setCell (π (bh+1+1) 9) (ι (lc 7))).setCell (π (bh+1+1) 10) (ι ln)).setCell (π (bh+1+1) 11) (ι ha)).setCell (π (bh+1+1) 12) (.slice ma mn mc)).alloc (.cells #[.slice ta k tc,ι g] 316))=W9 at*;obtain ⟨i0,i1,i2,i3,i4,i5,i6,i7,i8,i9,i10,i11,i12⟩:=b9.nN;clear b9 f9;refine bodyPost_ret ?_ rfl ⟨⟨ty,lo,ha⟩,rfl,fun h=>(by rw [HE.o] at h;cases h),B9⟩;exact adJ):p:=h
theorem PN (w:World) {mv vv:Value} (th:Bool) {s:Std} {x:Ins} (h0:0<=x.op) (Xh:x.op<=41) (hl:s.ty.length<=256) (ht:eI s.ty) (hm:∃a n c,mv= .slice a n c):
 Calls Tryz.prog 243 #[vv,aQ x,cT th s mv] w (pO w th s mv x):=by
 obtain ⟨op,xa,xb,xc,xd⟩:=x;obtain ⟨ty,lo,ha⟩:=s;obtain ⟨ma,mn,mc,rfl⟩:=hm;dsimp only at h0 Xh hl ht;obtain ⟨n,rfl⟩:=Int.eq_ofNat_of_zero_le h0;have Ch:n < 42:=by omega
 have HS:=ae (fun V=>Mi V n Ch);obtain ⟨k,c,hL,hk,hc,sE⟩:=IP n;have hg:=Mj n Ch;have HT:=ae (show bM ⟨n,xa,xb,xc,xd⟩ ty=if ty.length < k\/((n:Int)=0/\0 < ty.length)\/(aR n≠0/\256 < ty.length - k+1) then 93 else if !hZ (List.replicate k c) ty||(decide ((n:Int)=19)&&ty.getD 0 0 !=ty.getD 1 0) then 94 else 0 by
  unfold bM;dsimp only [Int.toNat_natCast];rw [hL,List.length_replicate])
 have HV:=ae (show aT ⟨n,xa,xb,xc,xd⟩ ty=if aR n=0 then ty.drop k else aR n::ty.drop k by unfold aT;dsimp only [Int.toNat_natCast];rw [hL,List.length_replicate]);have kN:=nw ty;have hB:∀cs T,Below w.heap.size w (w.alloc (.cells cs T)):=fun cs T=>(Below.refl _ _).alloc (Nat.le_refl _) _;unfold aQ aA cT bU pO;dsimp only;have KT:(bO n).length=k:=by rw [hL,List.length_replicate]
 have gen:∀(W:World) (cx cs cr:Array Value) (tx ts:TypeId),Below W.heap.size W (((W.alloc (.cells cx tx)).alloc (.cells cs ts)).alloc (.cells cr ts)):=fun W cx cs cr tx ts=>(((Below.refl _ _).alloc (Nat.le_refl _) _).alloc (by simp) _).alloc (by simp only [aE];omega) _;go_enter Tryz.func243,Tryz.ntmps243;go_wp2_with fail;refine (HS.o _).mono ?_;rintro e w' ⟨tv,rfl,bq,hb⟩;have wP:=(gen w _ _ _ _ _).trans (hb.mono (by simp only [aE];omega));have kx:ay w' w.heap.size 40 #[ι n,ι xa,ι xb,ι xc,ι xd]:=(((ay.new w _ _).alloc _).alloc _).of (hb.block _ (by simp only [aE];omega));have ks:ay w' (w.heap.size+1) 233 #[.bool th,.string (fH ty),ι (bE lo 0),ι (bE lo 1),ι (bE lo 2),ι (bE lo 3),ι (bE lo 4),ι (bE lo 5),ι (bE lo 6),ι (bE lo 7),ι lo.length,ι ha,.slice ma mn mc]:=((ay.a_ (by simp)).alloc _).of (hb.block _ (by simp only [aE];omega));have kr:ay w' (w.heap.size+1+1) 233 #[.bool false,.string ⟨#[]⟩,ι 0,ι 0,ι 0,ι 0,ι 0,ι 0,ι 0,ι 0,ι 0,ι 0,ν]:=(ay.a_ (by simp)).of (hb.block _ (by simp only [aE];omega));obtain ⟨ta,tc,rfl,t1,t2⟩:=bq.val;rw [KT] at bq t1;generalize jK:w.heap.size=bh at*;rw [KT];rw [<-jK] at wP;have rl:=wP.alloc wP.size (.cells #[.slice ta k tc,ι (aR n:Nat)] 316);have Gz:=ae (fun V j (hj:j < ty.length)=>PK ty V hj ht);have Lf:=ae ht;have nU:=ae (fun (hk:k<=ty.length) (hc:c≠3)=>Ml hk hc);have HL:=ae hL;have Ov:0<=n:=Nat.zero_le _;have EP:=ae wP;have Oc:=ae jK;clear wP hb gen hB HS ht hL KT jK;generalize jZ:aR n=g at*;have HG:=ae jZ;clear jZ;generalize tO:fH ty=tb at*;have qX:=ae tO;clear tO;generalize Cm:bE lo=lc at*;have uy:=ae Cm;clear Cm;generalize Ae:lo.length=ln at*;have oH:=ae Ae;clear Ae;have HB:=ae rl;clear rl;have K0:Mm w' bh n xa xb xc xd th tb lc ln ha (.slice ma mn mc) (.slice ta k tc) k n:=⟨kx,ks,kr,bq⟩;have kW:=ae K0;clear kx ks kr bq;obtain ⟨s0,s1,s2,s3,s4,s5,s6,s7,s8,s9,JF,FE,zz⟩:=K0.s.nN;obtain ⟨z0,z1,z2,z3,z4,z5,z6,z7,z8,z9,TM,Ob,z12⟩:=K0.r.nN;have fz:=K0.r.frozen;have l0:=K0.x.lt;have l1:=K0.s.lt;have l2:=K0.r.lt;have c0:=K0.x.c1;by_cases Vw:ty.length < k
 ·all_goals
   have kL:((ty.length:Int) - (k:Int) < 0)=True:=by simp;omega
   have HE:=ae (show bM ⟨n,xa,xb,xc,xd⟩ ty=93 by rw [HT.o,if_pos (.inl Vw)]);clear Gz;exact acQ
 have w1:IntKind.i64.wrap ((ty.length:Int) - (k:Int))=((ty.length - k:Nat):Int):=by rw [IntWalk.i64_in _ (by constructor<;>omega)];omega
 have VG:((ty.length:Int) - (k:Int))=((ty.length - k:Nat):Int):=by omega
 by_cases hA2:n=0/\0 < ty.length
 ·all_goals
   obtain ⟨rfl,zI⟩:=hA2;have Cj:k=0:=by have:=HL.o;rw [show bO 0=[] from rfl] at this;exact (by simpa using congrArg List.length this.symm)
   have hp9:0 < ty.length - k:=by omega
   have HE:=ae (show bM ⟨(0:Nat),xa,xb,xc,xd⟩ ty=93 by rw [HT.o,if_pos (.inr (.inl ⟨rfl,zI⟩))]);clear Gz Cj zI;exact acQ
 by_cases xq:g≠0/\256 < ty.length - k+1
 ·all_goals
   obtain ⟨TP,C7⟩:=xq;have Ov:0 < n:=by
    rcases Nat.eq_zero_or_pos n with e|e
    ·subst e;exact absurd HG.o.symm TP
    ·exact e
   have w2:IntKind.i64.wrap (((ty.length - k:Nat):Int)+1)=((ty.length - k:Nat):Int)+1:=IntWalk.i64_in _ (by constructor<;>omega);have SN:((g:Int)!=0)=true:=by simp;omega
   have HE:=ae (show bM ⟨n,xa,xb,xc,xd⟩ ty=93 by rw [HT.o,if_pos (.inr (.inr ⟨TP,C7⟩))]);clear Gz;exact acQ
 have TI:k<=ty.length:=by omega
 have uW:=ae (show bM ⟨n,xa,xb,xc,xd⟩ ty=if (!hZ (List.replicate k c) ty||(decide ((n:Int)=19)&&ty.getD 0 0 !=ty.getD 1 0))=true then 94 else 0 by
  rw [HT.o,if_neg];rintro (h|h|h)
  ·exact Vw h
  ·exact hA2 ⟨by omega,h.2⟩
  ·exact xq h)
 have wo:(((n:Int)==0)=true/\decide (0 < ((ty.length - k:Nat):Int))=false/\decide (0 < ty.length - k)=false/\((g:Int)!=0)=false)\/(0 < n/\((g:Int)!=0)=false)\/(0 < n/\0 < g/\ty.length - k+1<=256):=by
  rcases Nat.eq_zero_or_pos n with e|e
  ·left;have TP:g=0:=by rw [<-HG.o,e];rfl
   have Xs:ty.length - k=0:=by omega
   exact ⟨by rw [e];rfl,by rw [Xs];rfl,by rw [Xs];rfl,by rw [TP];rfl⟩
  ·rcases Nat.eq_zero_or_pos g with e2|e2
   ·exact .inr (.inl ⟨e,by rw [e2];rfl⟩)
   ·exact .inr (.inr ⟨e,e2,by have:¬(g≠0/\256 < ty.length - k+1):=xq;omega⟩)
 have w2:IntKind.i64.wrap (((ty.length - k:Nat):Int)+1)=((ty.length - k:Nat):Int)+1:=IntWalk.i64_in _ (by constructor<;>omega);have l9:bh+1+1 < w'.heap.size:=l2;clear Vw hA2 xq HT;rcases wo with ⟨b1,b2,b3,b4⟩|⟨b1,b2⟩|⟨b1,b2,b3⟩
 all_goals
  go_wp2_with fail;refine Mk.aP (EO w bh (bh+1) (bh+1+1) w'.heap.size (ty.length - k) (.slice ta k tc) k (fun W=>Mm W bh n xa xb xc xd th tb lc ln ha (.slice ma mn mc) (.slice ta k tc) k n/\ay W w'.heap.size 316 #[.slice ta k tc,ι g]) (VL ty k c)) (k+1) ?start ?zero ?round
  case start=>exact ⟨0,Nat.zero_le _,by omega,pC rfl,HB,ae ⟨kW.o.aB ((ax.refl [] w').alloc _),ay.new _ _ _⟩,ae ⟨fun _ h=>absurd h (by omega),fun _ j h=>absurd h (by omega)⟩⟩
  case zero=>exact fun a W hh=>by obtain ⟨q,h1,h2,_⟩:=hh;omega
  generalize w'.heap.size=hb at*;clear s0 s1 s2 s3 s4 s5 s6 s7 s8 s9 JF FE zz z0 z1 z2 z3 z4 z5 z6 z7 z8 z9 TM Ob z12 fz c0 l0 l1 l2 HB kW EP K0 w'
  case round=>
   intro m a W h;refine Mn (lo:=lo) (mn:=mn) Oc Gz Lf qX uy oH uW nU HL sE hc hk TI hl l9 ?_ ?_ h
   ·exact fun a W h=>h
   clear h;clear a W m;intro a W h;obtain ⟨⟨J,rfl⟩,HB,HP,HO⟩:=h;obtain ⟨K1,kh⟩:=HP.o;obtain ⟨h0,h1⟩:=kh.c2;have lh:=kh.lt;clear kh;obtain ⟨s0,s1,s2,s3,s4,s5,s6,s7,s8,s9,JF,FE,zz⟩:=K1.s.nN;obtain ⟨z0,z1,z2,z3,z4,z5,z6,z7,z8,z9,TM,Ob,z12⟩:=K1.r.nN;have fz:=K1.r.frozen;have l0:=K1.x.lt;have l1:=K1.s.lt;have l2:=K1.r.lt;have c0:=K1.x.c1;have HE:=ae (show bM ⟨n,xa,xb,xc,xd⟩ ty=0 by
    rw [uW.o,if_neg];by_cases IQ:c=3
    ·have AH:k=2:=by omega
     have hn:n=19:=sE.2 IQ;have ho:=HO.o.1 IQ (by omega);rw [ho,IQ,AH];have EM:2<=ty.length:=by omega
     match ty,EM with
     |a::b::r,_=>simp [hZ,List.replicate]
    ·have hf:=(nU.o TI IQ).2 (fun j hj=>by have:=HO.o.2 IQ (k - 1 - j) (by omega);rw [show k - 1 - (k - 1 - j)=j by omega] at this;exact this);have hn:¬n=19:=fun e=>IQ (sE.1 e);rw [hf];simp;omega)
   clear HO uW nU HL hc sE;have Dd:(convert 318 9 (.slice (some (π W.heap.size 0)) 1 1)).run Tryz.prog ((W.setCell (π (bh+1) 1) (.string (tb.extract 0 (ty.length - k)))).alloc (.cells #[.int .u8 g] 5))= .ok (.string ⟨#[UInt8.ofNat g]⟩) ((W.setCell (π (bh+1) 1) (.string (tb.extract 0 (ty.length - k)))).alloc (.cells #[.int .u8 g] 5)):=by
    refine run_convert_bytes_back _ _ _ _ (π W.heap.size 0) 1 [UInt8.ofNat g] Tryz.underlying318 Tryz.underlying5 Tryz.underlying9 (fun j hj=>?_);obtain rfl:j=0:=by simpa using hj
    have hg3:g=0\/g=1\/g=2:=by omega
    have hk9:ay ((W.setCell (π (bh+1) 1) (.string (tb.extract 0 (ty.length - k)))).alloc (.cells #[.int .u8 g] 5)) W.heap.size 5 #[.int .u8 g]:=ay.a_ (by simp);have hc9:=hk9.cell 0;refine hc9.trans ?_;rcases hg3 with e|e|e<;>subst e<;>rfl
   have HPR:=ae K1.r;have fs:=K1.s.frozen;have HTD:=ae (KZ ty k);rw [qX.o] at HTD;clear K1 HP Gz;by_cases Ye:((g:Int)!=0)=true
   ·(try (have hq:((g:Int)!=0)=false:=(by assumption);exact absurd (Ye.symm.trans hq) (by decide)))
    all_goals
     have HTV:=ae (show fH (aT ⟨n,xa,xb,xc,xd⟩ ty)=tb.extract 0 (ty.length - k)++⟨#[UInt8.ofNat g]⟩ by
      rw [HV.o,if_neg (fun e=>by subst e;simp at Ye),<-KY,HTD.o])
     go_wp2_with fail;have f9:ax [bh+1,bh+1+1] W _:=(((((((((((((((((ax.refl [bh+1,bh+1+1] W).setCell (p:=(π (bh+1) 1)) (by simp) (.string (tb.extract 0 (ty.length - k)))).setCell (p:=(π (bh+1) 1)) (by simp) (.string (tb.extract 0 (ty.length - k)++⟨#[UInt8.ofNat g]⟩))).setCell (p:=(π (bh+1+1) 0)) (by simp) (.bool th)).setCell (p:=(π (bh+1+1) 1)) (by simp) (.string (tb.extract 0 (ty.length - k)++⟨#[UInt8.ofNat g]⟩))).setCell (p:=(π (bh+1+1) 2)) (by simp) (ι (lc 0))).setCell (p:=(π (bh+1+1) 3)) (by simp) (ι (lc 1))).setCell (p:=(π (bh+1+1) 4)) (by simp) (ι (lc 2))).setCell (p:=(π (bh+1+1) 5)) (by simp) (ι (lc 3))).setCell (p:=(π (bh+1+1) 6)) (by simp) (ι (lc 4))).setCell (p:=(π (bh+1+1) 7)) (by simp) (ι (lc 5))).setCell (p:=(π (bh+1+1) 8)) (by simp) (ι (lc 6))).setCell (p:=(π (bh+1+1) 9)) (by simp) (ι (lc 7))).setCell (p:=(π (bh+1+1) 10)) (by simp) (ι ln)).setCell (p:=(π (bh+1+1) 11)) (by simp) (ι ha)).setCell (p:=(π (bh+1+1) 12)) (by simp) (.slice ma mn mc)).alloc (.cells #[.int .u8 g] 5));have b9:=(((((((((((((((HPR.o.other (c:=bh+1) (by omega) 1 (.string (tb.extract 0 (ty.length - k)))).other (c:=bh+1) (by omega) 1 (.string (tb.extract 0 (ty.length - k)++⟨#[UInt8.ofNat g]⟩))).set 0 (.bool th)).set 1 (.string (tb.extract 0 (ty.length - k)++⟨#[UInt8.ofNat g]⟩))).set 2 (ι (lc 0))).set 3 (ι (lc 1))).set 4 (ι (lc 2))).set 5 (ι (lc 3))).set 6 (ι (lc 4))).set 7 (ι (lc 5))).set 8 (ι (lc 6))).set 9 (ι (lc 7))).set 10 (ι ln)).set 11 (ι ha)).set 12 (.slice ma mn mc));simp only [List.setIfInBounds_toArray,List.set_cons_zero,List.set_cons_succ] at b9;replace b9:=b9.alloc (.cells #[.int .u8 g] 5);have B9:=HB.o.trans (f9.below (B:=w.heap.size) HB.o.size (by simp only [List.mem_cons,List.mem_singleton,List.not_mem_nil,or_false];intro k hk;have:=Oc.o;omega));generalize ((((((((((((((((W.setCell (π (bh+1) 1) (.string (tb.extract 0 (ty.length - k)))).setCell (π (bh+1) 1) (.string (tb.extract 0 (ty.length - k)++⟨#[UInt8.ofNat g]⟩))).setCell (π (bh+1+1) 0) (.bool th)).setCell (π (bh+1+1) 1) (.string (tb.extract 0 (ty.length - k)++⟨#[UInt8.ofNat g]⟩))).setCell (π (bh+1+1) 2) (ι (lc 0))).setCell (π (bh+1+1) 3) (ι (lc 1))).setCell (π (bh+1+1) 4) (ι (lc 2))).setCell (π (bh+1+1) 5) (ι (lc 3))).setCell (π (bh+1+1) 6) (ι (lc 4))).setCell (π (bh+1+1) 7) (ι (lc 5))).setCell (π (bh+1+1) 8) (ι (lc 6))).setCell (π (bh+1+1) 9) (ι (lc 7))).setCell (π (bh+1+1) 10) (ι ln)).setCell (π (bh+1+1) 11) (ι ha)).setCell (π (bh+1+1) 12) (.slice ma mn mc)).alloc (.cells #[.int .u8 g] 5))=W9 at*;exact adM
   ·(try (have hgp:0 < g:=(by assumption);exact Ye (by simp;omega)))
    all_goals
     have aaC:((g:Int)!=0)=false:=by simpa using Ye
     have HTV:=ae (show fH (aT ⟨n,xa,xb,xc,xd⟩ ty)=tb.extract 0 (ty.length - k) by
      rw [HV.o,if_pos (by simpa using aaC),HTD.o])
     clear Ye Dd;go_wp2_with fail;have f9:ax [bh+1,bh+1+1] W _:=(((((((((((((((ax.refl [bh+1,bh+1+1] W).setCell (p:=(π (bh+1) 1)) (by simp) (.string (tb.extract 0 (ty.length - k)))).setCell (p:=(π (bh+1+1) 0)) (by simp) (.bool th)).setCell (p:=(π (bh+1+1) 1)) (by simp) (.string (tb.extract 0 (ty.length - k)))).setCell (p:=(π (bh+1+1) 2)) (by simp) (ι (lc 0))).setCell (p:=(π (bh+1+1) 3)) (by simp) (ι (lc 1))).setCell (p:=(π (bh+1+1) 4)) (by simp) (ι (lc 2))).setCell (p:=(π (bh+1+1) 5)) (by simp) (ι (lc 3))).setCell (p:=(π (bh+1+1) 6)) (by simp) (ι (lc 4))).setCell (p:=(π (bh+1+1) 7)) (by simp) (ι (lc 5))).setCell (p:=(π (bh+1+1) 8)) (by simp) (ι (lc 6))).setCell (p:=(π (bh+1+1) 9)) (by simp) (ι (lc 7))).setCell (p:=(π (bh+1+1) 10)) (by simp) (ι ln)).setCell (p:=(π (bh+1+1) 11)) (by simp) (ι ha)).setCell (p:=(π (bh+1+1) 12)) (by simp) (.slice ma mn mc));have b9:=((((((((((((((HPR.o.other (c:=bh+1) (by omega) 1 (.string (tb.extract 0 (ty.length - k)))).set 0 (.bool th)).set 1 (.string (tb.extract 0 (ty.length - k)))).set 2 (ι (lc 0))).set 3 (ι (lc 1))).set 4 (ι (lc 2))).set 5 (ι (lc 3))).set 6 (ι (lc 4))).set 7 (ι (lc 5))).set 8 (ι (lc 6))).set 9 (ι (lc 7))).set 10 (ι ln)).set 11 (ι ha)).set 12 (.slice ma mn mc));simp only [List.setIfInBounds_toArray,List.set_cons_zero,List.set_cons_succ] at b9;have B9:=HB.o.trans (f9.below (B:=w.heap.size) HB.o.size (by simp only [List.mem_cons,List.mem_singleton,List.not_mem_nil,or_false];intro k hk;have:=Oc.o;omega));generalize ((((((((((((((W.setCell (π (bh+1) 1) (.string (tb.extract 0 (ty.length - k)))).setCell (π (bh+1+1) 0) (.bool th)).setCell (π (bh+1+1) 1) (.string (tb.extract 0 (ty.length - k)))).setCell (π (bh+1+1) 2) (ι (lc 0))).setCell (π (bh+1+1) 3) (ι (lc 1))).setCell (π (bh+1+1) 4) (ι (lc 2))).setCell (π (bh+1+1) 5) (ι (lc 3))).setCell (π (bh+1+1) 6) (ι (lc 4))).setCell (π (bh+1+1) 7) (ι (lc 5))).setCell (π (bh+1+1) 8) (ι (lc 6))).setCell (π (bh+1+1) 9) (ι (lc 7))).setCell (π (bh+1+1) 10) (ι ln)).setCell (π (bh+1+1) 11) (ι ha)).setCell (π (bh+1+1) 12) (.slice ma mn mc))=W9 at*;exact adM
end Go.Proofs.YtblkblclmbhjiaaGreat.Vf
