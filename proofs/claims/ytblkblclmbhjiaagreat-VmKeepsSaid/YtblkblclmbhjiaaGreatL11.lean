/- Of the proof that VmKeeps holds: a key keeps its node, what traps leaves no trace. No condition. -/
import Derived.Test.YtblkblclmbhjiaaGreatL10
set_option linter.unusedVariables false
set_option linter.unusedSimpArgs false
set_option maxHeartbeats 40000000
set_option maxRecDepth 100000
namespace Go.Proofs.YtblkblclmbhjiaaGreat.Ma
open Go.RowKit ak.Vm
open ak hiding aL an aj
open dT (bP bG d_)
open Ix (cL)
theorem Ly:(Tryz.prog.info? 46).map (fun i=>(i.zero,i.size,i.bytes))=some (some (.int .u64 0),1,8):=by kernel_rfl
theorem yr {α:Type} (x d:α) (l:List α):(∀i,i < l.length->(l++[x]).getD i d=l.getD i d)/\(l++[x]).getD l.length d=x:=by
 constructor
 ·intro i hi;simp [List.getD,List.getElem?_append,hi]
 ·simp [List.getD]
section
variable {w w':World} {C C':Co} {U U':Ru} {RO RO':List Nat} {K:Kc} {p:aO} {c:Cp} {t:fI} {used:Int} {hv hv':Value} {jv jx:Nat->Value} {s s':St} {r r':Rn} {rv:Value} {mb rb:Nat}
theorem abD {p:Prop} (h:p:=by
 intro wz bR
 (try dsimp only at bR)
 exact gee):p:=h
theorem adr {p:Prop} (h:p:=by
 refine Mk.pt ?_;refine wpAnyH_ready (rs:=[22]) (by kernel_rfl) (by simp) ?_;refine AllReadyH.cons rfl (fun K hK=>?_) AllReadyH.nil;refine step_append_lies _ rfl (.tmp 13) (.tmp 24) 41 rfl 0 46 i0 (.int .u64 0) 1 8 Tryz.underlying41 hi gA jF r_ rfl (by decide) U.kF _ _ (by simp [Act.eval,Act.put]) (HD.o.r.kF.alloc _) (π w.heap.size 0) 1 1 [.int .u64 key] (by simp [Act.eval,Act.put]) rfl (gP.gr _ [.int .u64 key] _ _ (by simp)) (by simp [Value.oneCell']) (by decide) C3.o C4.o (by simp) _ rfl ?_;intro g cap w4 fo fe pG um;obtain ⟨qW,xf⟩:=If (w:=w) (n:=r.told.length+1) (cap:=cap) ((au w.heap.size w 1).alloc (Nat.le_refl _) _) fe pG rfl;obtain ⟨Lz,c5,f5,Dc⟩:=HSV.o g cap w4 qW;have HO:=ae fo;have HF:=ae qW;have HS:=ae xf;clear fo fe pG um qW xf;clear al;refine hK.out _ _ Lz (fun al=>?_);clear hK K;refine Mk.pt ?_;refine wpAnyH_take (i:=23) (v:=?_) rfl (by kernel_rfl) (by kernel_rfl) (by kernel_rfl) (fun _ _ _ h=>h) (Or.inl ⟨by rfl,?_⟩) (by assumption) ?_;rotate_left
 ·exact abD
 refine Mk.pt ?_;refine wpAnyH_take (i:=24) (v:=?_) rfl (by kernel_rfl) (by kernel_rfl) (by kernel_rfl) (fun _ _ _ h=>h) (Or.inl ⟨by rfl,?_⟩) (by assumption) ?_;rotate_left
 ·exact abD
 refine Mk.pt ?_;refine wpAnyH_ready (rs:=[25]) (by kernel_rfl) (by simp) ?_;refine AllReadyH.cons rfl (fun K hK=>?_) AllReadyH.nil;refine QX ?_;go_simp;refine hK.out _ _ Dc (fun al=>?_);clear hK K;refine Mk.pt ?_;refine wpAnyH_done (by kernel_rfl) ?_ _;clear al Lz Dc;go_wp2;go_ret;obtain ⟨q1,q2⟩:=yr key 0 r.told;have bq:=kU (f':=fun i=> .int .u64 ((r.told++[key]).getD i 0:Nat)) HO.o (fun i hi=>by show Value.int _ _=Value.int _ _;rw [q1 i hi]) (by show Value.int _ _=Value.int _ _;rw [q2]);have A:=H.o.kF HF.o (l:=r.told++[key]) (by rw [List.length_append];exact bq) HS.o;exact ⟨rfl,RO,fun b hb=>hb,A.jy,Kept.cE (S:=U.l) ((HF.o.mono (by intro k hk;simp [Ru.l,hk])).setCell (by simp [Ru.l]) _) (fun b hb=>H.o.sep.ur hb) H.o.sep.cY⟩):p:=h
theorem zJ (h:cD w C U RO K p c t used hv jv s r) {y:eW} (hh:r.hand=some y) (hl:r.told.length < 1000000):
 Calls Tryz.prog 222 #[ρ C.mb] w (bX w C.mb U.rb RO K p c t used (.bool true) (s,{r with told:=r.told++[y.key]})):=by
 obtain ⟨i0,hi,gA,jF,r_⟩:=info_parts Ly;have gR:=h.r.gm;rw [hh] at gR;obtain ⟨hb,Bp,XC,Jv,NI⟩:=gR;have oC:w.cell? (π C.mb 60)=some (ρ U.rb):=h.m.aM.cell 60;have r4:w.cell? (π U.rb 4)=some hv:=h.r.c_.cell 4;rw [XC] at r4;have r5:w.cell? (π U.rb 5)=some U.kF:=h.r.c_.cell 5;have rf:∀o,w.frozen? (π U.rb o)=false:=h.r.c_.frozen;have k0:=Jv.c1;have lm:=h.m.aM.lt;have lr:=h.r.c_.lt;have lh:=Jv.lt;have nh:hb≠U.rb:=fun e=>h.sep.ur NI (by simp [e,Ru.l]);have nm:C.mb≠U.rb:=fun e=>h.sep.cu (b:=C.mb) (by simp [Co.l]) (by rw [e];simp [Ru.l]);have HD:=ae (h.drewN 1);have C3:=ae (show r.told.length+1<=maxLen by unfold maxLen;omega);have C4:=ae (show (r.told.length+1)*8<=140737488355328 by omega);have HBK:=ae Jv;have HBR:=ae NI;have H:=ae h;clear h XC hh Jv NI;generalize y.key=key at*;have hSv:∀(g cap:Nat) (w4:World),ax (vb U.kF) w w4->(w4.cell? (π C.mb 60)=some (ρ U.rb)/\w4.cell? (π U.rb 4)=some (.slice (some (π hb 0)) 1 Bp)/\w4.cell? (π hb 0)=some (.int .u64 key))/\w4.cell? (π U.rb 5)=some U.kF/\(∀o,w4.frozen? (π U.rb o)=false)/\
  ((w4.setCell (π U.rb 5) (.slice (some (π g 0)) (r.told.length+1) cap)).cell? (π C.mb 60)=some (ρ U.rb)/\(w4.setCell (π U.rb 5) (.slice (some (π g 0)) (r.told.length+1) cap)).cell? (π U.rb 4)=some (.slice (some (π hb 0)) 1 Bp)/\(w4.setCell (π U.rb 5) (.slice (some (π g 0)) (r.told.length+1) cap)).cell? (π hb 0)=some (.int .u64 key)):=by
  intro g cap w4 f;obtain ⟨c5,cf,Vx⟩:=H.o.Ij f;have b4:=H.o.r.c_.aB f H.o.sep.u.t;have c4:w4.cell? (π U.rb 4)=w.cell? (π U.rb 4):=(b4.cell 4).trans (H.o.r.c_.cell 4).symm;have ch:w4.cell? (π hb 0)=w.cell? (π hb 0):=((HBK.o.aB f (fun hc=>H.o.sep.ur HBR.o (by simp [Ru.l,hc]))).cell 0).trans (HBK.o.cell 0).symm;refine ⟨⟨Vx,c4.trans r4,ch.trans k0⟩,c5,cf,?_,?_,?_⟩
  ·rw [fT nm];exact Vx
  ·rw [World.cell?_setCell_other _ _ _ _ (by intro e;have:=congrArg Addr.off e;simp at this)];exact c4.trans r4
  ·rw [fT nh];exact ch.trans k0
 have HSV:=ae hSv;clear hSv;go_enter Tryz.func222,Tryz.ntmps222;go_wp2_with fail;refine wp_region_held_drew (S:=(fun wx=>wx.cell? (π C.mb 60)=some (ρ U.rb)/\wx.cell? (π U.rb 4)=some (.slice (some (π hb 0)) 1 Bp)/\wx.cell? (π hb 0)=some (.int .u64 key))) (by kernel_rfl) ⟨oC,r4,k0⟩ (fun al=>?_);refine wpAnyH_take (i:=0) (v:=?_) rfl (by kernel_rfl) (by kernel_rfl) (by kernel_rfl) (fun _ _ _ h=>h) (Or.inl ⟨by rfl,?_⟩) (by assumption) ?_;rotate_left
 ·exact abD
 refine Mk.pt ?_;refine wpAnyH_take (i:=1) (v:=?_) rfl (by kernel_rfl) (by kernel_rfl) (by kernel_rfl) (fun _ _ _ h=>h) (Or.inl ⟨by rfl,?_⟩) (by assumption) ?_;rotate_left
 ·exact abD
 refine Mk.pt ?_;refine wpAnyH_take (i:=2) (v:=?_) rfl (by kernel_rfl) (by kernel_rfl) (by kernel_rfl) (fun _ _ _ h=>h) (Or.inl ⟨by rfl,?_⟩) (by assumption) ?_;rotate_left
 ·exact abD
 refine Mk.pt ?_;refine wpAnyH_take (i:=3) (v:=?_) rfl (by kernel_rfl) (by kernel_rfl) (by kernel_rfl) (fun _ _ _ h=>h) (Or.inl ⟨by rfl,?_⟩) (by assumption) ?_;rotate_left
 ·exact abD
 refine Mk.pt ?_;refine wpAnyH_take (i:=4) (v:=?_) rfl (by kernel_rfl) (by kernel_rfl) (by kernel_rfl) (fun _ _ _ h=>h) (Or.inl ⟨by rfl,?_⟩) (by assumption) ?_;rotate_left
 ·exact abD
 refine Mk.pt ?_;refine wpAnyH_take (i:=5) (v:=?_) rfl (by kernel_rfl) (by kernel_rfl) (by kernel_rfl) (fun _ _ _ h=>h) (Or.inl ⟨by rfl,?_⟩) (by assumption) ?_;rotate_left
 ·exact abD
 refine Mk.pt ?_;refine wpAnyH_take (i:=6) (v:=?_) rfl (by kernel_rfl) (by kernel_rfl) (by kernel_rfl) (fun _ _ _ h=>h) (Or.inl ⟨by rfl,?_⟩) (by assumption) ?_;rotate_left
 ·exact abD
 refine Mk.pt ?_;refine wpAnyH_take (i:=7) (v:=?_) rfl (by kernel_rfl) (by kernel_rfl) (by kernel_rfl) (fun _ _ _ h=>h) (Or.inl ⟨by rfl,?_⟩) (by assumption) ?_;rotate_left
 ·exact abD
 refine Mk.pt ?_;refine wpAnyH_take (i:=8) (v:=?_) rfl (by kernel_rfl) (by kernel_rfl) (by kernel_rfl) (fun _ _ _ h=>h) (Or.inl ⟨by rfl,?_⟩) (by assumption) ?_;rotate_left
 ·exact abD
 refine Mk.pt ?_;refine wpAnyH_take (i:=9) (v:=?_) rfl (by kernel_rfl) (by kernel_rfl) (by kernel_rfl) (fun _ _ _ h=>h) (Or.inl ⟨by rfl,?_⟩) (by assumption) ?_;rotate_left
 ·exact abD
 refine Mk.pt ?_;refine wpAnyH_take (i:=11) (v:=?_) rfl (by kernel_rfl) (by kernel_rfl) (by kernel_rfl) (fun _ _ _ h=>h) (Or.inl ⟨by rfl,?_⟩) (by assumption) ?_;rotate_left
 ·exact abD
 refine Mk.pt ?_;refine wpAnyH_take (i:=12) (v:=?_) rfl (by kernel_rfl) (by kernel_rfl) (by kernel_rfl) (fun _ _ _ h=>h) (Or.inl ⟨by rfl,?_⟩) (by assumption) ?_;rotate_left
 ·exact abD
 refine Mk.pt ?_;refine wpAnyH_take (i:=13) (v:=?_) rfl (by kernel_rfl) (by kernel_rfl) (by kernel_rfl) (fun _ _ _ h=>h) (Or.inl ⟨by rfl,?_⟩) (by assumption) ?_;rotate_left
 ·exact abD
 refine Mk.pt ?_;refine wpAnyH_take (i:=14) (v:=?_) rfl (by kernel_rfl) (by kernel_rfl) (by kernel_rfl) (fun _ _ _ h=>h) (Or.inl ⟨by rfl,?_⟩) (by assumption) ?_;rotate_left
 ·exact abD
 refine Mk.pt ?_;refine wpAnyH_take (i:=15) (v:=?_) rfl (by kernel_rfl) (by kernel_rfl) (by kernel_rfl) (fun _ _ _ h=>h) (Or.inl ⟨by rfl,?_⟩) (by assumption) ?_;rotate_left
 ·exact abD
 refine Mk.pt ?_;refine wpAnyH_take (i:=16) (v:=?_) rfl (by kernel_rfl) (by kernel_rfl) (by kernel_rfl) (fun _ _ _ h=>h) (Or.inl ⟨by rfl,?_⟩) (by assumption) ?_;rotate_left
 ·exact abD
 refine Mk.pt ?_;refine wpAnyH_take (i:=17) (v:=?_) rfl (by kernel_rfl) (by kernel_rfl) (by kernel_rfl) (fun _ _ _ h=>h) (Or.inl ⟨by rfl,?_⟩) (by assumption) ?_;rotate_left
 ·exact abD
 refine Mk.pt ?_;refine wpAnyH_take (i:=18) (v:=?_) rfl (by kernel_rfl) (by kernel_rfl) (by kernel_rfl) (fun _ _ _ h=>h) (Or.inl ⟨by rfl,?_⟩) (by assumption) ?_;rotate_left
 ·exact abD
 refine Mk.pt ?_;refine wpAnyH_take (i:=19) (v:=?_) rfl (by kernel_rfl) (by kernel_rfl) (by kernel_rfl) (fun _ _ _ h=>h) (Or.inl ⟨by rfl,?_⟩) (by assumption) ?_;rotate_left
 ·exact abD
 refine Mk.pt ?_;refine wpAnyH_take (i:=20) (v:=?_) rfl (by kernel_rfl) (by kernel_rfl) (by kernel_rfl) (fun _ _ _ h=>h) (Or.inl ⟨by rfl,?_⟩) (by assumption) ?_;rotate_left
 ·exact abD
 refine Mk.pt ?_;refine wpAnyH_ready (rs:=[10,21]) (by kernel_rfl) (by simp) ?_;refine AllReadyH.cons rfl (fun K hK=>?_) (AllReadyH.cons rfl (fun K hK=>?_) AllReadyH.nil)
 ·refine QX ?_;go_simp;refine hK.out _ _ al (fun al=>?_);clear hK K;refine Mk.pt ?_;refine wpAnyH_ready (rs:=[21]) (by kernel_rfl) (by simp) ?_;refine AllReadyH.cons rfl (fun K hK=>?_) AllReadyH.nil;refine QX ?_;go_simp;refine hK.out _ _ (by have:=al;exact ⟨by go_simp,by go_simp,by go_simp⟩) (fun al=>?_);clear hK K;exact adr
 ·refine QX ?_;go_simp;refine hK.out _ _ (by have:=al;exact ⟨by go_simp,by go_simp,by go_simp⟩) (fun al=>?_);clear hK K;refine Mk.pt ?_;refine wpAnyH_ready (rs:=[10]) (by kernel_rfl) (by simp) ?_;refine AllReadyH.cons rfl (fun K hK=>?_) AllReadyH.nil;refine QX ?_;go_simp;refine hK.out _ _ al (fun al=>?_);clear hK K;exact adr
end
section
variable {w w':World} {C C':Co} {U U':Ru} {RO RO':List Nat} {K:Kc} {p:aO} {c:Cp} {t:fI} {used:Int} {hv hv':Value} {jv jx:Nat->Value} {s s':St} {r r':Rn} {rv:Value} {mb rb:Nat}
theorem rJ (h:cD w C U RO K p c t used hv jv s r) (E:im K p c s) {q d:Nat} (hq:q < p.ap.length) (he:d<=1) {x:eW} (hh:r.hand=some x) (hx:s.f x.key=none) (hj:r.bm.length < 1000000):
 Calls Tryz.prog 221 #[ρ C.mb,ι q,ι d] w (bX w C.mb U.rb RO K p c t used (.bool (dt (aw p c) (s,r) q d).2) (dt (aw p c) (s,r) q d).1):=by
 have gR:=h.r.gm;rw [hh] at gR;obtain ⟨hb,Bp,XC,Jv,NI⟩:=gR;have oC:w.cell? (π C.mb 60)=some (ρ U.rb):=h.m.aM.cell 60;have r4:w.cell? (π U.rb 4)=some hv:=h.r.c_.cell 4;rw [XC] at r4;have rf:∀o,w.frozen? (π U.rb o)=false:=h.r.c_.frozen;have lm:=h.m.aM.lt;have lr:=h.r.c_.lt;have lh:=Jv.lt;have Th:=Jv;unfold aH at Th;obtain ⟨e0,e1,e2,e3,e4,-⟩:=jc Th;have hA:=(h.box (.cells (aH x) 118)).iu 4 ν (r':={r with hand:=none}) (hv':=ν) rfl rfl rfl rfl rfl rfl rfl;have hk:Kept RO w ((w.alloc (.cells (aH x) 118)).setCell (π U.rb 4) ν):=Kept.cE (S:=[U.rb]) (((ax.refl _ w).alloc _).setCell (by simp) _) (fun b hb hc=>by
  simp at hc;subst hc;exact h.sep.ur hb (by simp [Ru.l])) h.sep.cY
 have Ig:=((ay.new w 118 (aH x)).other (c:=U.rb) (by omega) 4 ν);rw [World.setCell_alloc_past _ _ _ _ lr] at hA hk Ig;unfold aH at Ig;obtain ⟨g0,g1,g2,g3,g4,-⟩:=jc Ig;have HL:=ae (Lw hA E hq he x hx hj);have HK:=ae hk;have HE:=ae (show dt (aw p c) (s,r) q d=gW (aw p c) (s,{r with hand:=none}) q d x by unfold dt oA;rw [hh];rfl);clear h hA hk Ig Jv Th hh hx hj XC E NI;unfold aH at HL HK;unfold bG at HL;rw [HE.o];generalize gW (aw p c) (s,{r with hand:=none}) q d x=z at*;go_enter Tryz.func221,Tryz.ntmps221;go_wp2_with fail;refine HL.o.mono ?_;intro e w5 hd;have mT:=hd.pre (RO:=RO) HK.o (fun b hb=>by simp [hb]);obtain ⟨rfl,fB⟩:=mT;have rK:=ae fB;clear hd fB HL;go_wp2;go_ret;exact ⟨rfl,rK.o⟩
theorem BS (h:cD w C U RO K p c t used hv jv s r) (E:im K p c s) (i:Ins) {q d:Nat} (ha:i.a=q) (ia:i.b=d) (hq:q < p.ap.length) (he:d<=1) (hf:s.f r.key=none) (hj:r.bm.length < 1000000):
 Calls Tryz.prog 121 #[ρ C.mb,aQ i] w (bX w C.mb U.rb RO K p c t used (.tuple #[]) (gW (aw p c) (s,r) q d ⟨r.key,fun _=>0⟩).1):=by
 have h1:=h.box (.cells (aA i) 40);have n1:=ay.new w 40 (aA i);have HN:=ae (nB h1 hf);have HB:=ae ((Below.refl w.heap.size w).alloc (Nat.le_refl _) (.cells (aA i) 40));have dh:=ae h.sep.cY;have HL:=ae (fun m=>Lw ((h1.drewN m).drewN 1) E hq he ⟨r.key,fun _=>0⟩ hf hj);have H1:=ae h1;obtain ⟨c0,c1,c2,c3,c4⟩:=bZ n1;rw [ha] at c1;rw [ia] at c2;have k60:(w.alloc (.cells (aA i) 40)).cell? (π C.mb 60)=some (ρ U.rb):=h1.m.aM.cell 60;have r0:=h1.r.c_.c1;clear h h1 n1 ha ia hf hj E;unfold bG at HL;generalize gW (aw p c) (s,r) q d ⟨r.key,fun _=>0⟩=z at*;generalize r.key=key at*;unfold aQ;unfold aA at*;go_enter Tryz.func121,Tryz.ntmps121;go_wp2_with fail;generalize w.alloc (.cells #[ι i.op,ι i.a,ι i.b,ι i.c,ι i.d] 40)=w1 at*;generalize eO:w.heap.size=bx at*;refine HN.o.mono ?_;rintro e w' ⟨rfl,m,rfl⟩;have Iw:=ae (HL.o m);have HK:=ae (Kept.ah (RO:=RO) (w:=w) (w':=(w1.drewN m).drewN 1) (by rw [eO];exact (HB.o.trans (au bx w1 m)).trans (au bx (w1.drewN m) 1)) (by rw [eO];exact dh.o));have d1:(w1.drewN m).cell? (π bx 1)=some (ι q):=c1;have d2:(w1.drewN m).cell? (π bx 2)=some (ι d):=c2;have d60:(w1.drewN m).cell? (π C.mb 60)=some (ρ U.rb):=k60;have d0:(w1.drewN m).cell? (π U.rb 0)=some (.int .u64 key):=r0;clear HN HL c0 c1 c2 c3 c4 k60 r0;generalize w1.drewN m=w2 at*;go_wp2_with fail
 go_still_tail 13,(by kernel_rfl)
 change wpList _ _ _ _ _ (w2.drewN 1);generalize w2.drewN 1=w3 at*;go_wp2_with fail;refine Iw.o.mono ?_;intro e w5 hd;have mT:=hd.pre (RO:=RO) HK.o (fun b hb=>by simp [hb]);obtain ⟨rfl,RO',ho,dK,hk⟩:=mT;have rK:=ae (show bX w C.mb U.rb RO K p c t used (.tuple #[]) z.1 (.returned (.tuple #[])) w5 from ⟨rfl,RO',ho,dK,hk⟩);clear hd dK hk ho Iw;go_wp2;exact bodyPost_ret (results_none rfl _ _ _) rfl rK.o
theorem aet {p:Prop} (h:p:=by
 go_wp2;exact bodyPost_ret (results_none rfl _ _ _) rfl ⟨rfl,_,fun b hb=>by simp [hb],(HH.o.iu 6 (ι 3) (r':=r.dG 3) rfl rfl rfl rfl rfl rfl HH.o.r.gm).jy,HK.o⟩):p:=h
theorem acH {p:Prop} (h:p:=by
 go_wp2_with fail;generalize w.alloc (.cells #[ι i.op,ι i.a,ι i.b,ι i.c,ι i.d] 40)=w1 at*;generalize eO:w.heap.size=bx at*;refine HN.o.mono ?_;rintro e w' ⟨rfl,m,rfl⟩;have HH:=ae (H1.o.drewN m);have oC:(w1.drewN m).cell? (π C.mb 60)=some (ρ U.rb):=HH.o.m.aM.cell 60;have r6:(w1.drewN m).cell? (π U.rb 6)=some (ι r.br):=HH.o.r.c_.cell 6;have rf:∀o,(w1.drewN m).frozen? (π U.rb o)=false:=HH.o.r.c_.frozen;have HK:=ae ((Kept.ah (RO:=RO) (w:=w) (w':=w1.drewN m) (by rw [eO];exact HB.o.trans (au bx w1 m)) (by rw [eO];exact dh.o)).trans (Kept.cE (RO:=RO) (S:=U.l) ((ax.refl _ (w1.drewN m)).setCell (p:=(π U.rb 6)) (by simp [Ru.l]) (ι 3)) (fun b hb=>HH.o.sep.ur (by simp [hb])) (fun b hb=>HH.o.sep.cY b (by simp [hb]))) (fun b hb=>hb));clear HN;generalize w1.drewN m=w2 at*;exact aet):p:=h
theorem BT (h:cD w C U RO K p c t used hv jv s r) (i:Ins) {n q:Nat} (hf:s.f r.key=some n) (hq:q < p.ap.length) (hn:n∈s.a.ls q):
 Calls Tryz.prog 121 #[ρ C.mb,aQ i] w (bX w C.mb U.rb RO K p c t used (.tuple #[]) (s,r.dG 3)):=by
 have h1:=h.box (.cells (aA i) 40);have HN:=ae (kZ h1 hf hq hn);have HB:=ae ((Below.refl w.heap.size w).alloc (Nat.le_refl _) (.cells (aA i) 40));have dh:=ae h.sep.cY;have H1:=ae h1;clear h h1 hf hn;unfold aQ;unfold aA at*;go_enter Tryz.func121,Tryz.ntmps121;exact acH
theorem Iy (h:cD w C U RO K p c t used hv jv s r) (i:Ins) (hf:s.f r.key=none):
 Calls Tryz.prog 122 #[ρ C.mb,aQ i] w (bX w C.mb U.rb RO K p c t used (.tuple #[]) (s,r.dG 3)):=by
 have h1:=h.box (.cells (aA i) 40);have HN:=ae (nB h1 hf);have HB:=ae ((Below.refl w.heap.size w).alloc (Nat.le_refl _) (.cells (aA i) 40));have dh:=ae h.sep.cY;have H1:=ae h1;clear h h1 hf;unfold aQ;unfold aA at*;go_enter Tryz.func122,Tryz.ntmps122;exact acH
theorem BU (h:cD w C U RO K p c t used hv jv s r) (i:Ins) (hf:s.f r.key=none):
 Calls Tryz.prog 123 #[ρ C.mb,aQ i] w (bX w C.mb U.rb RO K p c t used (.tuple #[]) (s,r.dG 3)):=by
 have h1:=h.box (.cells (aA i) 40);have HN:=ae (nB h1 hf);have HB:=ae ((Below.refl w.heap.size w).alloc (Nat.le_refl _) (.cells (aA i) 40));have dh:=ae h.sep.cY;have H1:=ae h1;clear h h1 hf;unfold aQ;unfold aA at*;go_enter Tryz.func123,Tryz.ntmps123;exact acH
theorem BV (h:cD w C U RO K p c t used hv jv s r) (i:Ins) {n q:Nat} (hf:s.f r.key=some n) (hq:q < p.ap.length) (hn:n∈s.a.ls q) (hg:p.ap.getD q false=false):
 Calls Tryz.prog 123 #[ρ C.mb,aQ i] w (bX w C.mb U.rb RO K p c t used (.tuple #[]) (s,r.dG 3)):=by
 have h1:=h.box (.cells (aA i) 40);have HN:=ae (kZ h1 hf hq hn);have HB:=ae ((Below.refl w.heap.size w).alloc (Nat.le_refl _) (.cells (aA i) 40));have dh:=ae h.sep.cY;have H1:=ae h1;obtain ⟨gb,kw,jZ,vM,uv⟩:=h1.mx.ap hq;have k0:(w.alloc (.cells (aA i) 40)).cell? (π C.mb 0)=some K.g:=h1.m.aM.cell 0;rw [jZ] at k0;rw [hg] at uv;clear h h1 hf hn jZ vM hg;generalize p.ap.length=ng at*;unfold aQ;unfold aA at*;go_enter Tryz.func123,Tryz.ntmps123;go_wp2_with fail;generalize w.alloc (.cells #[ι i.op,ι i.a,ι i.b,ι i.c,ι i.d] 40)=w1 at*;generalize eO:w.heap.size=bx at*;refine HN.o.mono ?_;rintro e w' ⟨rfl,m,rfl⟩;have HH:=ae (H1.o.drewN m);have oC:(w1.drewN m).cell? (π C.mb 60)=some (ρ U.rb):=HH.o.m.aM.cell 60;have r6:(w1.drewN m).cell? (π U.rb 6)=some (ι r.br):=HH.o.r.c_.cell 6;have rf:∀o,(w1.drewN m).frozen? (π U.rb o)=false:=HH.o.r.c_.frozen;have d0:(w1.drewN m).cell? (π C.mb 0)=some (.slice (some (π gb 0)) ng kw):=k0;have dg:(w1.drewN m).cell? (π gb q)=some (.bool false):=uv;have HK:=ae ((Kept.ah (RO:=RO) (w:=w) (w':=w1.drewN m) (by rw [eO];exact HB.o.trans (au bx w1 m)) (by rw [eO];exact dh.o)).trans (Kept.cE (RO:=RO) (S:=U.l) ((ax.refl _ (w1.drewN m)).setCell (p:=(π U.rb 6)) (by simp [Ru.l]) (ι 3)) (fun b hb=>HH.o.sep.ur (by simp [hb])) (fun b hb=>HH.o.sep.cY b (by simp [hb]))) (fun b hb=>hb));clear HN k0 uv;generalize w1.drewN m=w2 at*;exact aet
theorem BW (h:cD w C U RO K p c t used hv jv s r) (E:im K p c s) (i:Ins) {n q:Nat} (hf:s.f r.key=some n) (hq:q < p.ap.length) (hn:n∈s.a.ls q) (hg:p.ap.getD q false=true) (hj:r.bm.length < 1000000):
 Calls Tryz.prog 123 #[ρ C.mb,aQ i] w (bX w C.mb U.rb RO K p c t used (.tuple #[]) (ry (aw p c) (s,r) n q)):=by
 have h1:=h.box (.cells (aA i) 40);have HN:=ae (kZ h1 hf hq hn);have HB:=ae ((Below.refl w.heap.size w).alloc (Nat.le_refl _) (.cells (aA i) 40));have dh:=ae h.sep.cY;have Er:=ae (fun m=>Ro (h1.drewN m) E hq hn hj);obtain ⟨gb,kw,jZ,vM,uv⟩:=h1.mx.ap hq;have k0:(w.alloc (.cells (aA i) 40)).cell? (π C.mb 0)=some K.g:=h1.m.aM.cell 0;rw [jZ] at k0;rw [hg] at uv;clear h h1 hf hn jZ vM hg E;generalize ry (aw p c) (s,r) n q=z at*;generalize p.ap.length=ng at*;unfold aQ;unfold aA at*;go_enter Tryz.func123,Tryz.ntmps123;go_wp2_with fail;generalize w.alloc (.cells #[ι i.op,ι i.a,ι i.b,ι i.c,ι i.d] 40)=w1 at*;generalize eO:w.heap.size=bx at*;refine HN.o.mono ?_;rintro e w' ⟨rfl,m,rfl⟩;have ux:=ae (Er.o m);have d0:(w1.drewN m).cell? (π C.mb 0)=some (.slice (some (π gb 0)) ng kw):=k0;have dg:(w1.drewN m).cell? (π gb q)=some (.bool true):=uv;have HK:=ae (Kept.ah (RO:=RO) (w:=w) (w':=w1.drewN m) (by rw [eO];exact HB.o.trans (au bx w1 m)) (by rw [eO];exact dh.o));clear HN k0 uv Er;generalize w1.drewN m=w2 at*;go_wp2_with fail;refine ux.o.mono ?_;intro e w5 hd;have mT:=hd.pre (RO:=RO) HK.o (fun b hb=>by simp [hb]);obtain ⟨rfl,RO',ho,dK,hk⟩:=mT;have rK:=ae (show bX w C.mb U.rb RO K p c t used (.tuple #[]) z (.returned (.tuple #[])) w5 from ⟨rfl,RO',ho,dK,hk⟩);clear hd dK hk ho ux;go_wp2;exact bodyPost_ret (results_none rfl _ _ _) rfl rK.o
end
section
variable {w w':World} {C C':Co} {U U':Ru} {RO RO':List Nat} {K:Kc} {p:aO} {c:Cp} {t:fI} {used:Int} {hv hv':Value} {jv jx:Nat->Value} {s s':St} {r r':Rn} {rv:Value} {mb rb:Nat}
theorem zM (h:cD w C U RO K p c t used hv jv s r) (E:im K p c s) {q d:Nat} (hq:q < p.ap.length) (he:d<=1) (hj:r.bm.length < 1000000):
 Calls Tryz.prog 220 #[ρ C.mb,ι q,ι d] w (bX w C.mb U.rb RO K p c t used (.bool (bi (aw p c) (s,r) q d).2) (bi (aw p c) (s,r) q d).1):=by
 unfold bi;dsimp only;by_cases bz:s.a.ls q=[]
 ·rw [if_pos bz];exact jV h hq bz
 ·rw [if_neg bz];exact pd h E hq he bz hj
theorem abS {p:Prop} (h:p:=by
 go_wp2;exact bodyPost_ret (results_none rfl _ _ _) rfl rK.o):p:=h
theorem Ti (h:cD w C U RO K p c t used hv jv s r) (i:Ins) (E:im K p c s) {q d:Nat} (ha:i.a=q) (ia:i.b=d) (hq:q < p.ap.length) (he:d<=1) (hj:r.bm.length < 1000000):
 Calls Tryz.prog 124 #[ρ C.mb,aQ i] w (bX w C.mb U.rb RO K p c t used (.tuple #[]) (bi (aw p c) (s,r) q d).1):=by
 have h1:=h.box (.cells (aA i) 40);have n1:=ay.new w 40 (aA i);have HB:=ae (Kept.ah (RO:=RO) ((Below.refl w.heap.size w).alloc (Nat.le_refl _) (.cells (aA i) 40)) h.sep.cY);obtain ⟨c0,c1,c2,c3,c4⟩:=bZ n1;rw [ha] at c1;rw [ia] at c2;have HC:=ae (zM h1 E hq he hj);have N1:=ae n1;clear h h1 n1 ha ia hj E;unfold aQ;unfold aA at*;go_enter Tryz.func124,Tryz.ntmps124;go_wp2_with fail;refine HC.o.mono ?_;intro e w5 hd;obtain ⟨rfl,RO',ho,dK,hk⟩:=hd.pre (RO:=RO) HB.o (fun b hb=>by simp [hb]);have rK:=ae (show bX w C.mb U.rb RO K p c t used (.tuple #[]) (bi (aw p c) (s,r) q d).1 (.returned (.tuple #[])) w5 from ⟨rfl,RO',ho,dK,hk⟩);clear hd dK hk ho HC c0 c1 c2 c3 c4;exact abS
theorem Tj (h:cD w C U RO K p c t used hv jv s r) (i:Ins) (E:im K p c s) {q d:Nat} (ha:i.a=q) (ia:i.b=d) (hq:q < p.ap.length) (he:d<=1) {x:eW} (hh:r.hand=some x) (hx:s.f x.key=none) (hj:r.bm.length < 1000000):
 Calls Tryz.prog 125 #[ρ C.mb,aQ i] w (bX w C.mb U.rb RO K p c t used (.tuple #[]) (dt (aw p c) (s,r) q d).1):=by
 have h1:=h.box (.cells (aA i) 40);have n1:=ay.new w 40 (aA i);have HB:=ae (Kept.ah (RO:=RO) ((Below.refl w.heap.size w).alloc (Nat.le_refl _) (.cells (aA i) 40)) h.sep.cY);obtain ⟨c0,c1,c2,c3,c4⟩:=bZ n1;rw [ha] at c1;rw [ia] at c2;have HC:=ae (rJ h1 E hq he hh hx hj);have N1:=ae n1;clear h h1 n1 ha ia hj E hh hx;unfold aQ;unfold aA at*;go_enter Tryz.func125,Tryz.ntmps125;go_wp2_with fail;refine HC.o.mono ?_;intro e w5 hd;obtain ⟨rfl,RO',ho,dK,hk⟩:=hd.pre (RO:=RO) HB.o (fun b hb=>by simp [hb]);have rK:=ae (show bX w C.mb U.rb RO K p c t used (.tuple #[]) (dt (aw p c) (s,r) q d).1 (.returned (.tuple #[])) w5 from ⟨rfl,RO',ho,dK,hk⟩);clear hd dK hk ho HC c0 c1 c2 c3 c4;exact abS
theorem Tk (h:cD w C U RO K p c t used hv jv s r) (i:Ins) {y:eW} (hh:r.hand=some y) (hl:r.told.length < 1000000):
 Calls Tryz.prog 126 #[ρ C.mb,aQ i] w (bX w C.mb U.rb RO K p c t used (.tuple #[]) (fY (s,r))):=by
 have h1:=h.box (.cells (aA i) 40);have n1:=ay.new w 40 (aA i);have HB:=ae (Kept.ah (RO:=RO) ((Below.refl w.heap.size w).alloc (Nat.le_refl _) (.cells (aA i) 40)) h.sep.cY);obtain ⟨c0,c1,c2,c3,c4⟩:=bZ n1;have e0:fY (s,r)=(s,{r with told:=r.told++[y.key]}):=by show (s,{r with told:=r.told++[(r.hand.getD dI).key]})=_;rw [show r.hand.getD dI=y by rw [hh];rfl]
 rw [e0];have HC:=ae (zJ h1 hh hl);have N1:=ae n1;clear h h1 n1 hh hl e0;unfold aQ;unfold aA at*;go_enter Tryz.func126,Tryz.ntmps126;go_wp2_with fail;refine HC.o.mono ?_;intro e w5 hd;obtain ⟨rfl,RO',ho,dK,hk⟩:=hd.pre (RO:=RO) HB.o (fun b hb=>by simp [hb]);have rK:=ae (show bX w C.mb U.rb RO K p c t used (.tuple #[]) (s,{r with told:=r.told++[y.key]}) (.returned (.tuple #[])) w5 from ⟨rfl,RO',ho,dK,hk⟩);clear hd dK hk ho HC c0 c1 c2 c3 c4;exact abS
theorem Pr (h:cD w C U RO K p c t used hv jv s r) (i:Ins):
 Calls Tryz.prog 127 #[ρ C.mb,aQ i] w (bX w C.mb U.rb RO K p c t used (.tuple #[]) (fG (s,r))):=by
 have h1:=h.box (.cells (aA i) 40);have n1:=ay.new w 40 (aA i);have HB:=ae (Kept.ah (RO:=RO) ((Below.refl w.heap.size w).alloc (Nat.le_refl _) (.cells (aA i) 40)) h.sep.cY);obtain ⟨c0,c1,c2,c3,c4⟩:=bZ n1;have HC:=ae (vS h1);have N1:=ae n1;clear h h1 n1;unfold aQ;unfold aA at*;go_enter Tryz.func127,Tryz.ntmps127;go_wp2_with fail;refine HC.o.mono ?_;intro e w5 hd;obtain ⟨rfl,RO',ho,dK,hk⟩:=hd.pre (RO:=RO) HB.o (fun b hb=>by simp [hb]);have rK:=ae (show bX w C.mb U.rb RO K p c t used (.tuple #[]) (fG (s,r)) (.returned (.tuple #[])) w5 from ⟨rfl,RO',ho,dK,hk⟩);clear hd dK hk ho HC c0 c1 c2 c3 c4;exact abS
theorem ace {p:Prop} (h:p:=by
 go_wp2_with fail;refine HC.o.mono ?_;intro e w5 hd;obtain ⟨rfl,RO',ho,dK,hk⟩:=hd.pre (RO:=RO) HB.o (fun b hb=>by simp [hb]);have rK:=ae (show bX w C.mb U.rb RO K p c t used (.tuple #[]) (s,r.dG 2) (.returned (.tuple #[])) w5 from ⟨rfl,RO',ho,dK,hk⟩);clear hd dK hk ho HC c0 c1 c2 c3 c4;exact abS):p:=h
theorem Et (h:cD w C U RO K p c t used hv jv s r) (i:Ins) {q d:Nat} (ha:i.a=q) (ia:i.b=d) (hq:q < p.ap.length) (he:d<=1) (bz:s.a.ls q=[]):
 Calls Tryz.prog 131 #[ρ C.mb,aQ i] w (bX w C.mb U.rb RO K p c t used (.tuple #[]) (s,r.dG 2)):=by
 have h1:=h.box (.cells (aA i) 40);have n1:=ay.new w 40 (aA i);have HB:=ae (Kept.ah (RO:=RO) ((Below.refl w.heap.size w).alloc (Nat.le_refl _) (.cells (aA i) 40)) h.sep.cY);obtain ⟨c0,c1,c2,c3,c4⟩:=bZ n1;rw [ha] at c1;rw [ia] at c2;have HC:=ae (jV (d:=d) h1 hq bz);have N1:=ae n1;clear h h1 n1 ha ia bz;unfold aQ;unfold aA at*;go_enter Tryz.func131,Tryz.ntmps131;exact ace
theorem Ps (h:cD w C U RO K p c t used hv jv s r) (i:Ins) (E:im K p c s) {q d:Nat} (ha:i.a=q) (ia:i.b=d) (hq:q < p.ap.length) (he:d<=1) (hj:r.bm.length < 999990) (bz:s.a.ls q≠[]):
 Calls Tryz.prog 131 #[ρ C.mb,aQ i] w (bX w C.mb U.rb RO K p c t used (.tuple #[]) (fG (jn (aw p c) s q d,{r.note (.put q d (s.a.val (ck s.a q d))) with hand:=some (s.a.val (ck s.a q d))}))):=by
 have h1:=h.box (.cells (aA i) 40);have n1:=ay.new w 40 (aA i);have HB:=ae (Kept.ah (RO:=RO) ((Below.refl w.heap.size w).alloc (Nat.le_refl _) (.cells (aA i) 40)) h.sep.cY);obtain ⟨c0,c1,c2,c3,c4⟩:=bZ n1;rw [ha] at c1;rw [ia] at c2;have HC:=ae (pd h1 E hq he bz (by omega));have E2:im K p c (jn (aw p c) s q d):=⟨jM E.inv hq (fi bz),E.gQ,E.nd,E.BP,E.g16,E.t4⟩;have tL:(jn (aw p c) s q d).f (s.a.val (ck s.a q d)).key=none:=an _ _ _;have nC:=ae E2;have lN:=ae tL;have HJ:=ae hj;have N1:=ae n1;clear h h1 n1 ha ia hj E bz E2 tL;unfold aQ;unfold aA at*;go_enter Tryz.func131,Tryz.ntmps131;go_wp2_with fail;generalize hy:s.a.val (ck s.a q d)=y at*;generalize hz:jn (aw p c) s q d=z at*;have XD:=ae (And.intro hy hz);clear hy hz;generalize eO:w.heap.size=bx at*;refine HC.o.mono ?_;rintro e w3 ⟨rfl,Dg,BX,⟨C3,U3,Ld,ς,sN,sO,A3⟩,iO⟩;obtain ⟨i0,i1,i2,i3,i4⟩:=bZ (i:=i) (ay.jU N1.o iO (by simp));have hn:=vS A3;rw [sN,sO] at hn;have HN:=ae hn;have K3:=ae (HB.o.trans iO (fun b hb=>by simp [hb]));have LC:=ae (show ∀b,b∈bx::RO->b∈Dg from BX);clear HC A3 hn iO BX sN sO c0 c1 c2 c3 c4 i0 i1 i2 i3 i4;go_wp2_with fail;refine HN.o.mono ?_;intro e w5 hd;obtain ⟨rfl,RO',ho,dK,hk⟩:=hd.pre (RO:=RO) K3.o (fun b hb=>LC.o b (by simp [hb]));have rK:=ae (show bX w C.mb U.rb RO K p c t used (.tuple #[]) (fG (z,{r.note (.put q d (y)) with hand:=some (y)})) (.returned (.tuple #[])) w5 from ⟨rfl,RO',ho,dK,hk⟩);clear hd dK hk ho;exact abS
theorem Tl (h:cD w C U RO K p c t used hv jv s r) (i:Ins) (E:im K p c s) {q d:Nat} (ha:i.a=q) (ia:i.b=d) (hq:q < p.ap.length) (he:d<=1) (hj:r.bm.length < 999990):
 Calls Tryz.prog 131 #[ρ C.mb,aQ i] w (bX w C.mb U.rb RO K p c t used (.tuple #[]) (rz (aw p c) i (s,r))):=by
 have Hs:N i.a=q:=by unfold N;rw [ha];rfl
 have Tm:N i.b=d:=by unfold N;rw [ia];rfl
 unfold rz bi;dsimp only;rw [Hs,Tm];by_cases bz:s.a.ls q=[]
 ·rw [if_pos bz];exact Et h i ha ia hq he bz
 ·rw [if_neg bz];exact Ps h i E ha ia hq he hj bz
theorem BY (h:cD w C U RO K p c t used hv jv s r) (i:Ins) {q d:Nat} (ha:i.a=q) (ia:i.b=d) (hq:q < p.ap.length) (he:d<=1) (bz:s.a.ls q=[]):
 Calls Tryz.prog 128 #[ρ C.mb,aQ i] w (bX w C.mb U.rb RO K p c t used (.tuple #[]) (s,r.dG 2)):=by
 have h1:=h.box (.cells (aA i) 40);have n1:=ay.new w 40 (aA i);have HB:=ae (Kept.ah (RO:=RO) ((Below.refl w.heap.size w).alloc (Nat.le_refl _) (.cells (aA i) 40)) h.sep.cY);obtain ⟨c0,c1,c2,c3,c4⟩:=bZ n1;rw [ha] at c1;rw [ia] at c2;have HC:=ae (jV (d:=d) h1 hq bz);have N1:=ae n1;clear h h1 n1 ha ia bz;unfold aQ;unfold aA at*;go_enter Tryz.func128,Tryz.ntmps128;exact ace
theorem LD (h:cD w C U RO K p c t used hv jv s r) (i:Ins) (E:im K p c s) {q d:Nat} (ha:i.a=q) (ia:i.b=d) (hq:q < p.ap.length) (he:d<=1) {q2 d2:Nat} (lF:i.c=q2) (fB:i.d=d2) (kO:q2 < p.ap.length) (Jw:d2<=1) (hj:r.bm.length < 999990) (bz:s.a.ls q≠[]):
 Calls Tryz.prog 128 #[ρ C.mb,aQ i] w (bX w C.mb U.rb RO K p c t used (.tuple #[]) (dt (aw p c) (jn (aw p c) s q d,{r.note (.put q d (s.a.val (ck s.a q d))) with hand:=some (s.a.val (ck s.a q d))}) q2 d2).1):=by
 have h1:=h.box (.cells (aA i) 40);have n1:=ay.new w 40 (aA i);have HB:=ae (Kept.ah (RO:=RO) ((Below.refl w.heap.size w).alloc (Nat.le_refl _) (.cells (aA i) 40)) h.sep.cY);obtain ⟨c0,c1,c2,c3,c4⟩:=bZ n1;rw [ha] at c1;rw [ia] at c2;rw [lF] at c3;rw [fB] at c4;have HC:=ae (pd h1 E hq he bz (by omega));have E2:im K p c (jn (aw p c) s q d):=⟨jM E.inv hq (fi bz),E.gQ,E.nd,E.BP,E.g16,E.t4⟩;have tL:(jn (aw p c) s q d).f (s.a.val (ck s.a q d)).key=none:=an _ _ _;have nC:=ae E2;have lN:=ae tL;have HJ:=ae hj;have N1:=ae n1;have Pt:=ae lF;have Pu:=ae fB;clear h h1 n1 ha ia hj E bz E2 tL lF fB;unfold aQ;unfold aA at*;go_enter Tryz.func128,Tryz.ntmps128;go_wp2_with fail;generalize hy:s.a.val (ck s.a q d)=y at*;generalize hz:jn (aw p c) s q d=z at*;have XD:=ae (And.intro hy hz);clear hy hz;generalize eO:w.heap.size=bx at*;refine HC.o.mono ?_;rintro e w3 ⟨rfl,Dg,BX,⟨C3,U3,Ld,ς,sN,sO,A3⟩,iO⟩;obtain ⟨i0,i1,i2,i3,i4⟩:=bZ (i:=i) (ay.jU N1.o iO (by simp));rw [Pt.o] at i3;rw [Pu.o] at i4;have hn:=rJ A3 nC.o kO Jw (x:=y) rfl lN.o (by have:=HJ.o;simp [Rn.note];omega);rw [sN,sO] at hn;have HN:=ae hn;have K3:=ae (HB.o.trans iO (fun b hb=>by simp [hb]));have LC:=ae (show ∀b,b∈bx::RO->b∈Dg from BX);clear HC A3 hn iO BX sN sO c0 c1 c2 c3 c4 i0 i1 i2;go_wp2_with fail;refine HN.o.mono ?_;intro e w5 hd;obtain ⟨rfl,RO',ho,dK,hk⟩:=hd.pre (RO:=RO) K3.o (fun b hb=>LC.o b (by simp [hb]));have rK:=ae (show bX w C.mb U.rb RO K p c t used (.tuple #[]) (dt (aw p c) (z,{r.note (.put q d (y)) with hand:=some (y)}) q2 d2).1 (.returned (.tuple #[])) w5 from ⟨rfl,RO',ho,dK,hk⟩);clear hd dK hk ho;exact abS
theorem Pv (h:cD w C U RO K p c t used hv jv s r) (i:Ins) (E:im K p c s) {q d:Nat} (ha:i.a=q) (ia:i.b=d) (hq:q < p.ap.length) (he:d<=1) {q2 d2:Nat} (lF:i.c=q2) (fB:i.d=d2) (kO:q2 < p.ap.length) (Jw:d2<=1) (hj:r.bm.length < 999990):
 Calls Tryz.prog 128 #[ρ C.mb,aQ i] w (bX w C.mb U.rb RO K p c t used (.tuple #[]) (nX (aw p c) i (s,r))):=by
 have Hs:N i.a=q:=by unfold N;rw [ha];rfl
 have Tm:N i.b=d:=by unfold N;rw [ia];rfl
 have hNc:N i.c=q2:=by unfold N;rw [lF];rfl
 have hNd:N i.d=d2:=by unfold N;rw [fB];rfl
 unfold nX bi;dsimp only;rw [Hs,Tm,hNc,hNd];by_cases bz:s.a.ls q=[]
 ·rw [if_pos bz];exact BY h i ha ia hq he bz
 ·rw [if_neg bz];exact LD h i E ha ia hq he lF fB kO Jw hj bz
theorem BZ (h:cD w C U RO K p c t used hv jv s r) (i:Ins) {q d:Nat} (ha:i.a=q) (ia:i.b=d) (hq:q < p.ap.length) (he:d<=1) (bz:s.a.ls q=[]):
 Calls Tryz.prog 130 #[ρ C.mb,aQ i] w (bX w C.mb U.rb RO K p c t used (.tuple #[]) (s,r.dG 2)):=by
 have h1:=h.box (.cells (aA i) 40);have n1:=ay.new w 40 (aA i);have HB:=ae (Kept.ah (RO:=RO) ((Below.refl w.heap.size w).alloc (Nat.le_refl _) (.cells (aA i) 40)) h.sep.cY);obtain ⟨c0,c1,c2,c3,c4⟩:=bZ n1;rw [ha] at c1;rw [ia] at c2;have HC:=ae (jV (d:=d) h1 hq bz);have N1:=ae n1;clear h h1 n1 ha ia bz;unfold aQ;unfold aA at*;go_enter Tryz.func130,Tryz.ntmps130;exact ace
theorem LF (h:cD w C U RO K p c t used hv jv s r) (i:Ins) (E:im K p c s) {q d:Nat} (ha:i.a=q) (ia:i.b=d) (hq:q < p.ap.length) (he:d<=1) (hj:r.bm.length < 999990) (hl:r.told.length < 1000000) (bz:s.a.ls q≠[]):
 Calls Tryz.prog 130 #[ρ C.mb,aQ i] w (bX w C.mb U.rb RO K p c t used (.tuple #[]) (fG (fY (jn (aw p c) s q d,{r.note (.put q d (s.a.val (ck s.a q d))) with hand:=some (s.a.val (ck s.a q d))})))):=by
 have h1:=h.box (.cells (aA i) 40);have n1:=ay.new w 40 (aA i);have HB:=ae (Kept.ah (RO:=RO) ((Below.refl w.heap.size w).alloc (Nat.le_refl _) (.cells (aA i) 40)) h.sep.cY);obtain ⟨c0,c1,c2,c3,c4⟩:=bZ n1;rw [ha] at c1;rw [ia] at c2;have HC:=ae (pd h1 E hq he bz (by omega));have E2:im K p c (jn (aw p c) s q d):=⟨jM E.inv hq (fi bz),E.gQ,E.nd,E.BP,E.g16,E.t4⟩;have tL:(jn (aw p c) s q d).f (s.a.val (ck s.a q d)).key=none:=an _ _ _;have nC:=ae E2;have lN:=ae tL;have HJ:=ae hj;have HL:=ae hl;have N1:=ae n1;clear h h1 n1 ha ia hj E bz E2 tL hl;unfold aQ;unfold aA at*;go_enter Tryz.func130,Tryz.ntmps130;go_wp2_with fail;generalize hy:s.a.val (ck s.a q d)=y at*;generalize hz:jn (aw p c) s q d=z at*;have XD:=ae (And.intro hy hz);clear hy hz;generalize eO:w.heap.size=bx at*;refine HC.o.mono ?_;rintro e w3 ⟨rfl,Dg,BX,⟨C3,U3,Ld,ς,sN,sO,A3⟩,iO⟩;obtain ⟨i0,i1,i2,i3,i4⟩:=bZ (i:=i) (ay.jU N1.o iO (by simp));have hn:=zJ A3 (y:=y) rfl HL.o;rw [sN,sO] at hn;have Dh:=ae iO;have HN:=ae hn;have K3:=ae (HB.o.trans iO (fun b hb=>by simp [hb]));have LC:=ae (show ∀b,b∈bx::RO->b∈Dg from BX);clear HC A3 hn iO BX sN sO c0 c1 c2 c3 c4;go_wp2_with fail;refine HN.o.mono ?_;rintro e w4 ⟨rfl,Lh,Js,⟨C4,U4,ε,ζ,ue,zB,A4⟩,AI⟩;have b4:=ay.jU (ay.jU N1.o (show Kept (bx::RO) _ w3 from Dh.o) (by simp)) AI (LC.o bx (by simp));obtain ⟨g0,g1,g2,g3,g4⟩:=bZ (i:=i) b4;have ot:=vS A4;rw [ue,zB] at ot;have Jy:=ae ot;have K4:=ae (K3.o.trans AI (fun b hb=>LC.o b (by simp [hb])));have Td:=ae (show ∀b,b∈RO->b∈Lh from fun b hb=>Js b (LC.o b (by simp [hb])));clear HN A4 ot AI Js ue zB b4 i0 i1 i2 i3 i4 g0 g1 g2;go_wp2_with fail;refine Jy.o.mono ?_;intro e w5 hd;obtain ⟨rfl,RO',ho,dK,hk⟩:=hd.pre (RO:=RO) K4.o Td.o;have rK:=ae (show bX w C.mb U.rb RO K p c t used (.tuple #[]) (fG (fY (z,{r.note (.put q d (y)) with hand:=some (y)}))) (.returned (.tuple #[])) w5 from ⟨rfl,RO',ho,dK,hk⟩);clear hd dK hk ho;exact abS
theorem Pw (h:cD w C U RO K p c t used hv jv s r) (i:Ins) (E:im K p c s) {q d:Nat} (ha:i.a=q) (ia:i.b=d) (hq:q < p.ap.length) (he:d<=1) (hj:r.bm.length < 999990) (hl:r.told.length < 1000000):
 Calls Tryz.prog 130 #[ρ C.mb,aQ i] w (bX w C.mb U.rb RO K p c t used (.tuple #[]) (nZ (aw p c) i (s,r))):=by
 have Hs:N i.a=q:=by unfold N;rw [ha];rfl
 have Tm:N i.b=d:=by unfold N;rw [ia];rfl
 unfold nZ bi;dsimp only;rw [Hs,Tm];by_cases bz:s.a.ls q=[]
 ·rw [if_pos bz];exact BZ h i ha ia hq he bz
 ·rw [if_neg bz];exact LF h i E ha ia hq he hj hl bz
theorem B0 (h:cD w C U RO K p c t used hv jv s r) (i:Ins) {q d:Nat} (ha:i.a=q) (ia:i.b=d) (hq:q < p.ap.length) (he:d<=1) (bz:s.a.ls q=[]):
 Calls Tryz.prog 129 #[ρ C.mb,aQ i] w (bX w C.mb U.rb RO K p c t used (.tuple #[]) (s,r.dG 2)):=by
 have h1:=h.box (.cells (aA i) 40);have n1:=ay.new w 40 (aA i);have HB:=ae (Kept.ah (RO:=RO) ((Below.refl w.heap.size w).alloc (Nat.le_refl _) (.cells (aA i) 40)) h.sep.cY);obtain ⟨c0,c1,c2,c3,c4⟩:=bZ n1;rw [ha] at c1;rw [ia] at c2;have HC:=ae (jV (d:=d) h1 hq bz);have N1:=ae n1;clear h h1 n1 ha ia bz;unfold aQ;unfold aA at*;go_enter Tryz.func129,Tryz.ntmps129;exact ace
theorem LG (h:cD w C U RO K p c t used hv jv s r) (i:Ins) (E:im K p c s) {q d:Nat} (ha:i.a=q) (ia:i.b=d) (hq:q < p.ap.length) (he:d<=1) {q2 d2:Nat} (lF:i.c=q2) (fB:i.d=d2) (kO:q2 < p.ap.length) (Jw:d2<=1) (hj:r.bm.length < 999990) (hl:r.told.length < 1000000) (bz:s.a.ls q≠[]):
 Calls Tryz.prog 129 #[ρ C.mb,aQ i] w (bX w C.mb U.rb RO K p c t used (.tuple #[]) (dt (aw p c) (fY (jn (aw p c) s q d,{r.note (.put q d (s.a.val (ck s.a q d))) with hand:=some (s.a.val (ck s.a q d))})) q2 d2).1):=by
 have h1:=h.box (.cells (aA i) 40);have n1:=ay.new w 40 (aA i);have HB:=ae (Kept.ah (RO:=RO) ((Below.refl w.heap.size w).alloc (Nat.le_refl _) (.cells (aA i) 40)) h.sep.cY);obtain ⟨c0,c1,c2,c3,c4⟩:=bZ n1;rw [ha] at c1;rw [ia] at c2;rw [lF] at c3;rw [fB] at c4;have HC:=ae (pd h1 E hq he bz (by omega));have E2:im K p c (jn (aw p c) s q d):=⟨jM E.inv hq (fi bz),E.gQ,E.nd,E.BP,E.g16,E.t4⟩;have tL:(jn (aw p c) s q d).f (s.a.val (ck s.a q d)).key=none:=an _ _ _;have nC:=ae E2;have lN:=ae tL;have HJ:=ae hj;have HL:=ae hl;have N1:=ae n1;have Pt:=ae lF;have Pu:=ae fB;clear h h1 n1 ha ia hj E bz E2 tL lF fB hl;unfold aQ;unfold aA at*;go_enter Tryz.func129,Tryz.ntmps129;go_wp2_with fail;generalize hy:s.a.val (ck s.a q d)=y at*;generalize hz:jn (aw p c) s q d=z at*;have XD:=ae (And.intro hy hz);clear hy hz;generalize eO:w.heap.size=bx at*;refine HC.o.mono ?_;rintro e w3 ⟨rfl,Dg,BX,⟨C3,U3,Ld,ς,sN,sO,A3⟩,iO⟩;obtain ⟨i0,i1,i2,i3,i4⟩:=bZ (i:=i) (ay.jU N1.o iO (by simp));rw [Pt.o] at i3;rw [Pu.o] at i4;have hn:=zJ A3 (y:=y) rfl HL.o;rw [sN,sO] at hn;have Dh:=ae iO;have HN:=ae hn;have K3:=ae (HB.o.trans iO (fun b hb=>by simp [hb]));have LC:=ae (show ∀b,b∈bx::RO->b∈Dg from BX);clear HC A3 hn iO BX sN sO c0 c1 c2 c3 c4;go_wp2_with fail;refine HN.o.mono ?_;rintro e w4 ⟨rfl,Lh,Js,⟨C4,U4,ε,ζ,ue,zB,A4⟩,AI⟩;have b4:=ay.jU (ay.jU N1.o (show Kept (bx::RO) _ w3 from Dh.o) (by simp)) AI (LC.o bx (by simp));obtain ⟨g0,g1,g2,g3,g4⟩:=bZ (i:=i) b4;rw [Pt.o] at g3;rw [Pu.o] at g4;have ot:=rJ A4 nC.o kO Jw (x:=y) rfl lN.o (by have:=HJ.o;simp [Rn.note];omega);rw [ue,zB] at ot;have Jy:=ae ot;have K4:=ae (K3.o.trans AI (fun b hb=>LC.o b (by simp [hb])));have Td:=ae (show ∀b,b∈RO->b∈Lh from fun b hb=>Js b (LC.o b (by simp [hb])));clear HN A4 ot AI Js ue zB b4 i0 i1 i2 i3 i4 g0 g1 g2;go_wp2_with fail;refine Jy.o.mono ?_;intro e w5 hd;obtain ⟨rfl,RO',ho,dK,hk⟩:=hd.pre (RO:=RO) K4.o Td.o;have rK:=ae (show bX w C.mb U.rb RO K p c t used (.tuple #[]) (dt (aw p c) (fY (z,{r.note (.put q d (y)) with hand:=some (y)})) q2 d2).1 (.returned (.tuple #[])) w5 from ⟨rfl,RO',ho,dK,hk⟩);clear hd dK hk ho;exact abS
theorem Px (h:cD w C U RO K p c t used hv jv s r) (i:Ins) (E:im K p c s) {q d:Nat} (ha:i.a=q) (ia:i.b=d) (hq:q < p.ap.length) (he:d<=1) {q2 d2:Nat} (lF:i.c=q2) (fB:i.d=d2) (kO:q2 < p.ap.length) (Jw:d2<=1) (hj:r.bm.length < 999990) (hl:r.told.length < 1000000):
 Calls Tryz.prog 129 #[ρ C.mb,aQ i] w (bX w C.mb U.rb RO K p c t used (.tuple #[]) (nY (aw p c) i (s,r))):=by
 have Hs:N i.a=q:=by unfold N;rw [ha];rfl
 have Tm:N i.b=d:=by unfold N;rw [ia];rfl
 have hNc:N i.c=q2:=by unfold N;rw [lF];rfl
 have hNd:N i.d=d2:=by unfold N;rw [fB];rfl
 unfold nY bi;dsimp only;rw [Hs,Tm,hNc,hNd];by_cases bz:s.a.ls q=[]
 ·rw [if_pos bz];exact B0 h i ha ia hq he bz
 ·rw [if_neg bz];exact LG h i E ha ia hq he lF fB kO Jw hj hl bz
theorem Iz (h:cD w C U RO K p c t used hv jv s r) (E:im K p c s) (i:Ins) {n q q2 d:Nat} (ha:i.a=q2) (ia:i.b=d) (kO:q2 < p.ap.length) (he:d<=1) (hf:s.f r.key=some n) (hq:q < p.ap.length) (hn:n∈s.a.ls q) (hj:r.bm.length < 999990):
 Calls Tryz.prog 122 #[ρ C.mb,aQ i] w (bX w C.mb U.rb RO K p c t used (.tuple #[]) (gW (aw p c) (ry (aw p c) (s,r) n q) q2 d (s.a.val n)).1):=by
 have h1:=h.box (.cells (aA i) 40);have n1:=ay.new w 40 (aA i);have HN:=ae (kZ h1 hf hq hn);have HB:=ae ((Below.refl w.heap.size w).alloc (Nat.le_refl _) (.cells (aA i) 40));have dh:=ae h.sep.cY;have Er:=ae (fun m=>Ro ((h1.drewN m).drewN 1) E hq hn (by omega));obtain ⟨c0,c1,c2,c3,c4⟩:=bZ n1;rw [ha] at c1;rw [ia] at c2;have E2:im K p c (fR (aw p c) s q n):=⟨jM E.inv hq hn,E.gQ,E.nd,E.BP,E.g16,E.t4⟩;have tL:(fR (aw p c) s q n).f (s.a.val n).key=none:=an _ _ _;have nC:=ae E2;have lN:=ae tL;have HJ:=ae hj;have N1:=ae n1;have HX:=ae (And.intro ha ia);have hO:ry (aw p c) (s,r) n q=(fR (aw p c) s q n,r.note (.out q (s.a.val n) (bV (s.a.ls q) n))):=rfl;rw [hO] at Er;rw [hO];clear h h1 n1 hf hn E E2 tL hj ha ia hO;generalize hy:s.a.val n=y at*;generalize hz:fR (aw p c) s q n=z at*;generalize hu:r.note (.out q y (bV (s.a.ls q) n))=r2 at*;have XD:=ae (And.intro hy (And.intro hz hu));clear hy hz hu;unfold aQ;unfold aA at*;unfold bG at Er;go_enter Tryz.func122,Tryz.ntmps122;go_wp2_with fail;generalize w.alloc (.cells #[ι i.op,ι i.a,ι i.b,ι i.c,ι i.d] 40)=w1 at*;generalize eO:w.heap.size=bx at*;refine HN.o.mono ?_;rintro e w' ⟨rfl,m,rfl⟩;have ux:=ae (Er.o m);have d1:(w1.drewN m).cell? (π bx 1)=some (ι q2):=c1;have d2:(w1.drewN m).cell? (π bx 2)=some (ι d):=c2;have M1:=ae ((N1.o.drewN m).drewN 1);have HK:=ae (Kept.ah (RO:=RO) (w:=w) (w':=(w1.drewN m).drewN 1) (by rw [eO];exact (HB.o.trans (au bx w1 m)).trans (au bx (w1.drewN m) 1)) (by rw [eO];exact dh.o));clear HN c0 c1 c2 c3 c4 Er N1;generalize w1.drewN m=w2 at*;have C1:Hid (Calls Tryz.prog 219 #[ρ C.mb,ι n,ι q] (w2.drewN 1) fun e w3=>e= .returned (.agg #[.int .u64 y.key,ι (y.tg 0),ι (y.tg 1),ι (y.tg 2),ι (y.tg 3)])/\(w3.cell? (π bx 1)=some (ι q2)/\w3.cell? (π bx 2)=some (ι d))/\
  Hid (∃Dg,(∀b,b∈bx::RO->b∈Dg)/\In w3 C.mb U.rb Dg K p c t used (z,r2)/\Kept (bx::RO) (w2.drewN 1) w3)):=by
  refine ae (ux.o.mono ?_);rintro e w3 ⟨rfl,Dg,BX,aat,iO⟩;have b3:=ay.jU M1.o iO (by simp);have XE:=HX.o;exact ⟨rfl,⟨(b3.cell 1).trans (by rw [<-XE.1];rfl),(b3.cell 2).trans (by rw [<-XE.2];rfl)⟩,ae ⟨Dg,BX,aat,iO⟩⟩
 have C2:Hid (∀w3,(∃Dg,(∀b,b∈bx::RO->b∈Dg)/\In w3 C.mb U.rb Dg K p c t used (z,r2)/\Kept (bx::RO) (w2.drewN 1) w3)->Calls Tryz.prog 218 #[ρ C.mb,ι q2,ι d,.agg #[.int .u64 y.key,ι (y.tg 0),ι (y.tg 1),ι (y.tg 2),ι (y.tg 3)]] w3 fun e w4=>(∃b,e= .returned (.bool b))/\(w4.cell? (π bx 1)=some (ι q2)/\w4.cell? (π bx 2)=some (ι d))/\
  Hid (bX w C.mb U.rb RO K p c t used (.tuple #[]) (gW (aw p c) (z,r2) q2 d y).1 (.returned (.tuple #[])) w4)):=by
  refine ae ?_;rintro w3 ⟨Dg,BX,⟨C3,U3,Ld,ς,sN,sO,A3⟩,iO⟩;have hn:=Lw A3 nC.o kO he y lN.o (by have:=HJ.o;have e:=XD.o.2.2;rw [<-e];simp [Rn.note];omega);rw [sN,sO] at hn;refine hn.mono ?_;rintro e w4 ⟨rfl,Lh,Js,aau,AI⟩;have b4:=ay.jU (ay.jU M1.o iO (by simp)) AI (BX bx (by simp));have XE:=HX.o;exact ⟨⟨_,rfl⟩,⟨(b4.cell 1).trans (by rw [<-XE.1];rfl),(b4.cell 2).trans (by rw [<-XE.2];rfl)⟩,ae ⟨rfl,Lh,fun b hb=>Js b (BX b (by simp [hb])),aau,(HK.o.trans iO (fun b hb=>by simp [hb])).trans AI (fun b hb=>BX b (by simp [hb]))⟩⟩
 clear ux;go_wp2_with fail
 go_region_held3 (fun wx=>wx.cell? (π bx 1)=some (ι q2)/\wx.cell? (π bx 2)=some (ι d)) (first|exact ⟨d1,d2⟩|assumption) (first|(go_at_call 219;refine C1.o.mono ?_;rintro e w3 ⟨rfl,Gl,N0⟩)|(go_at_call 218;refine (C2.o _ N0.o).mono ?_;rintro e w4 ⟨⟨b,rfl⟩,Lz,σ⟩))
 clear Gl Lz;go_wp2;exact bodyPost_ret (results_none rfl _ _ _) rfl σ.o
end
def Cb:Nat->FuncId
 |0=>101
 |1=>102
 |2=>102
 |3=>103
 |4=>104
 |5=>105
 |6=>106
 |7=>107
 |8=>108
 |9=>109
 |10=>110
 |11=>111
 |12=>111
 |13=>112
 |14=>112
 |15=>111
 |16=>111
 |17=>111
 |18=>111
 |19=>111
 |20=>111
 |21=>111
 |22=>113
 |23=>114
 |24=>115
 |25=>116
 |26=>117
 |27=>113
 |28=>118
 |29=>119
 |30=>120
 |31=>121
 |32=>122
 |33=>123
 |34=>124
 |35=>125
 |36=>126
 |37=>127
 |38=>128
 |39=>129
 |40=>130
 |_=>131
section
variable {w w':World} {C C':Co} {U U':Ru} {RO RO':List Nat} {K:Kc} {p:aO} {c:Cp} {t:fI} {used:Int} {hv hv':Value} {jv jx:Nat->Value} {s s' s0:St} {r r':Rn} {rv:Value} {mb rb:Nat} {T:Map} {st:Std}
theorem aaw (G:ft p T r st) {x:Nat} (h1:bO (ai p r.at_).op.toNat=[x]):∃n rest,r.stack=n::rest/\-1073741824<=n/\n<=1073741824:=by obtain ⟨_,_,hf,_⟩:=jQ G.iH.taken;rw [h1] at hf;obtain ⟨n,st',t',SU,e1,e2,hv,mS,_,_⟩:=G.stack.vm hf;exact ⟨n,st',e1,hv.in.1,hv.in.2⟩
theorem aax (G:ft p T r st) {x y:Nat} (h1:bO (ai p r.at_).op.toNat=[x,y]):∃b a rest,r.stack=b::a::rest/\(-1073741824<=a/\a<=1073741824)/\(-1073741824<=b/\b<=1073741824):=by obtain ⟨_,_,hf,_⟩:=jQ G.iH.taken;rw [h1] at hf;obtain ⟨n,st1,t1,ty1,e1,e2,hv,mS,Jk,_⟩:=G.stack.vm hf;obtain ⟨m,st2,t2,SX,e3,e4,NK,Xd,_,_⟩:=mS.vm Jk;exact ⟨n,m,st2,by rw [e1,e3],NK.in,hv.in⟩
theorem Tr (V:Env p c T) (G:ft p T r st) (h:(ai p r.at_).op=25\/(ai p r.at_).op=26):∃m rest,r.loops=m::rest/\-1073741824<=m/\m<=1073741824:=by
 have zI:0 < r.loops.length:=by
  rw [G.loops];rcases h with h|h
  ·rw [if_pos h];omega
  ·have hj:=G.iH.jumps;rw [if_neg (by omega)];cases iF:st.lo with
   |nil=>exfalso;rw [iF] at hj;unfold cC at hj;simp [h] at hj
   |cons a l=>simp
 cases hr:r.loops with
 |nil=>rw [hr] at zI;simp at zI
 |cons m rest=>have:=G.Xc m (by rw [hr];simp);exact ⟨m,rest,rfl,by omega,by omega⟩
theorem XK (G:ft p T r st) (h:dU p (ai p r.at_) st.ha=true->st.ha≠0):∃x,r.hand=some x:=by
 have h1:=h G.iH.ji;cases hr:r.hand with
 |none=>exact absurd (G.hand.2 hr) h1
 |some x=>exact ⟨x,rfl⟩
structure Gp (r:Rn):Prop where
 stack:r.stack.length < 900000
 loops:r.loops.length < 900000
 told:r.told.length < 900000
 bm:r.bm.length < 900000
theorem abO {p:Prop} (h:p:=by
 obtain ⟨b,a,rest,e1,ha,hb⟩:=tY _ _ (by rw [cW];rfl);have hl:rest.length < 999999:=by rw [e1] at q1;simp at q1;omega
 have:=rL h i (by omega) (a:=a) (b:=b) (rest:=rest) e1 hl ha hb;rw [show (s,bI r).2.fO=b by show r.stack.headD 0=b;rw [e1];rfl,show (s,bI r).2.pop.fO=a by show r.stack.tail.headD 0=a;rw [e1];rfl];exact this):p:=h
theorem Ts (h:cD w C U RO K p c t used hv jv s (bI r)) (E:im K p c s) (V:Env p c T) (G:ft p T r st) (H:eY (aw p c) p.vars.length s0 (s,r)) (Q:Gp r):
 Calls Tryz.prog (Cb (ai p r.at_).op.toNat) #[ρ C.mb,aQ (ai p r.at_)] w (bX w C.mb U.rb RO K p c t used (.tuple #[]) (aC p c (ai p r.at_) (s,bI r))):=by
 have ho:=(np V G).1;unfold iP aF at ho;simp only [Bool.and_eq_true,decide_eq_true_eq] at ho;obtain ⟨Tt,Jz⟩:=ho;have hF:=fun k hk=>ed V G (k:=k) hk;have q1:=Q.stack;have q2:=Q.loops;have q3:=Q.told;have q4:=Q.bm;have ht:=(cK V.check).1;have EB:=fun x hx=>aaw G (x:=x) hx;have tY:=fun x y hx=>aax G (x:=x) (y:=y) hx;have C_:=fun hx=>Tr V G hx;have υ:=fun hx=>XK G hx;generalize ai p r.at_=i at*;obtain ⟨z,cW⟩:∃z,i.op=z:=⟨_,rfl⟩;rw [cW] at Tt Jz;have hc:z=0\/z=1\/z=2\/z=3\/z=4\/z=5\/z=6\/z=7\/z=8\/z=9\/z=10\/z=11\/z=12\/z=13\/z=14\/z=15\/z=16\/z=17\/z=18\/z=19\/z=20\/z=21\/z=22\/z=23\/z=24\/z=25\/z=26\/z=27\/z=28\/z=29\/z=30\/z=31\/z=32\/z=33\/z=34\/z=35\/z=36\/z=37\/z=38\/z=39\/z=40\/z=41:=by omega
 clear Tt Jz;rcases hc with rfl|rfl|rfl|rfl|rfl|rfl|rfl|rfl|rfl|rfl|rfl|rfl|rfl|rfl|rfl|rfl|rfl|rfl|rfl|rfl|rfl|rfl|rfl|rfl|rfl|rfl|rfl|rfl|rfl|rfl|rfl|rfl|rfl|rfl|rfl|rfl|rfl|rfl|rfl|rfl|rfl|rfl
 ·have e:∀x,aC p c i x=(x.1,{x.2 with done:=true}):=fun x=>by unfold aC;rw [cW];rfl
  rw [show i.op.toNat=0 by omega,e];exact XF h i
 ·have e:∀x,aC p c i x=(x.1,x.2.push i.a):=fun x=>by unfold aC;rw [cW];rfl
  rw [show i.op.toNat=1 by omega,e];exact vH h i (by show r.stack.length < _;omega)
 ·have e:∀x,aC p c i x=(x.1,x.2.push i.a):=fun x=>by unfold aC;rw [cW];rfl
  rw [show i.op.toNat=2 by omega,e];exact vH h i (by show r.stack.length < _;omega)
 ·have e:∀x,aC p c i x=(x.1,x.2.push (x.1.vars (N i.a))):=fun x=>by unfold aC;rw [cW];rfl
  rw [show i.op.toNat=3 by omega,e];have hf:=hF 3 cW;obtain ⟨a1,a2,a3⟩:=DW hf.1;exact Ea h i (show i.a=(N i.a:Nat) by unfold N;omega) a3 (by show r.stack.length < _;omega)
 ·have e:∀x,aC p c i x=(x.1,x.2.push (x.1.a.ls (N i.a)).length):=fun x=>by unfold aC;rw [cW];rfl
  rw [show i.op.toNat=4 by omega,e];have hf:=hF 4 cW;obtain ⟨a1,a2,a3⟩:=cX hf.1;exact LH h i (show i.a=(N i.a:Nat) by unfold N;omega) a3 (by show r.stack.length < _;omega)
 ·have e:∀x,aC p c i x=(x.1,x.2.push (c.aI.getD (N i.a) 0)):=fun x=>by unfold aC;rw [cW];rfl
  rw [show i.op.toNat=5 by omega,e];have hf:=hF 5 cW;obtain ⟨a1,a2,a3⟩:=cX hf.1;exact Eu h i (show i.a=(N i.a:Nat) by unfold N;omega) (by rw [E.gQ.len];exact a3) (by show r.stack.length < _;omega)
 ·have e:∀x,aC p c i x=(x.1,x.2.push c.size):=fun x=>by unfold aC;rw [cW];rfl
  rw [show i.op.toNat=6 by omega,e];exact Tn h i (by show r.stack.length < _;omega)
 ·have e:∀x,aC p c i x=(x.1,x.2.push x.1.total):=fun x=>by unfold aC;rw [cW];rfl
  rw [show i.op.toNat=7 by omega,e];exact Gm h i (by show r.stack.length < _;omega)
 ·have e:∀x,aC p c i x=sx (aw p c) i x:=fun x=>by unfold aC;rw [cW];rfl
  rw [show i.op.toNat=8 by omega,e];have hf:=hF 8 cW;obtain ⟨a1,a2,a3⟩:=cX hf.1;unfold sx;dsimp only;rw [show (bI r).key=r.key from rfl];cases hk:s.f r.key with
  |none=>exact Ez h i hk (by show r.stack.length < _;omega)
  |some n=>obtain ⟨q,hq,hn,-⟩:=(E.inv.idx r.key n).1 hk;dsimp only;rw [jq E.inv.wf hq hn];have:=Ey h i (show i.a=(N i.a:Nat) by unfold N;omega) hk hq hn (by show r.stack.length < _;omega);rw [show ((q:Int)==((N i.a:Nat):Int))=decide ((q:Int)=i.a) by rw [<-(show i.a=(N i.a:Nat) by unfold N;omega)];rfl] at this;exact this
 ·have e:∀x,aC p c i x=tE i x:=fun x=>by unfold aC;rw [cW];rfl
  rw [show i.op.toNat=9 by omega,e];have hf:=hF 9 cW;obtain ⟨a1,a2,a3⟩:=sD hf.1;unfold tE;dsimp only;rw [show (bI r).key=r.key from rfl];cases hk:s.f r.key with
  |none=>exact IB h i hk
  |some n=>obtain ⟨q,hq,hn,-⟩:=(E.inv.idx r.key n).1 hk;exact IA h i hk hq hn (show i.a=(N i.a:Nat) by unfold N;omega) (by have:=ht.t;omega) (by show r.stack.length < _;omega)
 ·have e:∀x,aC p c i x=l_ i x:=fun x=>by unfold aC;rw [cW];rfl
  rw [show i.op.toNat=10 by omega,e];have hf:=hF 10 cW;obtain ⟨a1,a2,a3⟩:=cX hf.1;obtain ⟨b1,b2,b3⟩:=fZ hf.2.1;obtain ⟨d1,d2,d3⟩:=sD hf.2.2.1;unfold l_;dsimp only;by_cases bz:s.a.ls (N i.a)=[]
  ·rw [if_pos bz];exact B_ h i (show i.a=(N i.a:Nat) by unfold N;omega) (show i.b=(N i.b:Nat) by unfold N;omega) a3 b3 bz
  ·rw [if_neg bz];exact Ca h i (show i.a=(N i.a:Nat) by unfold N;omega) (show i.b=(N i.b:Nat) by unfold N;omega) a3 b3 bz (show i.c=(N i.c:Nat) by unfold N;omega) (by have:=ht.t;omega) (by show r.stack.length < _;omega)
 ·have e:∀x,aC p c i x=(x.1,x.2.pop.pop.push (mL i.op x.2.pop.fO x.2.fO)):=fun x=>by unfold aC;rw [cW];rfl
  rw [show i.op.toNat=11 by omega,e];exact abO
 ·have e:∀x,aC p c i x=(x.1,x.2.pop.pop.push (mL i.op x.2.pop.fO x.2.fO)):=fun x=>by unfold aC;rw [cW];rfl
  rw [show i.op.toNat=12 by omega,e];exact abO
 ·have e:∀x,aC p c i x=(x.1,x.2.pop.push (-x.2.fO)):=fun x=>by unfold aC;rw [cW];rfl
  rw [show i.op.toNat=13 by omega,e];obtain ⟨n,rest,e1,n0,n1⟩:=EB _ (by rw [cW];rfl);have hl:rest.length < 1000000:=by rw [e1] at q1;simp at q1;omega
  have:=Rs h i (n:=n) (rest:=rest) e1 hl n0 n1;unfold Ex at this;rw [if_neg (by omega)] at this;rw [show (s,bI r).2.fO=n by show r.stack.headD 0=n;rw [e1];rfl];exact this
 ·have e:∀x,aC p c i x=(x.1,x.2.pop.push (1 - x.2.fO)):=fun x=>by unfold aC;rw [cW];rfl
  rw [show i.op.toNat=14 by omega,e];obtain ⟨n,rest,e1,n0,n1⟩:=EB _ (by rw [cW];rfl);have hl:rest.length < 1000000:=by rw [e1] at q1;simp at q1;omega
  have:=Rs h i (n:=n) (rest:=rest) e1 hl n0 n1;unfold Ex at this;rw [if_pos cW] at this;rw [show (s,bI r).2.fO=n by show r.stack.headD 0=n;rw [e1];rfl];exact this
 ·have e:∀x,aC p c i x=(x.1,x.2.pop.pop.push (mL i.op x.2.pop.fO x.2.fO)):=fun x=>by unfold aC;rw [cW];rfl
  rw [show i.op.toNat=15 by omega,e];exact abO
 ·have e:∀x,aC p c i x=(x.1,x.2.pop.pop.push (mL i.op x.2.pop.fO x.2.fO)):=fun x=>by unfold aC;rw [cW];rfl
  rw [show i.op.toNat=16 by omega,e];exact abO
 ·have e:∀x,aC p c i x=(x.1,x.2.pop.pop.push (mL i.op x.2.pop.fO x.2.fO)):=fun x=>by unfold aC;rw [cW];rfl
  rw [show i.op.toNat=17 by omega,e];exact abO
 ·have e:∀x,aC p c i x=(x.1,x.2.pop.pop.push (mL i.op x.2.pop.fO x.2.fO)):=fun x=>by unfold aC;rw [cW];rfl
  rw [show i.op.toNat=18 by omega,e];exact abO
 ·have e:∀x,aC p c i x=(x.1,x.2.pop.pop.push (mL i.op x.2.pop.fO x.2.fO)):=fun x=>by unfold aC;rw [cW];rfl
  rw [show i.op.toNat=19 by omega,e];exact abO
 ·have e:∀x,aC p c i x=(x.1,x.2.pop.pop.push (mL i.op x.2.pop.fO x.2.fO)):=fun x=>by unfold aC;rw [cW];rfl
  rw [show i.op.toNat=20 by omega,e];exact abO
 ·have e:∀x,aC p c i x=(x.1,x.2.pop.pop.push (mL i.op x.2.pop.fO x.2.fO)):=fun x=>by unfold aC;rw [cW];rfl
  rw [show i.op.toNat=21 by omega,e];exact abO
 ·have e:∀x,aC p c i x=(x.1,{x.2 with at_:=N i.a}):=fun x=>by unfold aC;rw [cW];rfl
  rw [show i.op.toNat=22 by omega,e];have hf:=hF 22 cW;obtain ⟨a1,a2⟩:=js hf.1;exact LI h i (show i.a=(N i.a:Nat) by unfold N;omega)
 ·have e:∀x,aC p c i x=(x.1,pK x.2 (N i.a)):=fun x=>by unfold aC;rw [cW];rfl
  rw [show i.op.toNat=23 by omega,e];have hf:=hF 23 cW;obtain ⟨a1,a2⟩:=js hf.1;obtain ⟨n,rest,e1,n0,n1⟩:=EB _ (by rw [cW];rfl);exact Le h i (show i.a=(N i.a:Nat) by unfold N;omega) (n:=n) (rest:=rest) e1 (by rw [e1] at q1;simp at q1;omega)
 ·have e:∀x,aC p c i x=(x.1,{x.2 with loops:=i.a::x.2.loops}):=fun x=>by unfold aC;rw [cW];rfl
  rw [show i.op.toNat=24 by omega,e];exact To h i rfl (by show r.loops.length < _;omega)
 ·have e:∀x,aC p c i x=ql i x:=fun x=>by unfold aC;rw [cW];rfl
  rw [show i.op.toNat=25 by omega,e];have hf:=hF 25 cW;rw [show ql i (s,bI r)=(s,vJ (bI r) (N i.a)) by unfold ql vJ;dsimp only;split<;>rfl];obtain ⟨a1,a2⟩:=js hf.1;obtain ⟨m,rest,e1,m0,m1⟩:=C_ (.inl cW);exact Ev h i (show i.a=(N i.a:Nat) by unfold N;omega) (m:=m) (rest:=rest) e1 (by rw [e1] at q2;simp at q2;omega) m0 m1
 ·have e:∀x,aC p c i x=qm i x:=fun x=>by unfold aC;rw [cW];rfl
  rw [show i.op.toNat=26 by omega,e];have hf:=hF 26 cW;rw [show qm i (s,bI r)=(s,vI (bI r) (N i.a)) by unfold qm vI;dsimp only;split<;>rfl];obtain ⟨a1,a2⟩:=js hf.1;obtain ⟨n,rest,e1,n0,n1⟩:=EB _ (by rw [cW];rfl);obtain ⟨m,lrest,e2,m0,m1⟩:=C_ (.inr cW);exact S5 h i (show i.a=(N i.a:Nat) by unfold N;omega) (n:=n) (rest:=rest) e1 (by rw [e1] at q1;simp at q1;omega) (m:=m) (lrest:=lrest) e2 (by rw [e2] at q2;simp at q2;omega)
 ·have e:∀x,aC p c i x=(x.1,{x.2 with at_:=N i.a}):=fun x=>by unfold aC;rw [cW];rfl
  rw [show i.op.toNat=27 by omega,e];have hf:=hF 27 cW;obtain ⟨a1,a2⟩:=js hf.1;exact LI h i (show i.a=(N i.a:Nat) by unfold N;omega)
 ·have e:∀x,aC p c i x=zp p i x:=fun x=>by unfold aC;rw [cW];rfl
  rw [show i.op.toNat=28 by omega,e];have hf:=hF 28 cW;obtain ⟨a1,a2,a3⟩:=DW hf.1;obtain ⟨n,rest,e1,n0,n1⟩:=EB _ (by rw [cW];rfl);exact Kj h i (show i.a=(N i.a:Nat) by unfold N;omega) a3 (n:=n) (rest:=rest) e1 (by rw [e1] at q1;simp at q1;omega) (by show r.bm.length < _;omega)
 ·have e:∀x,aC p c i x=oO p i x:=fun x=>by unfold aC;rw [cW];rfl
  rw [show i.op.toNat=29 by omega,e];have hf:=hF 29 cW;obtain ⟨a1,a2,a3⟩:=sD hf.1;obtain ⟨v,rest,e1,n0,n1⟩:=EB _ (by rw [cW];rfl);have hl:rest.length < 1000000:=by rw [e1] at q1;simp at q1;omega
  unfold oO;dsimp only;rw [show (bI r).key=r.key from rfl,show (bI r).fO=v by show r.stack.headD 0=v;rw [e1];rfl];cases hk:s.f r.key with
  |none=>exact Ep h i hk (v:=v) (rest:=rest) e1 hl
  |some n=>obtain ⟨q,hq,hn,-⟩:=(E.inv.idx r.key n).1 hk;exact Em h i (show i.a=(N i.a:Nat) by unfold N;omega) hk hq hn a3 E.t4 (by show r.bm.length < _;omega) (v:=v) (rest:=rest) e1 hl
 ·have e:∀x,aC p c i x=jO p i x:=fun x=>by unfold aC;rw [cW];rfl
  rw [show i.op.toNat=30 by omega,e];have hf:=hF 30 cW;obtain ⟨a1,a2,a3⟩:=cX hf.1;obtain ⟨b1,b2,b3⟩:=fZ hf.2.1;obtain ⟨d1,d2,d3⟩:=sD hf.2.2.1;obtain ⟨v,rest,e1,n0,n1⟩:=EB _ (by rw [cW];rfl);have hl:rest.length < 1000000:=by rw [e1] at q1;simp at q1;omega
  unfold jO;dsimp only;rw [show (bI r).fO=v by show r.stack.headD 0=v;rw [e1];rfl];by_cases bz:s.a.ls (N i.a)=[]
  ·rw [if_pos bz];exact zL h i (show i.a=(N i.a:Nat) by unfold N;omega) (show i.b=(N i.b:Nat) by unfold N;omega) a3 b3 bz (v:=v) (rest:=rest) e1 hl
  ·rw [if_neg bz];exact zK h i (show i.a=(N i.a:Nat) by unfold N;omega) (show i.b=(N i.b:Nat) by unfold N;omega) (show i.c=(N i.c:Nat) by unfold N;omega) a3 b3 bz d3 E.t4 (by show r.bm.length < _;omega) (v:=v) (rest:=rest) e1 hl
 ·have e:∀x,aC p c i x=lZ (aw p c) i x:=fun x=>by unfold aC;rw [cW];rfl
  rw [show i.op.toNat=31 by omega,e];have hf:=hF 31 cW;obtain ⟨a1,a2,a3⟩:=cX hf.1;obtain ⟨b1,b2,b3⟩:=fZ hf.2.1;unfold lZ;dsimp only;rw [show (bI r).key=r.key from rfl];cases hk:s.f r.key with
  |none=>exact BS h E i (show i.a=(N i.a:Nat) by unfold N;omega) (show i.b=(N i.b:Nat) by unfold N;omega) a3 b3 hk (by show r.bm.length < _;omega)
  |some n=>obtain ⟨q,hq,hn,-⟩:=(E.inv.idx r.key n).1 hk;exact BT h i hk hq hn
 ·have e:∀x,aC p c i x=tD (aw p c) i x:=fun x=>by unfold aC;rw [cW];rfl
  rw [show i.op.toNat=32 by omega,e];have hf:=hF 32 cW;obtain ⟨a1,a2,a3⟩:=cX hf.1;obtain ⟨b1,b2,b3⟩:=fZ hf.2.1;unfold tD;dsimp only;rw [show (bI r).key=r.key from rfl];cases hk:s.f r.key with
  |none=>exact Iy h i hk
  |some n=>obtain ⟨q,hq,hn,-⟩:=(E.inv.idx r.key n).1 hk;dsimp only;rw [jq E.inv.wf hq hn];exact Iz h E i (show i.a=(N i.a:Nat) by unfold N;omega) (show i.b=(N i.b:Nat) by unfold N;omega) a3 b3 hk hq hn (by show r.bm.length < _;omega)
 ·have e:∀x,aC p c i x=l8 (aw p c) x:=fun x=>by unfold aC;rw [cW];rfl
  rw [show i.op.toNat=33 by omega,e];unfold l8;dsimp only;rw [show (bI r).key=r.key from rfl];cases hk:s.f r.key with
  |none=>exact BU h i hk
  |some n=>
   obtain ⟨q,hq,hn,-⟩:=(E.inv.idx r.key n).1 hk;dsimp only;rw [jq E.inv.wf hq hn];by_cases hg:p.ap.getD q false=true
   ·rw [if_pos (show (aw p c).gh q=true from hg)];exact BW h E i hk hq hn hg (by show r.bm.length < _;omega)
   ·rw [if_neg (show ¬(aw p c).gh q=true from hg)];exact BV h i hk hq hn (by simpa using hg)
 ·have e:∀x,aC p c i x=(bi (aw p c) x (N i.a) (N i.b)).1:=fun x=>by unfold aC;rw [cW];rfl
  rw [show i.op.toNat=34 by omega,e];have hf:=hF 34 cW;obtain ⟨a1,a2,a3⟩:=cX hf.1;obtain ⟨b1,b2,b3⟩:=fZ hf.2.1;exact Ti h i E (show i.a=(N i.a:Nat) by unfold N;omega) (show i.b=(N i.b:Nat) by unfold N;omega) a3 b3 (by show r.bm.length < _;omega)
 ·have e:∀x,aC p c i x=(dt (aw p c) x (N i.a) (N i.b)).1:=fun x=>by unfold aC;rw [cW];rfl
  rw [show i.op.toNat=35 by omega,e];have hf:=hF 35 cW;obtain ⟨a1,a2,a3⟩:=cX hf.1;obtain ⟨b1,b2,b3⟩:=fZ hf.2.1;obtain ⟨x,hx⟩:=υ (fun hh=>by
   unfold dU at hh;intro h0;rw [h0] at hh;simp [cW] at hh)
  exact Tj h i E (show i.a=(N i.a:Nat) by unfold N;omega) (show i.b=(N i.b:Nat) by unfold N;omega) a3 b3 hx (H.hand x hx).1 (by show r.bm.length < _;omega)
 ·have e:∀x,aC p c i x=fY x:=fun x=>by unfold aC;rw [cW];rfl
  rw [show i.op.toNat=36 by omega,e];obtain ⟨x,hx⟩:=υ (fun hh=>by
   unfold dU at hh;intro h0;rw [h0] at hh;simp [cW] at hh)
  exact Tk h i hx (by show r.told.length < _;omega)
 ·have e:∀x,aC p c i x=fG x:=fun x=>by unfold aC;rw [cW];rfl
  rw [show i.op.toNat=37 by omega,e];exact Pr h i
 ·have e:∀x,aC p c i x=nX (aw p c) i x:=fun x=>by unfold aC;rw [cW];rfl
  rw [show i.op.toNat=38 by omega,e];have hf:=hF 38 cW;obtain ⟨a1,a2,a3⟩:=cX hf.1;obtain ⟨b1,b2,b3⟩:=fZ hf.2.1;obtain ⟨d1,d2,d3⟩:=cX hf.2.2.1;obtain ⟨f1,f2,f3⟩:=fZ hf.2.2.2;exact Pv h i E (show i.a=(N i.a:Nat) by unfold N;omega) (show i.b=(N i.b:Nat) by unfold N;omega) a3 b3 (show i.c=(N i.c:Nat) by unfold N;omega) (show i.d=(N i.d:Nat) by unfold N;omega) d3 f3 (by show r.bm.length < _;omega)
 ·have e:∀x,aC p c i x=nY (aw p c) i x:=fun x=>by unfold aC;rw [cW];rfl
  rw [show i.op.toNat=39 by omega,e];have hf:=hF 39 cW;obtain ⟨a1,a2,a3⟩:=cX hf.1;obtain ⟨b1,b2,b3⟩:=fZ hf.2.1;obtain ⟨d1,d2,d3⟩:=cX hf.2.2.1;obtain ⟨f1,f2,f3⟩:=fZ hf.2.2.2;exact Px h i E (show i.a=(N i.a:Nat) by unfold N;omega) (show i.b=(N i.b:Nat) by unfold N;omega) a3 b3 (show i.c=(N i.c:Nat) by unfold N;omega) (show i.d=(N i.d:Nat) by unfold N;omega) d3 f3 (by show r.bm.length < _;omega) (by show r.told.length < _;omega)
 ·have e:∀x,aC p c i x=nZ (aw p c) i x:=fun x=>by unfold aC;rw [cW];rfl
  rw [show i.op.toNat=40 by omega,e];have hf:=hF 40 cW;obtain ⟨a1,a2,a3⟩:=cX hf.1;obtain ⟨b1,b2,b3⟩:=fZ hf.2.1;exact Pw h i E (show i.a=(N i.a:Nat) by unfold N;omega) (show i.b=(N i.b:Nat) by unfold N;omega) a3 b3 (by show r.bm.length < _;omega) (by show r.told.length < _;omega)
 ·have e:∀x,aC p c i x=rz (aw p c) i x:=fun x=>by unfold aC;rw [cW];rfl
  rw [show i.op.toNat=41 by omega,e];have hf:=hF 41 cW;obtain ⟨a1,a2,a3⟩:=cX hf.1;obtain ⟨b1,b2,b3⟩:=fZ hf.2.1;exact Tl h i E (show i.a=(N i.a:Nat) by unfold N;omega) (show i.b=(N i.b:Nat) by unfold N;omega) a3 b3 (by show r.bm.length < _;omega)
end
end Go.Proofs.YtblkblclmbhjiaaGreat.Ma
