/- Of the proof that VmKeeps holds: a key keeps its node, what traps leaves no trace. No condition. -/
import Derived.Test.YtblkblclmbhjiaaGreatL24
set_option linter.unusedVariables false
set_option linter.unusedSimpArgs false
set_option maxHeartbeats 40000000
set_option maxRecDepth 100000
namespace Go.Proofs.YtblkblclmbhjiaaGreat.Rv
open Go.RowKit ak.Vm
open ak hiding aL an aj
open Ma (dx bQ aU vb aA aQ)
open Vf (Kp fP pV qu bw aV)
def FG (J:Nat->Value):Act:={tmps:=#[J 0,J 1,J 2,J 3,J 4,J 5,J 6,J 7,J 8,J 9,J 10,J 11,J 12,J 13,J 14,J 15,J 16,J 17,J 18,J 19,J 20,J 21,J 22,J 23,J 24,J 25,J 26,J 27,J 28,J 29,J 30,J 31,J 32,J 33,J 34,J 35,J 36,J 37,J 38,J 39,J 40,J 41,J 42,J 43,J 44,J 45,J 46,J 47,J 48,J 49,J 50,J 51,J 52,J 53,J 54,J 55,J 56,J 57,J 58,J 59,J 60,J 61,J 62,J 63,J 64,J 65,J 66,J 67,J 68,J 69,J 70,J 71,J 72,J 73,J 74,J 75,J 76,J 77,J 78,J 79,J 80,J 81,J 82,J 83,J 84,J 85,J 86],defers:=[]}
theorem FG.of (A:Array Value) (h:A=(FG fun k=>A.getD k undef).tmps):({tmps:=A,defers:=[]}:Act)=FG fun k=>A.getD k undef:=by rw [h];rfl
def zW:Nat×kE:=(0,s0)
structure g_ (W:World) (lo:Nat) (nv wv:Value) (l:List (Nat×kE)):Prop where
 n:Row W 3 1 nv l.length (fun i=> ι ((l.getD i zW).1:Nat))
 s:Row W 262 4 wv l.length (CQ fun i=>(l.getD i zW).2)
 nl:∀b,nv.ownBlock=some b->lo<=b
 wl:∀b,wv.ownBlock=some b->lo<=b
theorem g_.one {W:World} {lo bn bs:Nat} {a:Nat} {s:kE} {cn cs:Array Value} (kn:ay W bn 3 cn) (ks:ay W bs 262 cs) (h1:lo<=bn) (h2:lo<=bs) (en:cn=#[ι a]) (es:cs=#[.string (fk s.ty),ι s.loop,ι s.hand,.bool s.jI]):
 g_ W lo (.slice (some (π bn 0)) 1 1) (.slice (some (π bs 0)) 1 1) [(a,s)]:=by
 subst en es;refine ⟨Row.made kn rfl (by decide) (fun i hi=>?_),Row.made ks rfl (by decide) (fun o ho=>?_),fun b hb=>by cases hb;exact h1,fun b hb=>by cases hb;exact h2⟩
 ·obtain rfl:i=0:=by omega
  rfl
 ·have:o=0\/o=1\/o=2\/o=3:=by omega
  rcases this with rfl|rfl|rfl|rfl<;>rfl
theorem g_.two {W:World} {lo bn bs:Nat} {a b:Nat} {s t:kE} {cn cs:Array Value} (kn:ay W bn 3 cn) (ks:ay W bs 262 cs) (h1:lo<=bn) (h2:lo<=bs) (en:cn=#[ι a,ι b]) (es:cs=#[.string (fk s.ty),ι s.loop,ι s.hand,.bool s.jI,.string (fk t.ty),ι t.loop,ι t.hand,.bool t.jI]):
 g_ W lo (.slice (some (π bn 0)) 2 2) (.slice (some (π bs 0)) 2 2) [(a,s),(b,t)]:=by
 subst en es;refine ⟨Row.made kn rfl (by decide) (fun i hi=>?_),Row.made ks rfl (by decide) (fun o ho=>?_),fun b hb=>by cases hb;exact h1,fun b hb=>by cases hb;exact h2⟩
 ·have:i=0\/i=1:=by omega
  rcases this with rfl|rfl<;>rfl
 ·have:o=0\/o=1\/o=2\/o=3\/o=4\/o=5\/o=6\/o=7:=by omega
  rcases this with rfl|rfl|rfl|rfl|rfl|rfl|rfl|rfl<;>rfl
theorem g_.nil (W:World) (lo:Nat):g_ W lo ν ν []:=⟨Row.nil _ _ _ _,Row.nil _ _ _ _,fun b hb=>(by cases hb),fun b hb=>(by cases hb)⟩
theorem g_.low {W:World} {lo zR:Nat} {nv wv:Value} {l:List (Nat×kE)} (h:g_ W lo nv wv l) (hh:zR<=lo):g_ W zR nv wv l:=⟨h.n,h.s,fun b hb=>Nat.le_trans hh (h.nl b hb),fun b hb=>Nat.le_trans hh (h.wl b hb)⟩
def RG (V:World) (l:List (Nat×kE)) (a:Act) (W:World):Prop:=∃(J:Nat->Value) (nv wv:Value),a=FG J/\J 6=nv/\J 7=wv/\Hid (Below V.heap.size V W)/\Hid (g_ W V.heap.size nv wv l)
def wJ (w:World) (K:Kp) (p:aO) (lb:Nat) (iz j_ jA:Value) (L:jS) (pc:Nat) (x:Ins) (s:kE) (e:Ending) (w':World):Prop:=∃nv wv,e= .returned (.tuple #[nv,wv])/\ax j_.ownBlock.toList w w'/\qx w' K p lb iz j_ jA (fQ L pc x s.loop)/\g_ w' w.heap.size nv wv (dP (fQ L pc x s.loop) pc x s)
theorem yK {P:Program} {fn:Func} {R:Ending->World->Prop} {A:Array Value} {w:World} {t u:Tmp} (h:fn.results=#[.tmp t,.tmp u]) (hR:R (.returned (.tuple #[A.getD t undef,A.getD u undef])) w):Exit.noGoto (bodyPost P fn R) .ret {tmps:=A,defers:=[]} w:=by rw [Exit.noGoto_ret];exact Vf.PG h hR
theorem qx.ZR {w:World} {K:Kp} {p:aO} {lb U cap:Nat} {iz jA:Value} {L:jS} (h:qx w K p lb iz (.slice (some (π U 0)) p.code.length cap) jA L) {z:Nat} (hz:z < p.code.length) (n:Int):
 qx (w.setCell (π U z) (ι n)) K p lb iz (.slice (some (π U 0)) p.code.length cap) jA {L with up:=aL L.up z n}/\ax [U] w (w.setCell (π U z) (ι n)):=by
 have f:ax [U] w (w.setCell (π U z) (ι n)):=(ax.refl [U] w).setCell (p:=(π U z)) (by simp) _;have nb:lb∉[U]:=by have:=h.up.eF h.c_ (by decide);simp;intro e;exact this (by rw [e];rfl)
 have na:∀b,iz.ownBlock=some b->b∉[U]:=fun b hb=>by
  have h1:=h.up.ne h.at_ (by decide);rcases h1 with h1|h1
  ·cases h1
  ·simp;intro e;subst e;exact h1 (by rw [hb];rfl)
 have ns:∀b,jA.ownBlock=some b->b∉[U]:=fun b hb=>by
  have h1:=h.up.ne h.st (by decide);rcases h1 with h1|h1
  ·cases h1
  ·simp;intro e;subst e;exact h1 (by rw [hb];rfl)
 refine ⟨⟨h.c_.aB f nb,h.at_.aB f na,(h.up.set (o:=z) (by omega) (ι n)).congr fun o ho=>?_,h.st.aB f ns⟩,f⟩;show _=ι (aL L.up z n o);rw [cG];by_cases e:o=z
 ·rw [if_pos e,if_pos e]
 ·rw [if_neg e,if_neg e]
section
variable {w:World} {K:Kp} {p:aO} {j_ jA iz:Value} {lb:Nat} {L:jS} {x:Ins}
theorem ad8 {p:Prop} (h:p:=by
 have y0:=key _ _ _ Ja;have y1:=key _ _ _ wE;have y2:=key _ _ _ Jb;have y3:=key _ _ _ Jc;exact gee):p:=h
theorem aeb {p:Prop} (h:p:=by
 have key:∀b i v,V2.cell? (π b i)=some v->wz.cell? (π b i)=some v:=fun b i v hc=>(World.cell?_of_block (bR.block _ (aS hc))).trans hc;exact ad8):p:=h
theorem aea {p:Prop} (h:p:=by
 have key:∀b i v,V2.cell? (π b i)=some v->wz.cell? (π b i)=some v:=fun b i v hc=>(World.cell?_of_block (bR.block _ (aS hc))).trans hc;have y0:=key _ _ _ t0';have y1:=key _ _ _ t1';have y2:=key _ _ _ t2';have y3:=key _ _ _ t3';exact gee):p:=h
theorem ac9 {p:Prop} (h:p:=by
 rintro e a W ⟨rfl,J,nv,wv,rfl,j6,j7,Dp,QB⟩;unfold FG;rw [j6,j7];clear j6 j7;go_wp2_with fail;refine yK rfl ?_;exact CS.o _ _ _ _ HW.o HU.o Dp.o QB.o):p:=h
theorem ac8 {p:Prop} (h:p:=by
 have key:∀b i v,V.cell? (π b i)=some v->wz.cell? (π b i)=some v:=fun b i v hc=>(World.cell?_of_block (bR.block _ (aS hc))).trans hc;exact ad8):p:=h
theorem ad9 {p:Prop} (h:p:=by
 refine Mk.tk 3 (v:=?_) rfl (fun wz bR=>?_) al ?_;rotate_left
 ·exact ac8
 refine Mk.pt ?_;refine Mk.nW (rs:=[2,4]) (AllReadyH.cons rfl (fun K9 hK=>?_) (AllReadyH.cons rfl (fun K9 hK=>?_) AllReadyH.nil))
 ·refine QX ?_;go_simp;refine hK.out _ _ (al.alloc al.size _) (fun al=>?_);clear hK K9;refine Mk.pt ?_;refine Mk.bL 5 ?_;refine Mk.nW (rs:=[4]) (AllReadyH.cons rfl (fun K9 hK=>?_) AllReadyH.nil);refine QX ?_;go_simp;refine hK.out _ _ (al.alloc al.size _) (fun al=>?_);clear hK K9;refine Mk.pt ?_;refine Mk.bL 6 ?_;refine wpAnyH_done (by kernel_rfl) ⟨rfl,rfl,_,_,_,FG.of _ rfl,rfl,rfl,ae al,ae ?_⟩ _;exact g_.one ((ay.new _ _ _).alloc _) (ay.a_ (by simp)) (by simp) (by simp) rfl rfl
 ·refine QX ?_;go_simp;refine hK.out _ _ (al.alloc al.size _) (fun al=>?_);clear hK K9;refine Mk.pt ?_;refine Mk.nW (rs:=[2]) (AllReadyH.cons rfl (fun K9 hK=>?_) AllReadyH.nil);refine QX ?_;go_simp;refine hK.out _ _ (al.alloc al.size _) (fun al=>?_);clear hK K9;refine Mk.pt ?_;refine Mk.bL 5 ?_;refine Mk.bL 6 ?_;refine wpAnyH_done (by kernel_rfl) ⟨rfl,rfl,_,_,_,FG.of _ rfl,rfl,rfl,ae al,ae ?_⟩ _;exact g_.one (ay.a_ (by simp)) ((ay.new _ _ _).alloc _) (by simp) (by simp) rfl rfl):p:=h
theorem ac7 {p:Prop} (h:p:=by
 refine Mk.pt ?_;refine Mk.nW (rs:=[4,7]) (AllReadyH.cons rfl (fun K9 hK=>?_) (AllReadyH.cons rfl (fun K9 hK=>?_) AllReadyH.nil))
 ·refine QX ?_;go_simp;refine hK.out _ _ (al.alloc al.size _) (fun al=>?_);clear hK K9;refine Mk.pt ?_;refine Mk.bL 8 ?_;refine Mk.nW (rs:=[7]) (AllReadyH.cons rfl (fun K9 hK=>?_) AllReadyH.nil);refine QX ?_;go_simp;refine hK.out _ _ (al.alloc al.size _) (fun al=>?_);clear hK K9;refine Mk.pt ?_;refine Mk.bL 9 ?_;refine wpAnyH_done (by kernel_rfl) ⟨rfl,rfl,_,_,_,FG.of _ rfl,rfl,rfl,ae al,ae ?_⟩ _;exact g_.two ((ay.new _ _ _).alloc _) (ay.a_ (by simp)) (by simp) (by simp) rfl rfl
 ·refine QX ?_;go_simp;refine hK.out _ _ (al.alloc al.size _) (fun al=>?_);clear hK K9;refine Mk.pt ?_;refine Mk.nW (rs:=[4]) (AllReadyH.cons rfl (fun K9 hK=>?_) AllReadyH.nil);refine QX ?_;go_simp;refine hK.out _ _ (al.alloc al.size _) (fun al=>?_);clear hK K9;refine Mk.pt ?_;refine Mk.bL 8 ?_;refine Mk.bL 9 ?_;refine wpAnyH_done (by kernel_rfl) ⟨rfl,rfl,_,_,_,FG.of _ rfl,rfl,rfl,ae al,ae ?_⟩ _;exact g_.two (ay.a_ (by simp)) ((ay.new _ _ _).alloc _) (by simp) (by simp) rfl rfl):p:=h
theorem UH {pc:Nat} {s:kE} (h:fP w K p) (hl:qx w K p lb iz j_ jA L) (hx:ai p pc=x) (nj:pc < p.code.length) (hlen:p.code.length<=262144) (wT:(x.op=22\/x.op=23\/x.op=25\/x.op=26)->0<=x.a/\x.a < p.code.length) (C_:x.op=26->0<=s.loop/\s.loop < p.code.length):
 Calls Tryz.prog 295 #[ρ lb,ι pc,mQ s] w (wJ w K p lb iz j_ jA L pc x s):=by
 obtain ⟨cb,wk,zF,kc,q1,q2,c0,c1,c2,c3,c4⟩:=h.ins nj;rw [hx] at c0 c1 c2 c3 c4;have lc:=aS c0;obtain ⟨-,-,-,-,-,v5,-,v7⟩:=hl.c_.c8;have ll:=hl.c_.lt;rw [kc] at v5;have HL:=ae hl;clear h hl kc hx;obtain ⟨op,xa,xb,xc,xd⟩:=x;dsimp only at c0 c1 c2 c3 c4 wT C_;obtain ⟨V,hV⟩:∃V,V=(w.alloc (.cells #[.string (fk s.ty),ι s.loop,ι s.hand,.bool s.jI] 262)).alloc (.cells #[ι op,ι xa,ι xb,ι xc,ι xd] 40):=⟨_,rfl⟩;have ks:ay V w.heap.size 262 #[.string (fk s.ty),ι s.loop,ι s.hand,.bool s.jI]:=by rw [hV];exact (ay.new _ _ _).alloc _
 have kx:ay V (w.heap.size+1) 40 #[ι op,ι xa,ι xb,ι xc,ι xd]:=by rw [hV];exact ay.a_ (by simp)
 have hb:Below w.heap.size w V:=by rw [hV];exact ((Below.refl _ _).alloc (Nat.le_refl _) _).alloc (by simp) _
 have HB:=ae hb;have Wj:=ae ks;have Hh:=ae (HL.o.aB (ax.ah hb));obtain ⟨Ja,wE,Jb,Jc⟩:=ks.c4;obtain ⟨x0',Nw⟩:=kx.c2;have Wp:V.cell? (π lb 7)=some j_:=(World.cell?_of_block (hb.block _ ll)).trans v7;have ll':lb < V.heap.size:=Nat.lt_of_lt_of_le ll hb.size;have lS:=ks.lt;have lX:=kx.lt;have w1:IntKind.i64.wrap ((pc:Int)+1)=((pc+1:Nat):Int):=by rw [IntWalk.i64_in _ (by constructor<;>omega)];omega
 have hE:=ae hb;have HP:=ae (rfl:pc=pc);have CS:=ae (fun W (nv wv:Value) (l:List (Nat×kE)) (hw:dP (fQ L pc ⟨op,xa,xb,xc,xd⟩ s.loop) pc ⟨op,xa,xb,xc,xd⟩ s=l) (hu:fQ L pc ⟨op,xa,xb,xc,xd⟩ s.loop=L) (hb:Below V.heap.size V W) (h:g_ W V.heap.size nv wv l)=>show wJ w K p lb iz j_ jA L pc ⟨op,xa,xb,xc,xd⟩ s (.returned (.tuple #[nv,wv])) W from
  ⟨nv,wv,rfl,((ax.ah (S:=[]) HB.o).trans (ax.ah hb)).mono (by simp),by rw [hu];exact Hh.o.aB (ax.ah hb),by rw [hu] at hw ⊢;rw [hw];exact ⟨h.n,h.s,fun b e=>Nat.le_trans HB.o.size (h.nl b e),fun b e=>Nat.le_trans HB.o.size (h.wl b e)⟩⟩)
 by_cases o1:op=0\/op=27
 ·have HW:=ae (show dP (fQ L pc ⟨op,xa,xb,xc,xd⟩ s.loop) pc ⟨op,xa,xb,xc,xd⟩ s=[] by unfold dP;rw [if_pos o1]);have HU:=ae (show fQ L pc ⟨op,xa,xb,xc,xd⟩ s.loop=L by unfold fQ;rw [if_neg (by dsimp only;omega)]);rcases o1 with rfl|rfl
  all_goals
   unfold mQ;go_enter Tryz.func295,Tryz.ntmps295;go_wp2_with fail;rw [<-hV];refine yK rfl ?_;exact CS.o _ _ _ _ HW.o HU.o (Below.refl _ _) (g_.nil _ _)
 have e0:(op==0)=false:=by simp;omega
 have e27:(op==27)=false:=by simp;omega
 by_cases o2:op=22
 ·subst o2;obtain ⟨xm,rfl⟩:=Int.eq_ofNat_of_zero_le (wT (by simp)).1;have HW:=ae (show dP (fQ L pc ⟨22,xm,xb,xc,xd⟩ s.loop) pc ⟨22,xm,xb,xc,xd⟩ s=[(xm,s)] by unfold dP;simp);have HU:=ae (show fQ L pc ⟨22,xm,xb,xc,xd⟩ s.loop=L by unfold fQ;simp);unfold mQ;go_enter Tryz.func295,Tryz.ntmps295;go_wp2_with fail;rw [<-hV];clear hV c0 c1 c2 c3 c4 lc v5 v7 ll ks kx hb hlen nj q1 q2;generalize w.heap.size=bx at*;refine wp_mono (Q:=fun e a W=>e=Exit.normal/\RG V [(xm,s)] a W) ?_ ?_
  ·refine Mk.bF (S:=fun wx=>Below V.heap.size V wx) (by kernel_rfl) (au _ V 1) (fun al=>?_);refine Mk.bL 0 ?_;refine Mk.Re 1 Nw ?_;exact ad9
  ·exact ac9
 have e22:(op==22)=false:=by simp;omega
 by_cases o3:op=23
 ·subst o3;obtain ⟨xm,rfl⟩:=Int.eq_ofNat_of_zero_le (wT (by simp)).1;have HW:=ae (show dP (fQ L pc ⟨23,xm,xb,xc,xd⟩ s.loop) pc ⟨23,xm,xb,xc,xd⟩ s=[(pc+1,s),(xm,s)] by unfold dP;simp);have HU:=ae (show fQ L pc ⟨23,xm,xb,xc,xd⟩ s.loop=L by unfold fQ;simp);unfold mQ;go_enter Tryz.func295,Tryz.ntmps295;go_wp2_with fail;rw [<-hV];clear hV c0 c1 c2 c3 c4 lc v5 v7 ll ks kx hb hlen nj q1 q2;generalize w.heap.size=bx at*;refine wp_mono (Q:=fun e a W=>e=Exit.normal/\RG V [(pc+1,s),(xm,s)] a W) ?_ ?_
  ·refine Mk.bF (S:=fun wx=>Below V.heap.size V wx) (by kernel_rfl) (au _ V 1) (fun al=>?_);refine Mk.bL 0 ?_;refine Mk.bL 1 ?_;refine Mk.bL 2 ?_;refine Mk.Re 3 Nw ?_;refine Mk.tk 5 (v:=?_) rfl (fun wz bR=>?_) al ?_;rotate_left
   ·exact ac8
   refine Mk.pt ?_;refine Mk.tk 6 (v:=?_) rfl (fun wz bR=>?_) al ?_;rotate_left
   ·exact ac8
   exact ac7
  ·exact ac9
 have e23:(op==23)=false:=by simp;omega
 by_cases o4:op=25
 ·subst o4;obtain ⟨xm,rfl⟩:=Int.eq_ofNat_of_zero_le (wT (by simp)).1;have HU:=ae (show fQ L pc ⟨25,xm,xb,xc,xd⟩ s.loop={L with up:=aL L.up pc s.loop} by unfold fQ;simp);have HW:=ae (show dP (fQ L pc ⟨25,xm,xb,xc,xd⟩ s.loop) pc ⟨25,xm,xb,xc,xd⟩ s=[(pc+1,{s with loop:=(pc:Int)}),(xm,s)] by unfold dP;simp);obtain ⟨U,QC,hu,u1,u2,u3⟩:=HL.o.upc nj;have UI:V.cell? (π U pc)=some (ι (L.up pc)):=(World.cell?_of_block (hb.block _ u2)).trans u3;have GC:=ae nj;rw [hu] at Wp;have HUV:=ae hu;have lU:U < V.heap.size:=Nat.lt_of_lt_of_le u2 hb.size;have hUX:Hid (U < w.heap.size):=ae u2;have IS:=ae (fun (Z:World) (hz:Below V.heap.size V Z)=>(show qx Z K p lb iz (.slice (some (π U 0)) p.code.length QC) jA L by rw [<-hu];exact Hh.o.aB (ax.ah hz)).ZR nj s.loop);have ZS:=ae (fun Z W (nv wv:Value) (l:List (Nat×kE)) (hw:dP (fQ L pc ⟨25,xm,xb,xc,xd⟩ s.loop) pc ⟨25,xm,xb,xc,xd⟩ s=l) (f:ax [U] V Z) (hz:qx Z K p lb iz (.slice (some (π U 0)) p.code.length QC) jA {L with up:=aL L.up pc s.loop}) (hb:Below Z.heap.size Z W) (h:g_ W Z.heap.size nv wv l)=>show wJ w K p lb iz j_ jA L pc ⟨25,xm,xb,xc,xd⟩ s (.returned (.tuple #[nv,wv])) W from
   ⟨nv,wv,rfl,by rw [HUV.o];exact ((ax.ah HB.o).trans f).trans (ax.ah hb),by rw [HU.o,HUV.o];exact hz.aB (ax.ah hb),by rw [hw];exact h.low (Nat.le_trans HB.o.size f.size)⟩)
  clear u2 u3 hu;unfold mQ;go_enter Tryz.func295,Tryz.ntmps295;go_wp2_with fail;rw [<-hV];clear hV c0 c1 c2 c3 c4 lc v5 v7 ll ks kx hb hlen nj q1 q2;generalize w.heap.size=bx at*;have nj:=GC.o
  go_still_tail 8,(by kernel_rfl)
  change wpList _ _ _ _ _ (V.drewN 1);have dn:=au V.heap.size V 1;have hP:=IS.o _ dn;have xr:=ae hP.1;have JA:=ae hP.2;have tM:∀o,(V.drewN 1).frozen? (π U o)=false:=fun o=>by have h9:=(Hh.o.aB (ax.ah dn)).up;rw [HUV.o] at h9;exact h9.frozen o
  replace UI:(V.drewN 1).cell? (π U pc)=some (ι (L.up pc)):=UI;replace Ja:(V.drewN 1).cell? (π bx 0)=some (.string (fk s.ty)):=Ja;replace wE:(V.drewN 1).cell? (π bx 1)=some (ι s.loop):=wE;replace Jb:(V.drewN 1).cell? (π bx 2)=some (ι s.hand):=Jb;replace Jc:(V.drewN 1).cell? (π bx 3)=some (.bool s.jI):=Jc;replace Nw:(V.drewN 1).cell? (π (bx+1) 1)=some (ι xm):=Nw;have fg:=ae dn;have Jo:=ae (And.intro lS lX);clear dn hP x0' Wp lU lS lX ll';replace lS:bx < (V.drewN 1).heap.size:=Jo.o.1;replace lX:bx+1 < (V.drewN 1).heap.size:=Jo.o.2;have uG:bx≠U:=by have:=hUX.o;omega
  have ot:bx+1≠U:=by have:=hUX.o;omega
  generalize V.drewN 1=V0 at*;go_wp2_with fail;obtain ⟨V2,DI⟩:∃V2,V2=(V0.setCell (π U pc) (ι s.loop)).alloc (.cells #[.string (fk s.ty),ι pc,ι s.hand,.bool s.jI] 262):=⟨_,rfl⟩;rw [<-DI];have k9:ay V2 V0.heap.size 262 #[.string (fk s.ty),ι pc,ι s.hand,.bool s.jI]:=by rw [DI];exact ay.a_ (by simp)
  have f9:ax [U] V0 V2:=by rw [DI];exact JA.o.alloc _
  have Xz:=ae ((ax.ah (S:=[U]) fg.o).trans f9);have HL9:=ae (show qx V2 K p lb iz (.slice (some (π U 0)) p.code.length QC) jA {L with up:=aL L.up pc s.loop} by rw [DI];exact xr.o.aB ((ax.refl [] _).alloc _));have rZ:∀b o v,b≠U->V0.cell? (π b o)=some v->V2.cell? (π b o)=some v:=fun b o v hn hc=>(World.cell?_of_block (f9.block _ (aS hc) (by simpa using hn))).trans hc;replace Ja:=rZ _ _ _ uG Ja;replace wE:=rZ _ _ _ uG wE;replace Jb:=rZ _ _ _ uG Jb;replace Jc:=rZ _ _ _ uG Jc;replace Nw:=rZ _ _ _ ot Nw;obtain ⟨t0',t1',t2',t3'⟩:=k9.c4;clear DI k9 f9 rZ xr JA tM UI lS lX;generalize V0.heap.size=b9 at*;refine wp_mono (Q:=fun e a W=>e=Exit.normal/\RG V2 [(pc+1,{s with loop:=(pc:Int)}),(xm,s)] a W) ?_ ?_
  ·refine Mk.bF (S:=fun wx=>Below V2.heap.size V2 wx) (by kernel_rfl) (au _ V2 1) (fun al=>?_);refine Mk.bL 0 ?_;refine Mk.bL 1 ?_;refine Mk.bL 2 ?_;refine Mk.Re 3 Nw ?_;refine Mk.tk 5 (v:=?_) rfl (fun wz bR=>?_) al ?_;rotate_left
   ·exact aea
   refine Mk.pt ?_;refine Mk.tk 6 (v:=?_) rfl (fun wz bR=>?_) al ?_;rotate_left
   ·exact aeb
   exact ac7
  ·rintro e a W ⟨rfl,J,nv,wv,rfl,j6,j7,Dp,QB⟩;unfold FG;rw [j6,j7];clear j6 j7;go_wp2_with fail;refine yK rfl ?_;exact ZS.o _ _ _ _ _ HW.o Xz.o HL9.o Dp.o QB.o
 have e25:(op==25)=false:=by simp;omega
 by_cases o5:op=26
 ·subst o5;obtain ⟨xm,rfl⟩:=Int.eq_ofNat_of_zero_le (wT (by simp)).1;obtain ⟨lm,TU⟩:=Int.eq_ofNat_of_zero_le (C_ rfl).1;have a8:lm < p.code.length:=by have:=(C_ rfl).2;omega
  have HU:=ae (show fQ L pc ⟨26,xm,xb,xc,xd⟩ s.loop=L by unfold fQ;simp);have HW:=ae (show dP (fQ L pc ⟨26,xm,xb,xc,xd⟩ s.loop) pc ⟨26,xm,xb,xc,xd⟩ s=[(pc+1,s),(xm,{s with loop:=L.up lm})] by rw [HU.o];unfold dP;simp [TU]);obtain ⟨U,QC,hu,u1,u2,u3⟩:=HL.o.upc a8;have UI:V.cell? (π U lm)=some (ι (L.up lm)):=(World.cell?_of_block (hb.block _ u2)).trans u3;rw [hu] at Wp;rw [TU] at wE;have HLM:=ae TU;have Lj:=ae (show V.heap.size=w.heap.size+1+1 by rw [hV];simp);clear u2 u3 hu C_ wT TU;unfold mQ;go_enter Tryz.func295,Tryz.ntmps295;go_wp2_with fail;rw [<-hV];clear hV c0 c1 c2 c3 c4 lc v5 v7 ll ks kx hb hlen nj q1 q2;generalize w.heap.size=bx at*;obtain ⟨V1,hV1⟩:∃V1,V1=V.alloc (.cells #[.string (fk s.ty),ι s.loop,ι s.hand,.bool s.jI] 262):=⟨_,rfl⟩;rw [<-hV1];have k9:ay V1 (bx+1+1) 262 #[.string (fk s.ty),ι s.loop,ι s.hand,.bool s.jI]:=by rw [hV1,<-Lj.o];exact ay.new _ _ _
  have eN:Below V.heap.size V V1:=by rw [hV1];exact (Below.refl _ _).alloc (Nat.le_refl _) _
  have rZ:∀b o v,V.cell? (π b o)=some v->(V1.drewN 1).cell? (π b o)=some v:=fun b o v hc=>(World.cell?_of_block (eN.block _ (aS hc))).trans hc;have QD:∀b o v,V.cell? (π b o)=some v->V1.cell? (π b o)=some v:=rZ;have UG:=ae k9;have dC:=ae eN;have S8:=ae (And.intro (rZ _ _ _ Ja) (And.intro (rZ _ _ _ wE) (And.intro (rZ _ _ _ Jb) (And.intro (rZ _ _ _ Jc) (rZ _ _ _ Nw)))));replace Wp:=QD _ _ _ Wp;replace UI:=QD _ _ _ UI;replace wE:=QD _ _ _ wE;replace ll':lb < V1.heap.size:=Nat.lt_of_lt_of_le ll' eN.size;have lS2:bx < V1.heap.size:=Nat.lt_of_lt_of_le lS eN.size;have ZT:=ae (And.intro lS lX);have l9:=k9.lt;clear hV1 rZ QD Ja Jb Jc x0' Nw lS lX eN k9
  go_still_tail 9,(by kernel_rfl)
  change wpList _ _ _ _ _ (V1.drewN 1);have k8:ay (V1.drewN 1) (bx+1+1) 262 #[.string (fk s.ty),ι s.loop,ι s.hand,.bool s.jI]:=UG.o.drewN 1;obtain ⟨t0',t1',t2',t3'⟩:=k8.c4;have tM:=k8.frozen;have fg:=ae (dC.o.trans ((au _ V1 1).mono dC.o.size));have ο:=ae k8;replace l9:=k8.lt;clear k8 Wp UI ll' lS2 wE;generalize V1.drewN 1=V0 at*;go_wp2_with fail;obtain ⟨V2,DI⟩:∃V2,V2=V0.setCell (π (bx+1+1) 1) (ι (L.up lm)):=⟨_,rfl⟩;rw [<-DI];have k7:ay V2 (bx+1+1) 262 #[.string (fk s.ty),ι (L.up lm),ι s.hand,.bool s.jI]:=by rw [DI];exact ο.o.set 1 _
  have ki:=ae (show Below V.heap.size V V2 by rw [DI];exact fg.o.setCell (p:=(π (bx+1+1) 1)) (by show V.heap.size<=bx+1+1;rw [Lj.o];exact Nat.le_refl _) _);have f9:ax [bx+1+1] V0 V2:=by rw [DI];exact (ax.refl _ _).setCell (p:=(π (bx+1+1) 1)) (by simp) _
  have Jd:∀b o v,b < V.heap.size->V0.cell? (π b o)=some v->V2.cell? (π b o)=some v:=fun b o v hn hc=>(World.cell?_of_block (f9.block _ (aS hc) (by have:=Lj.o;simp;omega))).trans hc;have Ja:=Jd _ _ _ ZT.o.1 S8.o.1;have wE:=Jd _ _ _ ZT.o.1 S8.o.2.1;have Jb:=Jd _ _ _ ZT.o.1 S8.o.2.2.1;have Jc:=Jd _ _ _ ZT.o.1 S8.o.2.2.2.1;have Nw:=Jd _ _ _ ZT.o.2 S8.o.2.2.2.2;rw [<-HLM.o] at wE;replace t0':V2.cell? (π (bx+1+1) 0)=some (.string (fk s.ty)):=k7.cell 0;replace t1':V2.cell? (π (bx+1+1) 1)=some (ι (L.up lm)):=k7.cell 1;replace t2':V2.cell? (π (bx+1+1) 2)=some (ι s.hand):=k7.cell 2;replace t3':V2.cell? (π (bx+1+1) 3)=some (.bool s.jI):=k7.cell 3;clear DI k7 f9 Jd tM l9 ο UG S8;refine wp_mono (Q:=fun e a W=>e=Exit.normal/\RG V2 [(pc+1,s),(xm,{s with loop:=L.up lm})] a W) ?_ ?_
  ·refine Mk.bF (S:=fun wx=>Below V2.heap.size V2 wx) (by kernel_rfl) (au _ V2 1) (fun al=>?_);refine Mk.bL 0 ?_;refine Mk.bL 1 ?_;refine Mk.bL 2 ?_;refine Mk.Re 3 Nw ?_;refine Mk.tk 5 (v:=?_) rfl (fun wz bR=>?_) al ?_;rotate_left
   ·exact aeb
   refine Mk.pt ?_;refine Mk.tk 6 (v:=?_) rfl (fun wz bR=>?_) al ?_;rotate_left
   ·exact aea
   exact ac7
  ·rintro e a W ⟨rfl,J,nv,wv,rfl,j6,j7,Dp,QB⟩;unfold FG;rw [j6,j7];clear j6 j7;go_wp2_with fail;refine yK rfl ?_;exact CS.o _ _ _ _ HW.o HU.o (ki.o.trans (Dp.o.mono ki.o.size)) (QB.o.low ki.o.size)
 have e26:(op==26)=false:=by simp;omega
 have HW:=ae (show dP (fQ L pc ⟨op,xa,xb,xc,xd⟩ s.loop) pc ⟨op,xa,xb,xc,xd⟩ s=[(pc+1,s)] by unfold dP;dsimp only;rw [if_neg o1,if_neg o2,if_neg o3,if_neg o4,if_neg o5]);have HU:=ae (show fQ L pc ⟨op,xa,xb,xc,xd⟩ s.loop=L by unfold fQ;dsimp only;rw [if_neg o4]);clear o1 o2 o3 o4 o5 wT C_;unfold mQ;go_enter Tryz.func295,Tryz.ntmps295;go_wp2_with fail;rw [<-hV];clear hV c0 c1 c2 c3 c4 lc v5 v7 ll ks kx hb hlen nj q1 q2;generalize w.heap.size=bx at*;refine wp_mono (Q:=fun e a W=>e=Exit.normal/\RG V [(pc+1,s)] a W) ?_ ?_
 ·refine Mk.bF (S:=fun wx=>Below V.heap.size V wx) (by kernel_rfl) (au _ V 1) (fun al=>?_);refine Mk.bL 0 ?_;refine Mk.bL 1 ?_;exact ad9
 ·exact ac9
end
end Go.Proofs.YtblkblclmbhjiaaGreat.Rv
namespace Go.Proofs.YtblkblclmbhjiaaGreat.Rv
open Go.RowKit ak.Vm
open ak hiding aL an aj
open Ma (dx bQ aU vb aA aQ)
open Vf (Kp fP pV qu bw aV gN lP dm rP nJ kP)
def FC (J:Nat->Value):Act:={tmps:=#[J 0,J 1,J 2,J 3,J 4,J 5,J 6,J 7,J 8,J 9,J 10,J 11,J 12,J 13,J 14,J 15,J 16,J 17,J 18,J 19,J 20,J 21,J 22,J 23,J 24,J 25,J 26,J 27,J 28,J 29,J 30,J 31,J 32,J 33,J 34,J 35,J 36,J 37,J 38,J 39,J 40,J 41,J 42,J 43,J 44,J 45,J 46,J 47,J 48,J 49,J 50,J 51,J 52,J 53,J 54,J 55,J 56,J 57,J 58,J 59,J 60,J 61,J 62,J 63,J 64,J 65,J 66,J 67,J 68,J 69,J 70,J 71,J 72,J 73,J 74,J 75,J 76,J 77,J 78,J 79,J 80,J 81,J 82,J 83,J 84,J 85,J 86,J 87,J 88,J 89,J 90,J 91,J 92,J 93,J 94,J 95,J 96,J 97,J 98,J 99,J 100,J 101,J 102,J 103,J 104,J 105,J 106,J 107,J 108,J 109,J 110,J 111,J 112,J 113,J 114,J 115,J 116,J 117,J 118,J 119,J 120,J 121,J 122,J 123,J 124,J 125,J 126,J 127,J 128,J 129,J 130,J 131],defers:=[]}
theorem FC.of (A:Array Value) (h:A=(FC fun k=>A.getD k undef).tmps):({tmps:=A,defers:=[]}:Act)=FC fun k=>A.getD k undef:=by rw [h];rfl
noncomputable def ckL (k:Nat):Code:=Mk.mK Tryz.f231.body k
noncomputable def ckI:Code:=Mk.mK (some (match ckL 1 with| .loop c=>c|c=>c)) 0
theorem mu {P:Program} {fn:Func} {R:Ending->World->Prop} {A:Array Value} {w:World} {t:Tmp} (h:fn.results=#[.tmp t]) (hR:R (.returned (A.getD t undef)) w):Exit.noGoto (bodyPost P fn R) .ret {tmps:=A,defers:=[]} w:=by rw [Exit.noGoto_ret];exact Vf.eP h hR
theorem wK {α:Type} (d:α) {f:α->Bool} {l:List α}:l.all f=true↔∀i,i < l.length->f (l.getD i d)=true:=by
 rw [List.all_eq_true];constructor
 ·intro h i hi;rw [List.getD_eq_getElem?_getD,List.getElem?_eq_getElem hi];exact h _ (List.getElem_mem hi)
 ·intro h x hx;obtain ⟨i,hi,rfl⟩:=List.getElem_of_mem hx;have:=h i hi;rwa [List.getD_eq_getElem?_getD,List.getElem?_eq_getElem hi] at this
section
variable {w:World} {K:Kp} {p:aO} {Q:Exit->Act->World->Prop} {oa ca:Option Addr} {oc cc no:Nat}
def C1 (w:World) (K:Kp) (p:aO) (m:Nat) (a:Act) (W:World):Prop:=∃(J:Nat->Value) (i:Nat),a=FC J/\J 1=ρ w.heap.size/\J 3=ι i/\i<=p.on.length/\m+i=p.on.length+1/\Hid (Below w.heap.size w W)/\Hid (ay W w.heap.size 27 (gN K p))/\Hid (∀j,j < i->aF (p.on.getD j 0) (-1) ((p.code.length:Int) - 1)=true)
theorem acG {p:Prop} (h:p:=by
 have HG:=ae (show aF z (-1) ((p.code.length:Int) - 1)=false by unfold aF;simp;omega);go_wp2_with fail;go_quiet (fail);go_wp2_with fail;exact gO _ _ rfl (HB.o.trans (au _ _ _)) ⟨i,dh.o,by rw [HZ.o];exact HG.o⟩):p:=h
theorem ck1 (H:Hid (fP w K p)) (hko:K.o= .slice oa no oc) (hkc:K.c= .slice ca p.code.length cc) (P4:no=p.on.length) (hn:p.on.length<=16) (hc:p.code.length<=262144)
 (gO:∀(A:Array Value) W,A.getD 2 undef=ι 85->Below w.heap.size w W->(∃j,j < p.on.length/\aF (p.on.getD j 0) (-1) ((p.code.length:Int) - 1)=false)->Q .ret {tmps:=A,defers:=[]} W)
 (eZ:∀(J:Nat->Value) W,J 1=ρ w.heap.size->Below w.heap.size w W->ay W w.heap.size 27 (gN K p)->(∀j,j < p.on.length->aF (p.on.getD j 0) (-1) ((p.code.length:Int) - 1)=true)->Q (.exit 0) (FC J) W)
 {a:Act} {W:World} (h:C1 w K p (p.on.length+1) a W):(Code.loop (ckL 0)).wp Tryz.prog Q a W:=by
 subst P4;refine Mk.aP (fun m a W=>C1 w K p m a W) (p.on.length+1) h ?_ ?_
 ·rintro a W ⟨J,i,-,-,-,h1,h2,-⟩;omega
 rintro m a0 W ⟨J,i,rfl,j1,j3,hi,hm,HB,HK,HA⟩;unfold FC
 conv=>arg 2;whnf
 have w2:IntKind.i64.wrap ((i:Int)+1)=((i+1:Nat):Int):=by rw [IntWalk.i64_in _ (by constructor<;>omega)];omega
 rw [j1,j3];clear j1 j3;obtain ⟨-,-,-,f3,-,f5⟩:=HK.o.c6;have lw:=HK.o.lt;rw [hkc] at f5;by_cases a8:i < p.on.length
 ·obtain ⟨b,off,cap,ho,q1,q2,lb,c⟩:=(H.o.o.aB (ax.ah HB.o)).some (by omega) (by omega);rw [ho] at f3;have c0:W.cell? (π b (off+i))=some (ι (p.on.getD i 0)):=c i (by omega);have dh:=ae a8;clear c ho;obtain ⟨z,hz⟩:∃z,p.on.getD i 0=z:=⟨_,rfl⟩;rw [hz] at c0;have HZ:=ae hz;clear hz;by_cases h1: -1<=z
  ·by_cases h2:z < p.code.length
   ·have HG:=ae (show aF z (-1) ((p.code.length:Int) - 1)=true by unfold aF;simp;omega);go_wp2_with fail;go_quiet (fail);go_wp2_with fail;refine ⟨_,i+1,FC.of _ rfl,rfl,rfl,dh.o,by omega,ae (HB.o.trans (au _ _ _)),ae (HK.o.drewN _),ae fun j hj=>?_⟩;by_cases e:j=i
    ·subst e;rw [HZ.o];exact HG.o
    ·exact HA.o j (by omega)
   ·exact acG
  ·exact acG
 ·obtain rfl:i=p.on.length:=by omega
  clear a8;rw [hko] at f3;go_wp2_with fail;exact Eq.mpr (congrArg (fun a=>Q (.exit 0) a W) (FC.of _ rfl)) (eZ _ _ rfl HB.o HK.o HA.o)
def C3 (w:World) (K:Kp) (p:aO) (i:Nat) (x:Ins) (tb ib nb:Nat) (m:Nat) (a:Act) (W:World):Prop:=∃(J:Nat->Value) (k:Nat),a=FC J/\J 1=ρ w.heap.size/\J 4= .slice (some (π tb 0)) 42 42/\J 5=ι i/\J 6=ρ ib/\J 7=ρ nb/\J 8=ι k/\k<=4/\m+k=5/\
 Hid (Below w.heap.size w W)/\Hid (ay W w.heap.size 27 (gN K p))/\Hid (aV W 5 (.slice (some (π tb 0)) 42 42) 42 CW)/\Hid (ay W ib 40 #[ι x.op,ι x.a,ι x.b,ι x.c,ι x.d])/\Hid (ay W nb 116 #[ι x.a,ι x.b,ι x.c,ι x.d])/\Hid (∀k',k' < k->aY p (dm x k') (lP x k')=true)
theorem QI:∀n,n < 42->∀k,k < 4->(bY n).getD k 0<=8:=by decide
theorem ck3 (H:Hid (fP w K p)) {x:Ins} {i tb ib nb:Nat} (cW:0<=x.op/\x.op < 42)
 (gO:∀(A:Array Value) W,A.getD 2 undef=ι 92->Below w.heap.size w W->gI p x=false->Q .ret {tmps:=A,defers:=[]} W)
 (eZ:∀(J:Nat->Value) W,J 1=ρ w.heap.size->J 4= .slice (some (π tb 0)) 42 42->J 5=ι i->Below w.heap.size w W->ay W w.heap.size 27 (gN K p)->aV W 5 (.slice (some (π tb 0)) 42 42) 42 CW->gI p x=true->Q (.exit 4) (FC J) W)
 {a:Act} {W:World} (h:C3 w K p i x tb ib nb 5 a W):(Code.loop ckI).wp Tryz.prog Q a W:=by
 obtain ⟨n,hn⟩:=Int.eq_ofNat_of_zero_le cW.1;have Ch:n < 42:=by omega
 have HN:=ae (show x.op.toNat=n by omega);refine Mk.aP (fun m a W=>C3 w K p i x tb ib nb m a W) 5 h ?_ ?_
 ·rintro a W ⟨J,k,-,-,-,-,-,-,-,h1,h2,-⟩;omega
 rintro m a0 W ⟨J,k,rfl,j1,j4,j5,j6,j7,j8,hk,hm,HB,HK,HT,HX,HO,HA⟩;unfold FC
 conv=>arg 2;whnf
 have w2:IntKind.i64.wrap ((k:Int)+1)=((k+1:Nat):Int):=by rw [IntWalk.i64_in _ (by constructor<;>omega)];omega
 rw [j1,j4,j5,j6,j7,j8];clear j1 j4 j5 j6 j7 j8;by_cases a8:k < 4
 ·obtain ⟨⟨ga,gc,g1,g2,g3⟩,⟨va,vc,v1,v2,v3⟩,⟨ta,tc,t1,t2,t3⟩,⟨oa,oc,o1,o2,o3⟩,⟨ca,cc,c1,c2,c3⟩⟩:=H.o.sl;obtain ⟨f0,f1,f2,f3,f4,f5⟩:=HK.o.c6;have lw:=HK.o.lt;have d0:W.cell? (π ib 0)=some (ι n):=by have h:=HX.o.cell 0;rw [hn] at h;exact h
  have lx:=HX.o.lt;have n0:W.cell? (π nb k)=some (ι (lP x k)):=by
   rw [HO.o.cell];have e:k=0\/k=1\/k=2\/k=3:=by omega
   rcases e with rfl|rfl|rfl|rfl<;>rfl
  have ln:=HO.o.lt;obtain ⟨b',TQ,mI,et,-,-,lt,ec⟩:=HT.o.some (by omega) (by omega);simp only [Value.slice.injEq,Option.some.injEq,Addr.mk.injEq] at et;obtain ⟨⟨rfl,rfl,-⟩,-,-⟩:=et;have L5:dm x k=(bY n).getD k 0:=by unfold dm;rw [HN.o]
  have e0:W.cell? (π tb (n*5+1+k))=some (ι (dm x k:Nat)):=by have h:=ec (n*5+1+k) (by omega);rw [Nat.zero_add] at h;rw [h,L5];unfold CW;rw [if_neg (by omega),show (n*5+1+k) / 5=n by omega,show (n*5+1+k) % 5 - 1=k by omega]
  have abz:(n:Int) < 42:=by omega
  have AI:(k:Int) < 4:=by omega
  have hk8:dm x k<=8:=by rw [L5];exact QI n Ch k a8
  have HF:=ae (fun V (hb:Below w.heap.size w V)=>E0 (w:=V) (H.o.aB (ax.ah hb)) (dm x k) (lP x k) hk8);have Ay:=ae (fun e=>nJ (p:=p) (x:=x) (j:=k) a8 e);unfold pV at HF;rw [g1,v1,t1,o1,c1] at HF;rw [g1] at f0;rw [v1] at f1;rw [t1] at f2;rw [o1] at f3;rw [c1] at f5;obtain ⟨dd,wm⟩:∃d,aY p (dm x k) (lP x k)=d:=⟨_,rfl⟩;rw [wm] at HF Ay;have TR:=ae (show ∀k',k'=k->aY p (dm x k') (lP x k')=dd from fun k' e=>by rw [e];exact wm);have dh:=ae a8;clear wm L5 ec hk8 g1 g2 g3 v1 v2 v3 t1 t2 t3 o1 o2 o3 c1 c2 c3;generalize dm x k=kd at*;generalize lP x k=od at*;go_wp2_with fail;refine Mk.bF (S:=fun wx=>Below W.heap.size W wx) (by kernel_rfl) (au _ W 1) (fun al=>?_);refine Mk.tk 0 (v:=?_) rfl (fun wz bR=>?_) al ?_;rotate_left
  ·have key:∀b i v,b < W.heap.size->W.cell? (π b i)=some v->wz.cell? (π b i)=some v:=fun b i v hb hc=>(World.cell?_of_block (bR.block _ hb)).trans hc;have y0:=key _ _ _ lw f0;have y1:=key _ _ _ lw f1;have y2:=key _ _ _ lw f2;have y3:=key _ _ _ lw f3;have y4:=key _ _ _ lw f4;have y5:=key _ _ _ lw f5;exact gee
  refine Mk.pt ?_;refine Mk.bL 1 ?_;refine Mk.bL 2 ?_;refine Mk.tk 3 (v:=?_) rfl (fun wz bR=>?_) al ?_;rotate_left
  ·have key:∀b i v,b < W.heap.size->W.cell? (π b i)=some v->wz.cell? (π b i)=some v:=fun b i v hb hc=>(World.cell?_of_block (bR.block _ hb)).trans hc;have y0:=key _ _ _ lx d0;exact gee
  refine Mk.pt ?_;refine Mk.bL 4 ?_;refine Mk.bL 5 ?_;refine Mk.bL 6 ?_;refine Mk.bL 7 ?_;refine Mk.tk 8 (v:=?_) rfl (fun wz bR=>?_) al ?_;rotate_left
  ·have key:∀b i v,b < W.heap.size->W.cell? (π b i)=some v->wz.cell? (π b i)=some v:=fun b i v hb hc=>(World.cell?_of_block (bR.block _ hb)).trans hc;have y0:=key _ _ _ lt e0;exact gee
  refine Mk.pt ?_;refine Mk.bL 9 ?_;refine Mk.bL 10 ?_;refine Mk.tk 11 (v:=?_) rfl (fun wz bR=>?_) al ?_;rotate_left
  ·have key:∀b i v,b < W.heap.size->W.cell? (π b i)=some v->wz.cell? (π b i)=some v:=fun b i v hb hc=>(World.cell?_of_block (bR.block _ hb)).trans hc;have y0:=key _ _ _ ln n0;exact gee
  refine Mk.pt ?_;refine Mk.nW (rs:=[12]) (AllReadyH.cons rfl (fun K9 hK=>?_) AllReadyH.nil);refine QX ?_;go_simp
  with_reducible refine (HF.o _ (HB.o.trans (al.mono HB.o.size))).mono ?_
  rintro e W1 ⟨rfl,eN⟩;have dn:=al.trans (eN.mono al.size);clear al;refine hK.out _ _ dn (fun al=>?_);clear hK K9;refine Mk.pt ?_;refine Mk.bL 13 ?_;refine wpAnyH_done (by kernel_rfl) ⟨rfl,?_⟩ _;clear al f0 f1 f2 f3 f4 f5 d0 n0 e0 lw lx ln lt HF;have dC:=ae (HB.o.trans (dn.mono HB.o.size));have pZ:=ae (HK.o.of (dn.block _ HK.o.lt));have Kk:=ae (HX.o.of (dn.block _ HX.o.lt));have B7:=ae (HO.o.of (dn.block _ HO.o.lt));have Jp:=ae (HT.o.aB (ax.ah dn));clear eN dn;cases dd with
  |false=>have HG:=ae (Ay.o rfl);clear Ay;go_wp2_with fail;exact gO _ _ rfl dC.o HG.o
  |true=>
   clear Ay;go_wp2_with fail;refine ⟨_,k+1,FC.of _ rfl,rfl,rfl,rfl,rfl,rfl,rfl,dh.o,by omega,dC,pZ,Jp,Kk,B7,ae fun k' uK=>?_⟩;by_cases e:k'=k
   ·exact TR.o k' e
   ·exact HA.o k' (by omega)
 ·obtain rfl:k=4:=by omega
  clear a8;have HG:=ae (rP (p:=p) (x:=x) HA.o);go_wp2_with fail;exact Eq.mpr (congrArg (fun a=>Q (.exit 4) a W) (FC.of _ rfl)) (eZ _ _ rfl rfl rfl HB.o HK.o HT.o HG.o)
def C2 (w:World) (K:Kp) (p:aO) (tb:Nat) (m:Nat) (a:Act) (W:World):Prop:=∃(J:Nat->Value) (i:Nat),a=FC J/\J 1=ρ w.heap.size/\J 4= .slice (some (π tb 0)) 42 42/\J 5=ι i/\i<=p.code.length/\m+i=p.code.length+1/\Hid (Below w.heap.size w W)/\Hid (ay W w.heap.size 27 (gN K p))/\Hid (aV W 5 (.slice (some (π tb 0)) 42 42) 42 CW)/\Hid (dp p p.code=dp p (p.code.drop i))
theorem ck2 (H:Hid (fP w K p)) {tb:Nat} (hc:p.code.length<=262144)
 (gO:∀(A:Array Value) W (e:Int),A.getD 2 undef=ι e->Below w.heap.size w W->dp p p.code=e->Q .ret {tmps:=A,defers:=[]} W)
 (eZ:∀(J:Nat->Value) W,Below w.heap.size w W->dp p p.code=0->Q (.exit 2) (FC J) W)
 {a:Act} {W:World} (h:C2 w K p tb (p.code.length+1) a W):(Code.loop (ckL 1)).wp Tryz.prog Q a W:=by
 refine Mk.aP (fun m a W=>C2 w K p tb m a W) (p.code.length+1) h ?_ ?_
 ·rintro a W ⟨J,i,-,-,-,-,h1,h2,-⟩;omega
 rintro m a0 W ⟨J,i,rfl,j1,j4,j5,hi,hm,HB,HK,HT,HE⟩;unfold FC
 conv=>arg 2;whnf
 have w2:IntKind.i64.wrap ((i:Int)+1)=((i+1:Nat):Int):=by rw [IntWalk.i64_in _ (by constructor<;>omega)];omega
 rw [j1,j4,j5];clear j1 j4 j5;have f5:W.cell? (π w.heap.size 5)=some K.c:=HK.o.cell 5;have lw:=HK.o.lt;by_cases a8:i < p.code.length
 ·obtain ⟨b,off,cap,ho,q1,q2,c0,c1,c2,c3,c4⟩:=(H.o.aB (ax.ah HB.o)).ins a8;rw [ho] at f5;have kV:=ae (kP a8);have dh:=ae a8;have Gn:=ae (fun V=>QE V (ai p i));unfold aQ aA at Gn;have HOO:=ae (show ∀x,ai p i=x->x=ai p i from fun x h=>h.symm);generalize hx:ai p i=x at*;have HX:=ae hx;clear hx ho q1 q2 HOO;have HAL:=ae ((HB.o.alloc HB.o.size (.cells #[ι x.op,ι x.a,ι x.b,ι x.c,ι x.d] 40)));by_cases o0:0<=x.op
  ·have e0:decide (x.op < 0)=false:=by simpa using o0
   by_cases o1:x.op < 42
   ·have xz:=ae (And.intro o0 o1);have pM:=ae (show dp p (p.code.drop i)=if gI p x then dp p (p.code.drop (i+1)) else 92 by rw [kV.o,show iP x=true by unfold iP aF;simp;omega];rfl);have e1:decide (42<=x.op)=false:=by simp;omega
    clear kV;go_wp2_with fail;refine (Gn.o _).mono ?_;rintro e W1 ⟨rfl,hb⟩;have eN:Below W.heap.size W W1:=((Below.refl _ W).alloc (Nat.le_refl _) _).trans (hb.mono (by simp));have dC:=ae (HB.o.trans (eN.mono HB.o.size));have pZ:=ae (HK.o.of (eN.block _ HK.o.lt));have Jp:=ae (HT.o.aB (ax.ah eN));have KX:=ae (show ay W1 W.heap.size 40 #[ι x.op,ι x.a,ι x.b,ι x.c,ι x.d] from (ay.new W _ _).of (hb.block _ (by simp)));clear hb eN c0 c1 c2 c3 c4 f5 lw HAL e0 e1 o0 o1;go_wp2_with fail;have ze:=ae dC.o.size;refine ck3 (tb:=tb) (ib:=W.heap.size) (nb:=W1.heap.size) H xz.o (fun A W3 xq wo hex=>?_) (fun J3 W3 j1 j4 j5 wo ZV hT3 lO=>?_) ⟨_,0,FC.of _ rfl,rfl,rfl,rfl,rfl,rfl,rfl,Nat.zero_le _,rfl,ae (dC.o.alloc dC.o.size _),ae (pZ.o.alloc _),ae (Jp.o.aB ((ax.refl [] _).alloc _)),ae (KX.o.alloc _),ae (ay.new _ _ _),ae (fun k hk=>absurd hk (by omega))⟩
    ·exact gO A W3 92 xq wo (by rw [HE.o,pM.o,hex];rfl)
    ·unfold FC;rw [j1,j4,j5];clear j1 j4 j5;have ki:=ae wo;have Dh:=ae ZV;have HT3:=ae hT3;have HG:=ae (show dp p p.code=dp p (p.code.drop (i+1)) by rw [HE.o,pM.o,lO];rfl);clear wo ZV hT3 lO;go_wp2_with fail;exact ⟨_,i+1,FC.of _ rfl,rfl,rfl,rfl,dh.o,by omega,ki,Dh,HT3,HG⟩
   ·have pM:=ae (show dp p (p.code.drop i)=91 by rw [kV.o,show iP x=false by unfold iP aF;simp;omega];rfl);have e1:decide (42<=x.op)=true:=by simp;omega
    clear kV;go_wp2_with fail;exact gO _ _ 91 rfl HAL.o (by rw [HE.o,pM.o])
  ·have pM:=ae (show dp p (p.code.drop i)=91 by rw [kV.o,show iP x=false by unfold iP aF;simp;omega];rfl);have e0:decide (x.op < 0)=true:=by simp;omega
   clear kV;go_wp2_with fail;exact gO _ _ 91 rfl HAL.o (by rw [HE.o,pM.o])
 ·obtain rfl:i=p.code.length:=by omega
  clear a8;obtain ⟨ca,cc,ec,-,-⟩:=aV.val H.o.cd;rw [ec] at f5;have HG:=ae (show dp p p.code=0 by have h:=HE.o;rw [List.drop_length] at h;rw [h];rfl);go_wp2_with fail;exact Eq.mpr (congrArg (fun a=>Q (.exit 2) a W) (FC.of _ rfl)) (eZ _ _ HB.o HG.o)
end
section
variable {w:World} {K:Kp} {p:aO}
theorem zY (h:fP w K p):Calls Tryz.prog 231 #[pV K p] w (fun e w'=>e= .returned (ι (bo p))/\Below w.heap.size w w'):=by
 obtain ⟨⟨ga,gc,g1,g2,g3⟩,⟨va,vc,v1,v2,v3⟩,⟨ta,tc,t1,t2,t3⟩,⟨oa,oc,o1,o2,o3⟩,⟨ca,cc,c1,c2,c3⟩⟩:=h.sl;obtain ⟨kg,kv,kt,ko,kc⟩:=K;dsimp only at g1 v1 t1 o1 c1;subst g1 v1 t1 o1 c1;have H:=ae h;have PC:ay (w.alloc (.cells (gN ⟨.slice ga p.ap.length gc,.slice va p.vars.length vc,.slice ta p.aW.length tc,.slice oa p.on.length oc,.slice ca p.code.length cc⟩ p) 27)) w.heap.size 27 (gN ⟨.slice ga p.ap.length gc,.slice va p.vars.length vc,.slice ta p.aW.length tc,.slice oa p.on.length oc,.slice ca p.code.length cc⟩ p):=ay.new w _ _;have dQ:Below w.heap.size w (w.alloc (.cells (gN ⟨.slice ga p.ap.length gc,.slice va p.vars.length vc,.slice ta p.aW.length tc,.slice oa p.on.length oc,.slice ca p.code.length cc⟩ p) 27)):=(Below.refl _ _).alloc (Nat.le_refl _) _;have CV:Hid (p.vars.length<=16->Calls Tryz.prog 286 #[.slice va p.vars.length vc] (w.alloc (.cells (gN ⟨.slice ga p.ap.length gc,.slice va p.vars.length vc,.slice ta p.aW.length tc,.slice oa p.on.length oc,.slice ca p.code.length cc⟩ p) 27)) (fun e w'=>e= .returned (.bool (p.vars.all me))/\Below w.heap.size w w'/\ay w' w.heap.size 27 (gN ⟨.slice ga p.ap.length gc,.slice va p.vars.length vc,.slice ta p.aW.length tc,.slice oa p.on.length oc,.slice ca p.code.length cc⟩ p))):=
  ae fun h2=>(UJ (h.aB (ax.ah dQ)) h2).mono fun e w' hh=>by obtain ⟨h1,k,rfl⟩:=hh;exact ⟨h1,dQ.trans (au _ _ k),PC.drewN k⟩
 have gp:=ae dQ;unfold pV;unfold gN at CV;dsimp only at CV ⊢;clear h PC dQ g2 g3 v2 v3 t2 t3 o2 o3;have m5:=ae c2;have m6:=ae c3;by_cases h1:p.ap.length<=16
 case neg=>go_enter Tryz.func231,Tryz.ntmps231;go_wp2_with fail;go_ret;exact ⟨by simp [bo,bS,h1],gp.o⟩
 by_cases h2:p.vars.length<=16
 case neg=>go_enter Tryz.func231,Tryz.ntmps231;go_wp2_with fail;go_ret;exact ⟨by simp [bo,bS,h2],gp.o⟩
 by_cases h3:p.aW.length<=4
 case neg=>go_enter Tryz.func231,Tryz.ntmps231;go_wp2_with fail;go_ret;exact ⟨by simp [bo,bS,h3],gp.o⟩
 have CT:Hid (∀W,Below w.heap.size w W->Calls Tryz.prog 287 #[.slice ta p.aW.length tc] W (fun e w'=>e= .returned (.bool (p.aW.all fun t=>aF t 1 255))/\w'=W)):=ae fun W hb=>by have h9:=UY (H.o.aB (ax.ah hb)) h3;exact h9
 by_cases h4:p.vars.all me=true
 case neg=>
  have hF:(p.vars.all me)=false:=by simpa using h4
  have HF:=ae (show bo p=85 by unfold bo bS;rw [hF];simp);rw [hF] at CV;clear h4 hF;go_enter Tryz.func231,Tryz.ntmps231;go_wp2_with fail;refine (CV.o h2).mono ?_;rintro e W1 ⟨rfl,hb,hk⟩;obtain ⟨f0,f1,f2,f3,f4,f5⟩:=hk.c6;have lw:=hk.lt;have HB:=ae hb;have HK:=ae hk;clear hb hk CV gp;go_wp2_with fail;go_ret;exact ⟨by rw [HF.o];rfl,HB.o⟩
 rw [h4] at CV;by_cases h5:(p.aW.all fun t=>aF t 1 255)=true
 case neg=>
  have hF:((p.aW.all fun t=>aF t 1 255))=false:=by simpa using h5
  have HF:=ae (show bo p=85 by unfold bo bS;rw [hF];simp);rw [hF] at CT;clear h5 hF;go_enter Tryz.func231,Tryz.ntmps231;go_wp2_with fail;refine (CV.o h2).mono ?_;rintro e W1 ⟨rfl,hb,hk⟩;obtain ⟨f0,f1,f2,f3,f4,f5⟩:=hk.c6;have lw:=hk.lt;have HB:=ae hb;have HK:=ae hk;clear hb hk CV gp;go_wp2_with fail;refine (CT.o _ HB.o).mono ?_;rintro e W2 ⟨rfl,rfl⟩;clear CT;go_wp2_with fail;go_ret;exact ⟨by rw [HF.o];rfl,HB.o⟩
 rw [h5] at CT;by_cases h6:p.on.length=p.ap.length
 case neg=>go_enter Tryz.func231,Tryz.ntmps231;go_wp2_with fail;refine (CV.o h2).mono ?_;rintro e W1 ⟨rfl,hb,hk⟩;obtain ⟨f0,f1,f2,f3,f4,f5⟩:=hk.c6;have lw:=hk.lt;have HB:=ae hb;have HK:=ae hk;clear hb hk CV gp;go_wp2_with fail;refine (CT.o _ HB.o).mono ?_;rintro e W2 ⟨rfl,rfl⟩;clear CT;go_wp2_with fail;go_ret;exact ⟨by simp [bo,bS,h6],HB.o⟩
 simp only [h6] at CV H;by_cases h7:p.code.length<=262144
 case neg=>go_enter Tryz.func231,Tryz.ntmps231;go_wp2_with fail;refine (CV.o h2).mono ?_;rintro e W1 ⟨rfl,hb,hk⟩;obtain ⟨f0,f1,f2,f3,f4,f5⟩:=hk.c6;have lw:=hk.lt;have HB:=ae hb;have HK:=ae hk;clear hb hk CV gp;go_wp2_with fail;refine (CT.o _ HB.o).mono ?_;rintro e W2 ⟨rfl,rfl⟩;clear CT;go_wp2_with fail;go_ret;exact ⟨by simp [bo,bS,h7],HB.o⟩
 by_cases h8: -1<=p.aJ
 case neg=>go_enter Tryz.func231,Tryz.ntmps231;go_wp2_with fail;refine (CV.o h2).mono ?_;rintro e W1 ⟨rfl,hb,hk⟩;obtain ⟨f0,f1,f2,f3,f4,f5⟩:=hk.c6;have lw:=hk.lt;have HB:=ae hb;have HK:=ae hk;clear hb hk CV gp;go_wp2_with fail;refine (CT.o _ HB.o).mono ?_;rintro e W2 ⟨rfl,rfl⟩;clear CT;go_wp2_with fail;go_ret;exact ⟨by unfold bo bS aF;simp [show ¬(-1<=p.aJ) by omega],HB.o⟩
 by_cases h9:p.aJ < p.code.length
 case neg=>go_enter Tryz.func231,Tryz.ntmps231;go_wp2_with fail;refine (CV.o h2).mono ?_;rintro e W1 ⟨rfl,hb,hk⟩;obtain ⟨f0,f1,f2,f3,f4,f5⟩:=hk.c6;have lw:=hk.lt;have HB:=ae hb;have HK:=ae hk;clear hb hk CV gp;go_wp2_with fail;refine (CT.o _ HB.o).mono ?_;rintro e W2 ⟨rfl,rfl⟩;clear CT;go_wp2_with fail;go_ret;exact ⟨by unfold bo bS aF;simp [show ¬p.aJ<=(p.code.length:Int) - 1 by omega],HB.o⟩
 go_enter Tryz.func231,Tryz.ntmps231;go_wp2_with fail;refine (CV.o h2).mono ?_;rintro e W1 ⟨rfl,hb,hk⟩;obtain ⟨f0,f1,f2,f3,f4,f5⟩:=hk.c6;have lw:=hk.lt;have HB:=ae hb;have HK:=ae hk;clear hb hk CV gp;go_wp2_with fail;refine (CT.o _ HB.o).mono ?_;rintro e W2 ⟨rfl,rfl⟩;clear CT;go_wp2_with fail;clear f0 f1 f2 f3 f4 f5 lw;have qX:=ae (show bS p=(p.on.all fun n=>aF n (-1) ((p.code.length:Int) - 1)) by
  have e9:aF p.aJ (-1) ((p.code.length:Int) - 1)=true:=by unfold aF;simp;omega
  unfold bS;rw [h4,h5,e9];simp [h1,h2,h3,h6,h7])
 refine ck1 (no:=p.ap.length) H rfl rfl h6.symm (by omega) h7 (fun A W3 xq wo hex=>?_) (fun J3 W3 j1 wo ZV xq=>?_) ⟨_,0,FC.of _ rfl,rfl,rfl,Nat.zero_le _,by omega,HB,HK,ae (fun j hj=>absurd hj (by omega))⟩
 ·simp only [Exit.inBlock,Exit.then];have HF:=ae (show bo p=85 by
   obtain ⟨j,hj,e⟩:=hex;unfold bo;have:(p.on.all fun n=>aF n (-1) ((p.code.length:Int) - 1))=false:=by rw [Bool.eq_false_iff];intro fF;rw [wK (0:Int)] at fF;rw [fF j hj] at e;cases e
   rw [qX.o,this];rfl)
  refine Vf.eP (P:=Tryz.prog) (fn:=Tryz.f231) rfl ?_;exact ⟨by rw [xq,HF.o],wo⟩
 ·have HF:=ae (show bo p=dp p p.code by
   unfold bo;have:(p.on.all fun n=>aF n (-1) ((p.code.length:Int) - 1))=true:=by rw [wK (0:Int)];exact xq
   rw [qX.o,this];rfl)
  have ki:=ae wo;have Dh:=ae ZV;unfold FC;rw [j1];clear xq wo ZV j1 qX HB HK;go_wp2_with fail;refine (Aq W3).mono ?_;rintro e W4 ⟨tb,rfl,hr,hb⟩;have mU:=ae (ki.o.trans (hb.mono ki.o.size));have HK4:=ae (Dh.o.of (hb.block _ Dh.o.lt));have HR4:=ae hr;clear hb hr;go_wp2_with fail;refine ck2 (tb:=tb) H h7 (fun A W3 e xq wo he=>?_) (fun J3 W3 wo he=>?_) ⟨_,0,FC.of _ rfl,rfl,rfl,rfl,Nat.zero_le _,by omega,mU,HK4,HR4,ae (by rw [List.drop_zero])⟩
  ·simp only [Exit.inBlock,Exit.then];refine Vf.eP (P:=Tryz.prog) (fn:=Tryz.f231) rfl ?_;exact ⟨by rw [xq,HF.o,he],wo⟩
  ·have HE:=ae (show bo p=0 by rw [HF.o,he]);have Dp:=ae wo;unfold FC;clear he wo;go_wp2_with fail;refine Vf.eP (P:=Tryz.prog) (fn:=Tryz.f231) rfl ?_;exact ⟨by rw [HE.o];rfl,Dp.o⟩
end
end Go.Proofs.YtblkblclmbhjiaaGreat.Rv
namespace Go.Proofs.YtblkblclmbhjiaaGreat.Rv
open Go.RowKit ak.Vm
open ak hiding aL an aj
open Ma (dx bQ aU vb aA aQ)
open Vf (Kp fP pV qu bw aV)
def FP (J:Nat->Value):Act:={tmps:=#[J 0,J 1,J 2,J 3,J 4,J 5,J 6,J 7,J 8,J 9,J 10,J 11,J 12,J 13,J 14,J 15,J 16,J 17,J 18,J 19,J 20,J 21,J 22,J 23,J 24,J 25,J 26,J 27,J 28,J 29,J 30,J 31,J 32,J 33,J 34,J 35,J 36,J 37,J 38,J 39,J 40,J 41,J 42,J 43,J 44,J 45,J 46,J 47,J 48,J 49,J 50,J 51,J 52,J 53,J 54,J 55,J 56,J 57,J 58,J 59,J 60,J 61,J 62,J 63,J 64,J 65,J 66,J 67,J 68,J 69,J 70,J 71,J 72,J 73,J 74,J 75,J 76,J 77,J 78,J 79,J 80,J 81,J 82,J 83,J 84,J 85,J 86,J 87,J 88,J 89,J 90,J 91,J 92,J 93,J 94,J 95,J 96,J 97,J 98,J 99,J 100,J 101,J 102,J 103,J 104,J 105,J 106,J 107,J 108,J 109,J 110,J 111,J 112,J 113,J 114,J 115,J 116,J 117,J 118,J 119,J 120,J 121,J 122,J 123,J 124,J 125,J 126,J 127,J 128,J 129,J 130,J 131,J 132,J 133,J 134,J 135,J 136,J 137,J 138,J 139,J 140,J 141,J 142,J 143,J 144],defers:=[]}
theorem FP.of (A:Array Value) (h:A=(FP fun k=>A.getD k undef).tmps):({tmps:=A,defers:=[]}:Act)=FP fun k=>A.getD k undef:=by rw [h];rfl
noncomputable def plL (k:Nat):Code:=Mk.mK Tryz.f232.body k
theorem aaX (s t:kE) (hs:eI s.ty) (ht:eI t.ty) (w:World):(binOp .neq 262 (mQ s) (mQ t)).run Tryz.prog w= .ok (.bool (!decide (s=t))) w:=by
 have h:=eqS s t hs ht w;unfold mQ at h ⊢;rw [run_eql_struct] at h;rw [run_neq_struct];cases hr:(Op.equalIn 10000 262 (.agg #[.string (fk s.ty),ι s.loop,ι s.hand,.bool s.jI]) (.agg #[.string (fk t.ty),ι t.loop,ι t.hand,.bool t.jI])).run Tryz.prog w with
 |ok b w'=>rw [hr] at h;simp only [Result.andThen] at h ⊢;simp only [Result.ok.injEq,Value.bool.injEq] at h;rw [h.1,h.2]
 |halt x w'=>rw [hr] at h;simp [Result.andThen] at h
theorem QJ {α:Type} (d:α) (l:List α) {i:Nat} (hi:i < l.length):l.drop i=l.getD i d::l.drop (i+1):=by rw [List.drop_eq_getElem_cons hi,List.getD_eq_getElem?_getD,List.getElem?_eq_getElem hi];rfl
section
variable {w W0:World} {K:Kp} {p:aO} {j_ jA nv wv:Value} {lb A ph pc lo:Nat} {L:jS} {l:List (Nat×kE)} {Q:Exit->Act->World->Prop}
theorem g_.aB {W W':World} {S:List Nat} (h:g_ W lo nv wv l) (f:ax S W W') (hS:∀b,b∈S->b < lo):g_ W' lo nv wv l:=
 ⟨h.n.aB f (fun b hb hm=>by have:=h.nl b hb;have:=hS b hm;omega),h.s.aB f (fun b hb hm=>by have:=h.wl b hb;have:=hS b hm;omega),h.nl,h.wl⟩
theorem g_.JM {W:World} (h:g_ W lo nv wv l) {i:Nat} (hi:i < l.length):∃b cap b' mI,nv= .slice (some (π b 0)) l.length cap/\wv= .slice (some (π b' 0)) l.length mI/\l.length<=cap/\l.length<=mI/\lo<=b/\lo<=b'/\W.cell? (π b i)=some (ι ((l.getD i zW).1:Nat))/\
 W.cell? (π b' (i*4))=some (.string (fk (l.getD i zW).2.ty))/\W.cell? (π b' (i*4+1))=some (ι (l.getD i zW).2.loop)/\W.cell? (π b' (i*4+2))=some (ι (l.getD i zW).2.hand)/\W.cell? (π b' (i*4+3))=some (.bool (l.getD i zW).2.jI):=by
 obtain ⟨b,cap,e,h1,-,-⟩:=h.n.some (by omega);obtain ⟨b',mI,e',h1',-,-⟩:=h.s.some (by omega);have hn:=h.n;have hs:=h.s;rw [e] at hn;rw [e'] at hs;have key:∀k,k < 4->W.cell? (π b' (i*4+k))=some ((#[.string (fk (l.getD i zW).2.ty),ι (l.getD i zW).2.loop,ι (l.getD i zW).2.hand,.bool (l.getD i zW).2.jI]:Array Value).getD k undef):=fun k hk=>by have e:=hs.cell (o:=i*4+k) (by omega);rw [e];unfold CQ;rw [show (i*4+k) / 4=i by omega,show (i*4+k) % 4=k by omega]
 exact ⟨b,cap,b',mI,e,e',h1,h1',h.nl b (by rw [e];rfl),h.wl b' (by rw [e'];rfl),hn.cell (by omega),key 0 (by omega),key 1 (by omega),key 2 (by omega),key 3 (by omega)⟩
theorem g_.val {W:World} (h:g_ W lo nv wv l):∃a c a' c',nv= .slice a l.length c/\wv= .slice a' l.length c':=by
 have key:∀{e:TypeId} {k:Nat} {v:Value} {g:Nat->Value},Row W e k v l.length g->∃a c,v= .slice a l.length c:=fun h=>by
  rcases h.val with ⟨e,h0⟩|⟨b,cap,e,-⟩
  ·rw [h0];exact ⟨none,0,e⟩
  ·exact ⟨_,_,e⟩
 obtain ⟨a,c,e⟩:=key h.n;obtain ⟨a',c',e'⟩:=key h.s;exact ⟨a,c,a',c',e,e'⟩
def P1 (W0:World) (lb pc:Nat) (nv wv:Value) (l:List (Nat×kE)) (p:aO) (m:Nat) (a:Act) (W:World):Prop:=∃(J:Nat->Value) (i:Nat),a=FP J/\J 0=ρ lb/\J 1=ι pc/\J 11=nv/\J 12=wv/\J 13=ι i/\i<=l.length/\m+i=l.length+1/\Hid (Below W0.heap.size W0 W)/\Hid (∀j,j < i->(l.getD j zW).1≠p.code.length)
theorem pl1 (H:Hid (fP w K p)) (HL:Hid (ay W0 lb 260 (uj K p (.slice (some (π A 0)) p.code.length ph) j_ jA))) (HW:Hid (g_ W0 lo nv wv l)) (hl:l.length<=2)
 (gO:∀(B:Array Value) W,B.getD 4 undef=ι 98->Below W0.heap.size W0 W->(∃j,j < l.length/\(l.getD j zW).1=p.code.length)->Q .ret {tmps:=B,defers:=[]} W)
 (eZ:∀(J:Nat->Value) W,J 0=ρ lb->J 1=ι pc->J 11=nv->J 12=wv->Below W0.heap.size W0 W->(∀j,j < l.length->(l.getD j zW).1≠p.code.length)->Q (.exit 0) (FP J) W)
 {a:Act} {W:World} (h:P1 W0 lb pc nv wv l p (l.length+1) a W):(Code.loop (plL 0)).wp Tryz.prog Q a W:=by
 refine Mk.aP (fun m a W=>P1 W0 lb pc nv wv l p m a W) (l.length+1) h ?_ ?_
 ·rintro a W ⟨J,i,-,-,-,-,-,-,h1,h2,-⟩;omega
 rintro m a0 W ⟨J,i,rfl,j0,j1,qY,tQ,Dr,hi,hm,HB,HA⟩;unfold FP
 conv=>arg 2;whnf
 have w2:IntKind.i64.wrap ((i:Int)+1)=((i+1:Nat):Int):=by rw [IntWalk.i64_in _ (by constructor<;>omega)];omega
 rw [j0,j1,qY,tQ,Dr];clear j0 j1 qY tQ Dr;obtain ⟨ca,cc,kc,-,-⟩:=aV.val H.o.cd;have Jv:=HL.o.of (HB.o.block _ HL.o.lt);have v5:W.cell? (π lb 5)=some K.c:=Jv.cell 5;have lv:=Jv.lt;rw [kc] at v5;clear Jv kc;by_cases a8:i < l.length
 ·obtain ⟨b,cap,b',mI,en,ew,q1,q2,-,-,c0,-⟩:=(HW.o.aB (S:=[]) (ax.ah HB.o) (by simp)).JM a8;have wR:=ae en;have wS:=ae ew;have dh:=ae a8;rw [wR.o,wS.o];clear en ew;obtain ⟨z,hz⟩:∃z,(l.getD i zW).1=z:=⟨_,rfl⟩;rw [hz] at c0;have HZ:=ae hz;clear hz;by_cases h1:z=p.code.length
  ·have e1:((z:Int)==(p.code.length:Int))=true:=by simp;omega
   have HG:=ae h1;clear h1;go_wp2_with fail;go_quiet (fail);go_wp2_with fail;exact gO _ _ rfl (HB.o.trans (au _ _ _)) ⟨i,dh.o,by rw [HZ.o];exact HG.o⟩
  ·have e1:((z:Int)==(p.code.length:Int))=false:=by simp;omega
   have HG:=ae h1;clear h1;go_wp2_with fail;go_quiet (fail);go_wp2_with fail
   try rw [<-wR.o]
   try rw [<-wS.o]
   refine ⟨_,i+1,FP.of _ rfl,rfl,rfl,(by first|rfl|exact wR.o.symm),(by first|rfl|exact wS.o.symm),rfl,dh.o,by omega,ae (HB.o.trans (au _ _ _)),ae fun j hj=>?_⟩;by_cases e:j=i
   ·subst e;rw [HZ.o];exact HG.o
   ·exact HA.o j (by omega)
 ·obtain rfl:i=l.length:=by omega
  clear a8;obtain ⟨a,c,a',c',en,ew⟩:=HW.o.val;have wR:=ae en;have wS:=ae ew;rw [wR.o,wS.o];clear en ew;go_wp2_with fail;exact Eq.mpr (congrArg (fun a=>Q (.exit 0) a W) (FP.of _ rfl)) (eZ _ _ rfl rfl wR.o.symm wS.o.symm HB.o HA.o)
def wL (L:jS) (w:Nat×kE):Bool:= !(L.at_ w.1).jI||decide (L.at_ w.1=w.2)
def P2 (W0:World) (lb pc:Nat) (nv wv:Value) (l:List (Nat×kE)) (L:jS) (m:Nat) (a:Act) (W:World):Prop:=∃(J:Nat->Value) (i:Nat),a=FP J/\J 0=ρ lb/\J 1=ι pc/\J 11=nv/\J 12=wv/\J 14=ι i/\i<=l.length/\m+i=l.length+1/\Hid (Below W0.heap.size W0 W)/\Hid (∀j,j < i->wL L (l.getD j zW)=true)
theorem aei {p:Prop} (h:p:=by
 go_wp2_with fail;go_quiet (fail);go_wp2_with fail
 try rw [<-wR.o]
 try rw [<-wS.o]
 refine ⟨_,i+1,FP.of _ rfl,rfl,rfl,(by first|rfl|exact wR.o.symm),(by first|rfl|exact wS.o.symm),rfl,dh.o,by omega,ae (HB.o.trans (au _ _ _)),ae fun j hj=>?_⟩;by_cases e:j=i
 ·subst e;exact HG.o
 ·exact HA.o j (by omega)):p:=h
theorem pl2 (HL:Hid (qx W0 K p lb (.slice (some (π A 0)) p.code.length ph) j_ jA L)) (HO:Hid (kJ p L)) (HW:Hid (g_ W0 lo nv wv l)) (hl:l.length<=2) (iM:Hid (∀j,j < l.length->(l.getD j zW).1 < p.code.length/\mG p (l.getD j zW).2))
 (gO:∀(B:Array Value) W,B.getD 4 undef=ι 94->Below W0.heap.size W0 W->(∃j,j < l.length/\wL L (l.getD j zW)=false)->Q .ret {tmps:=B,defers:=[]} W)
 (eZ:∀(J:Nat->Value) W,J 0=ρ lb->J 1=ι pc->J 11=nv->J 12=wv->Below W0.heap.size W0 W->(∀j,j < l.length->wL L (l.getD j zW)=true)->Q (.exit 2) (FP J) W)
 {a:Act} {W:World} (h:P2 W0 lb pc nv wv l L (l.length+1) a W):(Code.loop (plL 1)).wp Tryz.prog Q a W:=by
 refine Mk.aP (fun m a W=>P2 W0 lb pc nv wv l L m a W) (l.length+1) h ?_ ?_
 ·rintro a W ⟨J,i,-,-,-,-,-,-,h1,h2,-⟩;omega
 rintro m a0 W ⟨J,i,rfl,j0,j1,qY,tQ,ZF,hi,hm,HB,HA⟩;unfold FP
 conv=>arg 2;whnf
 have w2:IntKind.i64.wrap ((i:Int)+1)=((i+1:Nat):Int):=by rw [IntWalk.i64_in _ (by constructor<;>omega)];omega
 rw [j0,j1,qY,tQ,ZF];clear j0 j1 qY tQ ZF;have hLW:=HL.o.aB (ax.ah HB.o);have v6:W.cell? (π lb 6)=some (.slice (some (π A 0)) p.code.length ph):=hLW.c_.cell 6;have lv:=hLW.c_.lt;by_cases a8:i < l.length
 ·obtain ⟨b,cap,b',mI,en,ew,q1,q2,-,-,c0,d0,d1,d2,d3⟩:=(HW.o.aB (S:=[]) (ax.ah HB.o) (by simp)).JM a8;have wR:=ae en;have wS:=ae ew;have dh:=ae a8;rw [wR.o,wS.o];clear en ew;obtain ⟨gA,jF⟩:=iM.o i a8;have ZW:=ae (show wL L (l.getD i zW)=(!(L.at_ (l.getD i zW).1).jI||decide (L.at_ (l.getD i zW).1=(l.getD i zW).2)) from rfl);have sd:=ae (aaX (L.at_ (l.getD i zW).1) (l.getD i zW).2 (HO.o.at_ _).ty jF.ty);obtain ⟨z,hz⟩:∃z,(l.getD i zW).1=z:=⟨_,rfl⟩;obtain ⟨s,hs⟩:∃s,(l.getD i zW).2=s:=⟨_,rfl⟩;rw [hz] at c0 gA ZW sd;rw [hs] at d0 d1 d2 d3 ZW sd;obtain ⟨b2,z_,eA,a1,a2,a3,s0,s1,s2,s3⟩:=hLW.RD gA;simp only [Value.slice.injEq,Option.some.injEq,Addr.mk.injEq] at eA;obtain ⟨⟨rfl,-,-⟩,-,rfl⟩:=eA;clear hz hs jF;have AP:(z:Int) < p.code.length:=by omega
  cases hg:(L.at_ z).jI with
  |false=>rw [hg] at s3;have HG:=ae (show wL L (l.getD i zW)=true by rw [ZW.o,hg];rfl);clear sd hg;generalize (L.at_ z).ty=t1 at*;generalize (L.at_ z).loop=l1 at*;generalize (L.at_ z).hand=h1 at*;exact aei
  |true=>
   rw [hg] at s3;obtain ⟨dd,wm⟩:∃d,decide (L.at_ z=s)=d:=⟨_,rfl⟩;have HG:=ae (show wL L (l.getD i zW)=dd by rw [ZW.o,hg,wm];rfl);rw [wm] at sd;have bz:∀V,(binOp .neq 262 (mQ (L.at_ z)) (mQ s)).run Tryz.prog V= .ok (.bool (!dd)) V:=sd.o;unfold mQ at bz;rw [hg] at bz;clear sd hg wm ZW;generalize fk (L.at_ z).ty=t1 at*;generalize (L.at_ z).loop=l1 at*;generalize (L.at_ z).hand=h1 at*;generalize fk s.ty=t2 at*;generalize s.loop=l2 at*;generalize s.hand=h2 at*;generalize s.jI=g2 at*;cases dd with
   |true=>exact aei
   |false=>go_wp2_with fail;go_quiet (fail);go_wp2_with fail;exact gO _ _ rfl (HB.o.trans (au _ _ _)) ⟨i,dh.o,HG.o⟩
 ·obtain rfl:i=l.length:=by omega
  clear a8 hLW;obtain ⟨a,c,a',c',en,ew⟩:=HW.o.val;have wR:=ae en;have wS:=ae ew;rw [wR.o,wS.o];clear en ew;go_wp2_with fail;exact Eq.mpr (congrArg (fun a=>Q (.exit 2) a W) (FP.of _ rfl)) (eZ _ _ rfl rfl wR.o.symm wS.o.symm HB.o HA.o)
def P3 (W0:World) (K:Kp) (lb pc A ph:Nat) (j_ jA nv wv:Value) (l:List (Nat×kE)) (p:aO) (L:jS) (m:Nat) (a:Act) (W:World):Prop:=∃(J:Nat->Value) (i:Nat) (L':jS),a=FP J/\J 0=ρ lb/\J 1=ι pc/\J 11=nv/\J 12=wv/\J 15=ι i/\i<=l.length/\m+i=l.length+1/\Hid (ax [A] W0 W)/\Hid (qx W K p lb (.slice (some (π A 0)) p.code.length ph) j_ jA L')/\Hid (kJ p L')/\Hid (eC L l=eC L' (l.drop i))
theorem QK {p:aO} {L:jS} {v:Nat×kE} {l:List (Nat×kE)} (K:kJ p L) (hs:mG p v.2):((rY L v.1 v.2).1=true->eC L (v::l)=eC (rY L v.1 v.2).2 l/\kJ p (rY L v.1 v.2).2)/\((rY L v.1 v.2).1=false->eC L (v::l)=none):=by
 rw [show eC L (v::l)=(if (L.at_ v.1).jI then (if L.at_ v.1=v.2 then eC L l else none) else eC {L with at_:=aL L.at_ v.1 v.2} l) from rfl];unfold rY;cases hg:(L.at_ v.1).jI with
 |false=>exact ⟨fun _=>⟨by simp,GV K _ hs⟩,fun h=>by simp at h⟩
 |true=>
  by_cases e:L.at_ v.1=v.2
  ·exact ⟨fun _=>⟨by simp [e],by simpa using K⟩,fun h=>by simp [e] at h⟩
  ·exact ⟨fun h=>by simp [e] at h,fun _=>by simp [e]⟩
theorem pl3 (ES:Hid (A < lo/\lb≠A)) (HW:Hid (g_ W0 lo nv wv l)) (hl:l.length<=2) (iM:Hid (∀j,j < l.length->(l.getD j zW).1 < p.code.length/\mG p (l.getD j zW).2))
 (gO:∀(B:Array Value) W,B.getD 4 undef=ι 94->ax [A] W0 W->eC L l=none->Q .ret {tmps:=B,defers:=[]} W)
 (eZ:∀(J:Nat->Value) W L',ax [A] W0 W->qx W K p lb (.slice (some (π A 0)) p.code.length ph) j_ jA L'->eC L l=some L'->Q (.exit 4) (FP J) W)
 {a:Act} {W:World} (h:P3 W0 K lb pc A ph j_ jA nv wv l p L (l.length+1) a W):(Code.loop (plL 2)).wp Tryz.prog Q a W:=by
 refine Mk.aP (fun m a W=>P3 W0 K lb pc A ph j_ jA nv wv l p L m a W) (l.length+1) h ?_ ?_
 ·rintro a W ⟨J,i,L',-,-,-,-,-,-,h1,h2,-⟩;omega
 rintro m a0 W ⟨J,i,L',rfl,j0,j1,qY,tQ,ZG,hi,hm,HF,HL,HO,Oo⟩;unfold FP
 conv=>arg 2;whnf
 have w2:IntKind.i64.wrap ((i:Int)+1)=((i+1:Nat):Int):=by rw [IntWalk.i64_in _ (by constructor<;>omega)];omega
 rw [j0,j1,qY,tQ,ZG];clear j0 j1 qY tQ ZG;by_cases a8:i < l.length
 ·obtain ⟨b,cap,b',mI,en,ew,q1,q2,lb1,lb2,c0,d0,d1,d2,d3⟩:=(HW.o.aB (S:=[A]) HF.o (by simp;exact ES.o.1)).JM a8;have hNA:b≠A:=by have:=ES.o.1;omega
  have hWA:b'≠A:=by have:=ES.o.1;omega
  have wR:=ae en;have wS:=ae ew;have dh:=ae a8;rw [wR.o,wS.o];clear en ew lb1 lb2;obtain ⟨gA,jF⟩:=iM.o i a8;have Sa:=ae (QK (l:=l.drop (i+1)) HO.o jF);have Λ:=ae (QJ zW l a8);have HC:=ae (fun V (hb:Below W.heap.size W V)=>xM (w:=V) (HL.o.aB (ax.ah hb)) gA jF.ty (HO.o.at_ _).ty);obtain ⟨z,hz⟩:∃z,(l.getD i zW).1=z:=⟨_,rfl⟩;obtain ⟨s,hs⟩:∃s,(l.getD i zW).2=s:=⟨_,rfl⟩;rw [hz] at c0 Sa HC;rw [hs] at d0 d1 d2 d3 Sa HC;have Iw:=ae (show eC L l=eC L' ((l.getD i zW)::l.drop (i+1)) by rw [Oo.o,Λ.o]);rw [show l.getD i zW=(z,s) from Prod.ext hz hs] at Iw;rw [show l.getD i zW=(z,s) from Prod.ext hz hs] at Sa;clear hz hs gA jF;have HEZ:=ae (rfl:rY L' z s=rY L' z s);obtain ⟨g,hg⟩:∃g,rY L' z s=g:=⟨_,rfl⟩;obtain ⟨gb,gL⟩:=g;unfold GU mQ at HC;rw [hg] at HC Sa
  try dsimp only at HC Sa
  clear hg HEZ;generalize fk s.ty=t2 at*;generalize s.loop=l2 at*;generalize s.hand=h2 at*;generalize s.jI=g2 at*;go_wp2_with fail;refine Mk.bF (S:=fun wx=>ax [A] W wx) (by kernel_rfl) ((ax.ah (S:=[A]) (au _ W 1))) (fun al=>?_);have HD:=ae (au W.heap.size W 1);change Hid (Below W.heap.size W W.drew) at HD;refine Mk.bL 0 ?_;refine Mk.bL 1 ?_;refine Mk.bL 2 ?_;refine Mk.bL 3 ?_;refine Mk.tk 4 (v:=?_) rfl (fun wz bR=>?_) al ?_;rotate_left
  ·have key:∀b i v,b≠A->W.cell? (π b i)=some v->wz.cell? (π b i)=some v:=fun b i v hn hc=>(World.cell?_of_block (bR.block _ (aS hc) (by simpa using hn))).trans hc;have y0:=key _ _ _ hNA c0;exact gee
  refine Mk.pt ?_;refine Mk.bL 5 ?_;refine Mk.bL 6 ?_;refine Mk.bL 7 ?_;refine Mk.tk 8 (v:=?_) rfl (fun wz bR=>?_) al ?_;rotate_left
  ·have key:∀b i v,b≠A->W.cell? (π b i)=some v->wz.cell? (π b i)=some v:=fun b i v hn hc=>(World.cell?_of_block (bR.block _ (aS hc) (by simpa using hn))).trans hc;have y0:=key _ _ _ hWA d0;have y1:=key _ _ _ hWA d1;have y2:=key _ _ _ hWA d2;have y3:=key _ _ _ hWA d3;exact gee
  refine Mk.pt ?_;refine Mk.nW (rs:=[9]) (AllReadyH.cons rfl (fun K9 hK=>?_) AllReadyH.nil);refine QX ?_;go_simp
  with_reducible refine (HC.o _ HD.o).mono ?_
  rintro e W1 ⟨rfl,⟨W9,ui,MC⟩,hl9⟩;have Jk:=al.trans ((ax.ah (S:=[A]) ui).trans MC);clear al;refine hK.out _ _ Jk (fun al=>?_);clear hK K9;refine Mk.pt ?_;refine Mk.bL 10 ?_;refine wpAnyH_done (by kernel_rfl) ⟨rfl,?_⟩ _;have GL:=ae (HF.o.trans Jk);have AK:=ae hl9;clear al Jk ui MC hl9 c0 d0 d1 d2 d3 HC;cases gb with
  |false=>have HG:=ae (show eC L l=none from Iw.o.trans (Sa.o.2 rfl));go_wp2_with fail;exact gO _ _ rfl GL.o HG.o
  |true=>
   have HG:=ae (Sa.o.1 rfl);go_wp2_with fail
   try rw [<-wR.o]
   try rw [<-wS.o]
   exact ⟨_,i+1,gL,FP.of _ rfl,rfl,rfl,(by first|rfl|exact wR.o.symm),(by first|rfl|exact wS.o.symm),rfl,dh.o,by omega,GL,AK,ae HG.o.2,ae (Iw.o.trans HG.o.1)⟩
 ·obtain rfl:i=l.length:=by omega
  clear a8;obtain ⟨a,c,a',c',en,ew⟩:=HW.o.val;rw [en,ew];have Sb:=Oo.o;rw [List.drop_length] at Sb;have HG:=ae (show eC L l=some L' from Sb);clear Sb en ew;go_wp2_with fail;exact Eq.mpr (congrArg (fun a=>Q (.exit 4) a W) (FP.of _ rfl)) (eZ _ _ _ HF.o HL.o HG.o)
end
end Go.Proofs.YtblkblclmbhjiaaGreat.Rv
