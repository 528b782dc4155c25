/- Of the proof that VmKeeps holds: a key keeps its node, what traps leaves no trace. No condition. -/
import Derived.Test.YtblkblclmbhjiaaGreatL7
set_option linter.unusedVariables false
set_option linter.unusedSimpArgs false
set_option maxHeartbeats 40000000
set_option maxRecDepth 100000
namespace Go.Proofs.YtblkblclmbhjiaaGreat.Ma
open Go.RowKit ak.Vm
open ak hiding aL an aj
open dT (bP bG)
open Ix (cL)
structure Kept (RO:List Nat) (w w':World):Prop where
 os:w'.os=w.os
 tape:w'.tape=w.tape
 output:w'.output=w.output
 size:w.heap.size<=w'.heap.size
 block:∀k,k∈RO->w'.heap[k]? =w.heap[k]?
theorem Kept.refl (RO:List Nat) (w:World):Kept RO w w:=⟨rfl,rfl,rfl,Nat.le_refl _,fun _ _=>rfl⟩
theorem Kept.trans {RO RO':List Nat} {a b c:World} (h:Kept RO a b) (k:Kept RO' b c) (hs:∀b,b∈RO->b∈RO'):Kept RO a c:=
 ⟨k.os.trans h.os,k.tape.trans h.tape,k.output.trans h.output,Nat.le_trans h.size k.size,fun i hi=>(k.block i (hs i hi)).trans (h.block i hi)⟩
theorem Kept.cE {RO S:List Nat} {w w':World} (f:ax S w w') (hs:∀b,b∈RO->b∉S) (hl:∀b,b∈RO->b < w.heap.size):Kept RO w w':=
 ⟨f.os,f.tape,f.output,f.size,fun k hk=>f.block k (hl k hk) (hs k hk)⟩
theorem ay.kept {RO:List Nat} {w w':World} {b:Nat} {T:TypeId} {cs:Array Value} (h:ay w b T cs) (k:Kept RO w w') (hb:b∈RO):ay w' b T cs:=h.of (k.block b hb)
def In (w:World) (mb rb:Nat) (RO:List Nat) (K:Kc) (p:aO) (c:Cp) (t:fI) (used:Int) (x:SR):Prop:=
 ∃C U hv jv,C.mb=mb/\U.rb=rb/\cD w C U RO K p c t used hv jv x.1 x.2
def bX (w:World) (mb rb:Nat) (RO:List Nat) (K:Kc) (p:aO) (c:Cp) (t:fI) (used:Int) (v:Value) (x:SR) (r:Ending) (w':World):Prop:=
 r= .returned v/\∃RO',(∀b,b∈RO->b∈RO')/\In w' mb rb RO' K p c t used x/\Kept RO w w'
theorem If {w w1 w4:World} {old:Value} {g n cap H:Nat} (hb:Below w.heap.size w w1) (hg:w1.grownBy w4 old.ownBlock) (pG:old.ownBlock=some g\/g=H) (hH:w1.heap.size=H):
 ax (vb old) w w4/\∀b,b∈vb (.slice (some (π g 0)) n cap)->b∈vb old\/w.heap.size<=b:=by
 refine ⟨(ax.ah hb).trans ⟨hg.os,hg.tape,hg.output,hg.size,fun k hk hs=>hg.block k hk ?_⟩,fun b iN=>?_⟩
 ·intro e;exact hs (by unfold vb;rw [<-e];simp)
 ·have:=aK.1 iN;simp [Value.ownBlock] at this;subst this;rcases pG with h|h
  ·exact .inl (aK.2 h)
  ·have:=hb.size;exact .inr (by omega)
theorem kU {w:World} {e:TypeId} {v:Value} {n:Nat} {f f':Nat->Value} {x:Value} (h:w.ownsRow 0 e 1 v (n+1) (eE (n*1) f++[x])) (h1:∀i,i < n->f' i=f i) (h2:f' n=x):Row w e 1 v (n+1) f':=by
 unfold Row;have e1:eE ((n+1)*1) f'=eE (n*1) f++[x]:=by
  rw [show (n+1)*1=n*1+1 by omega,pD];congr 1
  ·exact nS fun o ho=>h1 o (by omega)
  ·simp [h2]
 rw [e1];exact h
theorem vG:(Tryz.prog.info? 3).map (fun i=>(i.zero,i.size,i.bytes))=some (some (ι 0),1,8):=by kernel_rfl
theorem jT {α:Type} (x d:α) (l:List α):(∀i,i < l.length->(x::l).reverse.getD i d=l.reverse.getD i d)/\(x::l).reverse.getD l.length d=x:=by
 constructor
 ·intro i hi;simp [List.getD,List.getElem?_append,hi]
 ·simp [List.getD]
section
variable {w w':World} {C:Co} {U U':Ru} {RO RO':List Nat} {K:Kc} {p:aO} {c:Cp} {t:fI} {used:Int} {hv hv':Value} {jv jx:Nat->Value} {s:St} {r r':Rn}
theorem cD.jy (h:cD w C U RO K p c t used hv jv s r):In w C.mb U.rb RO K p c t used (s,r):=⟨C,U,hv,jv,rfl,rfl,h⟩
theorem cD.Xp (h:cD w C U RO K p c t used hv jv s r) (f:ax (vb U.jJ) w w'):w'.cell? (π U.rb 2)=some U.jJ/\(∀o,w'.frozen? (π U.rb o)=false)/\w'.cell? (π C.mb 60)=some (ρ U.rb):=by have hr:=h.r.c_.aB f h.sep.u.s;have hm:=h.m.aM.aB f (fun hc=>h.sep.cu (b:=C.mb) (by simp [Co.l]) (by simp [Ru.l,hc]));exact ⟨hr.cell 2,hr.frozen,hm.cell 60⟩
theorem ku (h:cD w C U RO K p c t used hv jv s r) (n:Int) (hl:r.stack.length < 1000000):
 Calls Tryz.prog 203 #[ρ C.mb,ι n] w (bX w C.mb U.rb RO K p c t used (.tuple #[]) (s,r.push n)):=by
 obtain ⟨i0,hi,gA,jF,r_⟩:=info_parts vG;have oC:w.cell? (π C.mb 60)=some (ρ U.rb):=h.m.aM.cell 60;have r2:w.cell? (π U.rb 2)=some U.jJ:=h.r.c_.cell 2;have lm:=h.m.aM.lt;have lr:=h.r.c_.lt;have HD:=ae (h.drewN 1);have C3:=ae (show r.stack.length+1<=maxLen by unfold maxLen;omega);have C4:=ae (show (r.stack.length+1)*8<=140737488355328 by omega);have H:=ae h;clear h;go_enter Tryz.func203,Tryz.ntmps203;go_wp2_with fail
 go_region_law ((refine step_append_lies _ rfl (.tmp 14) (.tmp 16) 24 rfl 0 3 i0 (ι 0) 1 8 Tryz.underlying24 hi gA jF r_ rfl (by decide) U.jJ _ _ (by simp [Act.eval,Act.put]) (HD.o.r.jJ.alloc _) (π w.heap.size 0) 1 1 [ι n] (by simp [Act.eval,Act.put]) rfl (gP.gr _ [ι n] _ _ (by simp)) (by simp [Value.oneCell']) (by decide) C3.o C4.o (by simp) _ rfl ?_;intro g cap w4 fo fe pG um;obtain ⟨qW,xf⟩:=If (w:=w) (n:=r.stack.length+1) (cap:=cap) ((au w.heap.size w 1).alloc (Nat.le_refl _) _) fe pG rfl;obtain ⟨c2,f2,Vx⟩:=H.o.Xp qW;have HO:=ae fo;have HF:=ae qW;have HS:=ae xf;clear fo fe pG um qW xf))
 all_goals
  go_wp2;refine bodyPost_ret (results_none rfl _ _ _) rfl ?_;obtain ⟨q1,q2⟩:=jT n 0 r.stack;have bq:=kU (f':=fun i=> ι ((n::r.stack).reverse.getD i 0)) HO.o (fun i hi=>by show Value.int _ _=Value.int _ _;rw [q1 i hi]) (by show Value.int _ _=Value.int _ _;rw [q2]);have A:=H.o.jJ HF.o (l:=n::r.stack) bq HS.o;exact ⟨rfl,RO,fun b hb=>hb,A.jy,Kept.cE (S:=U.l) ((HF.o.mono (by intro k hk;simp [Ru.l,hk])).setCell (by simp [Ru.l]) _) (fun b hb=>H.o.sep.ur hb) H.o.sep.cY⟩
end
section
variable {w w':World} {C:Co} {U U':Ru} {RO RO':List Nat} {K:Kc} {p:aO} {c:Cp} {t:fI} {used:Int} {hv hv':Value} {jv jx:Nat->Value} {s:St} {r r':Rn}
theorem rE (k cap b:Nat) (wx:World):(Builtin.len_ #[24] 3 #[.slice (some (π b 0)) k cap]).run Tryz.prog wx= .ok (ι k) wx:=
 run_len_slice (P:=Tryz.prog) wx 24 3 (some (π b 0)) k cap (by kernel_rfl)
theorem mi {α:Type} (x d:α) (l:List α):(x::l).reverse.getD l.length d=x:=(jT x d l).2
theorem uQ (h:cD w C U RO K p c t used hv jv s r) {n:Int} {rest:List Int} (fj:r.stack=n::rest) (hl:rest.length < 1000000):
 Calls Tryz.prog 210 #[ρ C.mb] w (bX w C.mb U.rb RO K p c t used (ι n) (s,r.pop)):=by
 have oC:w.cell? (π C.mb 60)=some (ρ U.rb):=h.m.aM.cell 60;have r2:w.cell? (π U.rb 2)=some U.jJ:=h.r.c_.cell 2;have rf:∀o,w.frozen? (π U.rb o)=false:=h.r.c_.frozen;have bq:=h.r.jJ;rw [fj] at bq;obtain ⟨b,cap,fN,nO,lF,hb⟩:=bq.some (by simp);rw [fN] at r2 bq;have h_:w.cell? (π b rest.length)=some (ι n):=by rw [bq.cell (o:=rest.length) (by simp)];rw [mi]
 have tJ:=bq.less (k:=rest.length) (by simp);have gM:Row w 3 1 (.slice (some (π b 0)) rest.length cap) rest.length (fun i=> ι (rest.reverse.getD i 0)):=tJ.congr fun o ho=>by show Value.int _ _=Value.int _ _;rw [(jT n 0 rest).1 o (by omega)]
 have HN:=ae gM;have H:=ae h;have HV:=ae fN;have kV:=ae fj;clear h gM tJ bq fj fN;simp only [List.length_cons] at r2 nO;generalize hk:rest.length=k at*;have hlen:=rE (k+1) cap b;go_enter Tryz.func210,Tryz.ntmps210;go_wp2_with fail;go_region;go_wp2;go_ret;have fN:U.jJ= .slice (some (π b 0)) (k+1) cap:=by rw [HV.o,List.length_cons,hk]
 have D_:∀x,x∈vb (.slice (some (π b 0)) k cap)->x∈vb U.jJ:=fun x hx=>by rw [fN];exact hx
 have A:=(H.o.jJ (ax.refl _ w) (l:=rest) (by rw [hk];exact HN.o) (fun x hx=> .inl (D_ x hx))).drewN 1;have hr:r.pop={r with stack:=rest}:=by unfold Rn.pop;rw [kV.o];rfl
 exact ⟨rfl,RO,fun b hb=>hb,by rw [hr];exact A.jy,(Kept.cE (S:=U.l) (((ax.refl _ w).setCell (by simp [Ru.l]) _).drewN 1) (fun b hb=>H.o.sep.ur hb) H.o.sep.cY)⟩
theorem Ge (h:cD w C U RO K p c t used hv jv s r) {n:Int} {rest:List Int} (fj:r.loops=n::rest) (hl:rest.length < 1000000) (a:Nat):
 Calls Tryz.prog 213 #[ρ C.mb,ι a] w (bX w C.mb U.rb RO K p c t used (.tuple #[]) (s,jr r a)):=by
 have oC:w.cell? (π C.mb 60)=some (ρ U.rb):=h.m.aM.cell 60;have r2:w.cell? (π U.rb 3)=some U.je:=h.r.c_.cell 3;have rf:∀o,w.frozen? (π U.rb o)=false:=h.r.c_.frozen;have bq:=h.r.je;rw [fj] at bq;obtain ⟨b,cap,fN,nO,lF,hb⟩:=bq.some (by simp);rw [fN] at r2 bq;have tJ:=bq.less (k:=rest.length) (by simp);have gM:Row w 3 1 (.slice (some (π b 0)) rest.length cap) rest.length (fun i=> ι (rest.reverse.getD i 0)):=tJ.congr fun o ho=>by show Value.int _ _=Value.int _ _;rw [(jT n 0 rest).1 o (by omega)]
 have HN:=ae gM;have H:=ae h;have HV:=ae fN;have kV:=ae fj;clear h gM tJ bq fj fN;simp only [List.length_cons] at r2 nO;generalize hk:rest.length=k at*;have hlen:=rE (k+1) cap b;go_enter Tryz.func213,Tryz.ntmps213;go_wp2_with fail;go_region;have fN:U.je= .slice (some (π b 0)) (k+1) cap:=by rw [HV.o,List.length_cons,hk]
 have D_:∀x,x∈vb (.slice (some (π b 0)) k cap)->x∈vb U.je:=fun x hx=>by rw [fN];exact hx
 have hr:jr r a={r with loops:=rest,at_:=a}:=by unfold jr;rw [kV.o];rfl
 obtain ⟨w1,jo⟩:∃w1,w1=(w.setCell (π U.rb 3) (.slice (some (π b 0)) k cap)).drew:=⟨_,rfl⟩;have A:cD w1 C {U with je:= .slice (some (π b 0)) k cap} RO K p c t used hv jv s {r with loops:=rest}:=by rw [jo];exact (H.o.je (ax.refl _ w) (l:=rest) (by rw [hk];exact HN.o) (fun x hx=> .inl (D_ x hx))).drewN 1
 have F:ax U.l w w1:=by rw [jo];exact ((ax.refl U.l w).setCell (p:=(π U.rb 3)) (by simp [Ru.l]) (.slice (some (π b 0)) k cap)).drewN 1
 rw [<-jo];have n60:w1.cell? (π C.mb 60)=some (ρ U.rb):=A.m.aM.cell 60;have n1:w1.cell? (π U.rb 1)=some (ι r.at_):=A.r.c_.cell 1;have nf:∀o,w1.frozen? (π U.rb o)=false:=A.r.c_.frozen;have HA:=ae A;have HF:=ae F;clear A F r2 oC rf;clear jo;go_wp2;refine bodyPost_ret (results_none rfl _ _ _) rfl ?_;rw [hr];exact ⟨rfl,RO,fun b hb=>hb,(HA.o.iu 1 (ι a) (r':={r with loops:=rest,at_:=a}) rfl rfl rfl rfl rfl rfl HA.o.r.gm).jy,Kept.cE (HF.o.setCell (by simp [Ru.l]) _) (fun b hb=>H.o.sep.ur hb) H.o.sep.cY⟩
end
def aA (i:Ins):Array Value:=#[ι i.op,ι i.a,ι i.b,ι i.c,ι i.d]
def aQ (i:Ins):Value:= .agg (aA i)
theorem Kept.ah {RO:List Nat} {w w':World} (b:Below w.heap.size w w') (hl:∀b,b∈RO->b < w.heap.size):Kept RO w w':=
 Kept.cE (S:=[]) (ax.ah b) (by simp) hl
theorem Kept.less {RO RO':List Nat} {w w':World} (h:Kept RO' w w') (hs:∀b,b∈RO->b∈RO'):Kept RO w w':=
 ⟨h.os,h.tape,h.output,h.size,fun k hk=>h.block k (hs k hk)⟩
theorem bX.pre {w w1 w':World} {mb rb:Nat} {RO kG:List Nat} {K:Kc} {p:aO} {c:Cp} {t:fI} {used:Int} {v:Value} {x:SR} {r:Ending} (h:bX w1 mb rb kG K p c t used v x r w') (k:Kept RO w w1) (hs:∀b,b∈RO->b∈kG):bX w mb rb RO K p c t used v x r w':=by obtain ⟨h1,RO',h2,h3,h4⟩:=h;exact ⟨h1,RO',fun b hb=>h2 b (hs b hb),h3,k.trans h4 hs⟩
section
variable {w w':World} {C:Co} {U U':Ru} {RO RO':List Nat} {K:Kc} {p:aO} {c:Cp} {t:fI} {used:Int} {hv hv':Value} {jv jx:Nat->Value} {s:St} {r r':Rn}
theorem cD.add (h:cD w C U RO K p c t used hv jv s r) {x:Nat} (h1:x < w.heap.size) (h2:x∉C.l) (h3:x∉U.l):cD w C U (x::RO) K p c t used hv jv s r:=by
 refine ⟨h.m.more (fun b hb=>by simp [hb]),h.r.more (fun b hb=>by simp [hb]),h.sep.nd,h.sep.lt,fun b hb hc=>?_,fun b hb=>?_⟩
 ·rcases List.mem_cons.1 hc with rfl|hc
  ·rcases List.mem_append.1 hb with hb|hb
   ·exact h2 hb
   ·exact h3 hb
  ·exact h.sep.ro b hb hc
 ·rcases List.mem_cons.1 hb with rfl|hb
  ·exact h1
  ·exact h.sep.cY b hb
theorem cD.box (h:cD w C U RO K p c t used hv jv s r) (o:Obj):cD (w.alloc o) C U (w.heap.size::RO) K p c t used hv jv s r:=
 (h.later ((Below.refl _ w).alloc (Nat.le_refl _) _)).add (by simp) (fun hc=>by have:=h.sep.lt _ (List.mem_append_left _ hc);omega) (fun hc=>by have:=h.sep.lt _ (List.mem_append_right C.l hc);omega)
theorem adf {p:Prop} (h:p:=by
 go_wp2_with fail;refine HP.o.mono ?_;intro e w' hd;have mT:=hd.pre (RO:=RO) (Kept.ah HB.o H.o.sep.cY) (fun b hb=>by simp [hb]);obtain ⟨rfl,fB⟩:=mT;go_wp2;exact bodyPost_ret (results_none rfl _ _ _) rfl ⟨rfl,fB⟩):p:=h
theorem vH (h:cD w C U RO K p c t used hv jv s r) (i:Ins) (hl:r.stack.length < 1000000):
 Calls Tryz.prog 102 #[ρ C.mb,aQ i] w (bX w C.mb U.rb RO K p c t used (.tuple #[]) (s,r.push i.a)):=by
 have H0:=h.box (.cells (aA i) 40);have HB:=ae ((Below.refl w.heap.size w).alloc (Nat.le_refl _) (.cells (aA i) 40));have hP:=ku H0 i.a hl;have e1:(w.alloc (.cells (aA i) 40)).cell? (π w.heap.size 1)=some (ι i.a):=(ay.new w 40 (aA i)).cell 1;have HP:=ae hP;have H:=ae h;clear h hP H0;unfold aQ;unfold aA at*;go_enter Tryz.func102,Tryz.ntmps102;exact adf
theorem Ea (h:cD w C U RO K p c t used hv jv s r) (i:Ins) {k:Nat} (hk:i.a=k) (jd:k < p.vars.length) (hl:r.stack.length < 1000000):
 Calls Tryz.prog 103 #[ρ C.mb,aQ i] w (bX w C.mb U.rb RO K p c t used (.tuple #[]) (s,r.push (s.vars k))):=by
 have H0:=(h.box (.cells (aA i) 40)).drewN 1;have HB:=ae (((Below.refl w.heap.size w).alloc (Nat.le_refl _) (.cells (aA i) 40)).trans (au _ _ 1));have hP:=ku H0 (s.vars k) hl;have e1:(w.alloc (.cells (aA i) 40)).cell? (π w.heap.size 1)=some (ι k):=by rw [<-hk];exact (ay.new w 40 (aA i)).cell 1
 have e5:(w.alloc (.cells (aA i) 40)).cell? (π C.mb 11)=some C.vs:=H0.m.aM.cell 11;obtain ⟨b,cap,fN,nO,lF,hb⟩:=H0.m.vs.some (by omega);rw [fN] at e5;have h_:(w.alloc (.cells (aA i) 40)).cell? (π b k)=some (ι (s.vars k)):=by have h3:=H0.m.vs;rw [fN] at h3;exact h3.cell (o:=k) (by omega)
 have HP:=ae hP;have H:=ae h;clear h hP H0 hk;unfold aQ;unfold aA at*;generalize Ld:s.vars k=vk at*;generalize p.vars.length=nv at*;obtain ⟨w1,jo⟩:∃w1,w1=w.alloc (.cells #[ι i.op,ι i.a,ι i.b,ι i.c,ι i.d] 40):=⟨_,rfl⟩;rw [<-jo] at HP HB e1 e5 h_;go_enter Tryz.func103,Tryz.ntmps103;go_wp2_with fail;rw [<-jo];clear jo
 go_still_tail 9,(by kernel_rfl)
 change wpList _ _ _ _ _ (w1.drewN 1);generalize w1.drewN 1=w2 at*;exact adf
end
def pK (r:Rn) (k:Nat):Rn:=if r.fO=0 then {r.pop with at_:=k} else r.pop
def vI (r:Rn) (k:Nat):Rn:=if r.fO=0 then jr r.pop k else r.pop
def vJ (r:Rn) (k:Nat):Rn:=if r.loops.headD 0=0 then jr r k else {r with loops:=(r.loops.headD 0 - 1)::r.loops.tail}
section
variable {w w':World} {C:Co} {U U':Ru} {RO RO':List Nat} {K:Kc} {p:aO} {c:Cp} {t:fI} {used:Int} {hv hv':Value} {jv jx:Nat->Value} {s:St} {r r':Rn} {mb rb:Nat}
theorem cD.xh (h:cD w C U RO K p c t used hv jv s r) (h1:C.mb=mb) (h2:U.rb=rb):In w mb rb RO K p c t used (s,r):=⟨C,U,hv,jv,h1,h2,h⟩
theorem ay.jU {b:Nat} {T:TypeId} {cs:Array Value} (h:ay w b T cs) (k:Kept RO w w') (hb:b∈RO):ay w' b T cs:=h.of (k.block b hb)
theorem Le (h:cD w C U RO K p c t used hv jv s r) (i:Ins) {k:Nat} (hk:i.a=k) {n:Int} {rest:List Int} (fj:r.stack=n::rest) (hl:rest.length < 1000000):
 Calls Tryz.prog 114 #[ρ C.mb,aQ i] w (bX w C.mb U.rb RO K p c t used (.tuple #[]) (s,pK r k)):=by
 have H0:=h.box (.cells (aA i) 40);have HP:=ae (uQ H0 fj hl);have jg:=ae (ay.new w 40 (aA i));have kW:=ae (Kept.ah (RO:=RO) ((Below.refl w.heap.size w).alloc (Nat.le_refl _) (.cells (aA i) 40)) h.sep.cY);have uu:=ae hk;have zw:=ae (show r.fO=n by unfold Rn.fO;rw [fj];rfl);clear h H0 hk;unfold aQ;unfold aA at*;go_enter Tryz.func114,Tryz.ntmps114;go_wp2_with fail;generalize eO:w.heap.size=bx at HP jg ⊢;refine HP.o.mono ?_;rintro e w' ⟨rfl,RO',ho,⟨C',U',hv',jx,kX,lE,A⟩,uK⟩;have oC:w'.cell? (π C.mb 60)=some (ρ U.rb):=by rw [<-kX,<-lE];exact A.m.aM.cell 60
 have r1:w'.cell? (π U.rb 1)=some (ι r.at_):=by rw [<-lE];exact A.r.c_.cell 1
 have rf:∀o,w'.frozen? (π U.rb o)=false:=by rw [<-lE];exact A.r.c_.frozen
 have e1:w'.cell? (π bx 1)=some (ι k):=by rw [<-uu.o];exact (ay.jU jg.o uK (by simp)).cell 1
 have HA:=ae A;have oF:=ae (kW.o.trans uK (fun b hb=>by simp [hb]));have HO:=ae (show ∀b,b∈RO->b∈RO' from fun b hb=>ho b (by simp [hb]));have HM:=ae kX;have HR:=ae lE;clear A uK ho kX lE HP jg eO kW;by_cases hn:n=0
 ·subst hn;go_wp2_with fail;go_region;go_wp2;refine bodyPost_ret (results_none rfl _ _ _) rfl ⟨rfl,RO',HO.o,?_,?_⟩
  ·have hb:pK r k={r.pop with at_:=k}:=by unfold pK;rw [if_pos zw.o]
   rw [hb];have A2:=((HA.o.iu 1 (ι k) (r':={r.pop with at_:=k}) rfl rfl rfl rfl rfl rfl HA.o.r.gm).drewN 1).xh HM.o HR.o;rw [HR.o] at A2;exact A2
  ·refine oF.o.trans (RO':=RO') (Kept.cE (S:=U'.l) (((ax.refl _ w').setCell (by rw [<-HR.o];simp [Ru.l]) _).drewN 1) (fun b hb=>HA.o.sep.ur hb) HA.o.sep.cY) HO.o
 ·have hz:(n==0)=false:=by simpa using hn
  go_wp2;refine bodyPost_ret (results_none rfl _ _ _) rfl ⟨rfl,RO',HO.o,?_,oF.o⟩;have hb:pK r k=r.pop:=by unfold pK;rw [if_neg (by rw [zw.o];exact hn)]
  rw [hb];exact HA.o.xh HM.o HR.o
theorem S5 (h:cD w C U RO K p c t used hv jv s r) (i:Ins) {k:Nat} (hk:i.a=k) {n:Int} {rest:List Int} (fj:r.stack=n::rest) (hl:rest.length < 1000000) {m:Int} {lrest:List Int} (aaj:r.loops=m::lrest) (Hh:lrest.length < 1000000):
 Calls Tryz.prog 117 #[ρ C.mb,aQ i] w (bX w C.mb U.rb RO K p c t used (.tuple #[]) (s,vI r k)):=by
 have H0:=h.box (.cells (aA i) 40);have HP:=ae (uQ H0 fj hl);have jg:=ae (ay.new w 40 (aA i));have kW:=ae (Kept.ah (RO:=RO) ((Below.refl w.heap.size w).alloc (Nat.le_refl _) (.cells (aA i) 40)) h.sep.cY);have uu:=ae hk;have zw:=ae (show r.fO=n by unfold Rn.fO;rw [fj];rfl);clear h H0 hk;unfold aQ;unfold aA at*;go_enter Tryz.func117,Tryz.ntmps117;go_wp2_with fail;generalize eO:w.heap.size=bx at HP jg ⊢;refine HP.o.mono ?_;rintro e w' ⟨rfl,RO',ho,⟨C',U',hv',jx,kX,lE,A⟩,uK⟩;have oC:w'.cell? (π C.mb 60)=some (ρ U.rb):=by rw [<-kX,<-lE];exact A.m.aM.cell 60
 have r1:w'.cell? (π U.rb 1)=some (ι r.at_):=by rw [<-lE];exact A.r.c_.cell 1
 have rf:∀o,w'.frozen? (π U.rb o)=false:=by rw [<-lE];exact A.r.c_.frozen
 have e1:w'.cell? (π bx 1)=some (ι k):=by rw [<-uu.o];exact (ay.jU jg.o uK (by simp)).cell 1
 have HA:=ae A;have oF:=ae (kW.o.trans uK (fun b hb=>by simp [hb]));have HO:=ae (show ∀b,b∈RO->b∈RO' from fun b hb=>ho b (by simp [hb]));have HM:=ae kX;have HR:=ae lE;clear A uK ho kX lE HP jg eO kW;by_cases hn:n=0
 ·subst hn;have HL:=ae (Ge HA.o (n:=m) (rest:=lrest) aaj Hh k);rw [HM.o] at HL;go_wp2_with fail;refine HL.o.mono ?_;intro e w2 hd;have mT:=hd.pre (RO:=RO) oF.o HO.o;rw [HR.o] at mT;have hb:vI r k=jr r.pop k:=by unfold vI;rw [if_pos zw.o]
  rw [<-hb] at mT;obtain ⟨rfl,fB⟩:=mT;go_wp2;exact bodyPost_ret (results_none rfl _ _ _) rfl ⟨rfl,fB⟩
 ·have hz:(n==0)=false:=by simpa using hn
  go_wp2;refine bodyPost_ret (results_none rfl _ _ _) rfl ⟨rfl,RO',HO.o,?_,oF.o⟩;have hb:vI r k=r.pop:=by unfold vI;rw [if_neg (by rw [zw.o];exact hn)]
  rw [hb];exact HA.o.xh HM.o HR.o
end
structure aak (w:World) (C:Co) (RO:List Nat):Prop where
 nd:C.l.Nodup
 lt:∀b,b∈C.l->b < w.heap.size
 ro:∀b,b∈C.l->b∉RO
 cY:∀b,b∈RO->b < w.heap.size
structure Mx (w:World) (C:Co) (RO:List Nat) (K:Kc) (p:aO) (c:Cp) (s:St) (t:fI) (used:Int) (rv:Value):Prop where
 m:oX w C RO K p c s t used rv
 sep:aak w C RO
structure bu (w w':World) (C C':Co):Prop where
 mb:C'.mb=C.mb
 f:ax C.l w w'
 c:∀b,b∈C'.l->b∈C.l\/w.heap.size<=b
theorem bu.refl (w:World) (C:Co):bu w w C C:=⟨rfl,ax.refl _ w,fun _ h=> .inl h⟩
theorem bu.trans {w w1 w2:World} {C C1 C2:Co} (h:bu w w1 C C1) (k:bu w1 w2 C1 C2):bu w w2 C C2:=
 ⟨k.mb.trans h.mb,⟨k.f.os.trans h.f.os,k.f.tape.trans h.f.tape,k.f.output.trans h.f.output,Nat.le_trans h.f.size k.f.size,fun i hi hs=>(k.f.block i (Nat.lt_of_lt_of_le hi h.f.size) (fun hc=>by rcases h.c i hc with hc|hc;exact hs hc;omega)).trans (h.f.block i hi hs)⟩,
   fun b hb=>by rcases k.c b hb with hb|hb;exact h.c b hb;have:=h.f.size;exact .inr (by omega)⟩
theorem bu.below {w w':World} {C:Co} (b:Below w.heap.size w w'):bu w w' C C:=⟨rfl,ax.ah b,fun _ h=> .inl h⟩
def vK (w:World) (C:Co) (RO:List Nat) (K:Kc) (p:aO) (c:Cp) (t:fI) (used:Int) (rv:Value) (v:Value) (s:St) (e:Ending) (w':World):Prop:=
 e= .returned v/\∃C',bu w w' C C'/\Mx w' C' RO K p c s t used rv
section
variable {w w':World} {C C':Co} {U U':Ru} {RO RO':List Nat} {K:Kc} {p:aO} {c:Cp} {t:fI} {used:Int} {hv hv':Value} {jv jx:Nat->Value} {s s':St} {r r':Rn} {rv:Value}
theorem Mx.later (h:Mx w C RO K p c s t used rv) (b:Below w.heap.size w w'):Mx w' C RO K p c s t used rv:=
 ⟨h.m.aB (ax.ah (S:=[]) b) (by simp) (by simp),h.sep.nd,fun b' hb=>Nat.lt_of_lt_of_le (h.sep.lt b' hb) b.size,h.sep.ro,fun b' hb=>Nat.lt_of_lt_of_le (h.sep.cY b' hb) b.size⟩
theorem Mx.drewN (h:Mx w C RO K p c s t used rv) (n:Nat):Mx (w.drewN n) C RO K p c s t used rv:=h.later (au _ _ n)
theorem Mx.box (h:Mx w C RO K p c s t used rv) (o:Obj):Mx (w.alloc o) C RO K p c s t used rv:=h.later ((Below.refl _ w).alloc (Nat.le_refl _) _)
theorem Mx.cr (h:Mx w C RO K p c s t used rv) {b:Nat} (hb:b∈RO):b∉C.l:=fun hc=>h.sep.ro b hc hb
theorem cD.mx (h:cD w C U RO K p c t used hv jv s r):Mx w C RO K p c s t used (ρ U.rb):=
 ⟨h.m,(List.nodup_append.1 h.sep.nd).1,fun b hb=>h.sep.lt b (by simp [hb]),fun b hb=>h.sep.ro b (by simp [hb]),h.sep.cY⟩
theorem Mx.less (h:Mx w C RO K p c s t used rv) (hs:∀b,b∈RO'->b∈RO\/(b < w.heap.size/\b∉C.l)) (hp:∀b,b∈RO->b∈RO'):Mx w C RO' K p c s t used rv:=
 ⟨h.m.more hp,h.sep.nd,h.sep.lt,fun b hb hc=>by rcases hs b hc with hc|hc;exact h.sep.ro b hb hc;exact hc.2 hb,fun b hb=>by rcases hs b hb with hb|hb;exact h.sep.cY b hb;exact hb.1⟩
theorem cD.oh (h:cD w C U RO K p c t used hv jv s r) {t':fI} {used':Int} (k:bu w w' C C') (m:Mx w' C' RO K p c s' t' used' (ρ U.rb)):cD w' C' U RO K p c t' used' hv jv s' r:=by
 refine ⟨m.m,?_,?_,?_,?_,m.sep.cY⟩
 ·rw [k.mb];exact h.r.aB k.f (fun b hb=>h.sep.uc hb) (fun b hb=>h.sep.cr hb)
 ·rw [List.nodup_append];refine ⟨m.sep.nd,(List.nodup_append.1 h.sep.nd).2.1,fun a ha b hb e=>?_⟩;subst e;rcases k.c a ha with hc|hc
  ·exact h.sep.cu hc hb
  ·have:=h.sep.lt a (by simp [hb]);omega
 ·intro b hb;rcases List.mem_append.1 hb with hb|hb
  ·exact m.sep.lt b hb
  ·exact Nat.lt_of_lt_of_le (h.sep.lt b (by simp [hb])) k.f.size
 ·intro b hb;rcases List.mem_append.1 hb with hb|hb
  ·exact m.sep.ro b hb
  ·exact h.sep.ro b (by simp [hb])
theorem cD.kept (h:cD w C U RO K p c t used hv jv s r) (k:bu w w' C C'):Kept RO w w':=Kept.cE k.f (fun b hb=>h.sep.cr hb) h.sep.cY
structure Xq (C:Co):Prop where
 mx:C.mb≠C.xb
 ms:C.mb≠C.xs
 ma:C.mb∉bp C.ab C.V C.L
 mv:C.mb∉vb C.vs
 xs:C.xb≠C.xs
 xa:C.xb∉bp C.ab C.V C.L
 xv:C.xb∉vb C.vs
 sa:C.xs∉bp C.ab C.V C.L
 sv:C.xs∉vb C.vs
 av:∀b,b∈bp C.ab C.V C.L->b∉vb C.vs
theorem Co.rel {C:Co} (h:C.l.Nodup):Xq C:=by unfold Co.l at h;rw [List.nodup_cons] at h;obtain ⟨h0,h⟩:=h;rw [List.nodup_cons] at h;obtain ⟨h1,h⟩:=h;rw [List.nodup_cons] at h;obtain ⟨h2,h⟩:=h;rw [List.nodup_append] at h;simp only [List.mem_cons,List.mem_append,not_or] at h0 h1 h2;exact ⟨h0.1,h0.2.1,h0.2.2.1,h0.2.2.2,h1.1,h1.2.1,h1.2.2,h2.1,h2.2,fun b hb hc=>h.2.2 b hb b hc rfl⟩
theorem Mx.rel (h:Mx w C RO K p c s t used rv):Xq C:=Co.rel h.sep.nd
end
theorem BE {p:aO} {a:Nd} {q e:Nat} {x:eW} (hq:q < p.ap.length):eS p (gd a q e x)=eS p a+1:=by
 unfold eS;have h1:=kT (k:=p.ap.length) (f:=fun p=>(a.ls p).length) (g:=fun p=>((gd a q e x).ls p).length) hq (fun j hj=>by
  show (aL a.ls q _ j).length=_;rw [aj _ _ hj])
 have h2:((gd a q e x).ls q).length=(a.ls q).length+1:=by show (aL a.ls q _ q).length=_;rw [an,jk]
 rw [h2] at h1;omega
theorem o_ {p:aO} {a:Nd} {q n:Nat} (hq:q < p.ap.length) (hn:n∈a.ls q):eS p (takeN a q n)+1=eS p a:=by
 unfold eS;have h1:=kT (k:=p.ap.length) (f:=fun p=>(a.ls p).length) (g:=fun p=>((takeN a q n).ls p).length) hq (fun j hj=>by
  show (aL a.ls q _ j).length=_;rw [aj _ _ hj])
 have h2:((takeN a q n).ls q).length=(a.ls q).length - 1:=by show (aL a.ls q _ q).length=_;rw [an,List.length_erase_of_mem hn]
 have h3:0 < (a.ls q).length:=List.length_pos_of_mem hn;rw [h2] at h1;omega
section
variable {w w':World} {C C':Co} {U U':Ru} {RO RO':List Nat} {K:Kc} {p:aO} {c:Cp} {t:fI} {used:Int} {hv hv':Value} {jv jx:Nat->Value} {s s':St} {r r':Rn} {rv:Value}
theorem Mx.reads (h:Mx w C RO K p c s t used rv):w.cell? (π C.mb 9)=some (ρ C.ab)/\w.cell? (π C.mb 10)=some (ρ C.xb)/\w.cell? (π C.mb 12)=some (ι s.total)/\w.cell? (π C.mb 0)=some K.g/\∀o,w.frozen? (π C.mb o)=false:=
 ⟨h.m.aM.cell 9,h.m.aM.cell 10,h.m.aM.cell 12,h.m.aM.cell 0,h.m.aM.frozen⟩
theorem Mx.ap (h:Mx w C RO K p c s t used rv) {q:Nat} (hq:q < p.ap.length):∃b cap,K.g= .slice (some (π b 0)) p.ap.length cap/\b∈RO/\w.cell? (π b q)=some (.bool (p.ap.getD q false)):=by obtain ⟨b,cap,fN,nO,lF,hb⟩:=h.m.prog.g.some (by omega);refine ⟨b,cap,fN,h.m.prog.ro b (.inl (aK.2 (by rw [fN];rfl))),?_⟩;have h3:=h.m.prog.g;rw [fN] at h3;exact h3.cell (o:=q) (by omega)
theorem Mx.total (h:Mx w C RO K p c s t used rv) (n:Int):bu w (w.setCell (π C.mb 12) (ι n)) C C/\Mx (w.setCell (π C.mb 12) (ι n)) C RO K p c {s with total:=n} t used rv:=by
 have R:=h.rel;have F:ax [C.mb] w (w.setCell (π C.mb 12) (ι n)):=(ax.refl _ w).setCell (by simp) _;refine ⟨⟨rfl,F.mono (by intro k hk;simp at hk;subst hk;simp [Co.l]),fun _ hb=> .inl hb⟩,⟨⟨?_,?_,?_,?_,?_⟩,h.sep.nd,fun b hb=>Nat.lt_of_lt_of_le (h.sep.lt b hb) F.size,h.sep.ro,fun b hb=>Nat.lt_of_lt_of_le (h.sep.cY b hb) F.size⟩⟩
 ·exact h.m.aM.set 12 _
 ·exact h.m.prog.aB F fun b hb hc=>by simp at hc;subst hc;exact h.cr hb (by simp [Co.l])
 ·exact h.m.ar.aB F fun b hb hc=>by simp at hc;subst hc;exact R.ma hb
 ·exact h.m.ix.aB F ⟨by simp;exact fun e=>R.mx e.symm,by simp;exact fun e=>R.ms e.symm⟩
 ·exact h.m.vs.aB F fun b hb hc=>by simp at hc;subst hc;exact R.mv (aK.2 hb)
theorem adi {p:Prop} (h:p:=by
 intro b hb hc;rcases key b hb with hb|hb
 ·exact h.sep.ro b hb hc
 ·have:=h.sep.cY b hc;omega):p:=h
theorem abR {p:Prop} (h:p:=by
 exact Nat.lt_of_lt_of_le (h.sep.lt b (by simp [Co.l,iN])) F.size):p:=h
theorem adh {p:Prop} (h:p:=by
 have e1:C.l=(C.mb::C.xb::C.xs::[C.ab])++(vb C.V++(vb C.L++vb C.vs)):=by simp [Co.l,bp,vb]
 have e2:({C with V:=V'}:Co).l=(C.mb::C.xb::C.xs::[C.ab])++(vb V'++(vb C.L++vb C.vs)):=by simp [Co.l,bp,vb]
 rw [e2];refine jw (n:=w.heap.size) (v:=C.V) ?_ (fun b hb=>?_) (fun b hb=>?_)
 ·rw [<-e1];exact h.sep.nd
 ·rw [<-e1] at hb;exact h.sep.lt b hb
 ·rcases hV b (aK.1 hb) with h'|h'
  ·exact .inl (aK.2 h')
  ·exact .inr h'):p:=h
theorem adg {p:Prop} (h:p:=by
 intro b hb;simp only [Co.l,bp,List.mem_cons,List.mem_append,Option.mem_toList] at hb ⊢;rcases hb with hb|hb|hb|(hb|hb|hb)|hb
 ·exact .inl (.inl hb)
 ·exact .inl (.inr (.inl hb))
 ·exact .inl (.inr (.inr (.inl hb)))
 ·exact .inl (.inr (.inr (.inr (.inl (.inl hb)))))
 ·rcases hV b hb with h'|h'
  ·exact .inl (.inr (.inr (.inr (.inl (.inr (.inl h'))))))
  ·exact .inr h'
 ·exact .inl (.inr (.inr (.inr (.inl (.inr (.inr hb))))))
 ·exact .inl (.inr (.inr (.inr (.inr hb))))):p:=h
theorem Mx.Rh (h:Mx w C RO K p c s t used rv) {V':Value} {a':Nd} (f:ax (bp C.ab C.V C.L) w w') (ha:bP w' C.ab V' C.L K.nd p.ap.length a') (hV:∀b,V'.ownBlock=some b->C.V.ownBlock=some b\/w.heap.size<=b)
 {s':St} (h1:s'.a=a') (h2:s'.vars=s.vars) (h3:s'.total=s.total) (Ξ:cL w C.xb C.xs K.nd (eS p a') s'.f):bu w w' C {C with V:=V'}/\Mx w' {C with V:=V'} RO K p c s' t used rv:=by
 have R:=h.rel;have F:ax C.l w w':=f.mono (by intro k hk;simp [Co.l,hk]);have key:∀b,b∈({C with V:=V'}:Co).l->b∈C.l\/w.heap.size<=b:=by exact adg
 refine ⟨⟨rfl,F,key⟩,⟨⟨?_,?_,?_,?_,?_⟩,?_,?_,?_,?_⟩⟩
 ·rw [h3];exact h.m.aM.aB f R.ma
 ·exact h.m.prog.aB F fun b hb=>h.cr hb
 ·rw [h1];exact ha
 ·rw [h1];exact Ξ.aB f ⟨R.xa,R.sa⟩
 ·rw [h2];exact h.m.vs.aB f fun b hb hc=>R.av b hc (aK.2 hb)
 ·exact adh
 ·intro b hb;have iN:=hb;simp only [Co.l,List.mem_cons,List.mem_append] at iN;rcases iN with iN|iN|iN|iN|iN
  ·exact abR
  ·exact abR
  ·exact abR
  ·exact ha.lt b iN
  ·exact abR
 ·exact adi
 ·exact fun b hb=>Nat.lt_of_lt_of_le (h.sep.cY b hb) F.size
theorem Mx.both {w1 w2:World} (h:Mx w C RO K p c s t used rv) {V':Value} {a':Nd} {f':Nat->Option Nat} (f1:ax (bp C.ab C.V C.L) w w1) (ha:bP w1 C.ab V' C.L K.nd p.ap.length a') (hV:∀b,V'.ownBlock=some b->C.V.ownBlock=some b\/w.heap.size<=b)
 (f2:ax [C.xb,C.xs] w1 w2) (hx:cL w2 C.xb C.xs K.nd (eS p a') f'):bu w w2 C {C with V:=V'}/\Mx w2 {C with V:=V'} RO K p c ⟨a',f',s.vars,s.total⟩ t used rv:=by
 have R:=h.rel;have hlen:=ha.lt;have F1:ax C.l w w1:=f1.mono (by intro k hk;simp [Co.l,hk]);have F2:ax C.l w1 w2:=f2.mono (by intro k hk;simp at hk;rcases hk with rfl|rfl<;>simp [Co.l]);have F:=F1.trans F2;have key:∀b,b∈({C with V:=V'}:Co).l->b∈C.l\/w.heap.size<=b:=by exact adg
 have hxV:∀b,b∈bp C.ab V' C.L->b∉[C.xb,C.xs]:=by
  intro b hb hc;have dn:b∈bp C.ab C.V C.L\/w.heap.size<=b:=by
   simp only [bp,List.mem_cons,List.mem_append,Option.mem_toList] at hb ⊢;rcases hb with hb|hb|hb
   ·exact .inl (.inl hb)
   ·rcases hV b hb with h'|h'
    ·exact .inl (.inr (.inl h'))
    ·exact .inr h'
   ·exact .inl (.inr (.inr hb))
  simp at hc;rcases hc with rfl|rfl
  ·rcases dn with dn|dn
   ·exact R.xa dn
   ·have:=h.sep.lt C.xb (by simp [Co.l]);omega
  ·rcases dn with dn|dn
   ·exact R.sa dn
   ·have:=h.sep.lt C.xs (by simp [Co.l]);omega
 have FJ:C.mb∉[C.xb,C.xs]:=by simp;exact ⟨R.mx,R.ms⟩
 refine ⟨⟨rfl,F,key⟩,⟨⟨?_,?_,?_,?_,?_⟩,?_,?_,?_,?_⟩⟩
 ·exact (h.m.aM.aB f1 R.ma).aB f2 FJ
 ·exact h.m.prog.aB F fun b hb=>h.cr hb
 ·exact ha.aB f2 hxV
 ·exact hx
 ·exact (h.m.vs.aB f1 fun b hb hc=>R.av b hc (aK.2 hb)).aB f2 fun b hb hc=>by
   simp at hc;rcases hc with rfl|rfl
   ·exact R.xv (aK.2 hb)
   ·exact R.sv (aK.2 hb)
 ·exact adh
 ·intro b hb;have iN:=hb;simp only [Co.l,List.mem_cons,List.mem_append] at iN;rcases iN with iN|iN|iN|iN|iN
  ·exact abR
  ·exact abR
  ·exact abR
  ·exact Nat.lt_of_lt_of_le (ha.lt b iN) F2.size
  ·exact abR
 ·exact adi
 ·exact fun b hb=>Nat.lt_of_lt_of_le (h.sep.cY b hb) F.size
end
section
variable {w w':World} {C C':Co} {U U':Ru} {RO RO':List Nat} {K:Kc} {p:aO} {c:Cp} {t:fI} {used:Int} {hv hv':Value} {jv jx:Nat->Value} {s s':St} {r r':Rn} {rv:Value}
def Gf (w w1:World) (C:Co) (K:Kc) (p:aO) (s:St) (V':Value) (a':Nd):Prop:=
 bP w1 C.ab V' C.L K.nd p.ap.length a'/\ax (bp C.ab C.V C.L) w w1/\(∀b,V'.ownBlock=some b->C.V.ownBlock=some b\/w.heap.size<=b)/\cL w1 C.xb C.xs K.nd (eS p s.a) s.f
theorem Mx.zx (h:Mx w C RO K p c s t used rv) {w1:World} {V':Value} {a':Nd} (ha:bP w1 C.ab V' C.L K.nd p.ap.length a') (f:ax (bp C.ab C.V C.L) w w1) (hV:∀b,V'.ownBlock=some b->C.V.ownBlock=some b\/w.heap.size<=b):Gf w w1 C K p s V' a':=
 ⟨ha,f,hV,h.m.ix.aB f ⟨h.rel.xa,h.rel.sa⟩⟩
theorem Mx.vL (h:Mx w C RO K p c s t used rv) {w1:World} (f:ax (bp C.ab C.V C.L) w w1):w1.cell? (π C.mb 9)=some (ρ C.ab)/\w1.cell? (π C.mb 10)=some (ρ C.xb)/\w1.cell? (π C.mb 12)=some (ι s.total)/\w1.cell? (π C.mb 0)=some K.g/\∀o,w1.frozen? (π C.mb o)=false:=by have hm:=h.m.aM.aB f h.rel.ma;exact ⟨hm.cell 9,hm.cell 10,hm.cell 12,hm.cell 0,hm.frozen⟩
theorem Gg (h:Mx w C RO K p c s t used rv) (gm:K.nd<=4194304) (hg:p.ap.length<=256) {q d:Nat} (hq:q < p.ap.length) (he:d<=1) (x:eW) (hx:s.f x.key=none) (lq:eS p s.a < K.nd) (ht: -1073741824<=s.total/\s.total<=1073741824):
 Calls Tryz.prog 270 #[ρ C.mb,ι q,ι d,bG x] w (vK w C RO K p c t used rv (.tuple #[]) (ja (aw p c) s q d x)):=by
 have dQ:=h.box (.cells (aH x) 118);have H0:=ae (dQ.drewN 1);have HB:=ae (bu.below (C:=C) (((Below.refl w.heap.size w).alloc (Nat.le_refl _) (.cells (aH x) 118)).trans (au _ _ 1)));have HX:=ae hx;have HT:=ae ht;have hP:=dT.SL H0.o.m.ar gm hg hq he x lq;obtain ⟨m9,-,-,-,-⟩:=dQ.reads;have eO:ay (w.alloc (.cells (aH x) 118)) w.heap.size 118 (aH x):=ay.new w _ _;have jg:=ae eO;have Ig:w.heap.size∉bp C.ab C.V C.L:=fun hc=>by have:=h.m.ar.lt _ hc;omega
 obtain ⟨b0,b1,b2,b3,b4⟩:=eO.c5;have Vl:Hid (∀w2,ax (bp C.ab C.V C.L) ((w.alloc (.cells (aH x) 118)).drewN 1) w2->ay w2 w.heap.size 118 (aH x)):=ae fun w2 f=>(eO.drewN 1).aB f Ig;have C1:Hid (Calls Tryz.prog 306 #[ρ C.ab,ι q,ι d,bG x] ((w.alloc (.cells (aH x) 118)).drewN 1) fun r w2=>
  r= .returned (.tuple #[ι (s.a.fs 0),ι 0])/\(w2.cell? (π C.mb 9)=some (ρ C.ab)/\w2.cell? (π w.heap.size 0)=some (.int .u64 x.key)/\w2.cell? (π w.heap.size 1)=some (ι (x.tg 0))/\w2.cell? (π w.heap.size 2)=some (ι (x.tg 1))/\w2.cell? (π w.heap.size 3)=some (ι (x.tg 2))/\w2.cell? (π w.heap.size 4)=some (ι (x.tg 3)))/\
  Hid (∃V',Gf ((w.alloc (.cells (aH x) 118)).drewN 1) w2 C K p s V' (gd s.a q d x))):=by
  refine ae (hP.mono ?_);rintro r w2 ⟨rfl,V',ha,f,hV⟩;have dn:=Vl.o w2 f;exact ⟨rfl,⟨(H0.o.vL f).1,dn.cell 0,dn.cell 1,dn.cell 2,dn.cell 3,dn.cell 4⟩,ae ⟨V',H0.o.zx ha f hV⟩⟩
 clear eO h hx ht hP Ig dQ;unfold bG at*;unfold aH at*;obtain ⟨w1,jo⟩:∃w1,w1=w.alloc (.cells #[.int .u64 x.key,ι (x.tg 0),ι (x.tg 1),ι (x.tg 2),ι (x.tg 3)] 118):=⟨_,rfl⟩;rw [<-jo] at m9 b0 b1 b2 b3 b4 C1 H0 HB Vl jg;go_enter Tryz.func270,Tryz.ntmps270;go_wp2_with fail;rw [<-jo];clear jo;generalize w.heap.size=bx at*
 go_region_held3 (fun wx=>wx.cell? (π C.mb 9)=some (ρ C.ab)/\wx.cell? (π bx 0)=some (.int .u64 x.key)/\wx.cell? (π bx 1)=some (ι (x.tg 0))/\wx.cell? (π bx 2)=some (ι (x.tg 1))/\wx.cell? (π bx 3)=some (ι (x.tg 2))/\wx.cell? (π bx 4)=some (ι (x.tg 3))) (first|exact ⟨m9,b0,b1,b2,b3,b4⟩|assumption) ((go_at_call 306;refine C1.o.mono ?_;rintro r w2 ⟨rfl,hS,hM⟩))
 obtain ⟨-,b0',-,-,-,-⟩:=hS;have ⟨V',Jr⟩:=hM.o;have Ο:=ae Jr;obtain ⟨-,g10,-,-,-⟩:=H0.o.vL Jr.2.1;have S6:=ae (Ix.Lc (v:=s.a.fs 0) (Jr.2.2.2.drewN 1) HX.o (by omega));have fg:=ae (Vl.o w2 Jr.2.1);clear m9 b0 b1 b2 b3 b4 C1 Vl jg Jr hM;go_wp2_with fail
 go_still_tail 7,(by kernel_rfl)
 change wpList _ _ _ _ _ (w2.drewN 1);obtain ⟨w3,Ri⟩:∃w3,w3=w2.drewN 1:=⟨_,rfl⟩;rw [<-Ri];rw [<-Ri] at S6;have HW3:=ae Ri;clear Ri;go_wp2_with fail;refine S6.o.mono ?_;rintro e w4 ⟨rfl,f4,x4⟩;obtain ⟨Rj,Eb⟩:=H0.o.both Ο.o.2.1 Ο.o.1 Ο.o.2.2.1 (((ax.refl _ w2).drewN 1).trans (by rw [<-HW3.o];exact f4)) (by rw [BE hq];exact x4);obtain ⟨-,-,g12,g0,gf⟩:=Eb.reads;obtain ⟨gb,kw,jZ,vM,uv⟩:=Eb.ap hq;have Jp:=ae Rj;have Db:=ae Eb;rw [jZ] at g0;clear jZ Rj Eb f4 x4 b0' g10 S6;have Pa:(aw p c).gh q=p.ap.getD q false:=rfl;have Vy:=ae Pa;clear Pa;dsimp only at g12;generalize p.ap.getD q false=gq at*;generalize p.ap.length=ng at*;have S7:IntKind.i64.wrap (s.total+1)=s.total+1:=IntWalk.i64_in _ ⟨by have:=HT.o;omega,by have:=HT.o;omega⟩;cases gq
 ·go_wp2;refine bodyPost_ret (results_none rfl _ _ _) rfl ?_;obtain ⟨k1,k2⟩:=Db.o.total (s.total+1);have e:ja (aw p c) s q d x=⟨gd s.a q d x,Vm.aL s.f x.key (some (s.a.fs 0)),s.vars,s.total+1⟩:=by unfold ja;rw [Vy.o];rfl
  rw [e];exact ⟨rfl,{C with V:=V'},HB.o.trans (Jp.o.trans k1),k2⟩
 ·go_wp2;refine bodyPost_ret (results_none rfl _ _ _) rfl ?_;have e:ja (aw p c) s q d x=⟨gd s.a q d x,Vm.aL s.f x.key (some (s.a.fs 0)),s.vars,s.total⟩:=by unfold ja;rw [Vy.o];rfl
  rw [e];exact ⟨rfl,{C with V:=V'},HB.o.trans Jp.o,Db.o⟩
end
section
variable {w w':World} {C C':Co} {U U':Ru} {RO RO':List Nat} {K:Kc} {p:aO} {c:Cp} {t:fI} {used:Int} {hv hv':Value} {jv jx:Nat->Value} {s s':St} {r r':Rn} {rv:Value}
theorem Mx.aB (h:Mx w C RO K p c s t used rv) {S:List Nat} (f:ax S w w') (hc:∀b,b∈C.l->b∉S) (hr:∀b,b∈RO->b∉S):Mx w' C RO K p c s t used rv:=
 ⟨h.m.aB f hc hr,h.sep.nd,fun b' hb=>Nat.lt_of_lt_of_le (h.sep.lt b' hb) f.size,h.sep.ro,fun b' hb=>Nat.lt_of_lt_of_le (h.sep.cY b' hb) f.size⟩
theorem bu.new {w2 w3:World} (k:bu w w2 C C') {bx:Nat} (hb:w.heap.size<=bx) (f:ax [bx] w2 w3):bu w w3 C C':=
 ⟨k.mb,⟨f.os.trans k.f.os,f.tape.trans k.f.tape,f.output.trans k.f.output,Nat.le_trans k.f.size f.size,fun i hi hs=>(f.block i (Nat.lt_of_lt_of_le hi k.f.size) (by simp;omega)).trans (k.f.block i hi hs)⟩,k.c⟩
def ky:Array Value:=#[.int .u64 0,ι 0,ι 0,ι 0,ι 0]
theorem adj {p:Prop} (h:p:=by
 rw [e];exact bodyPost_ret (v:= .agg #[.int .u64 y.key,ι (y.tg 0),ι (y.tg 1),ι (y.tg 2),ι (y.tg 3)]) (by simp [results,Tryz.results272,go_sem,e0,e1,e2,e3,e4]) rfl ⟨rfl,C,T3,k3⟩):p:=h
theorem Rk (h:Mx w C RO K p c s t used rv) (hI:Inv (aw p c) s) (gm:K.nd<=4194304) (hg:p.ap.length<=256) {q d:Nat} (hq:q < p.ap.length) (he:d<=1) (bz:s.a.ls q≠[]) (ht: -1073741824<=s.total/\s.total<=1073741824):
 Calls Tryz.prog 272 #[ρ C.mb,ι q,ι d] w (vK w C RO K p c t used rv (bG (s.a.val (ck s.a q d))) (jn (aw p c) s q d)):=by
 have hm:=fi (e:=d) bz;have hf:=(hI.idx _ _).2 ⟨q,hq,hm,rfl⟩;have dQ:=h.box (.cells ky 118);have H0:=ae dQ;have HB:=ae (bu.below (C:=C) ((Below.refl w.heap.size w).alloc (Nat.le_refl _) (.cells ky 118)));have HF:=ae hf;have HT:=ae ht;have pY:=ae (o_ (a:=s.a) hq hm);have hP:=dT.WS dQ.m.ar gm hg hq he bz;obtain ⟨m9,-,-,-,-⟩:=dQ.reads;have eO:ay (w.alloc (.cells ky 118)) w.heap.size 118 ky:=ay.new w _ _;have jg:=ae eO;have Ig:w.heap.size∉C.l:=fun hc=>by have:=h.sep.lt _ hc;omega
 have NI:w.heap.size∉RO:=fun hc=>by have:=h.sep.cY _ hc;omega
 have S_:=ae (And.intro Ig NI);have kV:=ae (show jn (aw p c) s q d=⟨takeN s.a q (ck s.a q d),Vm.aL s.f (s.a.val (ck s.a q d)).key none,s.vars,if p.ap.getD q false then s.total else s.total - 1⟩ from rfl);clear h hf ht eO Ig NI dQ bz hm hI;generalize s.a.val (ck s.a q d)=y at*;unfold bG at hP ⊢;unfold ky at*;have HP:=ae hP;clear hP;go_enter Tryz.func272,Tryz.ntmps272;go_wp2_with fail;obtain ⟨bx,eO⟩:∃bx,bx=w.heap.size:=⟨_,rfl⟩;rw [<-eO] at jg S_ ⊢;have rF:=ae (Nat.le_of_eq eO.symm);clear eO;refine HP.o.mono ?_;rintro e w2 ⟨rfl,f2,a2⟩;have Jr:=H0.o.zx a2 f2 (fun b hb=> .inl hb);obtain ⟨-,g10,-,-,-⟩:=H0.o.vL f2;have Ο:=ae Jr;have Ta:=jg.o.aB f2 (fun hc=>S_.o.1 (by simp [Co.l,hc]));have Vo:=Ta.lt;have F3:ax (bp C.ab C.V C.L) (w.alloc (.cells #[.int .u64 0,ι 0,ι 0,ι 0,ι 0] 118)) ((w2.alloc (.cells #[.int .u64 y.key,ι (y.tg 0),ι (y.tg 1),ι (y.tg 2),ι (y.tg 3)] 118)).drewN 1):=(f2.alloc _).drewN 1;have B3:Below w2.heap.size w2 ((w2.alloc (.cells #[.int .u64 y.key,ι (y.tg 0),ι (y.tg 1),ι (y.tg 2),ι (y.tg 3)] 118)).drewN 1):=((Below.refl _ w2).alloc (Nat.le_refl _) _).trans (au _ _ 1);have A3:=a2.later B3;have X3:=Jr.2.2.2.later B3;rw [<-pY.o] at X3;have hD:=Ix.qK X3 HF.o;have hy:=(ay.new w2 118 #[.int .u64 y.key,ι (y.tg 0),ι (y.tg 1),ι (y.tg 2),ι (y.tg 3)]);have Vz:w2.heap.size∉[C.xb,C.xs]:=by have l1:=H0.o.sep.lt C.xb (by simp [Co.l]);have l2:=H0.o.sep.lt C.xs (by simp [Co.l]);have l3:=f2.size;simp;omega
 have qq:bx∉[C.xb,C.xs]:=by have:=S_.o.1;simp [Co.l] at this ⊢;exact ⟨this.2.1,this.2.2.1⟩
 have Xr:=(Ta.alloc (.cells #[.int .u64 y.key,ι (y.tg 0),ι (y.tg 1),ι (y.tg 2),ι (y.tg 3)] 118)).drewN 1;have HY:=ae (hy.drewN 1);have aal:=ae Xr;have Rl:=ae (And.intro Vz qq);have i10:(w2.alloc (.cells #[.int .u64 y.key,ι (y.tg 0),ι (y.tg 1),ι (y.tg 2),ι (y.tg 3)] 118)).cell? (π C.mb 10)=some (ρ C.xb):=(H0.o.vL (f2.alloc _)).2.1;have y0:=hy.c1;have DK:=ae F3;have zy:=ae A3;have HD:=ae hD;clear f2 a2 Jr m9 HP jg Ta F3 B3 A3 X3 hD Vz qq Xr hy g10;go_wp2_with fail;generalize w2.alloc (.cells #[.int .u64 y.key,ι (y.tg 0),ι (y.tg 1),ι (y.tg 2),ι (y.tg 3)] 118)=w3 at*;generalize w2.heap.size=yb at*
 go_still_tail 6,(by kernel_rfl)
 change wpList _ _ _ _ _ (w3.drewN 1);generalize w3.drewN 1=w4 at*;go_wp2_with fail;refine HD.o.mono ?_;rintro e w5 ⟨rfl,f5,x5⟩;obtain ⟨Rj,Eb⟩:=H0.o.both DK.o zy.o (fun b hb=> .inl hb) f5 x5;obtain ⟨-,-,g12,g0,gf⟩:=Eb.reads;obtain ⟨gb,kw,jZ,vM,uv⟩:=Eb.ap hq;have hy5:=HY.o.aB f5 Rl.o.1;have BG:=aal.o.aB f5 Rl.o.2;have Jp:=ae Rj;have Db:=ae Eb;rw [jZ] at g0;clear jZ Rj Eb f5 x5 i10 y0 HD;dsimp only at g12;obtain ⟨Y0,Y1,Y2,Y3,Y4⟩:=hy5.c5;obtain ⟨Z0,Z1,Z2,Z3,Z4⟩:=BG.c5;have zf:∀o,w5.frozen? (π bx o)=false:=BG.frozen;have n1:yb≠C.mb:=hy5.ne Db.o.m.aM (by decide);have n2:bx≠C.mb:=BG.ne Db.o.m.aM (by decide);have nA:=ae BG;clear hy5 BG;have S7:IntKind.i64.wrap (s.total - 1)=s.total - 1:=IntWalk.i64_in _ ⟨by have:=HT.o;omega,by have:=HT.o;omega⟩;generalize p.ap.getD q false=gq at*;generalize p.ap.length=ng at*;cases gq
 ·go_wp2;obtain ⟨k1,k2⟩:=Db.o.total (s.total - 1);have uw:ay (w5.setCell (π C.mb 12) (ι (s.total - 1))) bx 118 _:=nA.o.other n2 _ _;have r6:=dT.jp uw y;have F6:ax [bx] (w5.setCell (π C.mb 12) (ι (s.total - 1))) (dr (w5.setCell (π C.mb 12) (ι (s.total - 1))) bx 0 y):=fD (ax.refl _ _) (by simp) 0 y;have k3:=k2.aB F6 (fun b hb hc=>by simp at hc;subst hc;exact S_.o.1 hb) (fun b hb hc=>by simp at hc;subst hc;exact S_.o.2 hb);have T3:=(HB.o.trans (Jp.o.trans k1)).new rF.o F6;change bodyPost _ _ _ _ _ (dr (w5.setCell (π C.mb 12) (ι (s.total - 1))) bx 0 y);generalize dr (w5.setCell (π C.mb 12) (ι (s.total - 1))) bx 0 y=w7 at*;obtain ⟨e0,e1,e2,e3,e4,_⟩:=jc r6;have e:jn (aw p c) s q d=⟨takeN s.a q (ck s.a q d),Vm.aL s.f y.key none,s.vars,s.total - 1⟩:=kV.o;exact adj
 ·go_wp2;have uw:ay w5 bx 118 _:=nA.o;have r6:=dT.jp uw y;have F6:ax [bx] w5 (dr w5 bx 0 y):=fD (ax.refl _ _) (by simp) 0 y;have k3:=Db.o.aB F6 (fun b hb hc=>by simp at hc;subst hc;exact S_.o.1 hb) (fun b hb hc=>by simp at hc;subst hc;exact S_.o.2 hb);have T3:=(HB.o.trans Jp.o).new rF.o F6;change bodyPost _ _ _ _ _ (dr w5 bx 0 y);generalize dr w5 bx 0 y=w7 at*;obtain ⟨e0,e1,e2,e3,e4,_⟩:=jc r6;have e:jn (aw p c) s q d=⟨takeN s.a q (ck s.a q d),Vm.aL s.f y.key none,s.vars,s.total⟩:=kV.o;exact adj
end
section
variable {w w':World} {C C':Co} {U U':Ru} {RO RO':List Nat} {K:Kc} {p:aO} {c:Cp} {t:fI} {used:Int} {hv hv':Value} {jv jx:Nat->Value} {s s':St} {r r':Rn} {rv:Value}
theorem Mx.vars (h:Mx w C RO K p c s t used rv) {b m cap i:Nat} (hv:C.vs= .slice (some (π b 0)) m cap) (hi:i < p.vars.length) (n:Int):
 bu w (w.setCell (π b i) (ι n)) C C/\Mx (w.setCell (π b i) (ι n)) C RO K p c {s with vars:=Vm.aL s.vars i n} t used rv:=by
 have R:=h.rel;have hob:C.vs.ownBlock=some b:=by rw [hv];rfl
 have F:ax (vb C.vs) w (w.setCell (π b i) (ι n)):=(ax.refl _ w).setCell (aK.2 hob) _;refine ⟨⟨rfl,F.mono (by intro k hk;simp [Co.l,hk]),fun _ hb=> .inl hb⟩,⟨⟨?_,?_,?_,?_,?_⟩,h.sep.nd,fun b' hb=>Nat.lt_of_lt_of_le (h.sep.lt b' hb) F.size,h.sep.ro,fun b' hb=>Nat.lt_of_lt_of_le (h.sep.cY b' hb) F.size⟩⟩
 ·exact h.m.aM.aB F R.mv
 ·exact h.m.prog.aB F fun b' hb hc=>h.cr hb (by simp [Co.l,hc])
 ·exact h.m.ar.aB F fun b' hb hc=>R.av b' hb hc
 ·exact h.m.ix.aB F ⟨R.xv,R.sv⟩
 ·have h3:=h.m.vs;rw [hv] at h3 ⊢;refine (h3.set (o:=i) (by omega) (ι n)).congr fun o ho=>?_;show (if o=i then _ else _)=ι (Vm.aL s.vars i n o);rw [Vm.cG];split<;>rfl
theorem Mx.Pb (h:Mx w C RO K p c s t used rv) {i:Nat} (hi:i < p.vars.length):∃b cap,C.vs= .slice (some (π b 0)) p.vars.length cap/\w.cell? (π b i)=some (ι (s.vars i))/\∀o,w.frozen? (π b o)=false:=by obtain ⟨b,cap,fN,nO,lF,hb⟩:=h.m.vs.some (by omega);have h3:=h.m.vs;rw [fN] at h3;exact ⟨b,cap,fN,h3.cell (o:=i) (by omega),fun o=>h3.frozen o⟩
theorem Ec (h:Mx w C RO K p c s t used rv) {x1 x2 x3 i:Nat} {oE op b' c' d':Int} (hi:i < p.vars.length)
 (h1:ay w x1 3 #[ι oE]) (h2:ay w x2 35 #[ρ C.mb]) (h3:ay w x3 40 #[ι op,ι i,ι b',ι c',ι d']):
 Calls Tryz.prog 215 #[ρ x1,ρ x2,ρ x3] w (vK w C RO K p c t used rv (.tuple #[]) {s with vars:=Vm.aL s.vars i oE}):=by
 obtain ⟨vb,aam,hv,hc,hf⟩:=h.Pb hi;have k5:w.cell? (π C.mb 11)=some C.vs:=h.m.aM.cell 11;have c1:=h1.c1;have c2:=h2.c1;have c3:w.cell? (π x3 1)=some (ι i):=h3.cell 1;have HF:=ae (h.vars hv hi oE);rw [hv] at k5;clear h h1 h2 h3 hv;generalize p.vars.length=nv at*;go_enter Tryz.func215,Tryz.ntmps215;go_wp2;go_region;go_wp2;refine bodyPost_ret (results_none rfl _ _ _) rfl ?_;obtain ⟨k1,k2⟩:=HF.o;exact ⟨rfl,C,k1.trans (bu.below (au _ _ 1)),k2.drewN 1⟩
theorem Mx.set (h:Mx w C RO K p c s t used rv) {n:Nat} {x:eW} (f:ax (bp C.ab C.V C.L) w w') (ha:bP w' C.ab C.V C.L K.nd p.ap.length (GZ s.a n x)):bu w w' C C/\Mx w' C RO K p c (kD s n x) t used rv:=
 h.Rh (s':=kD s n x) f ha (fun b hb=> .inl hb) rfl rfl rfl h.m.ix
theorem BH (h:Mx w C RO K p c s t used rv) {x1 x2 n q:Nat} {oE:eW} (hf:s.f oE.key=some n) (hq:q < p.ap.length) (hn:n∈s.a.ls q)
 (h1:ay w x1 35 #[ρ C.mb]) (h2:ay w x2 118 (aH oE)):
 Calls Tryz.prog 269 #[ρ x1,ρ x2] w (vK w C RO K p c t used rv (.tuple #[]) (kD s n oE)):=by
 obtain ⟨m9,m10,-,-,-⟩:=h.reads;have c1:=h1.c1;obtain ⟨c2,c3,c4,c5,c6⟩:=h2.c5;have HG:=ae (fun k=>Ix.pJ (h.m.ix.drewN k) hf);have HS:=ae (fun k=>dT.Q8 ((h.m.ar.drewN k).drewN 1) hq hn oE);have H:=ae h;clear h hf hn h1 h2;unfold bG at HS;go_enter Tryz.func269,Tryz.ntmps269;go_wp2_with fail;go_quiet ((go_at_call 59;exact DC (HG.o _)));go_wp2_with fail;have tC:=ae (HS.o nq);have HA:=ae ((H.o.drewN nq).drewN 1);have HB:=ae (bu.below (C:=C) ((au w.heap.size w nq).trans (au w.heap.size (w.drewN nq) 1)));have d1:(w.drewN nq).cell? (π x1 0)=some (ρ C.mb):=c1;have d2:(w.drewN nq).cell? (π x2 0)=some (.int .u64 oE.key):=c2;have d3:(w.drewN nq).cell? (π x2 1)=some (ι (oE.tg 0)):=c3;have d4:(w.drewN nq).cell? (π x2 2)=some (ι (oE.tg 1)):=c4;have d5:(w.drewN nq).cell? (π x2 3)=some (ι (oE.tg 2)):=c5;have d6:(w.drewN nq).cell? (π x2 4)=some (ι (oE.tg 3)):=c6;have d9:(w.drewN nq).cell? (π C.mb 9)=some (ρ C.ab):=m9;clear HS HG c1 c2 c3 c4 c5 c6 m9 m10;generalize w.drewN nq=w1 at*
 go_still_tail 6,(by kernel_rfl)
 change wpList _ _ _ _ _ (w1.drewN 1);generalize w1.drewN 1=w2 at*;go_wp2_with fail;refine tC.o.mono ?_;rintro e w3 ⟨rfl,f3,a3⟩;obtain ⟨k1,k2⟩:=HA.o.set f3 a3;have pZ:=ae k1;have kY:=ae k2;clear f3 a3 k1 k2 tC;go_wp2;exact bodyPost_ret (results_none rfl _ _ _) rfl ⟨rfl,C,HB.o.trans pZ.o,kY.o⟩
theorem adk {p:Prop} (h:p:=by
 go_wp2_with fail;refine HC.o.mono ?_;rintro e w2 ⟨rfl,C',k1,k2⟩;have pZ:=ae k1;have kY:=ae k2;clear k1 k2 HC;go_wp2;exact bodyPost_ret (results_none rfl _ _ _) rfl ⟨rfl,C',pZ.o,kY.o⟩):p:=h
theorem Ed (h:Mx w C RO K p c s t used rv) (hI:Inv (aw p c) s) (gm:K.nd<=4194304) (hg:p.ap.length<=256) {q d:Nat} (hq:q < p.ap.length) (he:d<=1) (bz:s.a.ls q≠[]) (ht: -1073741824<=s.total/\s.total<=1073741824) {x1 x2 x3:Nat}
 (h1:ay w x1 35 #[ρ C.mb]) (h2:ay w x2 3 #[ι q]) (h3:ay w x3 3 #[ι d]):
 Calls Tryz.prog 271 #[ρ x1,ρ x2,ρ x3] w (vK w C RO K p c t used rv (.tuple #[]) (jn (aw p c) s q d)):=by
 have c1:=h1.c1;have c2:=h2.c1;have c3:=h3.c1;have HC:=ae (Rk h hI gm hg hq he bz ht);clear h h1 h2 h3 hI bz ht;go_enter Tryz.func271,Tryz.ntmps271;exact adk
theorem Ee (h:Mx w C RO K p c s t used rv) (gm:K.nd<=4194304) (hg:p.ap.length<=256) {q d:Nat} (hq:q < p.ap.length) (he:d<=1) (x:eW) (hx:s.f x.key=none) (lq:eS p s.a < K.nd) (ht: -1073741824<=s.total/\s.total<=1073741824) {x1 x2 x3 x4:Nat}
 (h1:ay w x1 35 #[ρ C.mb]) (h2:ay w x2 3 #[ι q]) (h3:ay w x3 3 #[ι d]) (h4:ay w x4 118 (aH x)):
 Calls Tryz.prog 275 #[ρ x1,ρ x2,ρ x3,ρ x4] w (vK w C RO K p c t used rv (.tuple #[]) (ja (aw p c) s q d x)):=by
 have c1:=h1.c1;have c2:=h2.c1;have c3:=h3.c1;unfold aH at h4;obtain ⟨e0,e1,e2,e3,e4,-⟩:=jc h4;have HC:=ae (Gg h gm hg hq he x hx lq ht);clear h h1 h2 h3 h4 hx lq ht;unfold bG at HC;go_enter Tryz.func275,Tryz.ntmps275;exact adk
end
theorem BI {p:aO} {a:Nd} {q n e:Nat} (hn:n∈a.ls q):eS p (mZ a n q e)=eS p a:=by
 unfold eS;congr 1;funext j;show (aL a.ls q _ j).length=_;rw [cG];split
 ·next h=>subst h;have h3:0 < (a.ls j).length:=List.length_pos_of_mem hn;rw [jk,List.length_erase_of_mem hn];omega
 ·rfl
theorem BJ {a:Nd} {q n m e p:Nat} (hn:n∈a.ls q) (hm:m∈a.ls p):m∈(mZ a n q e).ls p:=by
 show m∈aL a.ls q _ p;rw [cG];split
 ·next h=>
  subst h;rw [ext_mem];by_cases h:m=n
  ·exact .inl h
  ·exact .inr ((List.mem_erase_of_ne h).2 hm)
 ·exact hm
def tK (a:Nd) (q:Nat) (l:List Nat):Nd:=l.foldl (fun b m=>mZ b m q 0) a
theorem Ef (a:Nd) (q:Nat) (l:List Nat) (m:Nat):tK a q (l++[m])=mZ (tK a q l) m q 0:=by unfold tK;rw [List.foldl_append];rfl
theorem Ih {a:Nd} {q m p:Nat}:∀(l:List Nat),(∀x,x∈l->x∈a.ls q)->m∈a.ls p->m∈(tK a q l).ls p:=by
 intro l
 induction l generalizing a with
 |nil=>intro _ h;exact h
 |cons x l ih=>intro hl hm;exact ih (a:=mZ a x q 0) (fun y hy=>BJ (hl x (by simp)) (hl y (by simp [hy]))) (BJ (hl x (by simp)) hm)
section
variable {w w':World} {C C':Co} {U U':Ru} {RO RO':List Nat} {K:Kc} {p:aO} {c:Cp} {t:fI} {used:Int} {hv hv':Value} {jv jx:Nat->Value} {s s':St} {r r':Rn} {rv:Value}
structure Mov (w wr:World) (C:Co) (RO:List Nat) (K:Kc) (p:aO) (c:Cp) (t:fI) (used:Int) (rv:Value) (s1:St) (q:Nat) (ahead:List Nat) (k:Nat):Prop where
 ex:∃C',bu w wr C C'/\Mx wr C' RO K p c {s1 with a:=tK s1.a q (ahead.take k)} t used rv
theorem gw {α:Type} (l:List α) (k:Nat) (d:α) (h:k < l.length):l.take (k+1)=l.take k++[l.getD k d]:=by rw [List.take_add_one,List.getD_eq_getElem?_getD,List.getElem?_eq_getElem h];rfl
theorem Eg (h:Mx w C RO K p c s t used rv) (gm:K.nd<=4194304) (hg:p.ap.length<=256) {q:Nat} (hq:q < p.ap.length) (x:eW) (hx:s.f x.key=none) (lq:eS p s.a < K.nd) (ht: -1073741824<=s.total/\s.total<=1073741824) {ahead:List Nat} (ha:∀m,m∈ahead->m∈s.a.ls q)
 (hlen:ahead.length<=9223372036854775807) {x1 x2 x3 x4:Nat} {av:Value}
 (h1:ay w x1 35 #[ρ C.mb]) (h2:ay w x2 3 #[ι q]) (h3:ay w x3 118 (aH x)) (h4:ay w x4 24 #[av]) (h5:Row w 3 1 av ahead.length (fun i=> ι (ahead.getD i 0:Nat)))
 (r1:x1∈RO) (r2:x2∈RO) (r3:x3∈RO) (r4:x4∈RO) (r5:∀b,b∈vb av->b∈RO):
 Calls Tryz.prog 273 #[ρ x1,ρ x2,ρ x3,ρ x4] w (vK w C RO K p c t used rv (.tuple #[]) (k_ (aw p c) (.out q x ahead) s)):=by
 have c1:=h1.c1;have c2:=h2.c1;have h3':=h3;unfold aH at h3';obtain ⟨e0,e1,e2,e3,e4,-⟩:=jc h3';have HC:=ae (Gg h gm hg hq (Nat.zero_le 1) x hx lq ht);have HK:=ae (fun wx (f:ax C.l w wx)=>And.intro (h1.aB f (h.cr r1)) (And.intro (h2.aB f (h.cr r2)) (And.intro (h4.aB f (h.cr r4)) (h5.aB f (fun b hb=>h.cr (r5 b (aK.2 hb)))))));have HS:=ae (show k_ (aw p c) (.out q x ahead) s={ja (aw p c) s q 0 x with a:=tK (ja (aw p c) s q 0 x).a q ahead} from rfl);have HM:=ae (show ∀m,m∈ahead->m∈(ja (aw p c) s q 0 x).a.ls q from fun m hm=>jL.2 (.inr (ha m hm)));have HQ:=ae hq;clear h h1 h2 h3 h3' h4 hx lq ht ha;generalize ja (aw p c) s q 0 x=s1 at*;unfold bG at HC;have HL:=ae hlen;rcases h5.val with ⟨Ρ,Xs⟩|⟨vb0,cap,Ρ,nO,lF,hb⟩
 ·rw [Ρ] at HK;have e0:ahead=[]:=List.length_eq_zero_iff.1 Xs;clear h5;go_enter Tryz.func273,Tryz.ntmps273;go_wp2_with fail;refine HC.o.mono ?_;rintro e w2 ⟨rfl,C2,k1,k2⟩;obtain ⟨b1,b2,b4,b5⟩:=HK.o w2 k1.f;have g4:=b4.c1;have pZ:=ae k1;have kY:=ae k2;have HE:=ae e0;clear k1 k2 HC c1 c2 b1 b2 b4 b5 e0 Xs;go_wp2_with fail
  go_loopg [12] 0 (fun f zz wr=>w2=wr/\zz=ι (0:Int))
  case atStart=>exact ⟨rfl,rfl⟩
  case round=>obtain ⟨rfl,rfl⟩:=hrel;go_wp2;refine bodyPost_ret (results_none rfl _ _ _) rfl ?_;rw [HS.o,HE.o];exact ⟨rfl,C2,pZ.o,kY.o⟩
 ·rw [Ρ] at HK;clear h5;go_enter Tryz.func273,Tryz.ntmps273;go_wp2_with fail;refine HC.o.mono ?_;rintro e w2 ⟨rfl,C2,k1,k2⟩;obtain ⟨b1,b2,b4,b5⟩:=HK.o w2 k1.f;have g4:=b4.c1;have HV:=ae (Mov.mk (q:=q) (ahead:=ahead) (k:=0) ⟨C2,k1,k2⟩);clear k1 k2 HC c1 c2 b1 b2 b4 b5;go_wp2_with fail
  go_loopg [5,12] ahead.length (fun f s5 zz wr=>∃k:Nat,zz=ι k/\k+f=ahead.length/\Hid (Mov w wr C RO K p c t used rv s1 q ahead k))
  case atStart=>exact ⟨0,rfl,by omega,HV⟩
  case round=>
   obtain ⟨k,rfl,hk,HR⟩:=hrel;obtain ⟨C3,k1,k2⟩:=HR.o.ex;obtain ⟨b1,b2,b4,b5⟩:=HK.o wr k1.f;have pZ:=ae k1;have kY:=ae k2;have aa0:=HL.o;have kX:=k1.mb;by_cases a8:k < ahead.length
   ·have d1:=b1.c1;have d2:=b2.c1;have d5:wr.cell? (π vb0 k)=some (ι (ahead.getD k 0:Nat)):=b5.cell (by omega);have d9:wr.cell? (π C.mb 9)=some (ρ C3.ab):=by rw [<-kX];exact k2.reads.1
    have eG:ahead.getD k 0∈(tK s1.a q (ahead.take k)).ls q:=by refine Ih _ (fun y hy=>HM.o y (List.mem_of_mem_take hy)) (HM.o _ ?_);rw [List.getD_eq_getElem?_getD,List.getElem?_eq_getElem a8];exact List.getElem_mem a8
    have Pc:=ae (dT.SK (k2.m.ar.drewN 1) gm hg hq eG (Nat.zero_le 1));have HB:=ae (bu.below (C:=C3) (au wr.heap.size wr 1));have HA:=ae (k2.drewN 1);have Lf:=ae (gw ahead k 0 a8);have HME:=ae eG;clear k1 k2 b1 b2 b4 b5 kX eG HV;generalize hn:ahead.getD k 0=n at*;go_wp2_with fail
    go_still_tail 6,(by kernel_rfl)
    change wpList _ _ _ _ _ (wr.drewN 1);generalize wr.drewN 1=w4 at*;go_wp2_with fail;refine Pc.o.mono ?_;rintro e w5 ⟨rfl,f5,a5⟩;have gM:Mov w w5 C RO K p c t used rv s1 q ahead (k+1):=by refine ⟨?_⟩;rw [Lf.o,Ef];obtain ⟨k3,k4⟩:=HA.o.Rh (s':={s1 with a:=mZ (tK s1.a q (ahead.take k)) n q 0}) f5 a5 (fun b hb=> .inl hb) rfl rfl rfl (by rw [BI HME.o];exact HA.o.m.ix);exact ⟨C3,pZ.o.trans (HB.o.trans k3),k4⟩
    have HN:=ae gM;clear gM f5 a5 Pc;go_wp2_with fail
    go_roundg (gk - 1)
    case measure=>omega
    case rel=>exact ⟨k+1,by go_num,by omega,HN⟩
   ·have he:k=ahead.length:=by omega
    have HE:=ae he;clear k1 k2 b1 b2 b4 b5 kX he;go_wp2;refine bodyPost_ret (results_none rfl _ _ _) rfl ?_;rw [HS.o];have h6:=kY.o;rw [HE.o,List.take_length] at h6;exact ⟨rfl,C3,pZ.o,h6⟩
end
section
variable {w w':World} {C:Co} {U U':Ru} {RO RO':List Nat} {K:Kc} {p:aO} {c:Cp} {t:fI} {used:Int} {hv hv':Value} {jv jx:Nat->Value} {s:St} {r r':Rn}
theorem yl:(Tryz.prog.info? 1).map (fun i=>(i.zero,i.size,i.bytes))=some (some .nilFunc,1,8):=by kernel_rfl
theorem cD.Ii (h:cD w C U RO K p c t used hv jv s r) (f:ax (vb U.je) w w'):w'.cell? (π U.rb 3)=some U.je/\(∀o,w'.frozen? (π U.rb o)=false)/\w'.cell? (π C.mb 60)=some (ρ U.rb):=by have hr:=h.r.c_.aB f h.sep.u.l;have hm:=h.m.aM.aB f (fun hc=>h.sep.cu (b:=C.mb) (by simp [Co.l]) (by simp [Ru.l,hc]));exact ⟨hr.cell 3,hr.frozen,hm.cell 60⟩
theorem cD.yn (h:cD w C U RO K p c t used hv jv s r) (f:ax (vb U.i_) w w'):w'.cell? (π U.rb 7)=some U.i_/\(∀o,w'.frozen? (π U.rb o)=false)/\w'.cell? (π C.mb 60)=some (ρ U.rb):=by have hr:=h.r.c_.aB f h.sep.u.j;have hm:=h.m.aM.aB f (fun hc=>h.sep.cu (b:=C.mb) (by simp [Co.l]) (by simp [Ru.l,hc]));exact ⟨hr.cell 7,hr.frozen,hm.cell 60⟩
theorem cD.Ij (h:cD w C U RO K p c t used hv jv s r) (f:ax (vb U.kF) w w'):w'.cell? (π U.rb 5)=some U.kF/\(∀o,w'.frozen? (π U.rb o)=false)/\w'.cell? (π C.mb 60)=some (ρ U.rb):=by have hr:=h.r.c_.aB f h.sep.u.t;have hm:=h.m.aM.aB f (fun hc=>h.sep.cu (b:=C.mb) (by simp [Co.l]) (by simp [Ru.l,hc]));exact ⟨hr.cell 5,hr.frozen,hm.cell 60⟩
theorem fK.form {w:World} {mb:Nat} {RO:List Nat} {v:Value} {u:sm} (h:fK w mb RO v u):∃f gQ,v= .func f #[] gQ:=by
 cases u with
 |var i oE=>obtain ⟨x1,x2,x3,op,b,c,d,rfl,-⟩:=h;exact ⟨_,_,rfl⟩
 |mark oE=>obtain ⟨x1,x2,rfl,-⟩:=h;exact ⟨_,_,rfl⟩
 |cut q e=>obtain ⟨x1,x2,x3,rfl,-⟩:=h;exact ⟨_,_,rfl⟩
 |put q e x=>obtain ⟨x1,x2,x3,x4,rfl,-⟩:=h;exact ⟨_,_,rfl⟩
 |out q x ahead=>obtain ⟨x1,x2,x3,x4,av,rfl,-⟩:=h;exact ⟨_,_,rfl⟩
theorem rG (h:cD w C U RO K p c t used hv jv s r) {u:sm} {v:Value} (hu:fK w C.mb RO v u) (hl:r.bm.length < 1000000):
 Calls Tryz.prog 214 #[ρ C.mb,v] w (bX w C.mb U.rb RO K p c t used (.tuple #[]) (s,r.note u)):=by
 obtain ⟨i0,hi,gA,jF,r_⟩:=info_parts yl;have oC:w.cell? (π C.mb 60)=some (ρ U.rb):=h.m.aM.cell 60;have r2:w.cell? (π U.rb 7)=some U.i_:=h.r.c_.cell 7;have lm:=h.m.aM.lt;have lr:=h.r.c_.lt;have HD:=ae (h.drewN 1);have C3:=ae (show r.bm.length+1<=maxLen by unfold maxLen;omega);have C4:=ae (show (r.bm.length+1)*8<=140737488355328 by omega);obtain ⟨fn,gQ,rfl⟩:=hu.form;have HU:=ae hu;have H:=ae h;clear h hu;go_enter Tryz.func214,Tryz.ntmps214;go_wp2_with fail
 go_region_law ((refine step_append_lies _ rfl (.tmp 14) (.tmp 16) 124 rfl 0 1 i0 .nilFunc 1 8 Tryz.underlying124 hi gA jF r_ rfl (by decide) U.i_ _ _ (by simp [Act.eval,Act.put]) (HD.o.r.i_.alloc _) (π w.heap.size 0) 1 1 [.func fn #[] gQ] (by simp [Act.eval,Act.put]) rfl (gP.gr _ [.func fn #[] gQ] _ _ (by simp)) (by simp [Value.oneCell']) (by decide) C3.o C4.o (by simp) _ rfl ?_;intro g cap w4 fo fe pG um;obtain ⟨qW,xf⟩:=If (w:=w) (n:=r.bm.length+1) (cap:=cap) ((au w.heap.size w 1).alloc (Nat.le_refl _) _) fe pG rfl;obtain ⟨c2,f2,Vx⟩:=H.o.yn qW;have HO:=ae fo;have HF:=ae qW;have HS:=ae xf;clear fo fe pG um qW xf))
 all_goals
  go_wp2;refine bodyPost_ret (results_none rfl _ _ _) rfl ?_;have bq:=kU (f':=fun i=>if i < r.bm.length then jv i else .func fn #[] gQ) HO.o (fun i hi=>if_pos hi) (if_neg (by omega));have F:ax (U.rb::vb U.i_) w (w4.setCell (π U.rb 7) (.slice (some (π g 0)) (r.bm.length+1) cap)):=(HF.o.mono (by intro k hk;simp [hk])).setCell (by simp) _;have mR:∀b,b∈RO->b∉U.rb::vb U.i_:=fun b hb=>by have:=H.o.sep.ur hb;simp [Ru.l] at this ⊢;simp [this]
  have A:=H.o.i_ HF.o (l:=u::r.bm) bq HS.o (RO':=RO) (fun i u' Eh=>by
   rw [List.reverse_cons] at Eh;by_cases hi:i < r.bm.length
   ·rw [List.getElem?_append_left (by simpa using hi)] at Eh;rw [if_pos hi];exact (H.o.r.NS i u' Eh).aB F mR
   ·have AH:i=r.bm.length:=by have:=(List.getElem?_eq_some_iff.1 Eh).1;simp at this;omega
    subst AH;rw [List.getElem?_append_right (by simp)] at Eh;simp at Eh;subst Eh;rw [if_neg (by omega)];exact HU.o.aB F mR) (fun b hb=>hb) (fun b hb=> .inl hb)
  exact ⟨rfl,RO,fun b hb=>hb,A.jy,Kept.cE (S:=U.l) (F.mono (by intro k hk;simp at hk;rcases hk with rfl|hk;simp [Ru.l];simp [Ru.l,hk])) (fun b hb=>H.o.sep.ur hb) H.o.sep.cY⟩
end
end Go.Proofs.YtblkblclmbhjiaaGreat.Ma
