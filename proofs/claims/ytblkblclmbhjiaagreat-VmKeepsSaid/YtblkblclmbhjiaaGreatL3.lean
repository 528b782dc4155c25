/- Of the proof that VmKeeps holds: a key keeps its node, what traps leaves no trace. No condition. -/
import Derived.Test.YtblkblclmbhjiaaGreatL2
set_option linter.unusedVariables false
set_option linter.unusedSimpArgs false
set_option maxHeartbeats 40000000
set_option maxRecDepth 100000
namespace ak.Vm
section
variable {p:aO} {c:Cp} {T:Map} {s0 s:St} {r:Rn} {st:Std}
theorem By (E:Env p c T) {t:Nat} (h:t < p.aW.length):0<=p.aW.getD t 0/\p.aW.getD t 0<=255:=by have h1:=(cK E.check).1.aW (p.aW[t]) (List.getElem_mem h);rw [List.getD_eq_getElem?_getD,List.getElem?_eq_getElem h];show 0<=p.aW[t]/\p.aW[t]<=255;omega
theorem xY {S:Sys} {x:SR} {q e:Nat}:((bi S x q e).2=false->(bi S x q e).1.2=x.2.dG 2)/\(bi S x q e).1.2.at_=x.2.at_/\(bi S x q e).1.2.stack=x.2.stack/\(bi S x q e).1.2.loops=x.2.loops/\(bi S x q e).1.2.done=x.2.done/\
 ((bi S x q e).2=true->(bi S x q e).1.2.br=x.2.br/\(bi S x q e).1.2.hand≠none):=by
 unfold bi;split
 ·exact ⟨fun _=>rfl,rfl,rfl,rfl,rfl,fun h=>by simp at h⟩
 ·exact ⟨fun h=>by simp at h,rfl,rfl,rfl,rfl,fun _=>⟨rfl,by simp⟩⟩
theorem qF {S:Sys} {nv:Nat} {s0:St} {x:SR} (h:eY S nv s0 x) {q e:Nat} (hq:q < S.nq) (he:e<=1) (hh:x.2.hand≠none):
 eY S nv s0 (dt S x q e).1/\(dt S x q e).1.2.hand=none:=by
 cases hx:x.2.hand with
 |none=>exact absurd hx hh
 |some v=>
  obtain ⟨h1,h2,h3⟩:=h.hand v hx;have hv:oA x.2=v:=by unfold oA;rw [hx];rfl
  unfold dt;rw [hv];have H':eY S nv s0 (x.1,{x.2 with hand:=none}):=eY.same (s:=x.1) (r:=x.2) h rfl (.inr rfl) rfl rfl;obtain ⟨a,b,_⟩:=vg H' hq he (v:=v) h1 h2 h3 rfl;exact ⟨a,b⟩
theorem sF {S:Sys} {x:SR} {q e:Nat} (h0:x.2.br=0):((dt S x q e).1.2.br=0\/(dt S x q e).1.2.br=1)/\(dt S x q e).1.2.at_=x.2.at_/\(dt S x q e).1.2.stack=x.2.stack/\(dt S x q e).1.2.loops=x.2.loops/\(dt S x q e).1.2.done=x.2.done:=by unfold dt;obtain ⟨a,b,c,d,e',_⟩:=vo (S:=S) (x:=(x.1,{x.2 with hand:=none})) (q:=q) (e:=e) (v:=oA x.2) h0;exact ⟨a,b,c,d,e'⟩
theorem qG {S:Sys} {nv:Nat} {s0:St} {x:SR} (h:eY S nv s0 x) (hh:x.2.hand≠none):eY S nv s0 (fY x):=by
 refine ⟨h.inv,h.ua,h.hand,h.key,fun k hk=>?_⟩;have hk:k∈x.2.told++[(oA x.2).key]:=hk;rw [List.mem_append] at hk;rcases hk with hk|hk
 ·exact h.told k hk
 ·simp at hk;subst hk;cases hx:x.2.hand with
  |none=>exact absurd hx hh
  |some v=>
   have hv:oA x.2=v:=by unfold oA;rw [hx];rfl
   rw [hv];exact (h.hand v hx).2.2
theorem oS {S:Sys} {nv:Nat} {s0:St} {x:SR} (h:eY S nv s0 x):eY S nv s0 (fG x):=eY.same (s:=x.1) (r:=x.2) h rfl (.inr rfl) rfl rfl
theorem aeq {p:Prop} (h:p:=by
 rw [hx,du (by rw [h];rfl) (by rw [h];rfl)];exact vt):p:=h
theorem abN {p:Prop} (h:p:=by
 rw [hx];unfold be;rw [if_neg (by omega),if_neg (by omega),if_neg (by omega)];exact gR):p:=h
theorem abZ {p:Prop} (h:p:=by
 refine cy E C (by rw [hx];exact hs) H1 (.inl jR) (fun _=>rfl) (fun _=>?_) rfl (fun _=>?_) fJ
 ·show vd r.stack.tail _;rw [e1,hx];exact mS
 ·exact abN):p:=h
theorem abY {p:Prop} (h:p:=by
 refine cy E C (by rw [hx];exact hs) a1 (.inl (u1.trans tA)) (fun _=>t2) (fun _=>?_) t4 (fun _=>?_) (t5.trans fJ)
 ·show vd y.2.stack _;exact abG
 ·rw [hx];unfold be;rw [if_neg (by omega),if_neg (by omega),if_neg (by omega)];simp [k0,fG]):p:=h
theorem abX {p:Prop} (h:p:=by
 refine cy E C (by rw [hx];exact hs) a (by rcases t1 with t1|t1;exact .inl t1;exact .inr (.inl t1)) (fun _=>t2) (fun _=>?_) t4 (fun _=>?_) (t5.trans fJ)
 ·exact abG
 ·rw [hx,b];unfold be;rw [if_neg (by omega),if_neg (by omega),if_neg (by omega)];simp [k0]):p:=h
theorem abJ {p:Prop} (h:p:=by
 exact ⟨dX hA rfl rfl rfl rfl,by show 0<=(3:Int)/\(3:Int)<=3;decide,fun e1 _=>by simp [Rn.dG] at e1⟩):p:=h
theorem abG {p:Prop} (h:p:=by
 rw [t3,hx,du (by rw [h];rfl) (by rw [h];rfl)];exact vt):p:=h
theorem aer {p:Prop} (h:p:=by
 exact ⟨a,by rw [this];show 0<=(2:Int)/\(2:Int)<=3;decide,fun e1 _=>by rw [this] at e1;simp [Rn.dG] at e1⟩):p:=h
theorem abI {p:Prop} (h:p:=by
 have:=t1 hb;simp only [Bool.false_eq_true,if_false];exact aer):p:=h
theorem DZ (E:Env p c T) (C:ft p T r st) (H:eY (aw p c) p.vars.length s0 (s,r)) (h1:28<=(ai p r.at_).op):oR p T (aw p c) s0 (aC p c (ai p r.at_) (s,bI r)):=by
 have lO:=(np E C).1;have hs:bT (ai p r.at_).op:=by unfold bT;omega
 have ji:=C.iH.ji;unfold iP aF at lO;simp only [Bool.and_eq_true,decide_eq_true_eq] at lO;have vt:=C.stack;have gR:=C.hand;have jR:=C.br;have fJ:=C.done;have hinv:Inv (aw p c) s:=H.inv;generalize hx:ai p r.at_=x at*;have hq0:(aw p c).nq=p.ap.length:=rfl;have hA:eY (aw p c) p.vars.length s0 (s,bI r):=dX H rfl rfl rfl rfl;have hP:eY (aw p c) p.vars.length s0 (s,(bI r).pop):=dX H rfl rfl rfl rfl;have tA:(bI r).br=0:=jR;have empty:(x.op=31\/x.op=32\/x.op=33\/x.op=34\/x.op=38\/x.op=39\/x.op=40\/x.op=41)->st.ha=0/\r.hand=none:=by
  intro h;unfold dU at ji;rw [if_neg (by omega),if_neg (by omega),if_neg (by omega),if_neg (by omega)] at ji;simp only [Bool.or_eq_true,Bool.and_eq_true,decide_eq_true_eq,beq_iff_eq] at ji;have:st.ha=0:=by omega
  exact ⟨this,gR.1 this⟩
 have full:(x.op=35\/x.op=36\/x.op=37)->r.hand≠none:=by
  intro h e;have:=gR.2 e;unfold dU at ji;rcases h with h|h|h
  ·rw [if_neg (by omega),if_neg (by omega),if_pos h] at ji;split at ji<;>simp [this] at ji
  ·rw [if_pos h] at ji;simp [this] at ji
  ·rw [if_neg (by omega),if_pos h] at ji;simp [this] at ji
 have hc:x.op=28\/x.op=29\/x.op=30\/x.op=31\/x.op=32\/x.op=33\/x.op=34\/x.op=35\/x.op=36\/x.op=37\/x.op=38\/x.op=39\/x.op=40\/x.op=41:=by omega
 rcases hc with h|h|h|h|h|h|h|h|h|h|h|h|h|h
 ·
  have e:aC p c x (s,bI r)=zp p x (s,bI r):=by unfold aC;rw [h];rfl
  rw [e];obtain ⟨n,l,e1,mS,_⟩:=vp C (w:=1) (by rw [hx,h];rfl) (by rw [hx,h];rfl);rw [hx] at mS;have hf:=(ed E C (k:=28) (by rw [hx,h];rfl)).1;rw [hx] at hf;have hv:=(DW hf).2.2;have eG:p.vars.getD (N x.a) ⟨0,0,0⟩∈p.vars:=by rw [List.getD_eq_getElem?_getD,List.getElem?_eq_getElem hv];exact List.getElem_mem hv
  have Rf:=(cK E.check).1.vars _ eG;have dK:=sw (n:=(bI r).fO) (show (p.vars.getD (N x.a) ⟨0,0,0⟩).lo<=(p.vars.getD (N x.a) ⟨0,0,0⟩).hi by omega);have H1:=KN hA hv (v:=within (bI r).fO (p.vars.getD (N x.a) ⟨0,0,0⟩).lo (p.vars.getD (N x.a) ⟨0,0,0⟩).hi) (by omega);refine cy E C (by rw [hx];exact hs) (y:=zp p x (s,bI r)) (dX H1 rfl rfl rfl rfl) (.inl jR) (fun _=>rfl) (fun _=>?_) rfl (fun _=>?_) fJ
  ·show vd r.stack.tail _;rw [e1,hx];exact mS
  ·exact abN
 ·
  have e:aC p c x (s,bI r)=oO p x (s,bI r):=by unfold aC;rw [h];rfl
  rw [e];obtain ⟨n,l,e1,mS,_⟩:=vp C (w:=1) (by rw [hx,h];rfl) (by rw [hx,h];rfl);rw [hx] at mS;have hf:=(ed E C (k:=29) (by rw [hx,h];rfl)).1;rw [hx] at hf;unfold oO;dsimp only;cases hk:s.f (bI r).key with
  |none=>dsimp only;exact ⟨dX hP rfl rfl rfl rfl,by show 0<=(3:Int)/\(3:Int)<=3;decide,fun e1 _=>by simp [Rn.dG] at e1⟩
  |some m=>dsimp only;obtain ⟨q,hq,hm,_⟩:=(hinv.idx _ m).1 hk;have H1:=xX (p:=p) (tag:=N x.a) hP hq hm (bI r).fO (By E (sD hf).2.2);exact abZ
 ·
  have e:aC p c x (s,bI r)=jO p x (s,bI r):=by unfold aC;rw [h];rfl
  rw [e];obtain ⟨n,l,e1,mS,_⟩:=vp C (w:=1) (by rw [hx,h];rfl) (by rw [hx,h];rfl);rw [hx] at mS;have hf:=ed E C (k:=30) (by rw [hx,h];rfl);rw [hx] at hf;unfold jO;dsimp only;split
  ·exact ⟨dX hP rfl rfl rfl rfl,by show 0<=(2:Int)/\(2:Int)<=3;decide,fun e1 _=>by simp [Rn.dG] at e1⟩
  ·next bz=>have H1:=xX (p:=p) (tag:=N x.c) hP (cX hf.1).2.2 (fi (e:=N x.b) bz) (bI r).fO (By E (sD hf.2.2.1).2.2);exact abZ
 ·
  have e:aC p c x (s,bI r)=lZ (aw p c) x (s,bI r):=by unfold aC;rw [h];rfl
  rw [e];have hf:=ed E C (k:=31) (by rw [hx,h];rfl);rw [hx] at hf;obtain ⟨k0,k1⟩:=empty (by omega);unfold lZ;dsimp only;cases hk:s.f (bI r).key with
  |some m=>dsimp only;exact abJ
  |none=>dsimp only;obtain ⟨a,b,_⟩:=vg hA (cX hf.1).2.2 (fZ hf.2.1).2.2 (v:=⟨(bI r).key,fun _=>0⟩) hk (fun t=>by show (0:Int)<=0/\(0:Int)<=255;decide) H.key k1;obtain ⟨t1,t2,t3,t4,t5,t6⟩:=vo (S:=aw p c) (x:=(s,bI r)) (q:=N x.a) (e:=N x.b) (v:=⟨(bI r).key,fun _=>0⟩) tA;exact abX
 ·
  have e:aC p c x (s,bI r)=tD (aw p c) x (s,bI r):=by unfold aC;rw [h];rfl
  rw [e];have hf:=ed E C (k:=32) (by rw [hx,h];rfl);rw [hx] at hf;obtain ⟨k0,k1⟩:=empty (by omega);unfold tD;dsimp only;cases hk:s.f (bI r).key with
  |none=>dsimp only;exact abJ
  |some m=>dsimp only;obtain ⟨q,hq,hm,_⟩:=(hinv.idx _ m).1 hk;rw [jq hinv.wf hq hm];obtain ⟨o1,o2⟩:=Bw (x:=(s,bI r)) hA hq hm k1;obtain ⟨a,b,_⟩:=vg o1 (cX hf.1).2.2 (fZ hf.2.1).2.2 (v:=s.a.val m) o2 (hinv.tag q m hq hm) (hinv.key q m hq hm) k1;obtain ⟨t1,t2,t3,t4,t5,t6⟩:=vo (S:=aw p c) (x:=ry (aw p c) (s,bI r) m q) (q:=N x.a) (e:=N x.b) (v:=s.a.val m) tA;exact abX
 ·
  have e:aC p c x (s,bI r)=l8 (aw p c) (s,bI r):=by unfold aC;rw [h];rfl
  rw [e];obtain ⟨k0,k1⟩:=empty (by omega);unfold l8;dsimp only;cases hk:s.f (bI r).key with
  |none=>dsimp only;exact abJ
  |some m=>
   dsimp only;obtain ⟨q,hq,hm,_⟩:=(hinv.idx _ m).1 hk;rw [jq hinv.wf hq hm];split
   ·obtain ⟨o1,o2⟩:=Bw (x:=(s,bI r)) hA hq hm k1;refine cy E C (by rw [hx];exact hs) o1 (.inl jR) (fun _=>rfl) (fun _=>?_) rfl (fun _=>?_) fJ
    ·exact aeq
    ·exact abN
   ·exact abJ
 ·
  have e:aC p c x (s,bI r)=(bi (aw p c) (s,bI r) (N x.a) (N x.b)).1:=by unfold aC;rw [h];rfl
  rw [e];have hf:=ed E C (k:=34) (by rw [hx,h];rfl);rw [hx] at hf;obtain ⟨k0,k1⟩:=empty (by omega);obtain ⟨a,_,_⟩:=vh hA (cX hf.1).2.2 (fZ hf.2.1).2.2 k1;obtain ⟨t1,t2,t3,t4,t5,t6⟩:=xY (S:=aw p c) (x:=(s,bI r)) (q:=N x.a) (e:=N x.b);cases hb:(bi (aw p c) (s,bI r) (N x.a) (N x.b)).2 with
  |false=>have:=t1 hb;exact aer
  |true=>
   obtain ⟨u1,u2⟩:=t6 hb;refine cy E C (by rw [hx];exact hs) a (.inl (u1.trans tA)) (fun _=>t2) (fun _=>?_) t4 (fun _=>?_) (t5.trans fJ)
   ·exact abG
   ·rw [hx];unfold be;rw [if_neg (by omega),if_neg (by omega),if_pos (by omega)];constructor
    ·intro h';split at h'<;>simp at h'
    ·intro h';exact absurd h' u2
 ·
  have e:aC p c x (s,bI r)=(dt (aw p c) (s,bI r) (N x.a) (N x.b)).1:=by unfold aC;rw [h];rfl
  rw [e];have hf:=ed E C (k:=35) (by rw [hx,h];rfl);rw [hx] at hf;obtain ⟨a,b⟩:=qF hA (cX hf.1).2.2 (fZ hf.2.1).2.2 (full (by omega));obtain ⟨t1,t2,t3,t4,t5⟩:=sF (S:=aw p c) (x:=(s,bI r)) (q:=N x.a) (e:=N x.b) tA;refine cy E C (by rw [hx];exact hs) a (by rcases t1 with t1|t1;exact .inl t1;exact .inr (.inl t1)) (fun _=>t2) (fun _=>?_) t4 (fun _=>?_) (t5.trans fJ)
  ·exact abG
  ·rw [hx,b];unfold be;rw [if_neg (by omega),if_pos (by omega)];simp
 ·
  have e:aC p c x (s,bI r)=fY (s,bI r):=by unfold aC;rw [h];rfl
  rw [e];refine cy E C (by rw [hx];exact hs) (qG hA (full (by omega))) (.inl jR) (fun _=>rfl) (fun _=>?_) rfl (fun _=>?_) fJ
  ·exact aeq
  ·rw [hx];unfold be;rw [if_pos h];have:=full (by omega);constructor
   ·intro h';simp at h'
   ·intro h';exact absurd h' this
 ·
  have e:aC p c x (s,bI r)=fG (s,bI r):=by unfold aC;rw [h];rfl
  rw [e];refine cy E C (by rw [hx];exact hs) (oS hA) (.inl jR) (fun _=>rfl) (fun _=>?_) rfl (fun _=>?_) fJ
  ·exact aeq
  ·rw [hx];unfold be;rw [if_neg (by omega),if_pos (by omega)];simp [fG]
 all_goals
  obtain ⟨k0,k1⟩:=empty (by omega);have NR:aY p 1 x.a=true/\aY p 4 x.b=true:=by
   rcases (show x.op=38\/x.op=39\/x.op=40\/x.op=41 by omega) with h'|h'|h'|h'
   ·have hf:=ed E C (k:=38) (by rw [hx,h'];rfl);rw [hx] at hf;exact ⟨hf.1,hf.2.1⟩
   ·have hf:=ed E C (k:=39) (by rw [hx,h'];rfl);rw [hx] at hf;exact ⟨hf.1,hf.2.1⟩
   ·have hf:=ed E C (k:=40) (by rw [hx,h'];rfl);rw [hx] at hf;exact ⟨hf.1,hf.2.1⟩
   ·have hf:=ed E C (k:=41) (by rw [hx,h'];rfl);rw [hx] at hf;exact ⟨hf.1,hf.2.1⟩
  obtain ⟨a,_,_⟩:=vh hA (cX NR.1).2.2 (fZ NR.2).2.2 k1;obtain ⟨t1,t2,t3,t4,t5,t6⟩:=xY (S:=aw p c) (x:=(s,bI r)) (q:=N x.a) (e:=N x.b)
 ·have e:aC p c x (s,bI r)=nX (aw p c) x (s,bI r):=by unfold aC;rw [h];rfl
  rw [e];have hf:=ed E C (k:=38) (by rw [hx,h];rfl);rw [hx] at hf;unfold nX;dsimp only;cases hb:(bi (aw p c) (s,bI r) (N x.a) (N x.b)).2 with
  |false=>exact abI
  |true=>
   obtain ⟨u1,u2⟩:=t6 hb;simp only [if_true];generalize (bi (aw p c) (s,bI r) (N x.a) (N x.b)).1=y at*;obtain ⟨a2,b2⟩:=qF a (cX hf.2.2.1).2.2 (fZ hf.2.2.2).2.2 u2;obtain ⟨v1,v2,v3,v4,v5⟩:=sF (S:=aw p c) (x:=y) (q:=N x.c) (e:=N x.d) (u1.trans tA);refine cy E C (by rw [hx];exact hs) a2 (by rcases v1 with v1|v1;exact .inl v1;exact .inr (.inl v1)) (fun _=>v2.trans t2) (fun _=>?_) (v4.trans t4) (fun _=>?_) (v5.trans (t5.trans fJ))
   ·rw [v3,t3,hx,du (by rw [h];rfl) (by rw [h];rfl)];exact vt
   ·rw [hx,b2];unfold be;rw [if_neg (by omega),if_neg (by omega),if_neg (by omega)];simp [k0]
 ·have e:aC p c x (s,bI r)=nY (aw p c) x (s,bI r):=by unfold aC;rw [h];rfl
  rw [e];have hf:=ed E C (k:=39) (by rw [hx,h];rfl);rw [hx] at hf;unfold nY;dsimp only;cases hb:(bi (aw p c) (s,bI r) (N x.a) (N x.b)).2 with
  |false=>exact abI
  |true=>
   obtain ⟨u1,u2⟩:=t6 hb;simp only [if_true];generalize (bi (aw p c) (s,bI r) (N x.a) (N x.b)).1=y at*;have a1:=qG a u2;obtain ⟨a2,b2⟩:=qF a1 (cX hf.2.2.1).2.2 (fZ hf.2.2.2).2.2 u2;obtain ⟨v1,v2,v3,v4,v5⟩:=sF (S:=aw p c) (x:=fY y) (q:=N x.c) (e:=N x.d) (u1.trans tA);refine cy E C (by rw [hx];exact hs) a2 (by rcases v1 with v1|v1;exact .inl v1;exact .inr (.inl v1)) (fun _=>v2.trans t2) (fun _=>?_) (v4.trans t4) (fun _=>?_) (v5.trans (t5.trans fJ))
   ·rw [v3];show vd y.2.stack _;exact abG
   ·rw [hx,b2];unfold be;rw [if_neg (by omega),if_neg (by omega),if_neg (by omega)];simp [k0]
 ·have e:aC p c x (s,bI r)=nZ (aw p c) x (s,bI r):=by unfold aC;rw [h];rfl
  rw [e];unfold nZ;dsimp only;cases hb:(bi (aw p c) (s,bI r) (N x.a) (N x.b)).2 with
  |false=>exact abI
  |true=>obtain ⟨u1,u2⟩:=t6 hb;simp only [if_true];generalize (bi (aw p c) (s,bI r) (N x.a) (N x.b)).1=y at*;have a1:=oS (qG a u2);exact abY
 ·have e:aC p c x (s,bI r)=rz (aw p c) x (s,bI r):=by unfold aC;rw [h];rfl
  rw [e];unfold rz;dsimp only;cases hb:(bi (aw p c) (s,bI r) (N x.a) (N x.b)).2 with
  |false=>exact abI
  |true=>obtain ⟨u1,u2⟩:=t6 hb;simp only [if_true];generalize (bi (aw p c) (s,bI r) (N x.a) (N x.b)).1=y at*;have a1:=oS a;exact abY
theorem zs (E:Env p c T) (C:ft p T r st) (H:eY (aw p c) p.vars.length s0 (s,r)):oR p T (aw p c) s0 (aC p c (ai p r.at_) (s,bI r)):=by
 by_cases h1:(ai p r.at_).op<=21
 ·exact DY E C H h1
 ·by_cases h2:(ai p r.at_).op<=27
  ·exact Hr E C H (by omega) h2
  ·exact DZ E C H (by omega)
end
section
def gJ (p:aO) (g:Nat->Nat) (pc:Nat):Nat:=
 let x:=ai p pc
 if x.op=0\/x.op=27 then 1
 else if x.op=22 then 1+g x.a.toNat
 else if x.op=23 then 1+max (g (pc+1)) (g x.a.toNat)
 else if x.op=24 then (1+x.a.toNat*(1+g (pc+2)))+(1+g (ai p (pc+1)).a.toNat)
 else 1+g (pc+1)
def kq (p:aO):Nat->(Nat->Nat)
 |0=>fun _=>0
 |k+1=>let g:=kq p k;aL g (p.code.length - 1 - k) (gJ p g (p.code.length - 1 - k))
def gS (p:aO):Nat->Nat:=kq p p.code.length
theorem xZ (a b:Nat):bC (min a MS) (min b MS)=min (a+b) MS:=by unfold bC MS;split<;>omega
theorem jt (b:Nat):bC 1 (min b MS)=min (1+b) MS:=by have:=xZ 1 b;rwa [show min 1 MS=1 from by unfold MS;decide] at this
theorem D0 (a b:Nat):dV a (min b MS)=min (a*b) MS:=by
 unfold dV;by_cases hb:b<=MS
 ·rw [Nat.min_eq_left hb];split<;>omega
 ·rw [Nat.min_eq_right (by omega)];cases a with
  |zero=>simp
  |succ a=>have h1:MS<=(a+1)*MS:=Nat.le_mul_of_pos_left _ (by omega);have h2:MS<=(a+1)*b:=Nat.le_trans (by omega) (Nat.le_mul_of_pos_left b (show 0 < a+1 by omega));split<;>omega
theorem D1 (p:aO) (g:Nat->Nat) (pc:Nat):km p (fun i=>min (g i) MS) pc=min (gJ p g pc) MS:=by
 unfold km gJ;dsimp only;have h1:min 1 MS=1:=by unfold MS;decide
 split
 ·rw [h1]
 split
 ·exact jt _
 split
 ·rw [show max (min (g (pc+1)) MS) (min (g (ai p pc).a.toNat) MS)=min (max (g (pc+1)) (g (ai p pc).a.toNat)) MS by omega];exact jt _
 split
 ·rw [jt,jt,D0,jt,xZ]
 ·exact jt _
theorem Ht (p:aO) (k:Nat):dw p k=fun i=>min (kq p k i) MS:=by
 induction k with
 |zero=>funext i;simp [dw,kq]
 |succ k ih=>
  funext i;unfold dw kq;dsimp only;rw [ih];simp only [cG];split
  ·exact D1 p (kq p k) _
  ·rfl
theorem Hu (p:aO) (i:Nat):jP p i=min (gS p i) MS:=by unfold jP gS;rw [Ht]
theorem tG (p:aO) (k j:Nat) (d:Nat) (h:p.code.length - k<=j) (hk:k+d<=p.code.length):kq p (k+d) j=kq p k j:=by
 induction d with
 |zero=>rfl
 |succ d ih=>show aL (kq p (k+d)) (p.code.length - 1 - (k+d)) (gJ p (kq p (k+d)) (p.code.length - 1 - (k+d))) j=_;rw [aj _ _ (by omega),ih (by omega)]
theorem Bz {p:aO} {pc:Nat} (nj:pc < p.code.length) (h1:(ai p pc).op=22\/(ai p pc).op=23->pc < (ai p pc).a.toNat) (h2:(ai p pc).op=24->pc < (ai p (pc+1)).a.toNat):
 gS p pc=gJ p (gS p) pc:=by
 have hk:∀j,pc < j->gS p j=kq p (p.code.length - 1 - pc) j:=fun j hj=>by have:=tG p (p.code.length - 1 - pc) j (pc+1) (by omega) (by omega);rw [show p.code.length - 1 - pc+(pc+1)=p.code.length by omega] at this;exact this
 have h0:gS p pc=gJ p (kq p (p.code.length - 1 - pc)) pc:=by have:=tG p (p.code.length - 1 - pc+1) pc pc (by omega) (by omega);rw [show p.code.length - 1 - pc+1+pc=p.code.length by omega] at this;refine this.trans ?_;show aL _ (p.code.length - 1 - (p.code.length - 1 - pc)) _ pc=_;rw [show p.code.length - 1 - (p.code.length - 1 - pc)=pc by omega,an]
 rw [h0];unfold gJ;dsimp only;split
 ·rfl
 split
 ·next h=>rw [hk _ (h1 (.inl h))]
 split
 ·next h=>rw [hk _ (h1 (.inr h)),hk _ (by omega)]
 split
 ·next h=>rw [hk _ (h2 h),hk (pc+2) (by omega)]
 ·rw [hk _ (by omega)]
def ju (p:aO) (t:Nat) (m:Int):Nat:=m.toNat*(1+gS p (t+1))+(1+gS p (ai p t).a.toNat)
def outer (p:aO):List Nat->List Int->Nat
 |t::lo,m::l=>ju p t m+outer p lo l
 |_,_=>0
def left (p:aO) (r:Rn) (st:Std):Nat:=
 if (ai p r.at_).op=25 then ju p r.at_ (r.loops.headD 0)+outer p st.lo r.loops.tail else gS p r.at_+outer p st.lo r.loops
theorem vu {S:Sys} {x:SR} {q e:Nat} {v:eW}:(gW S x q e v).1.2.at_=x.2.at_/\(gW S x q e v).1.2.loops=x.2.loops:=by unfold gW;split<;>exact ⟨rfl,rfl⟩
theorem eQ {S:Sys} {x:SR} {q e:Nat}:(bi S x q e).1.2.at_=x.2.at_/\(bi S x q e).1.2.loops=x.2.loops:=by unfold bi;split<;>exact ⟨rfl,rfl⟩
theorem lC {S:Sys} {x:SR} {q e:Nat}:(dt S x q e).1.2.at_=x.2.at_/\(dt S x q e).1.2.loops=x.2.loops:=by unfold dt;exact vu
theorem aG {α:Type} {P:α->Prop} {c:Prop} [Decidable c] {a b:α} (h1:c->P a) (h2:¬c->P b):P (if c then a else b):=by
 by_cases h:c
 ·rw [if_pos h];exact h1 h
 ·rw [if_neg h];exact h2 h
def Xg (x y:SR):Prop:=y.2.at_=x.2.at_/\y.2.loops=x.2.loops
theorem zt {p:aO} {c:Cp} {i:Ins} {x:SR} (h:bT i.op):Xg x (aC p c i x):=by
 unfold bT at h;unfold aC;dsimp only;refine aG (fun _=>⟨rfl,rfl⟩) (fun _=>?_);refine aG (fun _=>⟨rfl,rfl⟩) (fun _=>?_);refine aG (fun _=>⟨rfl,rfl⟩) (fun _=>?_);refine aG (fun _=>⟨rfl,rfl⟩) (fun _=>?_);refine aG (fun _=>⟨rfl,rfl⟩) (fun _=>?_);refine aG (fun _=>⟨rfl,rfl⟩) (fun _=>?_);refine aG (fun _=>⟨rfl,rfl⟩) (fun _=>?_);refine aG (fun _=>⟨rfl,rfl⟩) (fun _=>?_);refine aG (fun _=>?_) (fun _=>?_)
 ·unfold tE;split<;>exact ⟨rfl,rfl⟩
 refine aG (fun _=>?_) (fun _=>?_)
 ·unfold l_;split<;>exact ⟨rfl,rfl⟩
 refine aG (fun _=>⟨rfl,rfl⟩) (fun _=>?_);refine aG (fun _=>⟨rfl,rfl⟩) (fun _=>?_);refine aG (fun _=>⟨rfl,rfl⟩) (fun _=>?_);refine aG (fun _=>by omega) (fun _=>?_);refine aG (fun _=>by omega) (fun _=>?_);refine aG (fun _=>by omega) (fun _=>?_);refine aG (fun _=>by omega) (fun _=>?_);refine aG (fun _=>by omega) (fun _=>?_);refine aG (fun _=>⟨rfl,rfl⟩) (fun _=>?_);refine aG (fun _=>?_) (fun _=>?_)
 ·unfold oO;split<;>exact ⟨rfl,rfl⟩
 refine aG (fun _=>?_) (fun _=>?_)
 ·unfold jO;split<;>exact ⟨rfl,rfl⟩
 refine aG (fun _=>?_) (fun _=>?_)
 ·unfold lZ;split
  ·exact ⟨rfl,rfl⟩
  ·exact vu
 refine aG (fun _=>?_) (fun _=>?_)
 ·unfold tD;split
  ·exact ⟨rfl,rfl⟩
  ·exact vu (x:=ry _ x _ _)
 refine aG (fun _=>?_) (fun _=>?_)
 ·unfold l8;split
  ·exact ⟨rfl,rfl⟩
  ·split<;>exact ⟨rfl,rfl⟩
 refine aG (fun _=>eQ) (fun _=>?_);refine aG (fun _=>lC) (fun _=>?_);refine aG (fun _=>⟨rfl,rfl⟩) (fun _=>?_);refine aG (fun _=>⟨rfl,rfl⟩) (fun _=>?_);refine aG (fun _=>?_) (fun _=>?_)
 ·unfold nX;dsimp only;split
  ·exact ⟨lC.1.trans eQ.1,lC.2.trans eQ.2⟩
  ·exact eQ
 refine aG (fun _=>?_) (fun _=>?_)
 ·unfold nY;dsimp only;split
  ·exact ⟨(lC (x:=fY _)).1.trans eQ.1,(lC (x:=fY _)).2.trans eQ.2⟩
  ·exact eQ
 refine aG (fun _=>?_) (fun _=>?_)
 ·unfold nZ;dsimp only;split
  ·exact eQ
  ·exact eQ
 ·unfold rz;dsimp only;split
  ·exact eQ
  ·exact eQ
variable {p:aO} {c:Cp} {T:Map} {s0 s:St} {r:Rn} {st:Std}
theorem jG {y:Rn} {st' a:Std} {n:Nat} (C:ft p T y st') (h:T n=some a) (e:y.at_=n):st'=a:=by have:=C.iH.at_;rw [e,h] at this;exact (Option.some.inj this).symm
theorem eB {y:Rn} (h:(ai p y.at_).op≠25):left p y st=gS p y.at_+outer p st.lo y.loops:=by unfold left;rw [if_neg h]
theorem zu {y:Rn} (h:(ai p y.at_).op=25):left p y st=ju p y.at_ (y.loops.headD 0)+outer p st.lo y.loops.tail:=by unfold left;rw [if_pos h]
theorem x_ (E:Env p c T) {t:Nat} {a:Std} (h:oQ p T t a) (pW:(ai p t).op=25):(t:Int) < (ai p t).a:=by
 have hj:=h.jumps;unfold cC at hj;split at hj
 ·simp at hj
 ·next h'=>
  by_cases a8:(t:Int) < (ai p t).a
  ·exact a8
  ·exact absurd ⟨.inr (.inr (.inl pW)),.inl (by omega)⟩ h'
theorem qH (E:Env p c T) (C:ft p T r st) {st':Std} (C':ft p T (aC p c (ai p r.at_) (s,bI r)).2 st'):left p (aC p c (ai p r.at_) (s,bI r)).2 st'+1<=left p r st:=by
 have hl:=C.loops;have dD:=C.iH.jumps;have rC:=C.iH.ways;have KR:=fun (NQ:(ai p r.at_).op≠24) (w:Nat×Std) (hw:w∈fE p r.at_ st)=>Bx E.qn C.iH NQ hw;have hjh:=fun h=>vq C.iH h;have a8:=C.lt;have uF:=Bz (p:=p) (pc:=r.at_) C.lt;have h0:(aC p c (ai p r.at_) (s,bI r)).2.done=false:=C'.done;generalize hy:(aC p c (ai p r.at_) (s,bI r)).2=y at*;by_cases hs:bT (ai p r.at_).op
 ·obtain ⟨e1,e2⟩:=zt (p:=p) (c:=c) (x:=(s,bI r)) hs;rw [hy] at e1 e2;have e1:y.at_=r.at_+1:=e1;have e2:y.loops=r.loops:=e2;have hw:=rB (st:=st) hs;have fj:=jG C' (rC _ hw).2 e1;unfold bT at hs;have hn:=KR (by omega) _ hw;rw [eB (y:=y) (by rw [e1];exact hn),eB (by omega),fj,e1,e2,uF (by omega) (by omega)];unfold gJ;dsimp only;rw [if_neg (by omega),if_neg (by omega),if_neg (by omega),if_neg (by omega)];omega
 ·generalize hx:ai p r.at_=x at*;have hc:x.op=0\/x.op=22\/x.op=23\/x.op=24\/x.op=25\/x.op=26\/x.op=27:=by unfold bT at hs;omega
  rcases hc with h|h|h|h|h|h|h
  ·have e:aC p c x (s,bI r)=(s,{bI r with done:=true}):=by unfold aC;rw [h];rfl
   rw [e] at hy;rw [<-hy] at h0;simp at h0
  ·have e:aC p c x (s,bI r)=(s,{bI r with at_:=N x.a}):=by unfold aC;rw [h];rfl
   rw [e] at hy;have e1:y.at_=N x.a:=by rw [<-hy]
   have e2:y.loops=r.loops:=by rw [<-hy];rfl
   have hw:(N x.a,(⟨aT x st.ty,st.lo,be p x st.ha⟩:Std))∈fE p r.at_ st:=by unfold fE cm;rw [hx,if_neg (by omega),if_pos h];simp [N]
   have fj:=jG C' (rC _ hw).2 e1;have hn:=KR (by omega) _ hw;have hg:=hjh (.inl h);rw [eB (y:=y) (by rw [e1];exact hn),eB (y:=r) (by rw [hx];omega),fj,e1,e2,uF (by omega) (by omega)];unfold gJ;dsimp only;rw [hx,if_neg (by omega),if_pos h];unfold N;omega
  ·have e:aC p c x (s,bI r)=(s,if (bI r).fO=0 then {(bI r).pop with at_:=N x.a} else (bI r).pop):=by unfold aC;rw [h];rfl
   rw [e] at hy;have lB:(r.at_+1,(⟨aT x st.ty,st.lo,be p x st.ha⟩:Std))∈fE p r.at_ st/\(N x.a,(⟨aT x st.ty,st.lo,be p x st.ha⟩:Std))∈fE p r.at_ st:=by unfold fE cm;rw [hx,if_neg (by omega),if_neg (by omega),if_pos h];simp [N]
   have hg:=hjh (.inr (.inl h));have hf:gS p r.at_=1+max (gS p (r.at_+1)) (gS p (N x.a)):=by rw [uF (by omega) (by omega)];unfold gJ;dsimp only;rw [hx,if_neg (by omega),if_neg (by omega),if_pos h];rfl
   have e2:y.loops=r.loops:=by rw [<-hy];dsimp only;split<;>rfl
   by_cases ht:(bI r).fO=0
   ·have e1:y.at_=N x.a:=by rw [<-hy];dsimp only;rw [if_pos ht]
    rw [eB (y:=y) (by rw [e1];exact KR (by omega) _ lB.2),eB (y:=r) (by rw [hx];omega),jG C' (rC _ lB.2).2 e1,e1,e2,hf];dsimp only;omega
   ·have e1:y.at_=r.at_+1:=by rw [<-hy];dsimp only;rw [if_neg ht];rfl
    rw [eB (y:=y) (by rw [e1];exact KR (by omega) _ lB.1),eB (y:=r) (by rw [hx];omega),jG C' (rC _ lB.1).2 e1,e1,e2,hf];dsimp only;omega
  ·have e:aC p c x (s,bI r)=(s,{bI r with loops:=x.a::(bI r).loops}):=by unfold aC;rw [h];rfl
   rw [e] at hy;have e1:y.at_=r.at_+1:=by rw [<-hy];rfl
   have e2:y.loops=x.a::r.loops:=by rw [<-hy];rfl
   have hw:(r.at_+1,(⟨aT x st.ty,st.lo,be p x st.ha⟩:Std))∈fE p r.at_ st:=by unfold fE cm;rw [hx,if_neg (by omega),if_neg (by omega),if_neg (by omega),if_neg (by omega),if_neg (by omega)];simp
   have fj:=jG C' (rC _ hw).2 e1;have pW:(ai p (r.at_+1)).op=25:=by unfold cC at dD;rw [if_neg (by omega),if_pos h] at dD;simp at dD;exact dD.2
   have hg:=x_ E (by have:=C'.iH;rw [e1] at this;exact this) pW;have hf:gS p r.at_=(1+x.a.toNat*(1+gS p (r.at_+2)))+(1+gS p (ai p (r.at_+1)).a.toNat):=by rw [uF (by omega) (fun _=>by omega)];unfold gJ;dsimp only;rw [hx,if_neg (by omega),if_neg (by omega),if_neg (by omega),if_pos h]
   rw [zu (y:=y) (by rw [e1];exact pW),eB (y:=r) (by rw [hx];omega),fj,e1,e2,hf];unfold ju;dsimp only [List.headD,List.tail];rw [show r.at_+1+1=r.at_+2 from rfl];omega
  ·have e:aC p c x (s,bI r)=ql x (s,bI r):=by unfold aC;rw [h];rfl
   rw [e] at hy;unfold ql at hy;rw [zu (y:=r) (by rw [hx];exact h)];have lB:(r.at_+1,(⟨aT x st.ty,r.at_::st.lo,be p x st.ha⟩:Std))∈fE p r.at_ st/\(N x.a,(⟨aT x st.ty,st.lo,be p x st.ha⟩:Std))∈fE p r.at_ st:=by unfold fE cm;rw [hx,if_neg (by omega),if_neg (by omega),if_neg (by omega),if_pos h];simp [N]
   have ub:0<=r.loops.headD 0:=by
    cases iF:r.loops with
    |nil=>simp
    |cons n l=>exact (C.Xc n (by rw [iF];simp)).1
   by_cases hz:(s,bI r).2.loops.headD 0=0
   ·rw [if_pos hz] at hy;have e1:y.at_=N x.a:=by rw [<-hy];rfl
    have e2:y.loops=r.loops.tail:=by rw [<-hy];rfl
    rw [eB (y:=y) (by rw [e1];exact KR (by omega) _ lB.2),jG C' (rC _ lB.2).2 e1,e1,e2];unfold ju;rw [hx];unfold N;dsimp only;omega
   ·rw [if_neg hz] at hy;have e1:y.at_=r.at_+1:=by rw [<-hy];rfl
    have e2:y.loops=(r.loops.headD 0 - 1)::r.loops.tail:=by rw [<-hy];rfl
    rw [eB (y:=y) (by rw [e1];exact KR (by omega) _ lB.1),jG C' (rC _ lB.1).2 e1,e1,e2];have hz':r.loops.headD 0≠0:=hz;generalize r.loops.headD 0=m at*;show gS p (r.at_+1)+(ju p r.at_ (m - 1)+outer p st.lo r.loops.tail)+1<=ju p r.at_ m+outer p st.lo r.loops.tail;unfold ju;have:m.toNat=(m - 1).toNat+1:=by omega
    rw [this,Nat.add_mul];omega
  ·have e:aC p c x (s,bI r)=qm x (s,bI r):=by unfold aC;rw [h];rfl
   rw [e] at hy;unfold qm at hy;dsimp only at hy;rw [eB (y:=r) (by rw [hx];omega)];have lB:(r.at_+1,(⟨aT x st.ty,st.lo,be p x st.ha⟩:Std))∈fE p r.at_ st/\(N x.a,(⟨aT x st.ty,st.lo.tail,be p x st.ha⟩:Std))∈fE p r.at_ st:=by unfold fE cm;rw [hx,if_neg (by omega),if_neg (by omega),if_neg (by omega),if_neg (by omega),if_pos h];simp [N]
   have hf:gS p r.at_=1+gS p (r.at_+1):=by rw [uF (by omega) (by omega)];unfold gJ;dsimp only;rw [hx,if_neg (by omega),if_neg (by omega),if_neg (by omega),if_neg (by omega)]
   by_cases ht:(bI r).fO=0
   ·rw [if_pos ht] at hy;have e1:y.at_=N x.a:=by rw [<-hy];rfl
    have e2:y.loops=r.loops.tail:=by rw [<-hy];rfl
    rw [eB (y:=y) (by rw [e1];exact KR (by omega) _ lB.2),jG C' (rC _ lB.2).2 e1,e1,e2];rw [if_neg (by omega)] at hl;unfold cC at dD;split at dD
    ·simp at dD
    cases iF:st.lo with
    |nil=>rw [iF] at dD;simp [h] at dD
    |cons t lo=>
     rw [iF] at dD hl;rw [if_neg (by omega),if_neg (by omega)] at dD;simp only [decide_eq_true_eq] at dD;cases AG:r.loops with
     |nil=>rw [AG] at hl;simp at hl
     |cons m l=>show gS p (N x.a)+outer p lo l+1<=gS p r.at_+(ju p t m+outer p lo l);unfold ju;rw [<-dD];unfold N;omega
   ·rw [if_neg ht] at hy;have e1:y.at_=r.at_+1:=by rw [<-hy];rfl
    have e2:y.loops=r.loops:=by rw [<-hy];rfl
    rw [eB (y:=y) (by rw [e1];exact KR (by omega) _ lB.1),jG C' (rC _ lB.1).2 e1,e1,e2,hf];dsimp only;omega
  ·have e:aC p c x (s,bI r)=(s,{bI r with at_:=N x.a}):=by unfold aC;rw [h];rfl
   rw [e] at hy;have e2:y.loops=r.loops:=by rw [<-hy];rfl
   rw [eB (y:=r) (by rw [hx];omega)];rw [if_neg (by omega)] at hl;have hf:gS p r.at_=1:=by rw [uF (by omega) (by omega)];unfold gJ;dsimp only;rw [hx,if_pos (.inr h)]
   unfold cC at dD;rw [if_neg (by omega),if_neg (by omega),if_neg (by omega),if_neg (by omega),if_pos h] at dD;cases iF:st.lo with
   |nil=>rw [iF] at dD;simp at dD
   |cons t lo=>
    rw [iF] at dD hl;dsimp only at dD;have C_:=E.qn.loops _ _ C.iH.at_;rw [iF] at C_;obtain ⟨ht1,SY,s',Bl,KT⟩:=C_;simp only [Bool.and_eq_true,decide_eq_true_eq] at dD;have Hs:N x.a=t:=by unfold N;omega
    have e1:y.at_=t:=by rw [<-hy];exact Hs
    have fj:=jG C' Bl e1;cases AG:r.loops with
    |nil=>rw [AG] at hl;simp at hl
    |cons m l=>rw [zu (y:=y) (by rw [e1];exact SY),fj,e1,e2,AG,KT,hf];show ju p t m+outer p lo l+1<=1+(ju p t m+outer p lo l);omega
end
section
def dY (p:aO) (c:Cp) (x:SR):SR:=aC p c (ai p x.2.at_) (x.1,bI x.2)
def jH (x:SR):Bool:=x.2.done|| !(decide (x.2.br=0))
def iU (p:aO) (c:Cp):Nat->SR->Nat×SR
 |0,x=>(0,x)
 |f+1,x=>if jH (dY p c x) then (1,dY p c x) else ((iU p c f (dY p c x)).1+1,(iU p c f (dY p c x)).2)
structure Small (n:Nat) (r:Rn):Prop where
 stack:r.stack.length<=n
 loops:r.loops.length<=n
 told:r.told.length<=n
 bm:r.bm.length<=2*n
structure Hv (k:Nat) (x y:SR):Prop where
 stack:y.2.stack.length<=x.2.stack.length+1
 loops:y.2.loops.length<=x.2.loops.length+1
 told:y.2.told.length<=x.2.told.length+1
 bm:y.2.bm.length<=x.2.bm.length+k
 key:y.2.key=x.2.key
theorem Hv.more {k k':Nat} {x y:SR} (h:Hv k x y) (hk:k<=k'):Hv k' x y:=⟨h.stack,h.loops,h.told,by have:=h.bm;omega,h.key⟩
structure vw (k:Nat) (x y:SR):Prop where
 stack:y.2.stack=x.2.stack
 loops:y.2.loops=x.2.loops
 told:y.2.told=x.2.told
 bm:y.2.bm.length<=x.2.bm.length+k
 key:y.2.key=x.2.key
theorem vw.trans {k k':Nat} {x y z:SR} (h:vw k x y) (g:vw k' y z):vw (k+k') x z:=
 ⟨g.stack.trans h.stack,g.loops.trans h.loops,g.told.trans h.told,by have:=h.bm;have:=g.bm;omega,g.key.trans h.key⟩
theorem vw.grow {k k':Nat} {x y:SR} (h:vw k x y) (hk:k<=k'):Hv k' x y:=
 ⟨by rw [h.stack];omega,by rw [h.loops];omega,by rw [h.told];omega,by have:=h.bm;omega,h.key⟩
theorem sG {S:Sys} {x:SR} {q e:Nat} {v:eW}:vw 1 x (gW S x q e v).1:=by
 unfold gW;split
 ·exact ⟨rfl,rfl,rfl,Nat.le_add_right _ _,rfl⟩
 ·exact ⟨rfl,rfl,rfl,Nat.le_refl _,rfl⟩
theorem fw {S:Sys} {x:SR} {q e:Nat}:vw 1 x (bi S x q e).1:=by
 unfold bi;split
 ·exact ⟨rfl,rfl,rfl,Nat.le_add_right _ _,rfl⟩
 ·exact ⟨rfl,rfl,rfl,Nat.le_refl _,rfl⟩
theorem yf {S:Sys} {x:SR} {n q:Nat}:vw 1 x (ry S x n q):=⟨rfl,rfl,rfl,Nat.le_refl _,rfl⟩
theorem oT {S:Sys} {x:SR} {q e:Nat}:vw 1 x (dt S x q e).1:=by have h:=sG (S:=S) (x:=(x.1,{x.2 with hand:=none})) (q:=q) (e:=e) (v:=oA x.2);exact ⟨h.stack,h.loops,h.told,h.bm,h.key⟩
theorem ade {p:Prop} (h:p:=by
 exact ⟨by simp [Rn.pop,Rn.dG];omega,Nat.le_add_right _ _,Nat.le_add_right _ _,Nat.le_add_right _ _,rfl⟩):p:=h
theorem adb {p:Prop} (h:p:=by
 exact ⟨by simp [oB,Rn.pop,Rn.note];omega,Nat.le_add_right _ _,Nat.le_add_right _ _,by simp [oB,Rn.pop,Rn.note],rfl⟩):p:=h
theorem ab3 {p:Prop} (h:p:=by
 exact S0 _ (Nat.le_add_right _ _) rfl rfl rfl rfl):p:=h
theorem yh (p:aO) (c:Cp) (i:Ins) (x:SR):Hv 2 x (aC p c i x):=by
 have S0:∀y:SR,y.2.stack.length<=x.2.stack.length+1->y.2.loops=x.2.loops->y.2.told=x.2.told->y.2.bm=x.2.bm->y.2.key=x.2.key->Hv 2 x y:=fun y h1 h2 h3 h4 h5=>
  ⟨h1,by rw [h2];omega,by rw [h3];omega,by rw [h4];omega,h5⟩
 have pu:∀(r:Rn) (n:Int),(r.push n).stack.length=r.stack.length+1:=fun r n=>by simp [Rn.push]
 have po:∀(r:Rn),r.pop.stack.length<=r.stack.length:=fun r=>by simp [Rn.pop]
 unfold aC;dsimp only;refine aG (fun _=>S0 _ (Nat.le_add_right _ _) rfl rfl rfl rfl) (fun _=>?_);refine aG (fun _=>S0 _ (by dsimp only;rw [pu];omega) rfl rfl rfl rfl) (fun _=>?_);refine aG (fun _=>S0 _ (by dsimp only;rw [pu];omega) rfl rfl rfl rfl) (fun _=>?_);refine aG (fun _=>S0 _ (by dsimp only;rw [pu];omega) rfl rfl rfl rfl) (fun _=>?_);refine aG (fun _=>S0 _ (by dsimp only;rw [pu];omega) rfl rfl rfl rfl) (fun _=>?_);refine aG (fun _=>S0 _ (by dsimp only;rw [pu];omega) rfl rfl rfl rfl) (fun _=>?_);refine aG (fun _=>S0 _ (by dsimp only;rw [pu];omega) rfl rfl rfl rfl) (fun _=>?_);refine aG (fun _=>S0 _ (by unfold sx;dsimp only;rw [pu];omega) rfl rfl rfl rfl) (fun _=>?_);refine aG (fun _=>?_) (fun _=>?_)
 ·unfold tE;split
  ·exact ab3
  ·exact S0 _ (by dsimp only;rw [pu];omega) rfl rfl rfl rfl
 refine aG (fun _=>?_) (fun _=>?_)
 ·unfold l_;split
  ·exact ab3
  ·exact S0 _ (by dsimp only;rw [pu];omega) rfl rfl rfl rfl
 refine aG (fun _=>S0 _ (by dsimp only;rw [pu];have:=po x.2;omega) rfl rfl rfl rfl) (fun _=>?_);refine aG (fun _=>S0 _ (by dsimp only;rw [pu];have:=po x.2;omega) rfl rfl rfl rfl) (fun _=>?_);refine aG (fun _=>S0 _ (by dsimp only;rw [pu];have:=po x.2;have:=po x.2.pop;omega) rfl rfl rfl rfl) (fun _=>?_);refine aG (fun _=>S0 _ (Nat.le_add_right _ _) rfl rfl rfl rfl) (fun _=>?_);refine aG (fun _=>?_) (fun _=>?_)
 ·have:=po x.2;split
  ·exact S0 _ (by dsimp only;omega) rfl rfl rfl rfl
  ·exact S0 _ (by dsimp only;omega) rfl rfl rfl rfl
 refine aG (fun _=>⟨Nat.le_add_right _ _,by simp,Nat.le_add_right _ _,Nat.le_add_right _ _,rfl⟩) (fun _=>?_);refine aG (fun _=>?_) (fun _=>?_)
 ·unfold ql;split
  ·exact ⟨Nat.le_add_right _ _,by simp [jr];omega,Nat.le_add_right _ _,Nat.le_add_right _ _,rfl⟩
  ·exact ⟨Nat.le_add_right _ _,by simp,Nat.le_add_right _ _,Nat.le_add_right _ _,rfl⟩
 refine aG (fun _=>?_) (fun _=>?_)
 ·unfold qm;split
  ·exact ⟨by simp [jr,Rn.pop];omega,by simp [jr,Rn.pop];omega,Nat.le_add_right _ _,Nat.le_add_right _ _,rfl⟩
  ·exact ⟨by simp [Rn.pop];omega,Nat.le_add_right _ _,Nat.le_add_right _ _,Nat.le_add_right _ _,rfl⟩
 refine aG (fun _=>⟨by simp [zp,Rn.pop,Rn.note];omega,Nat.le_add_right _ _,Nat.le_add_right _ _,by simp [zp,Rn.pop,Rn.note],rfl⟩) (fun _=>?_);refine aG (fun _=>?_) (fun _=>?_)
 ·unfold oO;split
  ·exact ade
  ·exact adb
 refine aG (fun _=>?_) (fun _=>?_)
 ·unfold jO;split
  ·exact ade
  ·exact adb
 refine aG (fun _=>?_) (fun _=>?_)
 ·unfold lZ;split
  ·exact ab3
  ·exact sG.grow (by decide)
 refine aG (fun _=>?_) (fun _=>?_)
 ·unfold tD;split
  ·exact ab3
  ·exact (yf.trans sG).grow (by decide)
 refine aG (fun _=>?_) (fun _=>?_)
 ·unfold l8;split
  ·exact ab3
  ·split
   ·exact yf.grow (by decide)
   ·exact ab3
 refine aG (fun _=>fw.grow (by decide)) (fun _=>?_);refine aG (fun _=>oT.grow (by decide)) (fun _=>?_);refine aG (fun _=>⟨Nat.le_add_right _ _,Nat.le_add_right _ _,by simp [fY],Nat.le_add_right _ _,rfl⟩) (fun _=>?_);refine aG (fun _=>S0 _ (Nat.le_add_right _ _) rfl rfl rfl rfl) (fun _=>?_);refine aG (fun _=>?_) (fun _=>?_)
 ·unfold nX;dsimp only;split
  ·exact (fw.trans oT).grow (by decide)
  ·exact fw.grow (by decide)
 refine aG (fun _=>?_) (fun _=>?_)
 ·unfold nY;dsimp only;split
  ·have h1:=fw (S:=aw p c) (x:=x) (q:=N i.a) (e:=N i.b);have h2:=oT (S:=aw p c) (x:=fY (bi (aw p c) x (N i.a) (N i.b)).1) (q:=N i.c) (e:=N i.d);refine ⟨?_,?_,?_,?_,?_⟩
   ·rw [h2.stack];show (bi (aw p c) x (N i.a) (N i.b)).1.2.stack.length<=_;rw [h1.stack];omega
   ·rw [h2.loops];show (bi (aw p c) x (N i.a) (N i.b)).1.2.loops.length<=_;rw [h1.loops];omega
   ·rw [h2.told];show ((bi (aw p c) x (N i.a) (N i.b)).1.2.told++_).length<=_;rw [h1.told];simp
   ·have a:=h2.bm;have b:=h1.bm;have e:(fY (bi (aw p c) x (N i.a) (N i.b)).1).2.bm=(bi (aw p c) x (N i.a) (N i.b)).1.2.bm:=rfl;rw [e] at a;omega
   ·rw [h2.key];exact h1.key
  ·exact fw.grow (by decide)
 refine aG (fun _=>?_) (fun _=>?_)
 ·unfold nZ;dsimp only;split
  ·have h1:=fw (S:=aw p c) (x:=x) (q:=N i.a) (e:=N i.b);refine ⟨?_,?_,?_,?_,h1.key⟩
   ·show (bi (aw p c) x (N i.a) (N i.b)).1.2.stack.length<=_;rw [h1.stack];omega
   ·show (bi (aw p c) x (N i.a) (N i.b)).1.2.loops.length<=_;rw [h1.loops];omega
   ·show ((bi (aw p c) x (N i.a) (N i.b)).1.2.told++_).length<=_;rw [h1.told];simp
   ·show (bi (aw p c) x (N i.a) (N i.b)).1.2.bm.length<=_;have:=h1.bm;omega
  ·exact fw.grow (by decide)
 ·unfold rz;dsimp only;split
  ·have h1:=fw (S:=aw p c) (x:=x) (q:=N i.a) (e:=N i.b);exact vw.grow (k:=1) ⟨h1.stack,h1.loops,h1.told,h1.bm,h1.key⟩ (by decide)
  ·exact fw.grow (by decide)
theorem vy {p:aO} {c:Cp} {x:SR} {n:Nat} (h:Small n x.2):Small (n+1) (dY p c x).2:=by
 have g:=yh p c (ai p x.2.at_) (x.1,bI x.2);have g1:=g.stack;have g2:=g.loops;have g3:=g.told;have g4:=g.bm;have k1:=h.stack;have k2:=h.loops;have k3:=h.told;have k4:=h.bm;refine ⟨Nat.le_trans g1 ?_,Nat.le_trans g2 ?_,Nat.le_trans g3 ?_,Nat.le_trans g4 ?_⟩
 ·show x.2.stack.length+1<=_;omega
 ·show x.2.loops.length+1<=_;omega
 ·show x.2.told.length+1<=_;omega
 ·show x.2.bm.length+2<=_;omega
variable {p:aO} {c:Cp} {T:Map} {s0 s:St} {r:Rn} {st:Std}
theorem BA (E:Env p c T) (C:ft p T r st):1<=left p r st:=by
 unfold left;split
 ·unfold ju;omega
 ·next pW=>
  have h1:=fun h=>vq C.iH h;have hj:=C.iH.jumps;rw [Bz C.lt (fun h=>by have:=h1 (by omega);omega) (fun h=>by
   unfold cC at hj;rw [if_neg (by omega),if_pos h] at hj;simp at hj;obtain ⟨st1,hr⟩:=E.qn.all _ hj.1;have:=x_ E hr hj.2;omega)]
  unfold gJ;dsimp only;split
  ·omega
  split
  ·omega
  split
  ·omega
  split<;>omega
theorem oU {y:SR} (h:¬jH y=true):y.2.br=0/\y.2.done=false:=by unfold jH at h;simp at h;exact ⟨h.2,by simpa using h.1⟩
theorem S2 (E:Env p c T):∀(f n:Nat) (s:St) (r:Rn) (st:Std),ft p T r st->eY (aw p c) p.vars.length s0 (s,r)->Small n r->left p r st<=f->
 let z:=iU p c f (s,r)
 eY (aw p c) p.vars.length s0 z.2/\jH z.2=true/\1<=z.1/\z.1<=f/\0<=z.2.2.br/\z.2.2.br<=3/\Small (n+z.1) z.2.2/\z.2.2.key=r.key:=by
 intro f
 induction f with
 |zero=>intro n s r st C H Q hf;have:=BA E C;omega
 |succ f ih=>
  intro n s r st C H Q hf;have hs:=zs E C H;have hq:=vy (p:=p) (c:=c) (x:=(s,r)) Q;have hk:(dY p c (s,r)).2.key=r.key:=(yh p c (ai p r.at_) (s,bI r)).key;unfold iU;by_cases h:jH (dY p c (s,r))=true
  ·rw [if_pos h];exact ⟨hs.hold,h,Nat.le_refl _,by simp,hs.tr.1,hs.tr.2,hq,hk⟩
  ·rw [if_neg h];obtain ⟨h1,h2⟩:=oU h;obtain ⟨st',C'⟩:=hs.next h1 h2;have hl:=qH E C C';have hz:=ih (n+1) (dY p c (s,r)).1 (dY p c (s,r)).2 st' C' hs.hold hq (Nat.le_trans (by show left p (dY p c (s,r)).2 st'<=left p r st - 1;exact Nat.le_sub_of_add_le hl) (by omega));change eY _ _ _ (iU p c f (dY p c (s,r))).2/\jH (iU p c f (dY p c (s,r))).2=true/\1<=(iU p c f (dY p c (s,r))).1/\(iU p c f (dY p c (s,r))).1<=f/\0<=(iU p c f (dY p c (s,r))).2.2.br/\(iU p c f (dY p c (s,r))).2.2.br<=3/\Small (n+1+(iU p c f (dY p c (s,r))).1) (iU p c f (dY p c (s,r))).2.2/\(iU p c f (dY p c (s,r))).2.2.key=_ at hz;obtain ⟨z1,z2,z3,z4,z5,z6,z7,z8⟩:=hz;refine ⟨z1,z2,by dsimp only;omega,by dsimp only;omega,z5,z6,?_,z8.trans hk⟩;rw [show n+((iU p c f (dY p c (s,r))).1+1)=n+1+(iU p c f (dY p c (s,r))).1 by omega];exact z7
def KU (p:aO) (c:Cp) (s:St) (key:Nat):Int:=match s.f key with|none=>p.aJ|some n=>p.on.getD (NP (aw p c) s.a n) 0
def sH (p:aO) (c:Cp) (s:St) (key:Nat):Bool:=match s.f key with|none=>false|some n=> !(p.ap.getD (NP (aw p c) s.a n) false)
def eR (key a:Nat):Rn:=⟨key,a,[],[],none,[],0,[],false⟩
def gD:Nat:=20000
def lD (p:aO) (c:Cp) (s:St) (key:Nat):Nat×SR:=if KU p c s key < 0 then (0,(s,eR key 0)) else iU p c gD (s,eR key (KU p c s key).toNat)
def dE (p:aO) (c:Cp) (s:St) (key:Nat):Int:=(lD p c s key).2.2.br
def dF (p:aO) (c:Cp) (s:St) (key:Nat):St:=if dE p c s key=0 then (lD p c s key).2.1 else s
def gK (p:aO) (c:Cp) (s:St) (key:Nat):List Nat:=(lD p c s key).2.2.told
def mh (p:aO):Prop:=∀n,n∈p.on++[p.aJ]->bN p n<=gD
theorem pH (E:Env p c T) {a:Int} (ha:a∈p.on++[p.aJ]) (h0:0<=a) (key:Nat):ft p T (eR key a.toNat) ⟨[],[],0⟩:=by
 have hT:=E.qn.u_ a ha h0;obtain ⟨tb,-⟩:=cK E.check;have a8:a.toNat < p.code.length:=by
  rcases List.mem_append.1 ha with h|h
  ·have:=tb.Xb a h;omega
  ·simp at h;have:=tb.aJ;omega
 obtain ⟨st,hr⟩:=E.qn.all _ a8;have e:st=⟨[],[],0⟩:=by have:=hr.at_;rw [hT] at this;exact (Option.some.inj this).symm
 subst e;refine ⟨a8,hr,trivial,?_,fun n hn=>by simp [eR] at hn,⟨fun _=>rfl,fun _=>rfl⟩,rfl,rfl⟩;show 0=0+_;have pW:(ai p a.toNat).op≠25:=by
  intro pW;have hj:=hr.jumps;unfold cC at hj;split at hj
  ·simp at hj
  rw [if_neg (by omega)] at hj;simp only [Bool.and_eq_true,decide_eq_true_eq,Bool.not_eq_true'] at hj;rw [Int.toNat_of_nonneg h0] at hj;rcases List.mem_append.1 ha with h|h
  ·have:p.on.contains a=true:=by simpa using h
   rw [this] at hj;simp at hj
  ·simp at h;exact hj.1.2 h.symm
 show 0=0+(if (ai p a.toNat).op=25 then 1 else 0);rw [if_neg pW]
theorem at_mem (E:Env p c T) (hI:Inv (aw p c) s) (key:Nat):KU p c s key∈p.on++[p.aJ]:=by
 unfold KU;cases hf:s.f key with
 |none=>simp
 |some n=>
  obtain ⟨q,hq,hn,-⟩:=(hI.idx key n).1 hf;dsimp only;rw [jq hI.wf hq hn];obtain ⟨tb,-⟩:=cK E.check;have Sh:q < p.on.length:=by rw [tb.on];exact hq
  rw [List.getD_eq_getElem?_getD,List.getElem?_eq_getElem Sh];simp [List.getElem_mem]
theorem nr {S:Sys} {nv:Nat} (hI:Inv S s) {key:Nat} (hk:key < 18446744073709551616) (a:Nat):eY S nv s (s,eR key a):=
 ⟨hI,rfl,fun x hx=>by simp [eR] at hx,hk,fun k hk=>by simp [eR] at hk⟩
theorem oV (E:Env p c T) (hS:mh p) {a:Int} (ha:a∈p.on++[p.aJ]) (h0:0<=a) (key:Nat):left p (eR key a.toNat) ⟨[],[],0⟩<=gD:=by
 have C:=pH E ha h0 key;have pW:(ai p a.toNat).op≠25:=by intro h;have:=C.loops;rw [show (eR key a.toNat).at_=a.toNat from rfl,if_pos h] at this;simp [eR] at this
 have hv:=hS a ha;unfold bN at hv;rw [if_neg (by omega),Hu] at hv;rw [eB (y:=eR key a.toNat) pW];show gS p a.toNat+0<=_;unfold gD MS at*;omega
theorem Gb (E:Env p c T) (hS:mh p) (hI:Inv (aw p c) s) {key:Nat} (hk:key < 18446744073709551616):
 let z:=lD p c s key
 eY (aw p c) p.vars.length s z.2/\z.1<=gD/\0<=z.2.2.br/\z.2.2.br<=3/\Small z.1 z.2.2/\z.2.2.key=key:=by
 unfold lD;have ha:=at_mem E hI key;by_cases h:KU p c s key < 0
 ·rw [if_pos h];exact ⟨nr hI hk 0,Nat.zero_le _,Int.le_refl 0,show (0:Int)<=3 by decide,⟨Nat.le_refl _,Nat.le_refl _,Nat.le_refl _,Nat.le_refl _⟩,rfl⟩
 ·rw [if_neg h];obtain ⟨z1,z2,z3,z4,z5,z6,z7,z8⟩:=S2 (s0:=s) E gD 0 s _ _ (pH E ha (by omega) key) (nr hI hk _) ⟨Nat.le_refl _,Nat.le_refl _,Nat.le_refl _,Nat.le_refl _⟩ (oV E hS ha (by omega) key);exact ⟨z1,z4,z5,z6,by simpa using z7,z8⟩
theorem oW (E:Env p c T) (hS:mh p) (hI:Inv (aw p c) s) {key:Nat} (hk:key < 18446744073709551616):Inv (aw p c) (dF p c s key):=by
 unfold dF;split
 ·exact (Gb E hS hI hk).1.inv
 ·exact hI
def gX (p:aO) (c:Cp) (s:St) (key:Nat):St:=match s.f key with|none=>s|some n=>fR (aw p c) s (NP (aw p c) s.a n) n
def gT (p:aO) (c:Cp) (s:St) (key:Nat):Int:=match s.f key with|none=>0|some n=>if p.ap.getD (NP (aw p c) s.a n) false then 2 else 1
theorem D2 {p:aO} {c:Cp} (hI:Inv (aw p c) s) (key:Nat):Inv (aw p c) (gX p c s key):=by
 unfold gX;cases hf:s.f key with
 |none=>exact hI
 |some n=>obtain ⟨q,hq,hn,-⟩:=(hI.idx key n).1 hf;dsimp only;rw [jq hI.wf hq hn];exact jM hI hq hn
end
end ak.Vm
