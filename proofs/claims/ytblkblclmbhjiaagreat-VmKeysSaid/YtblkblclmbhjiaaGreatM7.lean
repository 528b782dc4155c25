import Derived.Test.YtblkblclmbhjiaaGreatM6
import Derived.IntWalk
set_option linter.unusedVariables false
set_option linter.unusedSimpArgs false
set_option maxHeartbeats 40000000
set_option maxRecDepth 100000
open Go.Proofs.Tryz
theorem agP {p:Prop} (h:p:=by
 rw [agh (by simpa using hi)] at Eh;rw [afE hi];exact (H.o.r.NS i u' Eh).aB F mR):p:=h
abbrev afH:=@Go.Value.slice.injEq
namespace Go.Proofs.YtblkblclmbhjiaaGreat.Ma
open Go.RowKit ak.Vm
open ak hiding aL an aj
open dT (bP bG)
open Ix (cL)
theorem BI {p:aO} {a:Nd} {q n e:Nat} (hn:n∈a.ls q):eS p (mZ a n q e)=eS p a:=by
 unfold eS;congr 1;funext j;show (aL a.ls q _ j).length=_;rw [cG];split
 ·next h=>subst h;have h3:0 < (a.ls j).length:=agw hn;rw [jk,agr hn];omega
 ·rfl
theorem BJ {a:Nd} {q n m e p:Nat} (hn:n∈a.ls q) (hm:m∈a.ls p):m∈(mZ a n q e).ls p:=by
 show m∈aL a.ls q _ p;rw [cG];split
 ·next h=>
  subst h;rw [ext_mem];by_cases h:m=n
  ·exact .inl h
  ·exact .inr ((List.mem_erase_of_ne h).2 hm)
 ·exact hm
def tK (a:Nd) (q:Nat) (l:List Nat):Nd:=l.foldl (fun b m=>mZ b m q 0) a
theorem Ef (a:Nd) (q:Nat) (l:List Nat) (m:Nat):tK a q (l++[m])=mZ (tK a q l) m q 0:=by unfold tK;rw [List.foldl_append];rfl
theorem Ih {a:Nd} {q m p:Nat}:∀(l:List Nat),(∀x,x∈l->x∈a.ls q)->m∈a.ls p->m∈(tK a q l).ls p:=by
 intro l
 induction l generalizing a with
 |nil=>intro _ h;exact h
 |cons x l ih=>intro hl hm;exact ih (a:=mZ a x q 0) (fun y hy=>BJ (hl x smm) (hl y (by simp [hy]))) (BJ (hl x smm) hm)
section
variable {w w':World} {C C':Co} {U U':Ru} {RO RO':List Nat} {K:Kc} {p:aO} {c:Cp} {t:fI} {used:Int} {hv hv':Value} {jv jx:Nat->Value} {s s':St} {r r':Rn} {rv:Value}
structure Mov (w wr:World) (C:Co) (RO:List Nat) (K:Kc) (p:aO) (c:Cp) (t:fI) (used:Int) (rv:Value) (s1:St) (q:Nat) (ahead:List Nat) (k:Nat):Prop where
 ex:∃C',bu w wr C C'/\Mx wr C' RO K p c {s1 with a:=tK s1.a q (ahead.take k)} t used rv
theorem gw {α:Type} (l:List α) (k:Nat) (d:α) (h:k < l.length):l.take (k+1)=l.take k++[l.getD k d]:=by rw [List.take_add_one,List.getD_eq_getElem?_getD,List.getElem?_eq_getElem h];rfl
theorem Eg (h:Mx w C RO K p c s t used rv) (gm:K.nd<=4194304) (hg:p.ap.length<=256) {q:Nat} (hq:q < p.ap.length) (x:eW) (hx:s.f x.key=none) (wI:eS p s.a < K.nd) (ht: -1073741824<=s.total/\s.total<=1073741824) {ahead:List Nat} (ha:∀m,m∈ahead->m∈s.a.ls q)
 (hlen:ahead.length<=9223372036854775807) {x1 x2 x3 x4:Nat} {av:Value}
 (h1:ay w x1 35 #[ρ C.mb]) (h2:ay w x2 3 #[ι q]) (h3:ay w x3 118 (aH x)) (h4:ay w x4 24 #[av]) (h5:Row w 3 1 av ahead.length (fun i=> ι (ahead.getD i 0:Nat)))
 (r1:x1∈RO) (r2:x2∈RO) (r3:x3∈RO) (r4:x4∈RO) (r5:∀b,b∈vb av->b∈RO):
 Calls prog 273 #[ρ x1,ρ x2,ρ x3,ρ x4] w (vK w C RO K p c t used rv (.tuple #[]) (k_ (aw p c) (.out q x ahead) s)):=by
 have c1:=h1.c1;have c2:=h2.c1;have h3':=h3;unfold aH at h3';obtain ⟨e0,e1,e2,e3,e4,-⟩:=jc h3';have HC:=ae (Gg h gm hg hq (afO 1) x hx wI ht);have HK:=ae (fun wx (f:da C.l w wx)=>And.intro (h1.aB f (h.cr r1)) (And.intro (h2.aB f (h.cr r2)) (And.intro (h4.aB f (h.cr r4)) (h5.aB f (fun b hb=>h.cr (r5 b (aK.2 hb)))))));have HS:=ae (show k_ (aw p c) (.out q x ahead) s={ja (aw p c) s q 0 x with a:=tK (ja (aw p c) s q 0 x).a q ahead} from rfl);have HM:=ae (show ∀m,m∈ahead->m∈(ja (aw p c) s q 0 x).a.ls q from fun m hm=>jL.2 (.inr (ha m hm)));have HQ:=ae hq;clear h h1 h2 h3 h3' h4 hx wI ht ha;generalize ja (aw p c) s q 0 x=s1 at*;unfold bG at HC;have HL:=ae hlen;rcases h5.val with ⟨Ρ,Xs⟩|⟨vb0,cap,Ρ,nO,lF,hb⟩
 ·rw [Ρ] at HK;have e0:ahead=[]:=List.length_eq_zero_iff.1 Xs;clear h5;go_enter func273,ntmps273;go_wp2_with fail;refine HC.o.mono ?_;rintro e w2 ⟨rfl,C2,k1,k2⟩;obtain ⟨b1,b2,b4,b5⟩:=HK.o w2 k1.f;have g4:=b4.c1;have pZ:=ae k1;have kY:=ae k2;have HE:=ae e0;clear k1 k2 HC c1 c2 b1 b2 b4 b5 e0 Xs;go_wp2_with fail
  go_loopg [12] 0 (fun f zz wr=>w2=wr/\zz=ι (0:Int))
  case atStart=>exact ⟨rfl,rfl⟩
  case round=>obtain ⟨rfl,rfl⟩:=hrel;go_wp2;refine afI (afT rfl _ _ _) rfl ?_;rw [HS.o,HE.o];exact ⟨rfl,C2,pZ.o,kY.o⟩
 ·rw [Ρ] at HK;clear h5;go_enter func273,ntmps273;go_wp2_with fail;refine HC.o.mono ?_;rintro e w2 ⟨rfl,C2,k1,k2⟩;obtain ⟨b1,b2,b4,b5⟩:=HK.o w2 k1.f;have g4:=b4.c1;have HV:=ae (Mov.mk (q:=q) (ahead:=ahead) (k:=0) ⟨C2,k1,k2⟩);clear k1 k2 HC c1 c2 b1 b2 b4 b5;go_wp2_with fail
  go_loopg [5,12] ahead.length (fun f s5 zz wr=>∃k:Nat,zz=ι k/\k+f=ahead.length/\Hid (Mov w wr C RO K p c t used rv s1 q ahead k))
  case atStart=>exact ⟨0,rfl,omm,HV⟩
  case round=>
   obtain ⟨k,rfl,hk,HR⟩:=hrel;obtain ⟨C3,k1,k2⟩:=HR.o.ex;obtain ⟨b1,b2,b4,b5⟩:=HK.o wr k1.f;have pZ:=ae k1;have kY:=ae k2;have aa0:=HL.o;have kX:=k1.mb;by_cases a8:k < ahead.length
   ·have d1:=b1.c1;have d2:=b2.c1;have d5:wr.cell? (π vb0 k)=some (ι (ahead.getD k 0:Nat)):=b5.cell omm;have d9:wr.cell? (π C.mb 9)=some (ρ C3.ab):=by rw [<-kX];exact k2.reads.1
    have eG:ahead.getD k 0∈(tK s1.a q (ahead.take k)).ls q:=by refine Ih _ (fun y hy=>HM.o y (List.mem_of_mem_take hy)) (HM.o _ ?_);rw [List.getD_eq_getElem?_getD,List.getElem?_eq_getElem a8];exact List.getElem_mem a8
    have Pc:=ae (dT.SK (k2.m.ar.drewN 1) gm hg hq eG (afO 1));have HB:=ae (bu.below (C:=C3) (au wr.heap.size wr 1));have HA:=ae (k2.drewN 1);have Lf:=ae (gw ahead k 0 a8);have HME:=ae eG;clear k1 k2 b1 b2 b4 b5 kX eG HV;generalize hn:ahead.getD k 0=n at*;go_wp2_with fail
    go_still_tail 6,krr
    change wpList _ _ _ _ _ (wr.drewN 1);generalize wr.drewN 1=w4 at*;go_wp2_with fail;refine Pc.o.mono ?_;rintro e w5 ⟨rfl,f5,a5⟩;have gM:Mov w w5 C RO K p c t used rv s1 q ahead (k+1):=by refine ⟨?_⟩;rw [Lf.o,Ef];obtain ⟨k3,k4⟩:=HA.o.Rh (s':={s1 with a:=mZ (tK s1.a q (ahead.take k)) n q 0}) f5 a5 (fun b hb=> .inl hb) rfl rfl rfl (by rw [BI HME.o];exact HA.o.m.ix);exact ⟨C3,pZ.o.trans (HB.o.trans k3),k4⟩
    have HN:=ae gM;clear gM f5 a5 Pc;go_wp2_with fail
    go_roundg (gk - 1)
    case measure=>omega
    case rel=>exact ⟨k+1,by go_num,omm,HN⟩
   ·have he:k=ahead.length:=omm;have HE:=ae he;clear k1 k2 b1 b2 b4 b5 kX he;go_wp2;refine afI (afT rfl _ _ _) rfl ?_;rw [HS.o];have h6:=kY.o;rw [HE.o,List.take_length] at h6;exact ⟨rfl,C3,pZ.o,h6⟩
theorem yl:(prog.info? 1).map (fun i=>(i.zero,i.size,i.bytes))=some (some .nilFunc,1,8):=by kernel_rfl
theorem cD.Ii (h:cD w C U RO K p c t used hv jv s r) (f:da (vb U.je) w w'):w'.cell? (π U.rb 3)=some U.je/\(∀o,w'.frozen? (π U.rb o)=false)/\w'.cell? (π C.mb 60)=some (ρ U.rb):=by have hr:=h.r.c_.aB f h.sep.u.l;have hm:=h.m.aM.aB f (fun hc=>h.sep.cu (b:=C.mb) (by simp [Co.l]) (by simp [Ru.l,hc]));exact ⟨hr.cell 3,hr.frozen,hm.cell 60⟩
theorem cD.V5 (h:cD w C U RO K p c t used hv jv s r) (f:da (vb U.i_) w w'):w'.cell? (π U.rb 7)=some U.i_/\(∀o,w'.frozen? (π U.rb o)=false)/\w'.cell? (π C.mb 60)=some (ρ U.rb):=by have hr:=h.r.c_.aB f h.sep.u.j;have hm:=h.m.aM.aB f (fun hc=>h.sep.cu (b:=C.mb) (by simp [Co.l]) (by simp [Ru.l,hc]));exact ⟨hr.cell 7,hr.frozen,hm.cell 60⟩
theorem cD.Ij (h:cD w C U RO K p c t used hv jv s r) (f:da (vb U.kF) w w'):w'.cell? (π U.rb 5)=some U.kF/\(∀o,w'.frozen? (π U.rb o)=false)/\w'.cell? (π C.mb 60)=some (ρ U.rb):=by have hr:=h.r.c_.aB f h.sep.u.t;have hm:=h.m.aM.aB f (fun hc=>h.sep.cu (b:=C.mb) (by simp [Co.l]) (by simp [Ru.l,hc]));exact ⟨hr.cell 5,hr.frozen,hm.cell 60⟩
theorem fK.form {w:World} {mb:Nat} {RO:List Nat} {v:Value} {u:sm} (h:fK w mb RO v u):∃f gQ,v= .func f #[] gQ:=by
 cases u with
 |var i oE=>obtain ⟨x1,x2,x3,op,b,c,d,rfl,-⟩:=h;exact ⟨_,_,rfl⟩
 |mark oE=>obtain ⟨x1,x2,rfl,-⟩:=h;exact ⟨_,_,rfl⟩
 |cut q e=>obtain ⟨x1,x2,x3,rfl,-⟩:=h;exact ⟨_,_,rfl⟩
 |put q e x=>obtain ⟨x1,x2,x3,x4,rfl,-⟩:=h;exact ⟨_,_,rfl⟩
 |out q x ahead=>obtain ⟨x1,x2,x3,x4,av,rfl,-⟩:=h;exact ⟨_,_,rfl⟩
theorem rG (h:cD w C U RO K p c t used hv jv s r) {u:sm} {v:Value} (hu:fK w C.mb RO v u) (hl:r.bm.length < 1000000):
 Calls prog 214 #[ρ C.mb,v] w (bX w C.mb U.rb RO K p c t used (.tuple #[]) (s,r.note u)):=by
 obtain ⟨i0,hi,gA,jF,r_⟩:=aga yl;have oC:=agS h.m.aM;have r2:w.cell? (π U.rb 7)=some U.i_:=h.r.c_.cell 7;have lm:=h.m.aM.lt;have lr:=h.r.c_.lt;have HD:=ae (h.drewN 1);have C3:=ae (show r.bm.length+1<=maxLen by unfold maxLen;omega);have C4:=ae (show (r.bm.length+1)*8<=140737488355328 by omega);obtain ⟨fn,gQ,rfl⟩:=hu.form;have HU:=ae hu;have H:=ae h;clear h hu;go_enter func214,ntmps214;go_wp2_with fail
 go_region_law ((refine ags _ rfl (.tmp 14) (.tmp 16) 124 rfl 0 1 i0 .nilFunc 1 8 underlying124 hi gA jF r_ rfl dee U.i_ _ _ (by simp [Act.eval,Act.put]) (HD.o.r.i_.alloc _) (π w.heap.size 0) 1 1 [.func fn #[] gQ] (by simp [Act.eval,Act.put]) rfl (gP.gr _ [.func fn #[] gQ] _ _ smm) (by simp [Value.oneCell']) dee C3.o C4.o smm _ rfl ?_;intro g cap w4 fo fe pG um;obtain ⟨qW,xf⟩:=If (w:=w) (n:=r.bm.length+1) (cap:=cap) ((au w.heap.size w 1).alloc (afF _) _) fe pG rfl;obtain ⟨c2,f2,Vx⟩:=H.o.V5 qW;have HO:=ae fo;have HF:=ae qW;have HS:=ae xf;clear fo fe pG um qW xf))
 all_goals
  go_wp2;refine afI (afT rfl _ _ _) rfl ?_;have bq:=kU (f':=fun i=>if i < r.bm.length then jv i else .func fn #[] gQ) HO.o (fun i hi=>afE hi) (abH omm);have F:da (U.rb::vb U.i_) w (w4.setCell (π U.rb 7) (.slice (some (π g 0)) (r.bm.length+1) cap)):=(HF.o.mono (by intro k hk;simp [hk])).setCell smm _;have mR:∀b,b∈RO->b∉U.rb::vb U.i_:=fun b hb=>by have:=H.o.sep.ur hb;simp [Ru.l] at this ⊢;simp [this]
  have A:=H.o.i_ HF.o (l:=u::r.bm) bq HS.o (RO':=RO) (fun i u' Eh=>by
   rw [List.reverse_cons] at Eh;by_cases hi:i < r.bm.length
   ·exact agP
   ·have AH:i=r.bm.length:=by have:=(List.getElem?_eq_some_iff.1 Eh).1;simp at this;omega
    subst AH;rw [agf smm] at Eh;simp at Eh;subst Eh;rw [abH omm];exact HU.o.aB F mR) (fun b hb=>hb) (fun b hb=> .inl hb)
  exact ⟨rfl,RO,fun b hb=>hb,A.jy,Kept.cE (S:=U.l) (F.mono (by intro k hk;simp at hk;rcases hk with rfl|hk;simp [Ru.l];simp [Ru.l,hk])) (fun b hb=>H.o.sep.ur hb) H.o.sep.cY⟩
variable {mb rb:Nat}
theorem kZ (h:cD w C U RO K p c t used hv jv s r) {n q:Nat} (hf:s.f r.key=some n) (hq:q < p.ap.length) (hn:n∈s.a.ls q):
 Calls prog 205 #[ρ C.mb] w fun e w'=>e= .returned (.tuple #[ι n,ι q,.bool true])/\∃m,w'=w.drewN m:=by
 have oC:=agS h.m.aM;have m10:=ag3 h.m.aM;have m9:=mc9 h.m.aM;have r0:=h.r.c_.c1;have HG:=ae (fun k=>Ix.pJ (h.m.ix.drewN k) hf);have HL:=ae (fun k=>dT.zh (h.m.ar.drewN k) hq hn);clear h hf hn;generalize r.key=key at*;go_enter func205,ntmps205;go_wp2_with fail;go_quiet ((go_at_call 59;exact DC (HG.o _)));go_wp2_with fail;refine (HL.o _).mono ?_;rintro e w' ⟨rfl,rfl⟩;go_wp2;go_ret3;exact ⟨rfl,_,rfl⟩
theorem nB (h:cD w C U RO K p c t used hv jv s r) (hf:s.f r.key=none):
 Calls prog 205 #[ρ C.mb] w fun e w'=>e= .returned (.tuple #[ι 0,ι 0,.bool false])/\∃m,w'=w.drewN m:=by
 have oC:=agS h.m.aM;have m10:=ag3 h.m.aM;have m9:=mc9 h.m.aM;have r0:=h.r.c_.c1;have HG:=ae (fun k=>Ix.yk (h.m.ix.drewN k) hf);clear h hf;generalize r.key=key at*;go_enter func205,ntmps205;go_wp2_with fail;go_quiet ((go_at_call 59;exact DC (HG.o _)));go_wp2;go_ret3;exact ⟨rfl,_,rfl⟩
theorem vQ (h:cD w C U RO K p c t used hv jv s r) {n q:Nat} (hf:s.f r.key=some n) (hq:q < p.ap.length) (hn:n∈s.a.ls q):
 Calls prog 207 #[ρ C.mb] w fun e w'=>e= .returned (.tuple #[ι n,.bool true])/\∃m,w'=w.drewN m:=by
 have HN:=ae (kZ h hf hq hn);clear h hf hn;go_enter func207,ntmps207;go_wp2_with fail;refine HN.o.mono ?_;rintro e w' ⟨rfl,m,rfl⟩;go_wp2;go_ret2;exact ⟨rfl,m,rfl⟩
theorem vR (h:cD w C U RO K p c t used hv jv s r) (hf:s.f r.key=none):
 Calls prog 207 #[ρ C.mb] w (bX w C.mb U.rb RO K p c t used (.tuple #[ι 0,.bool false]) (s,r.dG 3)):=by
 have HN:=ae (nB h hf);have H:=ae h;clear h hf;go_enter func207,ntmps207;go_wp2_with fail;refine HN.o.mono ?_;rintro e w' ⟨rfl,m,rfl⟩;have HH:=ae (H.o.drewN m);have oC:(w.drewN m).cell? (π C.mb 60)=some (ρ U.rb):=HH.o.m.aM.cell 60;have r6:(w.drewN m).cell? (π U.rb 6)=some (ι r.br):=HH.o.r.c_.cell 6;have rf:∀o,(w.drewN m).frozen? (π U.rb o)=false:=HH.o.r.c_.frozen;have HK:=ae (Kept.cE (S:=U.l) (((da.refl _ w).drewN m).setCell (p:=(π U.rb 6)) (by simp [Ru.l]) (ι 3)) (fun b hb=>H.o.sep.ur hb) H.o.sep.cY);generalize w.drewN m=w2 at*;go_wp2;go_ret2;exact ⟨rfl,RO,fun b hb=>hb,(HH.o.iu 6 (ι 3) (r':=r.dG 3) rfl rfl rfl rfl rfl rfl HH.o.r.gm).jy,HK.o⟩
theorem rH (h:cD w C U RO K p c t used hv jv s r) {q d:Nat} (hq:q < p.ap.length) (he:d<=1) (bz:s.a.ls q≠[]):
 Calls prog 209 #[ρ C.mb,ι q,ι d] w fun e w'=>e= .returned (.tuple #[ι (ck s.a q d),.bool true])/\∃m,w'=w.drewN m:=by
 have m9:=mc9 h.m.aM;have HN:=ae (dT.xU h.m.ar hq he bz);clear h bz;go_enter func209,ntmps209;go_wp2_with fail;refine HN.o.mono ?_;rintro e w' ⟨rfl,rfl⟩;go_wp2;go_ret2;exact ⟨rfl,0,rfl⟩
theorem rI (h:cD w C U RO K p c t used hv jv s r) {q d:Nat} (hq:q < p.ap.length) (he:d<=1) (bz:s.a.ls q=[]):
 Calls prog 209 #[ρ C.mb,ι q,ι d] w (bX w C.mb U.rb RO K p c t used (.tuple #[ι 0,.bool false]) (s,r.dG 2)):=by
 have m9:=mc9 h.m.aM;have HN:=ae (dT.xV h.m.ar hq he bz);have H:=ae h;clear h bz;go_enter func209,ntmps209;go_wp2_with fail;refine HN.o.mono ?_;rintro e w' ⟨rfl,rfl⟩;have HH:=H;have oC:w.cell? (π C.mb 60)=some (ρ U.rb):=HH.o.m.aM.cell 60;have r6:w.cell? (π U.rb 6)=some (ι r.br):=HH.o.r.c_.cell 6;have rf:∀o,w.frozen? (π U.rb o)=false:=HH.o.r.c_.frozen;have HK:=ae (Kept.cE (S:=U.l) ((da.refl _ w).setCell (p:=(π U.rb 6)) (by simp [Ru.l]) (ι 2)) (fun b hb=>H.o.sep.ur hb) H.o.sep.cY);go_wp2;go_ret2;exact ⟨rfl,RO,fun b hb=>hb,(HH.o.iu 6 (ι 2) (r':=r.dG 2) rfl rfl rfl rfl rfl rfl HH.o.r.gm).jy,HK.o⟩
theorem acf {p:Prop} (h:p:=by
 go_wp2_with fail;refine HP.o.mono ?_;intro e w' hd;have mT:=hd.pre (RO:=RO) (Kept.ah HB.o H.o.sep.cY) (fun b hb=>by simp [hb]);obtain ⟨rfl,fB⟩:=mT;go_wp2;exact afI (afT rfl _ _ _) rfl ⟨rfl,fB⟩):p:=h
theorem LH (h:cD w C U RO K p c t used hv jv s r) (i:Ins) {k:Nat} (hk:i.a=k) (jd:k < p.ap.length) (hl:r.stack.length < 1000000):
 Calls prog 104 #[ρ C.mb,aQ i] w (bX w C.mb U.rb RO K p c t used (.tuple #[]) (s,r.push (s.a.ls k).length)):=by
 have H0:=(h.box (.cells (aA i) 40)).drewN 1;have HB:=ae (((afL w.heap.size w).alloc (afF _) (.cells (aA i) 40)).trans (au _ _ 1));have hP:=ku H0 (s.a.ls k).length hl;have e1:(w.alloc (.cells (aA i) 40)).cell? (π w.heap.size 1)=some (ι k):=by rw [<-hk];exact (ay.new w 40 (aA i)).cell 1
 have e5:(w.alloc (.cells (aA i) 40)).cell? (π C.mb 9)=some (ρ C.ab):=H0.m.aM.cell 9;have oH:=ae (dT.uT H0.m.ar jd);have HP:=ae hP;have H:=ae h;clear h hP H0 hk;unfold aQ;unfold aA at*;generalize (s.a.ls k).length=n at*;obtain ⟨w1,jo⟩:∃w1,w1=w.alloc (.cells #[ι i.op,ι i.a,ι i.b,ι i.c,ι i.d] 40):=⟨_,rfl⟩;rw [<-jo] at HP HB oH e1 e5;go_enter func104,ntmps104;go_wp2_with fail;rw [<-jo];clear jo;refine wp_region_still_tail 8 krr krr ?_;simp only [List.take_succ_cons,List.take_zero,List.drop_succ_cons,List.drop_zero]
 iterate 7 still_step
 still_call (oH.o.mono fun e w' h=>⟨h.1,h.2.symm⟩)
 refine wpStill_nil ?_;change wpList _ _ _ _ _ (w1.drewN 1);generalize w1.drewN 1=w2 at*;exact acf
theorem Eu (h:cD w C U RO K p c t used hv jv s r) (i:Ins) {k:Nat} (hk:i.a=k) (jd:k < c.aI.length) (hl:r.stack.length < 1000000):
 Calls prog 105 #[ρ C.mb,aQ i] w (bX w C.mb U.rb RO K p c t used (.tuple #[]) (s,r.push (c.aI.getD k 0))):=by
 have H0:=(h.box (.cells (aA i) 40)).drewN 1;have HB:=ae (((afL w.heap.size w).alloc (afF _) (.cells (aA i) 40)).trans (au _ _ 1));have hP:=ku H0 (c.aI.getD k 0) hl;have e1:(w.alloc (.cells (aA i) 40)).cell? (π w.heap.size 1)=some (ι k):=by rw [<-hk];exact (ay.new w 40 (aA i)).cell 1
 have e5:(w.alloc (.cells (aA i) 40)).cell? (π C.mb 7)=some K.qs:=H0.m.aM.cell 7;obtain ⟨b,cap,fN,nO,lF,hb⟩:=H0.m.prog.qs.some omm;rw [fN] at e5;have h_:(w.alloc (.cells (aA i) 40)).cell? (π b k)=some (ι (c.aI.getD k 0)):=by have h3:=H0.m.prog.qs;rw [fN] at h3;exact h3.cell (o:=k) omm
 have HP:=ae hP;have H:=ae h;clear h hP H0 hk;unfold aQ;unfold aA at*;generalize Ld:c.aI.getD k 0=vk at*;generalize c.aI.length=nv at*;obtain ⟨w1,jo⟩:∃w1,w1=w.alloc (.cells #[ι i.op,ι i.a,ι i.b,ι i.c,ι i.d] 40):=⟨_,rfl⟩;rw [<-jo] at HP HB e1 e5 h_;go_enter func105,ntmps105;go_wp2_with fail;rw [<-jo];clear jo
 go_still_tail 10,krr
 change wpList _ _ _ _ _ (w1.drewN 1);generalize w1.drewN 1=w2 at*;exact acf
theorem Tn (h:cD w C U RO K p c t used hv jv s r) (i:Ins) (hl:r.stack.length < 1000000):
 Calls prog 106 #[ρ C.mb,aQ i] w (bX w C.mb U.rb RO K p c t used (.tuple #[]) (s,r.push c.size)):=by
 have H0:=(h.box (.cells (aA i) 40));have HB:=ae (((afL w.heap.size w).alloc (afF _) (.cells (aA i) 40)));have hP:=ku H0 c.size hl;have e5:(w.alloc (.cells (aA i) 40)).cell? (π C.mb 6)=some (ι c.size):=H0.m.aM.cell 6;have HP:=ae hP;have H:=ae h;clear h hP H0;unfold aQ;unfold aA at*;go_enter func106,ntmps106;exact acf
theorem Gm (h:cD w C U RO K p c t used hv jv s r) (i:Ins) (hl:r.stack.length < 1000000):
 Calls prog 107 #[ρ C.mb,aQ i] w (bX w C.mb U.rb RO K p c t used (.tuple #[]) (s,r.push s.total)):=by
 have H0:=(h.box (.cells (aA i) 40));have HB:=ae (((afL w.heap.size w).alloc (afF _) (.cells (aA i) 40)));have hP:=ku H0 s.total hl;have e5:(w.alloc (.cells (aA i) 40)).cell? (π C.mb 12)=some (ι s.total):=H0.m.aM.cell 12;have HP:=ae hP;have H:=ae h;clear h hP H0;unfold aQ;unfold aA at*;go_enter func107,ntmps107;exact acf
theorem adu {p:Prop} (h:p:=by
 go_wp2;exact afI (afT rfl _ _ _) rfl ⟨rfl,_,fun b hb=>by simp [hb],HS.o.jy,HK.o⟩):p:=h
theorem XF (h:cD w C U RO K p c t used hv jv s r) (i:Ins):
 Calls prog 101 #[ρ C.mb,aQ i] w (bX w C.mb U.rb RO K p c t used (.tuple #[]) (s,{r with done:=true})):=by
 have H0:=h.box (.cells (aA i) 40);have HB:=ae ((afL w.heap.size w).alloc (afF _) (.cells (aA i) 40));have e60:(w.alloc (.cells (aA i) 40)).cell? (π C.mb 60)=some (ρ U.rb):=H0.m.aM.cell 60;have e8:(w.alloc (.cells (aA i) 40)).cell? (π U.rb 8)=some (.bool r.done):=H0.r.c_.cell 8;have ef:∀o,(w.alloc (.cells (aA i) 40)).frozen? (π U.rb o)=false:=H0.r.c_.frozen;have HS:=ae (H0.iu 8 (.bool true) (r':={r with done:=true}) rfl rfl rfl rfl rfl rfl H0.r.gm);have HK:=ae (Kept.cE (S:=U.l) ((da.ah (S:=U.l) HB.o).setCell (p:=(π U.rb 8)) (by simp [Ru.l]) (.bool true)) (fun b hb=>h.sep.ur hb) h.sep.cY);clear h H0;unfold aQ;unfold aA at*;go_enter func101,ntmps101;exact adu
theorem LI (h:cD w C U RO K p c t used hv jv s r) (i:Ins) {k:Nat} (hk:i.a=k):
 Calls prog 113 #[ρ C.mb,aQ i] w (bX w C.mb U.rb RO K p c t used (.tuple #[]) (s,{r with at_:=k})):=by
 have H0:=h.box (.cells (aA i) 40);have HB:=ae ((afL w.heap.size w).alloc (afF _) (.cells (aA i) 40));have e1:(w.alloc (.cells (aA i) 40)).cell? (π w.heap.size 1)=some (ι k):=by rw [<-hk];exact (ay.new w 40 (aA i)).cell 1
 have e60:(w.alloc (.cells (aA i) 40)).cell? (π C.mb 60)=some (ρ U.rb):=H0.m.aM.cell 60;have e8:(w.alloc (.cells (aA i) 40)).cell? (π U.rb 1)=some (ι r.at_):=H0.r.c_.cell 1;have ef:∀o,(w.alloc (.cells (aA i) 40)).frozen? (π U.rb o)=false:=H0.r.c_.frozen;have HS:=ae ((H0.iu 1 (ι k) (r':={r with at_:=k}) rfl rfl rfl rfl rfl rfl H0.r.gm).drewN 1);have HK:=ae (Kept.cE (S:=U.l) (((da.ah (S:=U.l) HB.o).setCell (p:=(π U.rb 1)) (by simp [Ru.l]) (ι k)).drewN 1) (fun b hb=>h.sep.ur hb) h.sep.cY);clear h H0 hk;unfold aQ;unfold aA at*;obtain ⟨w1,jo⟩:∃w1,w1=w.alloc (.cells #[ι i.op,ι i.a,ι i.b,ι i.c,ι i.d] 40):=⟨_,rfl⟩;rw [<-jo] at HS HB HK e1 e60 e8 ef;go_enter func113,ntmps113;go_wp2_with fail;rw [<-jo];clear jo;go_region;exact adu
theorem To (h:cD w C U RO K p c t used hv jv s r) (i:Ins) {n:Int} (hn:i.a=n) (hl:r.loops.length < 1000000):
 Calls prog 115 #[ρ C.mb,aQ i] w (bX w C.mb U.rb RO K p c t used (.tuple #[]) (s,{r with loops:=n::r.loops})):=by
 obtain ⟨i0,hi,gA,jF,r_⟩:=aga vG;have H0:=h.box (.cells (aA i) 40);have HB:=ae ((afL w.heap.size w).alloc (afF _) (.cells (aA i) 40));have e1:(w.alloc (.cells (aA i) 40)).cell? (π w.heap.size 1)=some (ι n):=by rw [<-hn];exact (ay.new w 40 (aA i)).cell 1
 have oC:(w.alloc (.cells (aA i) 40)).cell? (π C.mb 60)=some (ρ U.rb):=H0.m.aM.cell 60;have r2:(w.alloc (.cells (aA i) 40)).cell? (π U.rb 3)=some U.je:=H0.r.c_.cell 3;have lm:=H0.m.aM.lt;have lr:=H0.r.c_.lt;have lb:w.heap.size < (w.alloc (.cells (aA i) 40)).heap.size:=by simp
 have HD:=ae (H0.drewN 1);have C3:=ae (show r.loops.length+1<=maxLen by unfold maxLen;omega);have C4:=ae (show (r.loops.length+1)*8<=140737488355328 by omega);have kW:=ae (Kept.ah HB.o h.sep.cY);have H:=ae H0;clear h H0 hn;unfold aQ;unfold aA at*;obtain ⟨w1,jo⟩:∃w1,w1=w.alloc (.cells #[ι i.op,ι i.a,ι i.b,ι i.c,ι i.d] 40):=⟨_,rfl⟩;rw [<-jo] at H HD HB kW e1 oC r2 lm lr lb;go_enter func115,ntmps115;go_wp2_with fail;rw [<-jo];clear jo;generalize w.heap.size=bx at e1 lb H HD ⊢
 go_region_law ((refine ags _ rfl (.tmp 14) (.tmp 17) 24 rfl 0 3 i0 (ι 0) 1 8 underlying24 hi gA jF r_ rfl dee U.je _ _ (by simp [Act.eval,Act.put]) (HD.o.r.je.alloc _) (π w1.heap.size 0) 1 1 [ι n] (by simp [Act.eval,Act.put]) rfl (gP.gr _ [ι n] _ _ smm) (by simp [Value.oneCell']) dee C3.o C4.o smm _ rfl ?_;intro g cap w4 fo fe pG um;obtain ⟨qW,xf⟩:=If (w:=w1) (n:=r.loops.length+1) (cap:=cap) ((au w1.heap.size w1 1).alloc (afF _) _) fe pG rfl;obtain ⟨c2,f2,Vx⟩:=H.o.Ii qW;have HO:=ae fo;have HF:=ae qW;have HS:=ae xf;clear fo fe pG um qW xf))
 all_goals
  go_wp2;refine afI (afT rfl _ _ _) rfl ?_;obtain ⟨q1,q2⟩:=jT n 0 r.loops;have bq:=kU (f':=fun i=> ι ((n::r.loops).reverse.getD i 0)) HO.o (fun i hi=>by show Value.int _ _=Value.int _ _;rw [q1 i hi]) (by show Value.int _ _=Value.int _ _;rw [q2]);have A:=H.o.je HF.o (l:=n::r.loops) bq HS.o;have D:bX w1 C.mb U.rb (bx::RO) K p c t used (.tuple #[]) (s,{r with loops:=n::r.loops}) (.returned (.tuple #[])) _:=⟨rfl,_,fun b hb=>hb,A.jy,Kept.cE (S:=U.l) ((HF.o.mono (by intro k hk;simp [Ru.l,hk])).setCell (by simp [Ru.l]) _) (fun b hb=>H.o.sep.ur hb) H.o.sep.cY⟩;exact D.pre kW.o (fun b hb=>by simp [hb])
theorem cD.Py (h:cD w C U RO K p c t used hv jv s r) (F:da (vb U.je) w w') {l:List Int} (bq:Row w' 3 1 U.je l.length (fun i=> ι (l.reverse.getD i 0))):cD w' C U RO K p c t used hv jv s {r with loops:=l}:=by
 have R:=h.sep.u;have F2:da U.l w w':=F.mono (by intro k hk;simp [Ru.l,hk]);have mR:∀b,b∈RO->b∉vb U.je:=fun b hb=>by have:=h.sep.ur hb;simp [Ru.l] at this;simp [this]
 refine h.runs F2 rfl (fun b hb=>hb) (fun b hb=> .inl hb) ⟨?_,?_,?_,?_,?_,?_,?_⟩ h.sep.nd (fun b hb=>⟨.inl hb,afQ (h.sep.lt b (by simp [hb])) F.size⟩)
 ·exact h.r.c_.aB F R.l
 ·exact h.r.jJ.aB F fun b hb=>R.sl b (aK.2 hb)
 ·exact bq
 ·exact h.r.kF.aB F fun b hb=>R.lt.symm b (aK.2 hb)
 ·exact h.r.i_.aB F fun b hb=>R.lj.symm b (aK.2 hb)
 ·exact agQ
 ·exact h.r.gm.aB F mR
theorem Ev (h:cD w C U RO K p c t used hv jv s r) (i:Ins) {k:Nat} (hk:i.a=k) {m:Int} {rest:List Int} (fj:r.loops=m::rest) (hl:rest.length < 1000000) (VC: -1073741824<=m) (FJ:m<=1073741824):
 Calls prog 116 #[ρ C.mb,aQ i] w (bX w C.mb U.rb RO K p c t used (.tuple #[]) (s,vJ r k)):=by
 have H0:=(h.box (.cells (aA i) 40)).drewN 1;have HB:=(afL w.heap.size w).alloc (afF _) (.cells (aA i) 40);have kW:=ae (Kept.ah (RO:=RO) (HB.trans (au _ _ 1)) h.sep.cY);have zw:=ae (show r.loops.headD 0=m by rw [fj];rfl);have HTL:=ae (show r.loops.tail=rest by rw [fj];rfl);have e1:(w.alloc (.cells (aA i) 40)).cell? (π w.heap.size 1)=some (ι k):=by rw [<-hk];exact (ay.new w 40 (aA i)).cell 1
 have oC:(w.alloc (.cells (aA i) 40)).cell? (π C.mb 60)=some (ρ U.rb):=H0.m.aM.cell 60;have r3:(w.alloc (.cells (aA i) 40)).cell? (π U.rb 3)=some U.je:=H0.r.c_.cell 3;have Di:=fun _:Unit=>Ge H0 fj hl k;have bq:=H0.r.je;rw [fj] at bq;obtain ⟨b,cap,fN,nO,lF,hb⟩:=bq.some smm;rw [fN] at r3 bq;have h_:(w.alloc (.cells (aA i) 40)).cell? (π b rest.length)=some (ι m):=by have:=bq.cell (o:=rest.length) smm;rw [mi] at this;exact this
 have tM:∀o,(w.alloc (.cells (aA i) 40)).frozen? (π b o)=false:=fun o=>bq.frozen o;have Ew:=ae (Di ());have p_:=ae bq;have HV:=ae fN;have H:=ae H0;clear h H0 bq fj fN HB hk Di;unfold aQ;unfold aA at*;simp only [List.length_cons] at r3 nO;generalize hk:rest.length=n at*;have hlen:=rE (n+1) cap b;obtain ⟨w1,jo⟩:∃w1,w1=w.alloc (.cells #[ι i.op,ι i.a,ι i.b,ι i.c,ι i.d] 40):=⟨_,rfl⟩;rw [<-jo] at e1 oC r3 h_ tM H p_ Ew kW;have hwr:IntKind.i64.wrap (m - 1)=m - 1:=afU _ ⟨omm,omm⟩;go_enter func116,ntmps116;go_wp2_with fail;rw [<-jo];clear jo;go_region;obtain ⟨w2,qD⟩:∃w2,w2=w1.drew:=⟨_,rfl⟩;have f1:w2.cell? (π b n)=some (ι m):=by rw [qD];exact h_
 have f2:w2.cell? (π w.heap.size 1)=some (ι k):=by rw [qD];exact e1
 have f3:∀o,w2.frozen? (π b o)=false:=by rw [qD];exact tM
 have HH:Hid (cD w2 C U (w.heap.size::RO) K p c t used hv jv s r):=by rw [qD];exact H
 have HRR:Hid (Row w2 3 1 (.slice (some (π b 0)) (m::rest).length cap) (m::rest).length (fun i=> ι ((m::rest).reverse.getD i 0))):=by rw [qD];exact p_
 have HLL:Hid (Calls prog 213 #[ρ C.mb,ι k] w2 (bX w2 C.mb U.rb (w.heap.size::RO) K p c t used (.tuple #[]) (s,jr r k))):=by rw [qD];exact Ew
 have uu:Hid (Kept RO w w2):=by rw [qD];exact kW
 rw [<-qD];clear h_ tM e1 oC r3 H p_ Ew kW qD hlen;by_cases hm:m=0
 ·subst hm;go_wp2_with fail;refine HLL.o.mono ?_;intro e w3 hd;have mT:=hd.pre (RO:=RO) uu.o (fun b hb=>by simp [hb]);have hb:vJ r k=jr r k:=by unfold vJ;rw [afE zw.o]
  exact agG
 ·have hz:(m==0)=false:=by simpa using hm
  go_wp2;have dn:vJ r k={r with loops:=(m - 1)::rest}:=by unfold vJ;rw [zw.o,HTL.o,abH hm]
  rw [dn];have e2:U.je= .slice (some (π b 0)) (rest.length+1) cap:=HV.o;have bq:Row (w2.setCell (π b n) (ι (m - 1))) 3 1 U.je ((m - 1)::rest).length (fun i=> ι (((m - 1)::rest).reverse.getD i 0)):=by
   rw [e2];have h1:=HRR.o.set (o:=n) (by rw [List.length_cons,hk];omega) (ι (m - 1));refine (show Row _ _ _ (.slice (some (π b 0)) (rest.length+1) cap) (rest.length+1) _ from h1).congr fun o ho=>?_;by_cases zN:o=n
   ·rw [afE zN,zN,<-hk,mi]
   ·rw [abH zN,(jT m 0 rest).1 o omm,(jT (m - 1) 0 rest).1 o omm]
  have hob:U.je.ownBlock=some b:=by rw [e2];rfl
  have F:da (vb U.je) w2 (w2.setCell (π b n) (ι (m - 1))):=(da.refl _ w2).setCell (aK.2 hob) _;have A:=HH.o.Py F bq;refine afI (afT rfl _ _ _) rfl ⟨rfl,_,fun x hx=>by simp [hx],A.jy,uu.o.trans (RO':=RO) (Kept.cE (S:=U.l) (F.mono fun x hx=>by simp [Ru.l,hx]) (fun x hx=>HH.o.sep.ur (by simp [hx])) (fun x hx=>HH.o.sep.cY x (by simp [hx]))) fun _ h=>h⟩
theorem adz {p:Prop} (h:p:=by
 go_wp2_with fail;refine HN.o.mono ?_;intro e w' hd;obtain ⟨rfl,fB⟩:=hd.pre (RO:=RO) HK.o (fun b hb=>by simp [hb]);go_wp2;exact afI (afT rfl _ _ _) rfl ⟨rfl,fB⟩):p:=h
theorem IB (h:cD w C U RO K p c t used hv jv s r) (i:Ins) (hf:s.f r.key=none):
 Calls prog 109 #[ρ C.mb,aQ i] w (bX w C.mb U.rb RO K p c t used (.tuple #[]) (s,r.dG 3)):=by
 have H0:=h.box (.cells (aA i) 40);have HB:=ae ((afL w.heap.size w).alloc (afF _) (.cells (aA i) 40));have HN:=ae (vR H0 hf);have HK:=ae (Kept.ah (RO:=RO) HB.o h.sep.cY);clear h H0 hf;unfold aQ;unfold aA at*;go_enter func109,ntmps109;exact adz
theorem B_ (h:cD w C U RO K p c t used hv jv s r) (i:Ins) {q d:Nat} (ha:i.a=q) (ia:i.b=d) (hq:q < p.ap.length) (he:d<=1) (bz:s.a.ls q=[]):
 Calls prog 110 #[ρ C.mb,aQ i] w (bX w C.mb U.rb RO K p c t used (.tuple #[]) (s,r.dG 2)):=by
 have H0:=h.box (.cells (aA i) 40);have HB:=ae ((afL w.heap.size w).alloc (afF _) (.cells (aA i) 40));have HN:=ae (rI H0 hq he bz);have HK:=ae (Kept.ah (RO:=RO) HB.o h.sep.cY);have g1:(w.alloc (.cells (aA i) 40)).cell? (π w.heap.size 1)=some (ι q):=by rw [<-ha];exact (ay.new w 40 (aA i)).cell 1
 have g2:(w.alloc (.cells (aA i) 40)).cell? (π w.heap.size 2)=some (ι d):=by rw [<-ia];exact (ay.new w 40 (aA i)).cell 2
 clear h H0 bz ha ia;unfold aQ;unfold aA at*;go_enter func110,ntmps110;exact adz
end
end Go.Proofs.YtblkblclmbhjiaaGreat.Ma
namespace Go.Proofs.YtblkblclmbhjiaaGreat.Vf
open Go.RowKit ak.Vm
open ak hiding aL an aj
open Ma (dx bQ aU vb)
def aV (w:World) (size:Nat) (v:Value) (n:Nat) (g:Nat->Value):Prop:=
 (v=ν/\n=0)\/∃a cap,v= .slice (some a) n cap/\n<=cap/\cap<=maxLen/\∀o,o < n*size->a.spot=none/\w.cell? (π a.block (a.off+o))=some (g o)
section
variable {w w':World} {size n:Nat} {v:Value} {g f:Nat->Value}
theorem aV.val (h:aV w size v n g):∃a cap,v= .slice a n cap/\n<=cap/\cap<=maxLen:=by
 rcases h with ⟨rfl,rfl⟩|⟨a,cap,rfl,h1,h2,-⟩
 ·exact ⟨none,0,rfl,afF _,afO _⟩
 ·exact ⟨some a,cap,rfl,h1,h2⟩
theorem aV.len (h:aV w size v n g):n<=maxLen:=by obtain ⟨_,_,_,h1,h2⟩:=h.val;omega
theorem aV.some (h:aV w size v n g) (hn:0 < n) (hs:0 < size):∃b off cap,v= .slice (.some (π b off)) n cap/\n<=cap/\cap<=maxLen/\b < w.heap.size/\∀o,o < n*size->w.cell? (π b (off+o))= .some (g o):=by
 rcases h with ⟨_,h⟩|⟨⟨b,off,spot⟩,cap,rfl,h1,h2,h3⟩
 ·omega
 ·have h0:0 < n*size:=Nat.mul_pos hn hs;obtain ⟨e,c⟩:=h3 0 h0;dsimp only at e;subst e;exact ⟨b,off,cap,rfl,h1,h2,aS c,fun o ho=>(h3 o ho).2⟩
theorem aV.aB (h:aV w size v n g) (f:da [] w w'):aV w' size v n g:=by
 rcases h with h|⟨a,cap,rfl,h1,h2,h3⟩
 ·exact .inl h
 ·refine .inr ⟨a,cap,rfl,h1,h2,fun o ho=>⟨(h3 o ho).1,?_⟩⟩;have hc:=(h3 o ho).2;refine Eq.trans ?_ hc;exact afG (f.block a.block (aS hc) smm)
theorem aV.D9 {e:TypeId} (h:Row w e size v n g):aV w size v n g:=by
 rcases h.val with h0|⟨b,cap,rfl,h1,h2,-⟩
 ·exact .inl h0
 ·exact .inr ⟨(π b 0),cap,rfl,h1,h2,fun o ho=>⟨rfl,by rw [Nat.zero_add];exact h.cell ho⟩⟩
structure Kp where
 g:Value
 v:Value
 t:Value
 o:Value
 c:Value
def pV (K:Kp) (p:aO):Value:= .agg #[K.g,K.v,K.t,K.o,ι p.aJ,K.c]
structure fP (w:World) (K:Kp) (p:aO):Prop where
 g:aV w 1 K.g p.ap.length (fun i=> .bool (p.ap.getD i false))
 v:aV w 3 K.v p.vars.length (dx p)
 t:aV w 1 K.t p.aW.length (aU p.aW)
 o:aV w 1 K.o p.on.length (aU p.on)
 cd:aV w 5 K.c p.code.length (bQ p)
variable {K:Kp} {p:aO}
theorem fP.aB (h:fP w K p) (f:da [] w w'):fP w' K p:=⟨h.g.aB f,h.v.aB f,h.t.aB f,h.o.aB f,h.cd.aB f⟩
theorem fP.ins (h:fP w K p) {i:Nat} (hi:i < p.code.length):∃b off cap,K.c= .slice (some (π b off)) p.code.length cap/\p.code.length<=cap/\cap<=maxLen/\
 w.cell? (π b (off+i*5))=some (ι (ai p i).op)/\w.cell? (π b (off+i*5+1))=some (ι (ai p i).a)/\w.cell? (π b (off+i*5+2))=some (ι (ai p i).b)/\w.cell? (π b (off+i*5+3))=some (ι (ai p i).c)/\w.cell? (π b (off+i*5+4))=some (ι (ai p i).d):=by
 obtain ⟨b,off,cap,hv,h1,h2,hb,hc⟩:=h.cd.some omm omm;have key:∀k,k < 5->w.cell? (π b (off+i*5+k))=some (bQ p (i*5+k)):=fun k hk=>by rw [Nat.add_assoc];exact hc (i*5+k) omm
 have hd:∀k,k < 5->(i*5+k) / 5=i:=fun k hk=>omm;have hm:∀k,k < 5->(i*5+k) % 5=k:=fun k hk=>omm;refine ⟨b,off,cap,hv,h1,h2,(key 0 omm).trans ?_,(key 1 omm).trans ?_,(key 2 omm).trans ?_,(key 3 omm).trans ?_,(key 4 omm).trans ?_⟩
 ·unfold bQ;rw [hd 0 omm,hm 0 omm];rfl
 ·unfold bQ;rw [hd 1 omm,hm 1 omm];rfl
 ·unfold bQ;rw [hd 2 omm,hm 2 omm];rfl
 ·unfold bQ;rw [hd 3 omm,hm 3 omm];rfl
 ·unfold bQ;rw [hd 4 omm,hm 4 omm];rfl
theorem fP.gh (h:fP w K p) {i:Nat} (hi:i < p.ap.length):∃b off cap,K.g= .slice (some (π b off)) p.ap.length cap/\p.ap.length<=cap/\cap<=maxLen/\w.cell? (π b (off+i))=some (.bool (p.ap.getD i false)):=by obtain ⟨b,off,cap,hv,h1,h2,hb,hc⟩:=h.g.some omm omm;exact ⟨b,off,cap,hv,h1,h2,hc i omm⟩
end
end Go.Proofs.YtblkblclmbhjiaaGreat.Vf
namespace Go.Proofs.YtblkblclmbhjiaaGreat.Ma
open Go.RowKit ak.Vm
open ak hiding aL an aj
theorem ab6 {p:Prop} (h:p:=by
 go_wp2;go_ret;exact ⟨rfl,rfl⟩):p:=h
theorem zA (w:World) (b:Bool):Calls prog 206 #[.bool b] w fun r w'=>r= .returned (ι (ni b))/\w=w':=by
 cases b
 ·go_enter func206,ntmps206;exact ab6
 ·go_enter func206,ntmps206;exact ab6
theorem vN (w:World) (n lo hi:Int):Calls prog 216 #[ι n,ι lo,ι hi] w fun r w'=>r= .returned (ι (within n lo hi))/\w=w':=by go_enter func216,ntmps216;exact ab6
theorem Gh (w:World) (n:Int):Calls prog 211 #[ι n] w fun r w'=>r= .returned (ι (kj n))/\w=w':=by have HW:=ae (vN w n (-1073741824) 1073741824);go_enter func211,ntmps211;go_wp2_with fail;refine HW.o.mono ?_;rintro r w' ⟨rfl,rfl⟩;exact ab6
theorem Ei (w:World) {a b:Int} (ha: -1073741824<=a/\a<=1073741824) (hb: -1073741824<=b/\b<=1073741824):Calls prog 212 #[ι a,ι b] w fun r w'=>r= .returned (ι (uZ a b))/\w=w':=by
 by_cases hz:b=0
 ·subst hz;have e:uZ a 0=0:=by unfold uZ;rw [afE rfl]
  rw [e];go_enter func212,ntmps212;exact ab6
 ·have jF:(b==0)=false:=by simpa using hz
  have HC:=ae (fun n=>Gh w n);have HQ:=ae (show uZ a b=kj (if a.tmod b≠0/\(decide (a < 0)≠decide (b < 0)) then a.tdiv b - 1 else a.tdiv b) by unfold uZ;rw [abH hz]);generalize uZ a b=q at*;have h1:(a.tdiv b).natAbs<=a.natAbs:=Int.natAbs_tdiv_le_natAbs a b;have hd: -1073741824<=a.tdiv b/\a.tdiv b<=1073741824:=omm;have hw:IntKind.i64.wrap (a.tdiv b)=a.tdiv b:=afU _ ⟨omm,omm⟩;have qD:IntKind.i64.wrap (a.tdiv b - 1)=a.tdiv b - 1:=afU _ ⟨omm,omm⟩;have h2:(a.tmod b).natAbs<=a.natAbs:=by rw [Int.natAbs_tmod];exact Nat.mod_le _ _
  have Ri:IntKind.i64.wrap (a.tmod b)=a.tmod b:=afU _ ⟨omm,omm⟩;clear h1 h2;go_enter func212,ntmps212;go_wp2_with fail
  all_goals
   refine (HC.o _).mono ?_;rintro r w' ⟨rfl,rfl⟩;go_wp2;go_ret;refine ⟨?_,rfl⟩;rw [HQ.o];clear HC HQ hw qD Ri hd ha hb;congr 2;congr 1;generalize decide (a < 0)=x at*;generalize decide (b < 0)=y at*;by_cases hm:a.tmod b=0<;>cases x<;>cases y<;>simp_all
section
variable {w w':World} {C:Co} {U U':Ru} {RO RO':List Nat} {K:Kc} {p:aO} {c:Cp} {t:fI} {used:Int} {hv hv':Value} {jv jx:Nat->Value} {s:St} {r r':Rn} {mb rb:Nat}
theorem vS (h:cD w C U RO K p c t used hv jv s r):
 Calls prog 223 #[ρ C.mb] w (bX w C.mb U.rb RO K p c t used (.bool true) (s,{r with hand:=none})):=by
 have oC:=agS h.m.aM;have r4:w.cell? (π U.rb 4)=some hv:=h.r.c_.cell 4;have rf:∀o,w.frozen? (π U.rb o)=false:=h.r.c_.frozen;have HS:=ae (h.iu 4 ν (r':={r with hand:=none}) (hv':=ν) rfl rfl rfl rfl rfl rfl rfl);have HK:=ae (Kept.cE (S:=U.l) ((da.refl _ w).setCell (p:=(π U.rb 4)) (by simp [Ru.l]) ν) (fun b hb=>h.sep.ur hb) h.sep.cY);clear h;go_enter func223,ntmps223;go_wp2;go_ret;exact ⟨rfl,RO,fun b hb=>hb,HS.o.jy,HK.o⟩
end
end Go.Proofs.YtblkblclmbhjiaaGreat.Ma
namespace Go.Proofs.YtblkblclmbhjiaaGreat.Ma
open Go.RowKit ak.Vm
open ak hiding aL an aj
open dT (bP bG)
open Ix (cL)
section
variable {w w':World} {C C':Co} {U U':Ru} {RO RO':List Nat} {K:Kc} {p:aO} {c:Cp} {t:fI} {used:Int} {hv hv':Value} {jv jx:Nat->Value} {s s':St} {r r':Rn} {rv:Value} {mb rb:Nat}
theorem BK (h:cD w C U RO K p c t used hv jv s r) {n:Int} {rest:List Int} (fj:r.stack=n::rest) (hl:rest.length < 1000000):
 Calls prog 210 #[ρ C.mb] w fun e w'=>e= .returned (ι n)/\∃U',U'.rb=U.rb/\cD w' C U' RO K p c t used hv jv s r.pop/\da U.l w w':=by
 have oC:=agS h.m.aM;have r2:w.cell? (π U.rb 2)=some U.jJ:=h.r.c_.cell 2;have rf:∀o,w.frozen? (π U.rb o)=false:=h.r.c_.frozen;have bq:=h.r.jJ;rw [fj] at bq;obtain ⟨b,cap,fN,nO,lF,hb⟩:=bq.some smm;rw [fN] at r2 bq;have h_:w.cell? (π b rest.length)=some (ι n):=by rw [bq.cell (o:=rest.length) smm];rw [mi]
 have tJ:=bq.less (k:=rest.length) smm;have gM:Row w 3 1 (.slice (some (π b 0)) rest.length cap) rest.length (fun i=> ι (rest.reverse.getD i 0)):=tJ.congr fun o ho=>by show Value.int _ _=Value.int _ _;rw [(jT n 0 rest).1 o omm]
 have HN:=ae gM;have H:=ae h;have HV:=ae fN;have kV:=ae fj;clear h gM tJ bq fj fN;simp only [List.length_cons] at r2 nO;generalize hk:rest.length=k at*;have hlen:=rE (k+1) cap b;go_enter func210,ntmps210;go_wp2_with fail;go_region;go_wp2;go_ret;have fN:U.jJ= .slice (some (π b 0)) (k+1) cap:=by rw [HV.o,List.length_cons,hk]
 have D_:∀x,x∈vb (.slice (some (π b 0)) k cap)->x∈vb U.jJ:=fun x hx=>by rw [fN];exact hx
 have A:=(H.o.jJ (da.refl _ w) (l:=rest) (by rw [hk];exact HN.o) (fun x hx=> .inl (D_ x hx))).drewN 1;have hr:r.pop={r with stack:=rest}:=by unfold Rn.pop;rw [kV.o];rfl
 exact ⟨rfl,{U with jJ:= .slice (some (π b 0)) k cap},rfl,by rw [hr];exact A,((da.refl _ w).setCell (by simp [Ru.l]) _).drewN 1⟩
theorem V9 {b cap:Nat} (h3:Row w 122 3 (.slice (some (π b 0)) p.vars.length cap) p.vars.length (dx p)) {i:Nat} (hi:i < p.vars.length):
 w.cell? (π b (i*3+1))=some (ι (p.vars.getD i ⟨0,0,0⟩).lo)/\w.cell? (π b (i*3+2))=some (ι (p.vars.getD i ⟨0,0,0⟩).hi):=by
 constructor
 ·rw [h3.cell (o:=i*3+1) omm];unfold dx;rw [show (i*3+1) / 3=i by omega,show (i*3+1) % 3=1 by omega];rfl
 ·rw [h3.cell (o:=i*3+2) omm];unfold dx;rw [show (i*3+2) / 3=i by omega,show (i*3+2) % 3=2 by omega];rfl
theorem Mx.range (h:Mx w C RO K p c s t used rv) {i:Nat} (hi:i < p.vars.length):∃b cap,K.v= .slice (some (π b 0)) p.vars.length cap/\b∈RO:=by obtain ⟨b,cap,fN,nO,lF,hb⟩:=h.m.prog.v.some omm;exact ⟨b,cap,fN,h.m.prog.ro b (.inr (.inl (aK.2 (by rw [fN];rfl))))⟩
theorem fT {w:World} {b b' o o':Nat} {v:Value} (h:b≠b'):(w.setCell (π b' o') v).cell? (π b o)=w.cell? (π b o):=by rw [World.cell?_setCell_other];intro e;exact h (afK Addr.block e).symm
theorem Kj (h:cD w C U RO K p c t used hv jv s r) (i:Ins) {k:Nat} (hk:i.a=k) (Tc:k < p.vars.length) {n:Int} {rest:List Int} (fj:r.stack=n::rest) (hl:rest.length < 1000000) (hj:r.bm.length < 1000000):
 Calls prog 118 #[ρ C.mb,aQ i] w (bX w C.mb U.rb RO K p c t used (.tuple #[]) (zp p i (s,r))):=by
 have h1:=h.box (.cells #[ρ C.mb] 35);have h2:=h1.box (.cells (aA i) 40);have n2:=ay.new w 35 #[ρ C.mb];have n3:=ay.new (w.alloc (.cells #[ρ C.mb] 35)) 40 (aA i);have γ:=n2.alloc (.cells (aA i) 40);have HB:=ae (((afL w.heap.size w).alloc (afF _) (.cells #[ρ C.mb] 35)).alloc smm (.cells (aA i) 40));have dh:=ae h.sep.cY;have H2:=ae h2;obtain ⟨vb,aam,hvv,hvc,hvf⟩:=h2.mx.Pb Tc;have δ:((w.alloc (.cells #[ρ C.mb] 35)).alloc (.cells (aA i) 40)).cell? (π C.mb 11)=some C.vs:=h2.m.aM.cell 11;rw [hvv] at δ;have e2:((w.alloc (.cells #[ρ C.mb] 35)).alloc (.cells (aA i) 40)).cell? (π w.heap.size 0)=some (ρ C.mb):=γ.cell 0;have e3:((w.alloc (.cells #[ρ C.mb] 35)).alloc (.cells (aA i) 40)).cell? (π (w.heap.size+1) 1)=some (ι k):=by have:=n3.cell 1;rw [show (w.alloc (.cells #[ρ C.mb] 35)).heap.size=w.heap.size+1 by simp] at this;rw [<-hk];exact this
 have lm:=h2.m.aM.lt;have lv:vb < ((w.alloc (.cells #[ρ C.mb] 35)).alloc (.cells (aA i) 40)).heap.size:=h2.sep.lt vb (by simp [Co.l,Ma.vb,hvv,Value.ownBlock]);have l2:=γ.lt;have l3:=n3.lt;rw [show (w.alloc (.cells #[ρ C.mb] 35)).heap.size=w.heap.size+1 by simp] at l3 n3;have HHK:=ae hk;have kV:=ae fj;have N2:=ae γ;have N3:=ae n3;have HJ:=ae hj;have HL:=ae hl;clear h h1 h2 n2 n3 γ fj hk hj hl;unfold aQ;unfold aA at*;go_enter func118,ntmps118;go_wp2_with fail;generalize (w.alloc (.cells #[ρ C.mb] 35)).alloc (.cells #[ι i.op,ι i.a,ι i.b,ι i.c,ι i.d] 40)=w2 at*;go_region;have h3:cD (w2.alloc (.cells #[ι (s.vars k)] 3)).drew C U (w2.heap.size::(w.heap.size+1)::w.heap.size::RO) K p c t used hv jv s r:=by have:=(H2.o.box (.cells #[ι (s.vars k)] 3)).drewN 1;rw [show (w.alloc (.cells #[ρ C.mb] 35)).heap.size=w.heap.size+1 by simp] at this;exact this
 have B3:Below w2.heap.size w2 (w2.alloc (.cells #[ι (s.vars k)] 3)).drew:=((afL _ w2).alloc (afF _) _).trans (au _ _ 1);have n4:ay (w2.alloc (.cells #[ι (s.vars k)] 3)).drew w2.heap.size 3 #[ι (s.vars k)]:=ay.new w2 _ _;have m2:ay (w2.alloc (.cells #[ι (s.vars k)] 3)).drew w.heap.size 35 #[ρ C.mb]:=N2.o.aB (da.ah (S:=[]) B3) smm;have m3:ay (w2.alloc (.cells #[ι (s.vars k)] 3)).drew (w.heap.size+1) 40 #[ι i.op,ι i.a,ι i.b,ι i.c,ι i.d]:=N3.o.aB (da.ah (S:=[]) B3) smm;rw [HHK.o] at m3;have hu:fK (w2.alloc (.cells #[ι (s.vars k)] 3)).drew C.mb (w2.heap.size::(w.heap.size+1)::w.heap.size::RO) (.func (.func 215) #[] #[ρ w2.heap.size,ρ w.heap.size,ρ (w.heap.size+1)]) (.var k (s.vars k)):=
  ⟨_,_,_,_,_,_,_,rfl,n4,m2,m3,smm,smm,smm⟩
 have HC:=ae (rG h3 hu HJ.o);have M2:=ae m2;have M3:=ae m3;have Lg:=ae (Kept.ah (RO:=RO) (HB.o.trans (B3.mono (by have:=HB.o.size;exact this))) dh.o);have c2:(w2.alloc (.cells #[ι (s.vars k)] 3)).drew.cell? (π w.heap.size 0)=some (ρ C.mb):=m2.cell 0;clear h3 B3 n4 m2 m3 hu e2 e3 δ hvc hvf lm lv l2 l3 N2 N3 hvv;generalize Ri:(w2.alloc (.cells #[ι (s.vars k)] 3)).drew=w3 at*;generalize w2.heap.size=b4 at*;clear Ri;go_wp2_with fail;refine HC.o.mono ?_;rintro e w4 ⟨rfl,Lh,Js,⟨C4,U4,ε,ζ,ue,zB,A4⟩,AI⟩;have q2:=ay.jU M2.o AI smm;have q3:=ay.jU M3.o AI smm;obtain ⟨BL,Gi,Ik,aan,aao⟩:=A4.mx.Pb Tc;obtain ⟨gb,kw,jZ,vM⟩:=A4.mx.range Tc;have x2:w.heap.size∈Lh:=Js _ smm;have x3:w.heap.size+1∈Lh:=Js _ smm;have VA:BL∈C4.l:=by simp [Co.l,Ma.vb,Ik,Value.ownBlock]
 have y2:BL≠w.heap.size:=fun e=>A4.sep.cr x2 (e▸VA);have y3:BL≠w.heap.size+1:=fun e=>A4.sep.cr x3 (e▸VA);have yg:BL≠gb:=fun e=>A4.sep.cr vM (e▸VA);have ym:BL≠C.mb:=fun e=>A4.mx.rel.mv (aK.2 (by rw [Ik,ue,<-e];rfl));have fF:∀wx,da U4.l w4 wx->wx.cell? (π w.heap.size 0)=some (ρ C.mb)/\wx.cell? (π (w.heap.size+1) 1)=some (ι k)/\wx.cell? (π C.mb 11)=some (.slice (some (π BL 0)) p.vars.length Gi)/\wx.cell? (π C.mb 1)=some (.slice (some (π gb 0)) p.vars.length kw)/\wx.cell? (π gb (k*3+1))=some (ι (p.vars.getD k ⟨0,0,0⟩).lo)/\wx.cell? (π gb (k*3+2))=some (ι (p.vars.getD k ⟨0,0,0⟩).hi):=by
  intro wx f;have z1:=A4.m.aM.aB f (A4.sep.cu (by simp [Co.l]));have z2:=A4.m.prog.v.aB f (fun b hb=>A4.sep.ur (A4.m.prog.ro b (.inr (.inl (aK.2 hb)))));have z3:=z1.cell 11;have z4:=z1.cell 1;refine ⟨(q2.aB f (A4.sep.ur x2)).cell 0,(q3.aB f (A4.sep.ur x3)).cell 1,?_,?_,?_,?_⟩
  ·rw [<-ue,<-Ik];exact z3
  ·rw [<-ue,<-jZ];exact z4
  ·rw [jZ] at z2;exact (V9 z2 Tc).1
  ·rw [jZ] at z2;exact (V9 z2 Tc).2
 have Li:(r.note (.var k (s.vars k))).stack=n::rest:=kV.o;have tZ:=BK (A4.drewN 1) Li HL.o;rw [ue] at tZ;have HP:Hid (Calls prog 210 #[ρ C.mb] (w4.drewN 1) fun e w5=>e= .returned (ι n)/\(w5.cell? (π w.heap.size 0)=some (ρ C.mb)/\w5.cell? (π (w.heap.size+1) 1)=some (ι k)/\w5.cell? (π C.mb 11)=some (.slice (some (π BL 0)) p.vars.length Gi)/\w5.cell? (π C.mb 1)=some (.slice (some (π gb 0)) p.vars.length kw)/\w5.cell? (π gb (k*3+1))=some (ι (p.vars.getD k ⟨0,0,0⟩).lo)/\w5.cell? (π gb (k*3+2))=some (ι (p.vars.getD k ⟨0,0,0⟩).hi))/\
  ((w5.setCell (π BL k) (ι (within n (p.vars.getD k ⟨0,0,0⟩).lo (p.vars.getD k ⟨0,0,0⟩).hi))).cell? (π w.heap.size 0)=some (ρ C.mb)/\(w5.setCell (π BL k) (ι (within n (p.vars.getD k ⟨0,0,0⟩).lo (p.vars.getD k ⟨0,0,0⟩).hi))).cell? (π (w.heap.size+1) 1)=some (ι k)/\(w5.setCell (π BL k) (ι (within n (p.vars.getD k ⟨0,0,0⟩).lo (p.vars.getD k ⟨0,0,0⟩).hi))).cell? (π C.mb 11)=some (.slice (some (π BL 0)) p.vars.length Gi)/\(w5.setCell (π BL k) (ι (within n (p.vars.getD k ⟨0,0,0⟩).lo (p.vars.getD k ⟨0,0,0⟩).hi))).cell? (π C.mb 1)=some (.slice (some (π gb 0)) p.vars.length kw)/\(w5.setCell (π BL k) (ι (within n (p.vars.getD k ⟨0,0,0⟩).lo (p.vars.getD k ⟨0,0,0⟩).hi))).cell? (π gb (k*3+1))=some (ι (p.vars.getD k ⟨0,0,0⟩).lo)/\(w5.setCell (π BL k) (ι (within n (p.vars.getD k ⟨0,0,0⟩).lo (p.vars.getD k ⟨0,0,0⟩).hi))).cell? (π gb (k*3+2))=some (ι (p.vars.getD k ⟨0,0,0⟩).hi))/\w5.cell? (π BL k)=some (ι (s.vars k))/\(∀o,w5.frozen? (π BL o)=false)/\
  Hid (∃U5,U5.rb=U.rb/\cD w5 C4 U5 Lh K p c t used ε ζ s (r.note (.var k (s.vars k))).pop/\Kept Lh w4 w5)):=by
  refine ae (tZ.mono ?_);rintro e w5 ⟨rfl,U5,Jt,A5,f5⟩;have Dc:=fF w5 (da.trans ((da.refl _ w4).drewN 1) f5);obtain ⟨t1,t2,t3,t4,t5,t6⟩:=Dc;obtain ⟨vb5,vc5,e5,j5,l5⟩:=A5.mx.Pb Tc;rw [Ik] at e5;simp only [afH,Option.some.injEq,Addr.mk.injEq,and_true,true_and] at e5;obtain ⟨rfl,rfl⟩:=e5;refine ⟨rfl,⟨t1,t2,t3,t4,t5,t6⟩,⟨?_,?_,?_,?_,?_,?_⟩,j5,l5,ae ⟨U5,Jt.trans zB,A5,Kept.cE (da.trans ((da.refl _ w4).drewN 1) f5) (fun b hb=>A4.sep.ur hb) A4.sep.cY⟩⟩
  ·exact (fT (fun e=>y2 e.symm)).trans t1
  ·exact (fT (fun e=>y3 e.symm)).trans t2
  ·exact (fT (fun e=>ym e.symm)).trans t3
  ·exact (fT (fun e=>ym e.symm)).trans t4
  ·exact (fT (fun e=>yg e.symm)).trans t5
  ·exact (fT (fun e=>yg e.symm)).trans t6
 have xi:=ae fF;have h40:=fF w4 (da.refl _ _);have Lj:=ae Ik;have aap:=ae AI;have Td:=ae Js;have aaq:=ae ue;have aa6:=ae zB;clear fF tZ A4 AI q2 q3 aan aao jZ vM VA Li Js c2 HC Ik ue zB x2 x3;generalize iF:(p.vars.getD k ⟨0,0,0⟩).lo=lo at*;generalize hhi:(p.vars.getD k ⟨0,0,0⟩).hi=hi at*;have sL:=ae iF;have HHI:=ae hhi;clear iF hhi;go_wp2_with fail
 go_region_held3 (fun wx=>wx.cell? (π w.heap.size 0)=some (ρ C.mb)/\wx.cell? (π (w.heap.size+1) 1)=some (ι k)/\wx.cell? (π C.mb 11)=some (.slice (some (π BL 0)) p.vars.length Gi)/\wx.cell? (π C.mb 1)=some (.slice (some (π gb 0)) p.vars.length kw)/\wx.cell? (π gb (k*3+1))=some (ι lo)/\wx.cell? (π gb (k*3+2))=some (ι hi)) (first|exact h40|assumption) (first|(go_at_call 210;refine HP.o.mono ?_;rintro e w5 ⟨rfl,Dc,hS6,j5,l5,HA5⟩)|(go_at_call 216;refine (vN _ _ _ _).mono ?_;rintro e w' ⟨rfl,rfl⟩))
 obtain ⟨U5,Jt,A5,K5⟩:=HA5.o;have Lk:=ae K5;have HR5:=ae Jt;have HA:=ae A5;clear Dc hS6 j5 l5 h40 HP A5 K5 Jt;go_wp2;refine afI (afT rfl _ _ _) rfl ?_;obtain ⟨k1,k2⟩:=HA.o.mx.vars Lj.o Tc (within n lo hi);have A6:=HA.o.oh k1 k2;have hN:N i.a=k:=by unfold N;rw [HHK.o];rfl
 have hT:r.fO=n:=by unfold Rn.fO;rw [kV.o];rfl
 have e:zp p i (s,r)=({s with vars:=Vm.aL s.vars k (within n lo hi)},(r.note (.var k (s.vars k))).pop):=by unfold zp;rw [hN,<-hT,<-sL.o,<-HHI.o]
 rw [e];refine ⟨rfl,Lh,fun b hb=>Td.o b (by simp [hb]),⟨C4,U5,ε,ζ,aaq.o,HR5.o,A6⟩,?_⟩;exact ((Lg.o.trans aap.o (fun b hb=>by simp [hb])).trans Lk.o (fun b hb=>Td.o b (by simp [hb]))).trans (HA.o.kept k1) (fun b hb=>Td.o b (by simp [hb]))
theorem cD.fresh (h:cD w C U RO K p c t used hv jv s r) {b:Nat} (hb:w.heap.size<=b):b∉C.l/\b∉U.l/\b∉RO:=
 ⟨fun hc=>by have:=h.sep.lt b (by simp [hc]);omega,fun hc=>by have:=h.sep.lt b (by simp [hc]);omega,fun hc=>by have:=h.sep.cY b hc;omega⟩
theorem cD.zC (h:cD w C U RO K p c t used hv jv s r) {b:Nat} (f:da [b] w w') (hb:b∉C.l/\b∉U.l/\b∉RO):cD w' C U RO K p c t used hv jv s r:=
 ⟨h.m.aB f (fun x hx hc=>by simp at hc;subst hc;exact hb.1 hx) (fun x hx hc=>by simp at hc;subst hc;exact hb.2.2 hx),h.r.aB f (fun x hx hc=>by simp at hc;subst hc;exact hb.2.1 hx) (fun x hx hc=>by simp at hc;subst hc;exact hb.2.2 hx),h.sep.grow f.size⟩
theorem Ll (e:eW) (tag:Nat) (h:tag < 4):(aH e)[1+tag]? =some (ι (e.tg tag)):=by
 obtain rfl|rfl|rfl|rfl:tag=0\/tag=1\/tag=2\/tag=3:=omm
 all_goals rfl
theorem Pd (e:eW) (tag:Nat) (h:tag < 4) (v m:Int):(aH e).setIfInBounds (1+tag) (ι (within v 0 m))=aH (lY e tag v m):=by
 obtain rfl|rfl|rfl|rfl:tag=0\/tag=1\/tag=2\/tag=3:=omm
 all_goals rfl
theorem Mx.Pe (h:Mx w C RO K p c s t used rv) {i:Nat} (hi:i < p.aW.length):∃b cap,K.t= .slice (some (π b 0)) p.aW.length cap/\b∈RO/\w.cell? (π b i)=some (ι (p.aW.getD i 0)):=by obtain ⟨b,cap,fN,nO,lF,hb⟩:=h.m.prog.t.some omm;have h3:=h.m.prog.t;rw [fN] at h3;exact ⟨b,cap,fN,h.m.prog.ro b (.inr (.inr (.inl (aK.2 (by rw [fN];rfl))))),h3.cell (o:=i) omm⟩
theorem Lm (h:cD w C U RO K p c t used hv jv s r) {q n tag:Nat} (hq:q < p.ap.length) (hn:n∈s.a.ls q) (Ln:tag < p.aW.length) (η:p.aW.length<=4) (v:Int) (hj:r.bm.length < 1000000):
 Calls prog 217 #[ρ C.mb,ι n,ι tag,ι v] w (bX w C.mb U.rb RO K p c t used (.tuple #[]) (oB p (s,r) n tag v)):=by
 have h1:=h.box (.cells #[ρ C.mb] 35);have n2:=ay.new w 35 #[ρ C.mb];have m9:(w.alloc (.cells #[ρ C.mb] 35)).cell? (π C.mb 9)=some (ρ C.ab):=h1.mx.reads.1;have e2:(w.alloc (.cells #[ρ C.mb] 35)).cell? (π w.heap.size 0)=some (ρ C.mb):=n2.cell 0;have HG:=ae (dT.KH h1.m.ar hq hn);have HB:=ae ((afL w.heap.size w).alloc (afF _) (.cells #[ρ C.mb] 35));have dh:=ae h.sep.cY;have H1:=ae h1;have N2:=ae n2;have HN:=ae hn;have HJ:=ae hj;have HE:=ae (show oB p (s,r) n tag v=(kD s n (lY (s.a.val n) tag v (p.aW.getD tag 0)),r.note (.mark (s.a.val n))) from rfl);clear h h1 n2 hn hj;generalize hy:s.a.val n=y at*;have HY:=ae hy;clear hy;unfold bG at HG;go_enter func217,ntmps217;go_wp2_with fail;generalize w.alloc (.cells #[ρ C.mb] 35)=w1 at*;refine HG.o.mono ?_;rintro e w2 ⟨rfl,dn⟩;have h2:=H1.o.later dn;have f2:=da.ah (S:=[]) dn;have q2:=N2.o.aB f2 smm;have fr:=h2.fresh (afF _);have h4:=(h2.later (((afL w2.heap.size w2).alloc (afF _) (.cells (aH y) 118)).alloc smm (.cells (aH y) 118)));have BM:(w2.alloc (.cells (aH y) 118)).heap.size=w2.heap.size+1:=by simp
 have h5:=h4.add (x:=w2.heap.size+1) smm (h2.fresh (Nat.le_add_right _ _)).1 (h2.fresh (Nat.le_add_right _ _)).2.1;have b8:=(ay.new w2 118 (aH y)).alloc (.cells (aH y) 118);have b10:=ay.new (w2.alloc (.cells (aH y) 118)) 118 (aH y);rw [BM] at b10;have q2':=(q2.alloc (.cells (aH y) 118)).alloc (.cells (aH y) 118);have fg:=ae dn;have H5:=ae h5;have B8:=ae b8;have B10:=ae b10;have Q2:=ae q2';have FR:=ae fr;have Xt:=ae (Kept.ah (RO:=RO) (HB.o.trans (dn.mono HB.o.size)) dh.o);have Ju:=ae (Kept.ah (RO:=RO) (((afL w2.heap.size w2).alloc (afF _) (.cells (aH y) 118)).alloc smm (.cells (aH y) 118)) (fun b hb=>h2.sep.cY b (by simp [hb])));obtain ⟨tb,uf,htv,gB,VB⟩:=h5.mx.Pe Ln;generalize p.aW.getD tag 0=mo at*;have c0:=q2'.c1;have c2:((w2.alloc (.cells (aH y) 118)).alloc (.cells (aH y) 118)).cell? (π C.mb 2)=some K.t:=h5.m.aM.cell 2;rw [htv] at c2;have c8:((w2.alloc (.cells (aH y) 118)).alloc (.cells (aH y) 118)).cell? (π w2.heap.size (1+tag))=some (ι (y.tg tag)):=(b8.cell _).trans (Ll y tag omm);have f8:∀o,((w2.alloc (.cells (aH y) 118)).alloc (.cells (aH y) 118)).frozen? (π w2.heap.size o)=false:=b8.frozen;clear dn h2 f2 q2 fr h4 h5 b8 b10 q2' HG m9 htv BM gB;unfold aH at c0 c2 c8 f8 VB H5 B8 B10 Q2 Ju;go_wp2_with fail;generalize (w2.alloc (.cells #[.int .u64 y.key,ι (y.tg 0),ι (y.tg 1),ι (y.tg 2),ι (y.tg 3)] 118)).alloc (.cells #[.int .u64 y.key,ι (y.tg 0),ι (y.tg 1),ι (y.tg 2),ι (y.tg 3)] 118)=w4 at*;generalize qM:w2.heap.size=b8 at*;generalize dn:w.heap.size=b2 at*;refine (vN _ _ _ _).mono ?_;rintro e w' ⟨rfl,rfl⟩;go_wp2_with fail;have F5:da [b8] w4 (w4.setCell (π b8 (1+tag)) (ι (within v 0 mo))):=(da.refl _ _).setCell smm _;have h6:=H5.o.zC F5 ⟨FR.o.1,FR.o.2.1,fun hc=>by
  rcases List.mem_cons.1 hc with hc|hc
  ·omega
  ·exact FR.o.2.2 hc⟩
 have g8:=ay.set B8.o (1+tag) (ι (within v 0 mo));rw [show (#[.int .u64 y.key,ι (y.tg 0),ι (y.tg 1),ι (y.tg 2),ι (y.tg 3)]:Array Value).setIfInBounds (1+tag) (ι (within v 0 mo))=aH (lY y tag v mo) from Pd y tag omm v mo] at g8;have h28:b2≠b8:=fun e=>FR.o.2.2 (by simp [e]);have g10:=B10.o.aB F5 smm;have g2:=Q2.o.aB F5 (by simp;exact h28);have xj:=ae (Kept.cE (RO:=RO) F5 (fun b hb hc=>by simp at hc;subst hc;exact FR.o.2.2 (by simp [hb])) (fun b hb=>H5.o.sep.cY b (by simp [hb])));have H6:=ae h6;have G10:=ae g10;have G2:=ae g2;have G8:=ae g8;clear h6 g10 g2 g8 F5 c0 c2 c8 f8 VB B8 B10 Q2;generalize w4.setCell (π b8 (1+tag)) (ι (within v 0 mo))=w5 at*;generalize hz:lY y tag v mo=z at*;have G8':=G8.o;unfold aH at G8';obtain ⟨i0,i1,i2,i3,i4,-⟩:=jc G8';have d2:=G2.o.c1;have d9:w5.cell? (π C.mb 9)=some (ρ C.ab):=H6.o.mx.reads.1;have zD:=ae (dT.Q8 (H6.o.m.ar.drewN 1) hq HN.o z);have HZ:=ae hz;clear G8' G8 hz;unfold bG at zD
 go_still_tail 6,krr
 change wpList _ _ _ _ _ (w5.drewN 1);have H7:=ae (H6.o.drewN 1);have aar:=ae (G10.o.drewN 1);have G2':=ae (G2.o.drewN 1);have Lk:=ae (Kept.ah (RO:=RO) (au w5.heap.size w5 1) (fun b hb=>H6.o.sep.cY b (by simp [hb])));have Il:=ae (((Xt.o.trans Ju.o (fun b hb=>hb)).trans xj.o (fun b hb=>hb)).trans Lk.o (fun b hb=>hb));clear Lk Xt Ju xj i0 i1 i2 i3 i4 d2 d9 G10 G2 H6;generalize w5.drewN 1=w6 at*;go_wp2_with fail;refine zD.o.mono ?_;rintro e w7 ⟨rfl,f7,a7⟩;obtain ⟨k1,k2⟩:=H7.o.mx.set f7 a7;have h8:=H7.o.oh k1 k2;have x2:b2∈(b8+1)::b2::RO:=by simp
 have Ot:b8+1∈(b8+1)::b2::RO:=by simp
 have p2:=G2'.o.aB k1.f (H7.o.sep.cr x2);have θ:=aar.o.aB k1.f (H7.o.sep.cr Ot);have hu:fK w7 C.mb ((b8+1)::b2::RO) (.func (.func 269) #[] #[ρ b2,ρ (b8+1)]) (.mark y):=⟨_,_,rfl,p2,θ,x2,Ot⟩;have HC:=ae (rG h8 hu HJ.o);have NW:=ae (Il.o.trans (RO':=RO) ((H7.o.kept k1).less (fun b hb=>by simp [hb])) (fun b hb=>hb));have j2:=p2.c1;clear k1 k2 h8 hu p2 θ x2 Ot f7 a7 zD;go_wp2_with fail;refine HC.o.mono ?_;intro e w8 hd;have mT:=hd.pre (RO:=RO) NW.o (fun b hb=>by simp [hb]);obtain ⟨rfl,fB⟩:=mT;go_wp2;exact afI (afT rfl _ _ _) rfl ⟨rfl,by rw [HE.o];exact fB⟩
def Xu (w:World) (C:Co) (U:Ru) (RO:List Nat) (K:Kc) (p:aO) (c:Cp) (t:fI) (used:Int) (hv:Value) (s:St) (r:Rn) (e:Ending) (w':World):Prop:=
 e= .returned (.tuple #[])/\∃U' jx,U'.rb=U.rb/\cD w' C U' RO K p c t used hv jx s r/\da U.l w w'/\∀b,b∈U'.l->b∈U.l\/w.heap.size<=b
theorem vO (h:cD w C U RO K p c t used hv jv s r) {u:sm} {v:Value} (hu:fK w C.mb RO v u) (hl:r.bm.length < 1000000):
 Calls prog 214 #[ρ C.mb,v] w (Xu w C U RO K p c t used hv s (r.note u)):=by
 obtain ⟨i0,hi,gA,jF,r_⟩:=aga yl;have oC:=agS h.m.aM;have r2:w.cell? (π U.rb 7)=some U.i_:=h.r.c_.cell 7;have lm:=h.m.aM.lt;have lr:=h.r.c_.lt;have HD:=ae (h.drewN 1);have C3:=ae (show r.bm.length+1<=maxLen by unfold maxLen;omega);have C4:=ae (show (r.bm.length+1)*8<=140737488355328 by omega);obtain ⟨fn,gQ,rfl⟩:=hu.form;have HU:=ae hu;have H:=ae h;clear h hu;go_enter func214,ntmps214;go_wp2_with fail
 go_region_law ((refine ags _ rfl (.tmp 14) (.tmp 16) 124 rfl 0 1 i0 .nilFunc 1 8 underlying124 hi gA jF r_ rfl dee U.i_ _ _ (by simp [Act.eval,Act.put]) (HD.o.r.i_.alloc _) (π w.heap.size 0) 1 1 [.func fn #[] gQ] (by simp [Act.eval,Act.put]) rfl (gP.gr _ [.func fn #[] gQ] _ _ smm) (by simp [Value.oneCell']) dee C3.o C4.o smm _ rfl ?_;intro g cap w4 fo fe pG um;obtain ⟨qW,xf⟩:=If (w:=w) (n:=r.bm.length+1) (cap:=cap) ((au w.heap.size w 1).alloc (afF _) _) fe pG rfl;obtain ⟨c2,f2,Vx⟩:=H.o.V5 qW;have HO:=ae fo;have HF:=ae qW;have HS:=ae xf;clear fo fe pG um qW xf))
 all_goals
  go_wp2;refine afI (afT rfl _ _ _) rfl ?_;have bq:=kU (f':=fun i=>if i < r.bm.length then jv i else .func fn #[] gQ) HO.o (fun i hi=>afE hi) (abH omm);have F:da (U.rb::vb U.i_) w (w4.setCell (π U.rb 7) (.slice (some (π g 0)) (r.bm.length+1) cap)):=(HF.o.mono (by intro k hk;simp [hk])).setCell smm _;have mR:∀b,b∈RO->b∉U.rb::vb U.i_:=fun b hb=>by have:=H.o.sep.ur hb;simp [Ru.l] at this ⊢;simp [this]
  have A:=H.o.i_ HF.o (l:=u::r.bm) bq HS.o (RO':=RO) (fun i u' Eh=>by
   rw [List.reverse_cons] at Eh;by_cases hi:i < r.bm.length
   ·exact agP
   ·have AH:i=r.bm.length:=by have:=(List.getElem?_eq_some_iff.1 Eh).1;simp at this;omega
    subst AH;rw [agf smm] at Eh;simp at Eh;subst Eh;rw [abH omm];exact HU.o.aB F mR) (fun b hb=>hb) (fun b hb=> .inl hb)
  refine ⟨rfl,{U with i_:= .slice (some (π g 0)) (r.bm.length+1) cap},_,rfl,A,F.mono (by intro k hk;simp at hk;rcases hk with rfl|hk;simp [Ru.l];simp [Ru.l,hk]),fun b hb=>?_⟩;simp only [Ru.l,afV,af2] at hb ⊢;rcases hb with hb|((hb|hb)|hb)|hb
  ·exact .inl (.inl hb)
  ·exact .inl (.inr (.inl (.inl (.inl hb))))
  ·exact .inl (.inr (.inl (.inl (.inr hb))))
  ·exact .inl (.inr (.inl (.inr hb)))
  ·rcases HS.o b hb with hb|hb
   ·exact .inl (.inr (.inr hb))
   ·exact .inr hb
structure im (K:Kc) (p:aO) (c:Cp) (s:St):Prop where
 inv:Inv (aw p c) s
 gQ:sC p c
 nd:K.nd=bH (aw p c)
 BP:K.nd<=4194304
 g16:p.ap.length<=16
 t4:p.aW.length<=4
theorem im.total {K:Kc} {p:aO} {c:Cp} {s:St} (h:im K p c s): -1073741824<=s.total/\s.total<=1073741824:=by have:=Lp h.inv h.gQ;omega
theorem im.room {K:Kc} {p:aO} {c:Cp} {s:St} (h:im K p c s) {q:Nat} (hq:q < p.ap.length) (hl:(s.a.ls q).length < (aw p c).cq q) (ht:(aw p c).gh q=true\/s.total < (aw p c).sz):eS p s.a < K.nd:=by rw [h.nd];exact Pf h.inv hq hl ht
theorem Mx.cap (h:Mx w C RO K p c s t used rv) {q:Nat} (hq:q < c.aI.length):∃b cap,K.qs= .slice (some (π b 0)) c.aI.length cap/\b∈RO/\w.cell? (π b q)=some (ι (c.aI.getD q 0)):=by obtain ⟨b,cap,fN,nO,lF,hb⟩:=h.m.prog.qs.some omm;have h3:=h.m.prog.qs;rw [fN] at h3;exact ⟨b,cap,fN,h.m.prog.ro b (.inr (.inr (.inr (.inr (.inr (aK.2 (by rw [fN];rfl))))))),h3.cell (o:=q) omm⟩
def cQ (w:World) (C:Co) (q d:Nat) (x:eW):World:=
 (((w.alloc (.cells #[ρ C.mb] 35)).alloc (.cells #[ι q] 3)).alloc (.cells #[ι d] 3)).alloc (.cells (aH x) 118)
theorem cD.zE (h:cD w C U RO K p c t used hv jv s r) (q d:Nat) (x:eW):cD (cQ w C q d x) C U ((w.heap.size+3)::(w.heap.size+2)::(w.heap.size+1)::w.heap.size::RO) K p c t used hv jv s r/\
 ay (cQ w C q d x) w.heap.size 35 #[ρ C.mb]/\ay (cQ w C q d x) (w.heap.size+1) 3 #[ι q]/\ay (cQ w C q d x) (w.heap.size+2) 3 #[ι d]/\ay (cQ w C q d x) (w.heap.size+3) 118 (aH x)/\
 Below w.heap.size w (cQ w C q d x):=by
 unfold cQ;have h1:=h.box (.cells #[ρ C.mb] 35);have h2:=h1.box (.cells #[ι q] 3);have h3:=h2.box (.cells #[ι d] 3);have h4:=h3.box (.cells (aH x) 118);have s1:(w.alloc (.cells #[ρ C.mb] 35)).heap.size=w.heap.size+1:=by simp
 have s2:((w.alloc (.cells #[ρ C.mb] 35)).alloc (.cells #[ι q] 3)).heap.size=w.heap.size+2:=by simp
 have s3:(((w.alloc (.cells #[ρ C.mb] 35)).alloc (.cells #[ι q] 3)).alloc (.cells #[ι d] 3)).heap.size=w.heap.size+3:=by simp
 have n1:=ay.new w 35 #[ρ C.mb];have n2:=ay.new (w.alloc (.cells #[ρ C.mb] 35)) 3 #[ι q];have n3:=ay.new ((w.alloc (.cells #[ρ C.mb] 35)).alloc (.cells #[ι q] 3)) 3 #[ι d];have n4:=ay.new (((w.alloc (.cells #[ρ C.mb] 35)).alloc (.cells #[ι q] 3)).alloc (.cells #[ι d] 3)) 118 (aH x);rw [s1] at h2 h3 h4 n2;rw [s2] at h3 h4 n3;rw [s3] at h4 n4;exact ⟨h4,((n1.alloc _).alloc _).alloc _,(n2.alloc _).alloc _,n3.alloc _,n4,((((afL _ w).alloc (afF _) _).alloc smm _).alloc sso _).alloc sso _⟩
structure oD (w0 wr:World) (b:Nat) (T e:TypeId) (size k:Nat) (G:Nat->Value) (av:Value):Prop where
 c_:ay wr b T #[av]
 row:Row wr e size av k G
 own:∀x,av.ownBlock=some x->w0.heap.size<=x
 f:da [b] w0 wr
theorem oD.start {w0:World} {b:Nat} {T e:TypeId} {size:Nat} {G:Nat->Value} (h:ay w0 b T #[ν]):oD w0 w0 b T e size 0 G ν:=
 ⟨h,Row.nil _ _ _ _,fun x hx=>by simp [Value.ownBlock] at hx,da.refl _ _⟩
theorem oD.later {w0 wr w1:World} {b:Nat} {T e:TypeId} {size k:Nat} {G:Nat->Value} {av:Value} (h:oD w0 wr b T e size k G av) (B:Below wr.heap.size wr w1):oD w0 w1 b T e size k G av:=
 ⟨h.c_.aB (da.ah (S:=[]) B) smm,h.row.aB (da.ah (S:=[]) B) smm,h.own,h.f.trans (da.ah B)⟩
theorem oD.mid {w0 wr w1 w4:World} {b:Nat} {T e:TypeId} {size k:Nat} {G:Nat->Value} {av:Value} (h:oD w0 wr b T e size k G av) (hb:b < w0.heap.size) (B:Below wr.heap.size wr w1) (hg:w1.grownBy w4 av.ownBlock):ay w4 b T #[av]/\da [b] w0 w4:=by
 have h1:=h.later B;have bz:∀x,av.ownBlock=some x->x≠b:=fun x hx e=>by have:=h.own x hx;omega
 refine ⟨h1.c_.grown hg (fun e=>bz b e.symm rfl),⟨hg.os.trans h1.f.os,hg.tape.trans h1.f.tape,hg.output.trans h1.f.output,afM h1.f.size hg.size,fun i hi hs=>?_⟩⟩;rw [<-h1.f.block i hi hs];exact hg.block i (afQ hi h1.f.size) (fun e=>by have:=h.own i e.symm;omega)
theorem oD.step {w0 wr w1 w4:World} {b:Nat} {T e:TypeId} {size k m:Nat} {G:Nat->Value} {av:Value} (h:oD w0 wr b T e size k G av) (hb:b < w0.heap.size) (B:Below wr.heap.size wr w1) (hg:w1.grownBy w4 av.ownBlock)
 {g cap:Nat} {news:List Value} (fo:w4.ownsRow 0 e size (.slice (some (π g 0)) (k+m) cap) (k+m) (eE (k*size) G++news)) (pG:av.ownBlock=some g\/g=w1.heap.size) (oZ:news=(List.range (m*size)).map fun i=>G (k*size+i)):
 oD w0 (w4.setCell (π b 0) (.slice (some (π g 0)) (k+m) cap)) b T e size (k+m) G (.slice (some (π g 0)) (k+m) cap):=by
 obtain ⟨h1,h2⟩:=h.mid hb B hg;have uR:w0.heap.size<=g:=by
  rcases pG with pG|pG
  ·exact h.own g pG
  ·have:=B.size;have:=h.f.size;omega
 refine ⟨?_,?_,fun x hx=>?_,h2.setCell smm _⟩
 ·exact h1.set 0 _
 ·have h3:Row w4 e size (.slice (some (π g 0)) (k+m) cap) (k+m) G:=by unfold Row;rw [Nat.add_mul,pD,<-oZ];exact fo
  exact h3.other (fun e=>by simp [Value.ownBlock] at e;omega) _ _
 ·simp [Value.ownBlock] at hx;omega
theorem sM {P:Program} {f:FuncId} {args:Array Value} {w:World} {v:Value} {n:Nat} (h:Calls P f args (w.drewN n) fun e w'=>e= .returned v/\w.drewN n=w'):Calls P f args (w.drewN n) fun e w'=>e= .returned v/\∃m,w'=w.drewN m:=
 h.mono fun _ _ ⟨h1,h2⟩=>⟨h1,n,h2.symm⟩
theorem adl {p:Prop} (h:p:=by
 unfold cQ aH at*;unfold bG;generalize (s.a.ls q).length=ln at*;generalize c.aI.getD q 0=cqv at*;generalize p.ap.getD q false=gqv at*;go_enter func218,ntmps218;go_wp2_with fail;generalize (((w.alloc (.cells #[ρ C.mb] 35)).alloc (.cells #[ι q] 3)).alloc (.cells #[ι d] 3)).alloc (.cells #[.int .u64 x.key,ι (x.tg 0),ι (x.tg 1),ι (x.tg 2),ι (x.tg 3)] 118)=w4 at*;generalize eO:w.heap.size=bx at*;go_quiet ((go_at_call 204;exact sM (pY.o _)));have HK:=ae ((Kept.ah (RO:=RO) (by rw [eO];exact mU.o) (by rw [eO];exact dh.o)).trans (Kept.ah (au w4.heap.size w4 nq) (fun b hb=>H4.o.sep.cY b (by simp [hb]))) (fun b hb=>hb));have H5:=ae (H4.o.drewN nq);have oC:(w4.drewN nq).cell? (π C.mb 60)=some (ρ U.rb):=H5.o.m.aM.cell 60;have r6:(w4.drewN nq).cell? (π U.rb 6)=some (ι r.br):=H5.o.r.c_.cell 6;have rf:∀o,(w4.drewN nq).frozen? (π U.rb o)=false:=H5.o.r.c_.frozen;have i1:(w4.drewN nq).cell? (π bx 0)=some (ρ C.mb):=e1;have kY:=ae (Kept.cE (RO:=RO) (S:=U.l) ((da.refl _ (w4.drewN nq)).setCell (p:=(π U.rb 6)) (by simp [Ru.l]) (ι 1)) (fun b hb=>H5.o.sep.ur (by simp [hb])) (fun b hb=>H5.o.sep.cY b (by simp [hb])));clear e1 e2 e3 Pg Ph Pj Pk Pm m9 m12 m0 m7 m6 UC yq;generalize w4.drewN nq=w5 at*;go_wp2;go_ret;exact ⟨rfl,_,fun b hb=>by simp [hb],(H5.o.iu 6 (ι 1) (r':=r.dG 1) rfl rfl rfl rfl rfl rfl H5.o.r.gm).jy,HK.o.trans kY.o (fun b hb=>hb)⟩):p:=h
theorem Ir (h:cD w C U RO K p c t used hv jv s r) (E:im K p c s) {q d:Nat} (hq:q < p.ap.length) (he:d<=1) (x:eW) (BQ:((s.a.ls q).length:Int)=c.aI.getD q 0):
 Calls prog 218 #[ρ C.mb,ι q,ι d,bG x] w (bX w C.mb U.rb RO K p c t used (.bool false) (s,r.dG 1)):=by
 obtain ⟨h4,n1,n2,n3,n4,B4⟩:=h.zE q d x;have pY:=ae (fun k=>dT.uT (h4.m.ar.drewN k) hq);obtain ⟨m9,-,m12,m0,-⟩:=h4.mx.reads;obtain ⟨gb,kw,jZ,vM,UC⟩:=h4.mx.ap hq;have kO:q < c.aI.length:=by rw [E.gQ.len];exact hq
 obtain ⟨cb,zF,Dd,NY,yq⟩:=h4.mx.cap kO;have m7:(cQ w C q d x).cell? (π C.mb 7)=some K.qs:=h4.m.aM.cell 7;have m6:(cQ w C q d x).cell? (π C.mb 6)=some (ι c.size):=h4.m.aM.cell 6;have e1:=n1.c1;have e2:=n2.c1;have e3:=n3.c1;have zG:=n4;unfold aH at zG;rw [show w.heap.size+3=w.heap.size+1+1+1 from rfl] at h4 n4 zG;rw [show w.heap.size+2=w.heap.size+1+1 from rfl] at h4 n3;obtain ⟨Pg,Ph,Pj,Pk,Pm,-⟩:=jc zG;rw [jZ] at m0;rw [Dd] at m7;have g1:(((s.a.ls q).length:Int)==c.aI.getD q 0)=true:=by simpa using BQ
 have dh:=ae h.sep.cY;have mU:=ae B4;have H4:=ae h4;have N1:=ae n1;have N2:=ae n2;have N3:=ae n3;have N4:=ae n4;have HE:=ae E;clear h h4 n1 n2 n3 n4 zG B4 E jZ Dd vM NY BQ;exact adl
theorem Is (h:cD w C U RO K p c t used hv jv s r) (E:im K p c s) {q d:Nat} (hq:q < p.ap.length) (he:d<=1) (x:eW) (bz:((s.a.ls q).length:Int)≠c.aI.getD q 0) (hg:p.ap.getD q false=false) (ht:s.total=c.size):
 Calls prog 218 #[ρ C.mb,ι q,ι d,bG x] w (bX w C.mb U.rb RO K p c t used (.bool false) (s,r.dG 1)):=by
 obtain ⟨h4,n1,n2,n3,n4,B4⟩:=h.zE q d x;have pY:=ae (fun k=>dT.uT (h4.m.ar.drewN k) hq);obtain ⟨m9,-,m12,m0,-⟩:=h4.mx.reads;obtain ⟨gb,kw,jZ,vM,UC⟩:=h4.mx.ap hq;have kO:q < c.aI.length:=by rw [E.gQ.len];exact hq
 obtain ⟨cb,zF,Dd,NY,yq⟩:=h4.mx.cap kO;have m7:(cQ w C q d x).cell? (π C.mb 7)=some K.qs:=h4.m.aM.cell 7;have m6:(cQ w C q d x).cell? (π C.mb 6)=some (ι c.size):=h4.m.aM.cell 6;have e1:=n1.c1;have e2:=n2.c1;have e3:=n3.c1;have zG:=n4;unfold aH at zG;rw [show w.heap.size+3=w.heap.size+1+1+1 from rfl] at h4 n4 zG;rw [show w.heap.size+2=w.heap.size+1+1 from rfl] at h4 n3;obtain ⟨Pg,Ph,Pj,Pk,Pm,-⟩:=jc zG;rw [jZ] at m0;rw [Dd] at m7;have g1:(((s.a.ls q).length:Int)==c.aI.getD q 0)=false:=by simpa using bz
 have g2:(s.total==c.size)=true:=by simpa using ht
 rw [hg] at UC;have dh:=ae h.sep.cY;have mU:=ae B4;have H4:=ae h4;have N1:=ae n1;have N2:=ae n2;have N3:=ae n3;have N4:=ae n4;have HE:=ae E;clear h h4 n1 n2 n3 n4 zG B4 E jZ Dd vM NY bz hg ht;exact adl
theorem adm {p:Prop} (h:p:=by
 unfold cQ aH at*;unfold bG;generalize (s.a.ls q).length=ln at*;generalize c.aI.getD q 0=cqv at*;generalize p.ap.getD q false=gqv at*;go_enter func218,ntmps218;go_wp2_with fail;generalize (((w.alloc (.cells #[ρ C.mb] 35)).alloc (.cells #[ι q] 3)).alloc (.cells #[ι d] 3)).alloc (.cells #[.int .u64 x.key,ι (x.tg 0),ι (x.tg 1),ι (x.tg 2),ι (x.tg 3)] 118)=w4 at*;generalize eO:w.heap.size=bx at*;go_quiet ((go_at_call 204;exact sM (pY.o _)));have HK:=ae ((Kept.ah (RO:=RO) (by rw [eO];exact mU.o) (by rw [eO];exact dh.o)).trans (Kept.ah (au w4.heap.size w4 nq) (fun b hb=>H4.o.sep.cY b (by simp [hb]))) (fun b hb=>hb));have H5:=ae (H4.o.drewN nq);have i1:(w4.drewN nq).cell? (π bx 0)=some (ρ C.mb):=e1;have i2:(w4.drewN nq).cell? (π (bx+1) 0)=some (ι q):=e2;have i3:(w4.drewN nq).cell? (π (bx+1+1) 0)=some (ι d):=e3;have i40:(w4.drewN nq).cell? (π (bx+1+1+1) 0)=some (.int .u64 x.key):=Pg;have i41:(w4.drewN nq).cell? (π (bx+1+1+1) 1)=some (ι (x.tg 0)):=Ph;have i42:(w4.drewN nq).cell? (π (bx+1+1+1) 2)=some (ι (x.tg 1)):=Pj;have i43:(w4.drewN nq).cell? (π (bx+1+1+1) 3)=some (ι (x.tg 2)):=Pk;have i44:(w4.drewN nq).cell? (π (bx+1+1+1) 4)=some (ι (x.tg 3)):=Pm;have pa:=HE.o.g16;have HP:=ae (Gg H5.o.mx HE.o.BP omm hq he x HX.o Lq.o HE.o.total);have M1:=ae (N1.o.drewN nq);have M2:=ae (N2.o.drewN nq);have M3:=ae (N3.o.drewN nq);unfold bG at HP;clear e1 e2 e3 Pg Ph Pj Pk Pm m9 m12 m0 m7 m6 UC yq N1 N2 N3 N4 pa;generalize w4.drewN nq=w5 at*;go_wp2_with fail;refine HP.o.mono ?_;rintro e w6 ⟨rfl,C6,k1,k2⟩;have h6:=H5.o.oh k1 k2;have x1:bx∈(bx+1+1+1)::(bx+1+1)::(bx+1)::bx::RO:=by simp
 have x2:bx+1∈(bx+1+1+1)::(bx+1+1)::(bx+1)::bx::RO:=by simp
 have x3:bx+1+1∈(bx+1+1+1)::(bx+1+1)::(bx+1)::bx::RO:=by simp
 have p1:=M1.o.aB k1.f (H5.o.sep.cr x1);have p2:=M2.o.aB k1.f (H5.o.sep.cr x2);have p3:=M3.o.aB k1.f (H5.o.sep.cr x3);have kX:=k1.mb;have hu:fK w6 C6.mb ((bx+1+1+1)::(bx+1+1)::(bx+1)::bx::RO) (.func (.func 271) #[] #[ρ bx,ρ (bx+1),ρ (bx+1+1)]) (.cut q d):=by rw [kX];exact ⟨_,_,_,rfl,p1,p2,p3,x1,x2,x3⟩
 have hc:=rG h6 hu HJ.o;rw [kX] at hc;have HC:=ae hc;have NW:=ae (HK.o.trans (RO':=RO) ((H5.o.kept k1).less (fun b hb=>by simp [hb])) (fun b hb=>hb));have j1:=p1.c1;clear k1 k2 h6 hu p1 p2 p3 x1 x2 x3 HP kX hc i1 i2 i3 i40 i41 i42 i43 i44;go_wp2_with fail;refine HC.o.mono ?_;intro e w8 hd;have mT:=hd.pre (RO:=RO) NW.o (fun b hb=>by simp [hb]);obtain ⟨rfl,RO',ho,dK,hk⟩:=mT;have iM:=ae dK;have uu:=ae hk;have HO:=ae ho;clear hd dK hk ho HC;go_wp2;go_ret;exact ⟨rfl,RO',HO.o,iM.o,uu.o⟩):p:=h
theorem Pn (h:cD w C U RO K p c t used hv jv s r) (E:im K p c s) {q d:Nat} (hq:q < p.ap.length) (he:d<=1) (x:eW) (bz:((s.a.ls q).length:Int)≠c.aI.getD q 0) (hg:p.ap.getD q false=true) (hx:s.f x.key=none) (wI:eS p s.a < K.nd) (hj:r.bm.length < 1000000):
 Calls prog 218 #[ρ C.mb,ι q,ι d,bG x] w (bX w C.mb U.rb RO K p c t used (.bool true) (ja (aw p c) s q d x,r.note (.cut q d))):=by
 obtain ⟨h4,n1,n2,n3,n4,B4⟩:=h.zE q d x;have pY:=ae (fun k=>dT.uT (h4.m.ar.drewN k) hq);obtain ⟨m9,-,m12,m0,-⟩:=h4.mx.reads;obtain ⟨gb,kw,jZ,vM,UC⟩:=h4.mx.ap hq;have kO:q < c.aI.length:=by rw [E.gQ.len];exact hq
 obtain ⟨cb,zF,Dd,NY,yq⟩:=h4.mx.cap kO;have m7:(cQ w C q d x).cell? (π C.mb 7)=some K.qs:=h4.m.aM.cell 7;have m6:(cQ w C q d x).cell? (π C.mb 6)=some (ι c.size):=h4.m.aM.cell 6;have e1:=n1.c1;have e2:=n2.c1;have e3:=n3.c1;have zG:=n4;unfold aH at zG;rw [show w.heap.size+3=w.heap.size+1+1+1 from rfl] at h4 n4 zG;rw [show w.heap.size+2=w.heap.size+1+1 from rfl] at h4 n3;obtain ⟨Pg,Ph,Pj,Pk,Pm,-⟩:=jc zG;rw [jZ] at m0;rw [Dd] at m7;have g1:(((s.a.ls q).length:Int)==c.aI.getD q 0)=false:=by simpa using bz
 rw [hg] at UC;have dh:=ae h.sep.cY;have mU:=ae B4;have H4:=ae h4;have N1:=ae n1;have N2:=ae n2;have N3:=ae n3;have N4:=ae n4;have HE:=ae E;have HX:=ae hx;have Lq:=ae wI;have HJ:=ae hj;clear h h4 n1 n2 n3 n4 zG B4 E jZ Dd vM NY bz hg hx wI hj;exact adm
theorem Po (h:cD w C U RO K p c t used hv jv s r) (E:im K p c s) {q d:Nat} (hq:q < p.ap.length) (he:d<=1) (x:eW) (bz:((s.a.ls q).length:Int)≠c.aI.getD q 0) (hg:p.ap.getD q false=false) (ht:s.total≠c.size) (hx:s.f x.key=none) (wI:eS p s.a < K.nd) (hj:r.bm.length < 1000000):
 Calls prog 218 #[ρ C.mb,ι q,ι d,bG x] w (bX w C.mb U.rb RO K p c t used (.bool true) (ja (aw p c) s q d x,r.note (.cut q d))):=by
 obtain ⟨h4,n1,n2,n3,n4,B4⟩:=h.zE q d x;have pY:=ae (fun k=>dT.uT (h4.m.ar.drewN k) hq);obtain ⟨m9,-,m12,m0,-⟩:=h4.mx.reads;obtain ⟨gb,kw,jZ,vM,UC⟩:=h4.mx.ap hq;have kO:q < c.aI.length:=by rw [E.gQ.len];exact hq
 obtain ⟨cb,zF,Dd,NY,yq⟩:=h4.mx.cap kO;have m7:(cQ w C q d x).cell? (π C.mb 7)=some K.qs:=h4.m.aM.cell 7;have m6:(cQ w C q d x).cell? (π C.mb 6)=some (ι c.size):=h4.m.aM.cell 6;have e1:=n1.c1;have e2:=n2.c1;have e3:=n3.c1;have zG:=n4;unfold aH at zG;rw [show w.heap.size+3=w.heap.size+1+1+1 from rfl] at h4 n4 zG;rw [show w.heap.size+2=w.heap.size+1+1 from rfl] at h4 n3;obtain ⟨Pg,Ph,Pj,Pk,Pm,-⟩:=jc zG;rw [jZ] at m0;rw [Dd] at m7;have g1:(((s.a.ls q).length:Int)==c.aI.getD q 0)=false:=by simpa using bz
 have g2:(s.total==c.size)=false:=by simpa using ht
 rw [hg] at UC;have dh:=ae h.sep.cY;have mU:=ae B4;have H4:=ae h4;have N1:=ae n1;have N2:=ae n2;have N3:=ae n3;have N4:=ae n4;have HE:=ae E;have HX:=ae hx;have Lq:=ae wI;have HJ:=ae hj;clear h h4 n1 n2 n3 n4 zG B4 E jZ Dd vM NY bz hg ht hx wI hj;exact adm
end
end Go.Proofs.YtblkblclmbhjiaaGreat.Ma
