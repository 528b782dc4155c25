/- Of the proof that VmKeeps holds: a key keeps its node, what traps leaves no trace. No condition. -/
import Derived.Test.YtblkblclmbhjiaaGreatL21
set_option linter.unusedVariables false
set_option linter.unusedSimpArgs false
set_option maxHeartbeats 40000000
set_option maxRecDepth 100000
namespace Go.Proofs.YtblkblclmbhjiaaGreat.Ma
open Go.RowKit ak.Vm Go.Shelf
open ak hiding aL an aj
open dT (bP bG d_ DS uY FZ rowsOf)
open Ix (cL mE)
open gP (w_ dJ zc)
attribute [local go_sem] Oper.semAt_some
def jW (s:St) (q n:Nat):Bool:=(List.range q).any fun i=>(s.a.ls i).contains n
theorem E7 (s:St) (q n:Nat):jW s (q+1) n=(jW s q n||(s.a.ls q).contains n):=by unfold jW;rw [List.range_succ];simp
theorem wH {M:Nat}:∀(k:Nat) (f:Nat->Nat),(∀i,i < k->f i<=M)->cF k f<=k*M
 |0,_,_=>by simp [cF]
 |k+1,f,h=>by have h1:=wH k f (fun i hi=>h i (by omega));have h2:=h k (by omega);rw [cF,Nat.succ_mul];omega
theorem I3 (l:List Nat) (x n:Nat):(l++[x]).contains n=(l.contains n||n==x):=by rw [Bool.eq_iff_iff];simp
theorem lI.lower {w:World} {lo zR h1 h2 hi:Nat} {a b c d:Value} {L:PL} {lv:Nat->Value} (h:lI w lo h1 h2 hi a b c d L lv) (hh:zR<=lo):lI w zR h1 h2 hi a b c d L lv:=
 ⟨h.ls.mono hh (Nat.le_refl _),h.fr,h.ks,h.ns,Nat.le_trans hh h.le.1,h.le.2⟩
def kI (p:aO) (s:St) (nd k:Nat):List Nat:=(List.range k).filter fun n=> !(jW s p.ap.length n)
def ci (p:aO) (s:St) (nd:Nat) (L:List (Nat×Nat)):PL:=⟨(List.range p.ap.length).map s.a.ls,kI p s nd nd,L.map (·.1),fA (L.map (·.2))⟩
def rW (w:World) (p:aO) (s:St) (nd:Nat) (e:Ending) (w':World):Prop:=
 ∃L a b c d h1 h2 lv,mE s.f L/\e= .returned (.agg #[a,b,c,d])/\Below w.heap.size w w'/\lI w' w.heap.size h1 h2 w'.heap.size a b c d (ci p s nd L) lv
theorem I4:(Tryz.prog.info? 24).map (fun i=>(i.zero,i.size,i.bytes))=some (some ν,1,24):=by kernel_rfl
theorem sW:(Tryz.prog.info? 46).map (fun i=>(i.zero,i.size,i.bytes))=some (some (.int .u64 0),1,8):=by kernel_rfl
def FrL (w:World) (xb mb nq q:Nat) (Ds:List Nat) (a:Act):Prop:=∃J:Nat->Value,a={tmps:=#[ρ mb,J 1,ρ w.heap.size,ρ (w.heap.size+1),ρ xb,J 5,J 6,J 7,J 8,J 9,J 10,J 11,J 12,J 13,J 14,J 15,J 16,J 17,J 18,J 19,J 20,J 21,ι nq,ι q,J 24,J 25,J 26,J 27,J 28,J 29,J 30,J 31,J 32,J 33,J 34,J 35,J 36,J 37,J 38,J 39,J 40,J 41,J 42,J 43,J 44,J 45,J 46,J 47,J 48,J 49,J 50,J 51,J 52,J 53,J 54,J 55,J 56,J 57,J 58,J 59,J 60,J 61,J 62,J 63,J 64,J 65,J 66,J 67,J 68,J 69,J 70,J 71,J 72,J 73,J 74,J 75,J 76,J 77,J 78,J 79,J 80,J 81,J 82,J 83],defers:=Mk.marksOf Ds}
def FrM (w:World) (xb lb x:Nat) (a:Act):Prop:=∃J:Nat->Value,a={tmps:=#[J 0,J 1,ρ w.heap.size,ρ (w.heap.size+1),ρ xb,J 5,ρ lb,ι x,J 8,J 9,J 10,J 11,J 12,J 13,J 14,J 15,J 16,J 17,J 18,J 19,J 20,J 21,J 22,J 23,J 24,J 25,J 26,J 27,J 28,J 29,J 30,J 31,J 32,J 33,J 34,J 35,J 36,J 37,J 38,J 39,J 40,J 41,J 42,J 43,J 44,J 45,J 46,J 47,J 48,J 49,J 50,J 51,J 52,J 53,J 54,J 55,J 56,J 57,J 58,J 59,J 60,J 61,J 62,J 63,J 64,J 65,J 66,J 67,J 68,J 69,J 70,J 71,J 72,J 73,J 74,J 75,J 76,J 77,J 78,J 79,J 80,J 81,J 82,J 83],defers:=[]}
def FrN (w:World) (xb mb nd k:Nat) (Ds:List Nat) (a:Act):Prop:=∃J:Nat->Value,a={tmps:=#[ρ mb,J 1,ρ w.heap.size,ρ (w.heap.size+1),ρ xb,J 5,J 6,J 7,J 8,J 9,J 10,J 11,J 12,J 13,J 14,J 15,J 16,J 17,J 18,J 19,J 20,J 21,J 22,J 23,J 24,J 25,J 26,J 27,J 28,J 29,J 30,J 31,J 32,J 33,J 34,J 35,J 36,J 37,J 38,J 39,J 40,J 41,J 42,J 43,J 44,J 45,J 46,J 47,.slice (some (π (w.heap.size+2) 0)) nd nd,ι nd,ι k,J 51,J 52,J 53,J 54,J 55,J 56,J 57,J 58,J 59,J 60,J 61,J 62,J 63,J 64,J 65,J 66,J 67,J 68,J 69,J 70,J 71,J 72,J 73,J 74,J 75,J 76,J 77,J 78,J 79,J 80,J 81,J 82,J 83],defers:=Mk.marksOf Ds}
def FrO (w:World) (x:Nat) (y:Int) (a:Act):Prop:=∃J:Nat->Value,a={tmps:=#[J 0,J 1,ρ w.heap.size,ρ (w.heap.size+1),J 4,J 5,J 6,J 7,J 8,J 9,.int .u64 x,ι y,J 12,J 13,J 14,J 15,J 16,J 17,J 18,J 19,J 20,J 21,J 22,J 23,J 24,J 25,J 26,J 27,J 28,J 29,J 30,J 31,J 32,J 33,J 34,J 35,J 36,J 37,J 38,J 39,J 40,J 41,J 42,J 43,J 44,J 45,J 46,J 47,J 48,J 49,J 50,J 51,J 52,J 53,J 54,J 55,J 56,J 57,J 58,J 59,J 60,J 61,J 62,J 63,J 64,J 65,J 66,J 67,J 68,J 69,J 70,J 71,J 72,J 73,J 74,J 75,J 76,J 77,J 78,J 79,J 80,J 81,J 82,J 83],defers:=[]}
def Du (w:World) (c d:Value) (wx:World):Prop:=wx.cell? (π (w.heap.size+1) 2)=some c/\wx.cell? (π (w.heap.size+1) 3)=some d
theorem Du.aB {w W W':World} {c d:Value} (h:Du w c d W) {T:List Nat} (f:ax T W W') (h1:w.heap.size+1∉T):Du w c d W':=by obtain ⟨a1,a2⟩:=h;exact ⟨(World.cell?_of_block (f.block _ (aS a1) h1)).trans a1,(World.cell?_of_block (f.block _ (aS a2) h1)).trans a2⟩
theorem Du.alloc {w W:World} {c d:Value} (h:Du w c d W) (o:Obj):Du w c d (W.alloc o):=h.aB ((ax.refl [] W).alloc o) (by simp)
section
variable {w W W':World} {xb h1 h2 nd:Nat} {held:Nat->Bool} {a b c d:Value} {P:List (List Nat)} {fr ks:List Nat} {ns:List Int} {Ds:List Nat} {lv:Nat->Value}
theorem K3.up (h:K3 w xb W h1 h2 nd held a b dz dz P fr [] [] Ds lv):K3 w xb W h1 W.heap.size nd held a b dz dz P fr [] [] Ds lv:=
 ⟨h.k,⟨h.lay.ls,h.lay.fr.mono (Nat.le_refl _) h.lay.le.2.2,⟨Row.nil _ _ _ _,mN.nil _ _⟩,⟨Row.nil _ _ _ _,mN.nil _ _⟩,h.lay.le.1,Nat.le_trans h.lay.le.2.1 h.lay.le.2.2,Nat.le_refl _⟩⟩
theorem K3.lst (h:K3 w xb W h1 h2 nd held a b c d P fr ks ns Ds lv):Du w c d W:=⟨h.k.b3.cell 2,h.k.b3.cell 3⟩
structure Keyed (w:World) (xb:Nat) (W w1:World) (h1 h2 nd:Nat) (held:Nat->Bool) (a b c d v1:Value) (P:List (List Nat)) (fr ks:List Nat) (ns:List Int) (Ds:List Nat) (lv:Nat->Value) (key:Nat) (n:Int) (FB:List Nat) (B:Nat):Prop where
 at_:∀wy,Below w1.heap.size w1 wy->Du w c d wy/\Row wy 3 1 d ns.length (aU ns)
 fin:∀wy,Below w1.heap.size w1 wy->∀v2 w2,Row w2 3 1 v2 (ns.length+1) (gU (ns.length*1) (aU ns) fun _=> ι n)->ax d.ownBlock.toList wy w2->(v2.ownBlock=d.ownBlock\/v2.ownBlock=some wy.heap.size)->
  Du w c d w2/\(∀o,w2.frozen? (π (w.heap.size+1) o)=false)/\w.heap.size+1 < w2.heap.size/\
   KeepsFrom B W ((w2.setCell (π (w.heap.size+1) 2) v1).setCell (π (w.heap.size+1) 3) v2)/\w_ FB W ((w2.setCell (π (w.heap.size+1) 2) v1).setCell (π (w.heap.size+1) 3) v2)/\
   K3 w xb ((w2.setCell (π (w.heap.size+1) 2) v1).setCell (π (w.heap.size+1) 3) v2) h1 h2 nd held a b v1 v2 P fr (ks++[key]) (ns++[n]) Ds lv
theorem K3.keyed (h:K3 w xb W h1 h2 nd held a b c d P fr ks ns Ds lv) {V w1:World} (b1:Below W.heap.size W V) {v1:Value} {key:Nat} (n:Int) (r1:Row w1 46 1 v1 (ks.length+1) (gU (ks.length*1) (nK ks) fun _=> .int .u64 key)) (f1:ax c.ownBlock.toList V w1) (i1:v1.ownBlock=c.ownBlock\/v1.ownBlock=some V.heap.size)
 {FB:List Nat} (Zp:∀k,k∈FB->k < W.heap.size/\k < h2/\k≠w.heap.size+1) (B:Nat):Du w c d w1/\Keyed w xb W w1 h1 h2 nd held a b c d v1 P fr ks ns Ds lv key n FB B:=by
 have jK:=h.k.jK;obtain ⟨l1,l2,l3⟩:=h.lay.le;have F0:ax c.ownBlock.toList W V:=ax.ah b1;have F1:ax c.ownBlock.toList W w1:=F0.trans f1;have nc:w.heap.size+1∉c.ownBlock.toList:=fun hc=>by have:=h.lay.ks.jy _ (by simpa using hc);omega
 have nd':w.heap.size+1∉d.ownBlock.toList:=fun hc=>by have:=h.lay.ns.jy _ (by simpa using hc);omega
 have s1:=h.lst.aB F1 nc;have sy:∀wy,Below w1.heap.size w1 wy->Du w c d wy:=fun wy b2=>s1.aB (ax.ah (S:=[]) b2) (by simp);refine ⟨s1,fun wy b2=>⟨sy wy b2,h.Zo F1 b2⟩,fun wy b2 v2 w2 r2 f2 i2=>?_⟩;obtain ⟨p1,p2,p3,p4,p5,p6,p7⟩:=h.pair F1 r1 (fun k hk=>by
  rcases i1 with h'|h'
  ·exact .inl (by rw [<-h',hk])
  ·rw [hk] at h';simp at h';subst h';exact .inr F0.size) b2 f2 r2 i2
 refine ⟨⟨p2,p3⟩,p1,p4,yG p6 p7 B,fun k hk=>p6.block k (Zp k hk).1 (fun hc=>?_),p5⟩;obtain ⟨q1,q2,q3⟩:=Zp k hk;rcases List.mem_cons.1 hc with hc|hc
 ·exact q3 hc
 rcases List.mem_append.1 hc with hc|hc
 ·have:=h.lay.ks.jy k (by simpa using hc);omega
 ·have:=h.lay.ns.jy k (by simpa using hc);omega
end
def Zq (w:World) (xb mb nd:Nat) (p:aO) (s:St) (m:Nat) (a:Act) (W:World):Prop:=
 ∃(q:Nat) (Ds:List Nat) (av:Value) (lv:Nat->Value) (h1:Nat),q<=p.ap.length/\m+q=p.ap.length+1/\FrL w xb mb p.ap.length q Ds a/\Hid (K3 w xb W h1 h1 nd (jW s q) av dz dz dz ((List.range q).map s.a.ls) [] [] [] Ds lv)
def Zr (w:World) (xb mb nd:Nat) (p:aO) (s:St) (m:Nat) (a:Act) (W:World):Prop:=
 ∃(k:Nat) (Ds:List Nat) (av bv:Value) (lv:Nat->Value) (h1 h2:Nat),k<=nd/\m+k=nd+1/\FrN w xb mb nd k Ds a/\Hid (K3 w xb W h1 h2 nd (jW s p.ap.length) av bv dz dz ((List.range p.ap.length).map s.a.ls) (kI p s nd k) [] [] Ds lv)
section
variable {w w':World} {C C':Co} {RO RO':List Nat} {K:Kc} {p:aO} {c:Cp} {t t':fI} {used used':Int} {s s':St} {rv rv':Value}
theorem adX {p:Prop} (h:p:=by
 intro v2 w2 r2 f2 i2;obtain ⟨P8,P_,Qa,rfl⟩:=Row.qT r2;obtain ⟨Ck,ff,EM,fq,jd,iO⟩:=Il.o.fin w1 (Below.refl _ _) _ w2 r2 f2 i2;exact adW):p:=h
theorem abQ {p:Prop} (h:p:=by
 intro wz bR
 (try dsimp only at bR)
 exact gee):p:=h
theorem adW {p:Prop} (h:p:=by
 obtain ⟨e2,e3⟩:=id Ck;have GL:=ae fq;have tB:=ae jd;have DK:=ae iO;clear r2 f2 i2 fq jd iO;clear al;refine hK.out _ _ ⟨trivial,Ck⟩ (fun al=>?_);clear hK K;refine Mk.pt ?_;refine Gd.ready (rs:=[11]) (by kernel_rfl) (by simp) ?_;refine Gd.cU.last rfl (by kernel_rfl) (fun K hK=>?_) Gd.cU.nil;refine QX ?_;go_simp;refine hK.out _ _ trivial ?_;clear hK K;refine Mk.pt ?_;refine Gd.ready (rs:=[12]) (by kernel_rfl) (by simp) ?_;refine Gd.cU.last rfl (by kernel_rfl) (fun K hK=>?_) Gd.cU.nil;refine QX ?_;go_simp;refine hK.out _ _ trivial ?_;clear hK K;refine Mk.pt ?_;refine Gd.ready (rs:=[13]) (by kernel_rfl) (by simp) ?_;refine Gd.cU.last rfl (by kernel_rfl) (fun K hK=>?_) Gd.cU.nil;refine QX ?_;go_simp;refine hK.out _ _ trivial ?_;clear hK K;refine Mk.pt ?_;refine Gd.done (by kernel_rfl) ⟨rfl,?_⟩ _;clear e2 e3 ff EM Ck
 gi_wp2_with fail
 exact ⟨GL.o,tB.o,_,_,by rw [List.map_append,List.map_append,Vt.o,Vs.o];exact DK.o⟩):p:=h
theorem M8 (h:Mx w C RO K p c s t used rv) (tb:vj p) (gm:K.nd<=4194304):
 Calls Tryz.prog 19 #[ρ C.mb] w (rW w p s K.nd):=by
 have m8:w.cell? (π C.mb 8)=some (ι K.nd):=h.m.aM.cell 8;have lm:=h.m.aM.lt;have H:=ae h;have HT:=ae tb;have MQ:=tb.g;obtain ⟨ga,gn,gc,jZ⟩:=Row.qT h.m.prog.g;have um:gn=p.ap.length:=by
  rcases h.m.prog.g.val with ⟨h,h'⟩|⟨b,cap,h,-⟩
  ·rw [jZ] at h;simp at h;omega
  ·rw [jZ] at h;simp at h;omega
 obtain rfl:=um;have HGV:=ae jZ;have HN:=ae (show 1*K.nd<=281474976710656/\K.nd<=maxLen by unfold maxLen;omega);clear h tb jZ;generalize Zs:K.nd=nd at*;have Qg:=ae Zs;clear Zs;refine (callsIn_wide (n:=9)).1 ?_;refine callsIn_of_wp_marks Tryz.func19 rfl trivial ?_ rfl;simp only [Tryz.ntmps19,List.size_toArray,List.length_cons,List.length_nil,Nat.reduceAdd,Nat.reduceSub,Array.replicate_succ,Array.replicate_zero,List.push_toArray,List.append_toArray,List.nil_append,List.cons_append];refine wpIn_wide.2 ?_;go_wp2_with (refine kz rfl (.tmp 15) (.tmp 15) 22 rfl 4 Tryz.underlying22 Vf.vZ rfl .i64 .i64 _ _ nd rfl rfl rfl rfl HN.o.1 HN.o.2 ?_);intro w2 bq Qh;have dn:Below w.heap.size w w2:=(((Below.refl _ w).alloc (Nat.le_refl _) _).alloc (by simp) _).trans (Qh.mono (by omega));have kb2:ay w2 w.heap.size 52 #[dz,dz,dz,dz]:=((ay.new w _ _).alloc _).of (Qh.block _ (by omega));have kb3:ay w2 (w.heap.size+1) 52 #[dz,dz,dz,dz]:=by have:=ay.new (w.alloc (.cells #[dz,dz,dz,dz] 52)) 52 #[dz,dz,dz,dz];rw [aE] at this;exact this.of (Qh.block _ (by omega))
 have qP:w.heap.size+2 < w2.heap.size:=by have:=(World.ownsRow.lt bq (w.heap.size+1+1) rfl).2;omega
 have k3:K3 w w2.heap.size (w2.alloc (.cells #[.slice (some (π (w.heap.size+2) 0)) nd nd] 22)) (w2.heap.size+1) (w2.heap.size+1) nd (jW s 0) dz dz dz dz [] [] [] [] [] (fun _=>dz):=by refine ⟨⟨dn.alloc dn.size _,by simp,qP,kb2.alloc _,kb3.alloc _,(bq.alloc _).congr (fun o ho=>by simp [jW]),ay.new w2 _ _,Mk.Marks.nil _,by simp⟩,?_⟩;refine ⟨⟨Row.nil _ _ _ _,mN.nil _ _,fun q hq=>absurd hq (by simp),fun q q' hq=>absurd hq (by simp)⟩,⟨Row.nil _ _ _ _,mN.nil _ _⟩,⟨Row.nil _ _ _ _,mN.nil _ _⟩,⟨Row.nil _ _ _ _,mN.nil _ _⟩,Nat.le_refl _,Nat.le_refl _,by simp⟩
 have Dh:=ae k3;have m0:w2.cell? (π C.mb 0)=some (.slice ga p.ap.length gc):=by rw [<-HGV.o];exact (H.o.later dn).m.aM.cell 0
 have Y5:C.mb < w2.heap.size:=by omega
 clear bq Qh dn kb2 kb3 qP k3 m8;go_wp2_with fail;refine Mk.aP (Zq w w2.heap.size C.mb nd p s) (p.ap.length+1) ?start ?zero ?round
 case start=>exact ⟨0,[],_,_,_,Nat.zero_le _,by omega,pC rfl,Dh⟩
 case zero=>exact fun a W hh=>by obtain ⟨q,_,_,_,_,h1,h2,_⟩:=hh;omega
 clear Dh m0 Y5 HN;generalize w2.heap.size=xb;clear w2
 case round=>
  rintro m a W ⟨q,Ds,av,lv,h1,hq,hm,⟨J,rfl⟩,hk⟩;have MW:=H.o.later hk.o.k.zm;have Y5:C.mb < W.heap.size:=MW.m.aM.lt;have jK:=hk.o.k.jK;by_cases a8:q < p.ap.length
  ·have m9:W.cell? (π C.mb 9)=some (ρ C.ab):=MW.m.aM.cell 9;obtain ⟨wA,Zt⟩:∃wA,wA=W.alloc (.cells #[ν] 24):=⟨_,rfl⟩;have bA:Below W.heap.size W wA:=by rw [Zt];exact (Below.refl _ _).alloc (Nat.le_refl _) _
   have PR:=ae (MW.later bA);have TJ:=ae (hk.o.later bA);have kN:wA.heap.size=W.heap.size+1:=by rw [Zt];simp
   have kl:ay wA W.heap.size 24 #[ν]:=by rw [Zt];exact ay.new W _ _
   have HL:=ae (dT.WV PR.o.m.ar (by rw [Qg.o];exact gm) a8);have HKL:=ae kl;have iF:=hk.o.lay.le;have ze:=ae kN;clear MW bA kN kl;go_wp2_with fail;rw [<-Zt];clear Zt;refine HL.o.mono ?_;rintro e w6 ⟨rfl,Us,AR⟩;have Vo:W.heap.size+1=wA.heap.size:=ze.o.symm;have Zn:=hk.o.k.low;generalize W.heap.size=lb at*;have qi:=PR.o.m.ar.uV a8;have hlen:(rowsOf s.a (s.a.ls q)).length<=4194304:=by rw [dT.mJ];have:=qi.1;rw [Qg.o] at this;omega
   have dK:∀y,y∈rowsOf s.a (s.a.ls q)->y.1 < nd:=by intro y hy;unfold rowsOf at hy;obtain ⟨n,hn,rfl⟩:=List.mem_map.1 hy;obtain ⟨_,_,mm,-,g1,g2,-⟩:=PR.o.m.ar.node a8 hn;rw [Qg.o] at g2;exact Nat.lt_of_lt_of_le g1 g2
   have b6:=AR.zm;have Zu:wA.heap.size < w6.heap.size:=AR.box.lt;have HR6:=ae (FZ AR);have AG:∀k,k∈dJ Us->wA.heap.size<=k/\k < w6.heap.size:=by
    intro k hk;rcases AR.own.2 with ⟨rfl,_⟩|⟨g,cap,yQ,rfl,g1,g2,_⟩
    ·simp [dJ] at hk
    ·simp [dJ] at hk;subst hk;exact ⟨g1,(Array.getElem?_eq_some_iff.1 g2).1⟩
   have M_:(rowsOf s.a (s.a.ls q)).attach.map (fun y=>y.val)=rowsOf s.a (s.a.ls q):=List.attach_map_subtype_val _;have nT:(rowsOf s.a (s.a.ls q)).attach.map (fun y=>y.val.1)=s.a.ls q:=by
    have e1:(rowsOf s.a (s.a.ls q)).attach.map (fun y=>y.val.1)=((rowsOf s.a (s.a.ls q)).attach.map (fun y=>y.val)).map (·.1):=by rw [List.map_map];rfl
    rw [e1,M_];unfold rowsOf;rw [List.map_map];exact List.map_id _
   have Na:=ae (dT.CI (α:={y // y∈rowsOf s.a (s.a.ls q)}) (fun y=>y.val) Fence.wide 8 trivial rfl (by omega) wA.heap.size wA.heap.size Us (rowsOf s.a (s.a.ls q)).attach (by rw [List.length_attach];omega) w6 AR.box (by rw [M_];exact HR6.o) (fun k hk=>(AG k hk).2));have V8:=ae (TJ.o.later b6);have Ut:=ae (HKL.o.of (b6.block _ (by omega)));have HLS:=ae nT;have aa2:(rowsOf s.a (s.a.ls q)).attach.length<=4194304:=by rw [List.length_attach];exact hlen
   have iM:=ae dK;have M7:∀D,D∈Ds->D < w6.heap.size:=fun D hD=>V8.o.k.CM.lt hD;have Zv:=ae M7;clear nT M_ AR b6 HL TJ HKL PR HR6 qi dK M7 hlen;generalize (rowsOf s.a (s.a.ls q)).attach=L at*;go_wp2_with fail;refine (wpIn_wide (n:=9)).1 ?_;refine wpIn_rangeFunc_ownH (n:=9) (F:=Fence.wide) rfl (by omega) (gf:=136) (lb:=#[ρ wA.heap.size]) rfl trivial (enters_of Tryz.func136 (by kernel_rfl) rfl) Na.o w_.t
    (w_.b (by intro k hk;rcases List.mem_cons.1 hk with rfl|hk;exact Zu;exact (AG k hk).2)) (Below.refl _ _) (fun _=>rfl)
    (fun pre W=>∃nv,Hid (I1 w xb w6 W lb h1 nd (fun n=>jW s q n||(pre.map fun y=>y.val.1).contains n) av ((List.range q).map s.a.ls) Ds lv (pre.map fun y=>y.val.1) nv))
    (fun c pre W=>False) ?hI ?hIx ?h0 (fun x a' W=>FrM w xb lb x.val.1 a') (fun x a' _ W W' row hs hg hr=>hs) ?assign ?body ?done ?stop
   case hI=>exact fun pre W W' row ⟨nv,hh⟩ hg hr=>⟨nv,hh.o.grown Zv.o hg hr⟩
   case hIx=>exact fun c pre W W' row hh _ _=>hh
   case h0=>exact ⟨dz,⟨by have h6:=V8.o;exact ⟨h6.k.M6 (fun n _=>by simp),h6.lay⟩,Ut.o,⟨Row.nil _ _ _ _,mN.nil _ _⟩,by omega,by omega,by omega,Nat.le_refl _⟩⟩
   case assign=>
    rintro l pre x W K ⟨nv,mX⟩ hK
    gi_wp2
    exact hK _ _ (KeepsFrom.refl _ _) (fun _ _=>rfl) ⟨nv,mX⟩ (pC rfl)
   case stop=>exact fun D c pre W _ _ hh _=>absurd hh (by simp)
   case body=>
    rintro l pre ⟨x,hx⟩ a' W hl hr ⟨nv,mX⟩ ⟨J2,rfl⟩ qP;dsimp only;have hxn:=iM.o x hx;generalize Wi:x.1=xn at*;have HXE:=ae Wi;clear Wi;have c6:=mX.o.bx.c1;have l6:=mX.o.bx.lt;have bB:Below W.heap.size W (W.alloc (.cells #[ι xn] 3)):=(Below.refl _ _).alloc (Nat.le_refl _) _;have hpl:(pre.map (fun y=>y.val.1)).length < L.length:=by rw [List.length_map];exact qP
    generalize NG:pre.map (fun y=>y.val.1)=lp at*;have HPE:=ae NG;have p_:=ae (show Row (W.alloc (.cells #[ι xn] 3)) 3 1 nv lp.length (aU (fA lp)) by have:=mX.o.ns.row.aB (ax.ah (S:=[]) bB) (by simp);rw [mF] at this;exact this);have oH:=ae (show lp.length+1<=maxLen/\(lp.length+1)*8<=140737488355328 by unfold maxLen;omega);have yO:=fun v' w3 r3 f3 i3=>mX.o.next (w1:=W.alloc (.cells #[ι xn] 3)) (w3:=w3) (v':=v') (x:=xn) bB f3 hxn r3 i3;have Jo:=ae yO;have hKB:∀k,k∈wA.heap.size::dJ Us->k < W.heap.size/\k≠lb/\k≠w.heap.size+2/\nv.ownBlock≠some k:=by
     intro k hk;have z:=mX.o.sz;have jd:wA.heap.size<=k/\k < w6.heap.size:=by
      rcases List.mem_cons.1 hk with rfl|hk
      ·exact ⟨Nat.le_refl _,Zu⟩
      ·exact AG k hk
     exact ⟨by omega,by omega,by omega,fun e=>by have:=mX.o.ns.jy k e;omega⟩
    have Ju:=ae hKB;clear NG yO hKB bB mX qP
    gi_wp2_with (gi_at_builtin;refine qb rfl _ _ 24 rfl 3 Tryz.underlying24 Vf.b_ rfl (by decide) nv lp.length (aU (fA lp)) rfl p_.o (π W.heap.size 0) 1 1 (fun _=> ι xn) rfl ?zT ?ED ?EE ?ID ?_)
    case zT=>
     intro j hj;obtain rfl:j=0:=by omega
     exact (ay.new W 3 #[ι xn]).cell 0
    case ED=>exact fun j _=>rfl
    case EE=>exact oH.o.1
    case ID=>exact oH.o.2
    intro v' w3 r3 f3 i3;obtain ⟨va3,vn3,vc3,rfl⟩:=Row.qT r3;obtain ⟨n1,n2,n3,n4,n5,n6,n7,n8⟩:=Jo.o _ w3 (by rw [Nat.mul_one];exact r3) f3 (by rw [aE];exact i3);have N1:=ae n1;have N2:=ae n2;have N3:=ae n3;have nne:lb≠w.heap.size+2:=by omega
    have abn:lb≠xb:=by omega
    clear r3 f3 i3 n1 n2 n3 c6 l6
    gi_wp2_with fail
    refine ⟨yG N2.o N3.o _,fun k hk=>N2.o.block k (Ju.o k hk).1 (fun hc=>?_),.slice va3 vn3 vc3,?_⟩
    ·obtain ⟨-,g2,g3,g4⟩:=Ju.o k hk;simp only [List.mem_cons,Option.mem_toList] at hc;rcases hc with hc|hc|hc
     ·exact g2 hc
     ·exact g3 hc
     ·exact g4 hc
    ·have h9:=N1.o;rw [List.map_append,HPE.o,List.map_cons,List.map_nil,HXE.o];exact ⟨⟨h9.k.k.M6 (fun n _=>by rw [I3,Bool.or_assoc]),h9.k.lay⟩,h9.bx,h9.ns,h9.sz⟩
   case done=>
    rintro D ys W hD rfl ⟨nv,mX⟩ Zw;rw [HLS.o] at mX;have r0:=mX.o.k.k.b3.c1;have r1:=mX.o.bx.c1;have l3:=mX.o.k.k.b3.lt;have l4:=mX.o.bx.lt;have lsl:w.heap.size+1≠lb:=by omega
    have bB:Below W.heap.size W (W.alloc (.cells #[nv] 24)):=(Below.refl _ _).alloc (Nat.le_refl _) _;have bq:=mX.o.k.lay.ls.row.aB (ax.ah (S:=[]) bB) (fun _ _=>by simp);have Uu:((List.range q).map s.a.ls).length=q:=by simp
    dsimp only at bq;rw [Uu] at bq;have p_:=ae bq;obtain ⟨ea,en,ec,rfl⟩:=Row.qT mX.o.ns.row;have SM:=ae (show q+1<=maxLen/\(q+1)*24<=140737488355328 by unfold maxLen;omega);have IT:=fun v' w3 r3 f3 i3=>mX.o.list (w1:=W.alloc (.cells #[.slice ea en ec] 24)) (w3:=w3) (v':=v') bB f3 r3 i3 Zw hD Zv.o;rw [Uu] at IT;have DK:=ae IT;clear mX bq bB IT Uu Zw Na HLS;go_wp2_with (at_builtin;refine cz rfl _ _ 50 rfl 24 Tryz.underlying50 I4 rfl (by decide) av q lv rfl p_.o (π W.heap.size 0) 1 1 (fun _=> .slice ea en ec) rfl ?zT ?ED ?EE ?ID ?_)
    case zT=>
     intro j hj;obtain rfl:j=0:=by omega
     exact (ay.new W 24 #[.slice ea en ec]).cell 0
    case ED=>exact fun j _=>rfl
    case EE=>exact SM.o.1
    case ID=>exact SM.o.2
    intro v' w3 r3 f3 i3;obtain ⟨va3,vn3,vc3,rfl⟩:=Row.qT r3;obtain ⟨g1,g2,g3,lv',g4⟩:=DK.o _ w3 (by rw [Nat.mul_one];exact r3) f3 (by rw [aE];exact i3);have HG:=ae g4;clear r3 f3 i3 g4;go_wp2_with fail;refine ⟨q+1,D::Ds,.slice va3 vn3 vc3,lv',w3.heap.size,by omega,by omega,pC rfl,ae ?_⟩;have h9:=HG.o;rw [List.range_succ,List.map_append];exact ⟨h9.k.M6 (fun n _=>(E7 s q n).symm),h9.lay⟩
  ·obtain rfl:q=p.ap.length:=by omega
   have x0:=hk.o.k.hx.c1;have lx:=hk.o.k.hx.lt;clear MW;go_wp2_with fail;have K0':Hid (K3 w xb W h1 h1 nd (jW s p.ap.length) av dz dz dz ((List.range p.ap.length).map s.a.ls) (kI p s nd 0) [] [] Ds lv):=hk;refine Mk.aP (Zr w xb C.mb nd p s) (nd+1) ?wa ?Cg ?wb
   case wa=>exact ⟨0,Ds,_,_,lv,_,_,Nat.zero_le _,by omega,pC rfl,K0'⟩
   case Cg=>exact fun a W hh=>by obtain ⟨q,_,_,_,_,_,_,h1,h2,_⟩:=hh;omega
   clear K0' x0 lx hk Y5
   case wb=>
    rintro m2 a2 W2 ⟨k,R8,av2,bv,VJ,g1,g2,fq,jd,⟨J2,rfl⟩,tX⟩;have x1:W2.cell? (π (w.heap.size+2) k)=some (.bool (jW s p.ap.length k))\/¬k < nd:=by
     by_cases h:k < nd
     ·exact .inl (tX.o.k.hr.cell (o:=k) (by omega))
     ·exact .inr h
    by_cases qP:k < nd
    ·have x2:W2.cell? (π (w.heap.size+2) k)=some (.bool (jW s p.ap.length k)):=by
      rcases x1 with h|h
      ·exact h
      ·exact absurd qP h
     have CZ:kI p s nd (k+1)=if jW s p.ap.length k=true then kI p s nd k else kI p s nd k++[k]:=by unfold kI;rw [List.range_succ,List.filter_append];cases hh:jW s p.ap.length k<;>simp [hh]
     clear x1;cases hh:jW s p.ap.length k with
     |true=>rw [hh] at x2 CZ;rw [if_pos rfl] at CZ;have Uv:=ae CZ;have uu:=ae (show K3 w xb W2 g1 g2 nd (jW s p.ap.length) av2 bv dz dz ((List.range p.ap.length).map s.a.ls) (kI p s nd (k+1)) [] [] R8 VJ by rw [CZ];exact tX.o);clear hh CZ tX;go_wp2_with fail;exact ⟨k+1,R8,_,_,VJ,g1,g2,by omega,by omega,pC rfl,uu⟩
     |false=>
      rw [hh] at x2 CZ;rw [if_neg (by decide)] at CZ;have Uv:=ae CZ;have HHH:=ae hh;have r1:W2.cell? (π (w.heap.size+1) 1)=some bv:=tX.o.k.b3.cell 1;have l3:=tX.o.k.b3.lt;have bB:Below W2.heap.size W2 (W2.alloc (.cells #[ι k] 3)):=(Below.refl _ _).alloc (Nat.le_refl _) _;have hfl:(kI p s nd k).length<=k:=by unfold kI;exact Nat.le_trans (List.length_filter_le _ _) (by simp)
      have p_:=ae (show Row (W2.alloc (.cells #[ι k] 3)) 3 1 bv (kI p s nd k).length (aU (fA (kI p s nd k))) by have:=tX.o.lay.fr.row.aB (ax.ah (S:=[]) bB) (fun _ _=>by simp);rw [mF] at this;exact this);have oH:=ae (show (kI p s nd k).length+1<=maxLen/\((kI p s nd k).length+1)*8<=140737488355328 by unfold maxLen;omega);have yO:=fun v' w3 r3 f3 i3=>tX.o.free (w1:=W2.alloc (.cells #[ι k] 3)) (w3:=w3) (v':=v') (x:=k) bB f3 r3 i3;have Jo:=ae yO;clear hh CZ tX yO bB hfl;generalize kI p s nd k=fl at*;go_wp2_with (at_builtin;refine cz rfl _ _ 24 rfl 3 Tryz.underlying24 Vf.b_ rfl (by decide) bv fl.length (aU (fA fl)) rfl p_.o (π W2.heap.size 0) 1 1 (fun _=> ι k) rfl ?zT ?ED ?EE ?ID ?_)
      case zT=>
       intro j hj;obtain rfl:j=0:=by omega
       exact (ay.new W2 3 #[ι k]).cell 0
      case ED=>exact fun j _=>rfl
      case EE=>exact oH.o.1
      case ID=>exact oH.o.2
      intro v' w3 r3 f3 i3;obtain ⟨va3,vn3,vc3,rfl⟩:=Row.qT r3;obtain ⟨n1,n2,n3,n4⟩:=Jo.o _ w3 (by rw [Nat.mul_one];exact r3) f3 (by rw [aE];exact i3);have N4:=ae n4;clear r3 f3 i3 n4;go_wp2_with fail;exact ⟨k+1,R8,_,_,VJ,g1,_,by omega,by omega,pC rfl,by rw [Uv.o];exact N4⟩
    ·obtain rfl:k=nd:=by omega
     have MW2:=H.o.later tX.o.k.zm;have m10:W2.cell? (π C.mb 10)=some (ρ C.xb):=MW2.m.aM.cell 10;have HA:=ae (Ix.all' MW2.m.ix);have abo:eS p s.a<=4294967296:=by have h1:=wH (M:=4194304) p.ap.length (fun q=>(s.a.ls q).length) (fun q hq=>by have:=(MW2.m.ar.uV hq).1;rw [Qg.o] at this;omega);have h2:p.ap.length*4194304<=16*4194304:=Nat.mul_le_mul_right _ MQ;show cF p.ap.length (fun q=>(s.a.ls q).length)<=_;omega
     have uu:=ae tX.o;clear x1 MW2 tX;go_wp2_with fail;refine HA.o.mono ?_;rintro e w7 ⟨rfl,L,hKS,hLl,hAA⟩;obtain ⟨bA,hsA,Us,eO,bq⟩:=hAA;have AG:∀k,k∈dJ Us->W2.heap.size+1<=k/\k < w7.heap.size:=by
      intro k hk;rcases bq with ⟨_,rfl⟩|⟨g,cap,rfl,e1,e2,-⟩
      ·simp [dJ] at hk
      ·simp [dJ] at hk;subst hk;exact ⟨e1,e2⟩
     have HS7:=ae (uu.o.later bA);have Zn:=uu.o.k.low;have M7:∀D,D∈R8->D < w7.heap.size:=fun D hD=>HS7.o.k.CM.lt hD;have Zv:=ae M7;have Na:=ae (gP.uX Fence.wide 8 trivial rfl (by omega) W2.heap.size (W2.heap.size+1) Us (L.map Ix.R6) (by rw [List.length_map];omega) w7 eO bq (fun k hk=>(AG k hk).2));have Wj:=ae hKS;have Hh:(L.map Ix.R6).length<=4294967296:=by rw [List.length_map];omega
     have FJ:(L.map Ix.R6).map (·.1)=L.map (·.1):=by rw [List.map_map];rfl
     have qV:(L.map Ix.R6).map (·.2)=fA (L.map (·.2)):=by unfold fA;rw [List.map_map,List.map_map];rfl
     have Db:=ae FJ;have Mc:=ae qV;clear FJ qV M7 bq eO bA HA uu m10;generalize hLu:L.map Ix.R6=Lu at*;clear hLu;go_wp2_with fail;refine (wpIn_wide (n:=9)).1 ?_;refine wpIn_rangeFunc_ownH (n:=9) (F:=Fence.wide) rfl (by omega) (gf:=140) (lb:=#[ρ W2.heap.size]) rfl trivial (enters_of Tryz.func140 (by kernel_rfl) rfl) Na.o w_.t
      (w_.b (by intro k hk;rcases List.mem_cons.1 hk with rfl|hk;exact hsA;exact (AG k hk).2)) (Below.refl _ _) (fun _=>rfl)
      (fun pre W=>∃cv dv,Hid (K3 w xb W g1 w7.heap.size k (jW s p.ap.length) av2 bv cv dv ((List.range p.ap.length).map s.a.ls) (kI p s k k) (pre.map (·.1)) (pre.map (·.2)) R8 VJ))
      (fun c pre W=>False) ?hI ?hIx ?h0 (fun x a' W=>FrO w x.1 x.2 a') (fun x a' _ W W' row hs hg hr=>hs) ?assign ?body ?done ?stop
     case hI=>exact fun pre W W' row ⟨cv,dv,hh⟩ hg hr=>⟨cv,dv,hh.o.grown (by omega) Zv.o hg hr⟩
     case hIx=>exact fun c pre W W' row hh _ _=>hh
     case h0=>exact ⟨_,_,HS7.o.up⟩
     case assign=>
      rintro l pre x W K ⟨cv,dv,mX⟩ hK
      gi_wp2
      exact hK _ _ (KeepsFrom.refl _ _) (fun _ _=>rfl) ⟨cv,dv,mX⟩ (pC rfl)
     case stop=>exact fun D c pre W _ _ hh _=>absurd hh (by simp)
     case body=>
      rintro l pre x a' W hl hr ⟨cv,dv,mX⟩ ⟨J2,rfl⟩ qP;have Si:(pre.map (·.1)).length < Lu.length:=by rw [List.length_map];exact qP
      have hpn:(pre.map (·.2)).length < Lu.length:=by rw [List.length_map];exact qP
      obtain ⟨xk,xn⟩:=x;have Zp:∀k,k∈W2.heap.size::dJ Us->k < W.heap.size/\k < w7.heap.size/\k≠w.heap.size+1:=by
       intro k hk;have hg:=mX.o.lay.le;have jd:W2.heap.size<=k/\k < w7.heap.size:=by
        rcases List.mem_cons.1 hk with rfl|hk
        ·exact ⟨Nat.le_refl _,hsA⟩
        ·exact ⟨by have:=AG k hk;omega,(AG k hk).2⟩
       have:=mX.o.k.jK;exact ⟨by omega,jd.2,by omega⟩
      have HK:=ae (fun V w1 v1 b1 r1 f1 i1=>mX.o.keyed (V:=V) (w1:=w1) (v1:=v1) (key:=xk) b1 xn r1 f1 i1 Zp w7.heap.size);have tR:=ae (show (pre.map (·.1)).length+1<=maxLen/\((pre.map (·.1)).length+1)*8<=140737488355328 by unfold maxLen;omega);have oH:=ae (show (pre.map (·.2)).length+1<=maxLen/\((pre.map (·.2)).length+1)*8<=140737488355328 by unfold maxLen;omega);have Wk:=ae (fun V (b1:Below W.heap.size W V)=>mX.o.lay.ks.row.aB (ax.ah (S:=[]) b1) (by simp));have sS:=mX.o.lst;have HCN:=ae (show ∀b,b∈cv.ownBlock.toList->b < W.drew.heap.size from fun b hb=>(mX.o.lay.ks.jy b (by simpa using hb)).2);have bD:Below W.heap.size W W.drew:=au _ W 1;have gA:W.drew.heap.size=W.heap.size:=rfl;generalize JJ:pre.map (fun y:Nat×Int=>y.1)=lk at*;generalize Ae:pre.map (fun y:Nat×Int=>y.2)=ln at*;have Vt:=ae JJ;have Vs:=ae Ae;clear JJ Ae mX Zp qP Si hpn
      gi_wp2_with fail
      refine Gd.rr [11,13] (fun _=>True) (fun wx=>wx.cell? (π (w.heap.size+1) 2)=some cv/\wx.cell? (π (w.heap.size+1) 3)=some dv) (by kernel_rfl) (by kernel_rfl) ⟨trivial,sS⟩ (fun al=>?_);generalize W.drew=V at*;have R9:=ae bD;have HZ:=ae gA;clear bD gA sS;refine Gd.take (i:=0) (v:=?_) rfl (by kernel_rfl) (by kernel_rfl) (by kernel_rfl) (by kernel_rfl) (by kernel_rfl) (fun _ _ _ h=>Mk.aN h) (Or.inl ⟨by rfl,?_⟩) (by assumption) ?_;rotate_left
      ·exact abQ
      refine Mk.pt ?_;refine Gd.take (i:=1) (v:=?_) rfl (by kernel_rfl) (by kernel_rfl) (by kernel_rfl) (by kernel_rfl) (by kernel_rfl) (fun _ _ _ h=>Mk.aN h) (Or.inl ⟨by rfl,?_⟩) (by assumption) ?_;rotate_left
      ·exact abQ
      refine Mk.pt ?_;refine Gd.take (i:=2) (v:=?_) rfl (by kernel_rfl) (by kernel_rfl) (by kernel_rfl) (by kernel_rfl) (by kernel_rfl) (fun _ _ _ h=>Mk.aN h) (Or.inl ⟨by rfl,?_⟩) (by assumption) ?_;rotate_left
      ·exact abQ
      refine Mk.pt ?_;refine Gd.take (i:=5) (v:=?_) rfl (by kernel_rfl) (by kernel_rfl) (by kernel_rfl) (by kernel_rfl) (by kernel_rfl) (fun _ _ _ h=>Mk.aN h) (Or.inl ⟨by rfl,?_⟩) (by assumption) ?_;rotate_left
      ·exact abQ
      refine Mk.pt ?_;refine Gd.take (i:=6) (v:=?_) rfl (by kernel_rfl) (by kernel_rfl) (by kernel_rfl) (by kernel_rfl) (by kernel_rfl) (fun _ _ _ h=>Mk.aN h) (Or.inl ⟨by rfl,?_⟩) (by assumption) ?_;rotate_left
      ·exact abQ
      refine Mk.pt ?_;refine Gd.take (i:=7) (v:=?_) rfl (by kernel_rfl) (by kernel_rfl) (by kernel_rfl) (by kernel_rfl) (by kernel_rfl) (fun _ _ _ h=>Mk.aN h) (Or.inl ⟨by rfl,?_⟩) (by assumption) ?_;rotate_left
      ·exact abQ
      refine Mk.pt ?_;refine Gd.ready (rs:=[3,8]) (by kernel_rfl) (by simp) ?_;refine Gd.cU.cons rfl (fun K hK=>?_) (Gd.cU.cons rfl (fun K hK=>?_) Gd.cU.nil)
      ·refine QX ?_;go_simp;refine hK.out _ _ ⟨trivial,Du.alloc al.2 _⟩ (fun al=>?_);clear hK K;refine Mk.pt ?_;refine Gd.ready (rs:=[4,8]) (by kernel_rfl) (by simp) ?_;refine Gd.cU.cons rfl (fun K hK=>?_) (Gd.cU.cons rfl (fun K hK=>?_) Gd.cU.nil)
       ·have dC:=ae (show Below W.heap.size W (V.alloc (.cells #[.int .u64 xk] 46)) from R9.o.alloc R9.o.size _);refine dq rfl (.tmp 72) (.tmp 74) 41 rfl 46 Tryz.underlying41 sW rfl (by decide) cv lk.length (nK lk) (by simp [Act.eval,Act.put]) (Wk.o _ dC.o) (π V.heap.size 0) 1 1 (fun _=> .int .u64 xk) (by simp [Act.eval,Act.put]) ?_ (fun j _=>rfl) tR.o.1 tR.o.2 ?_
        ·intro j hj;obtain rfl:j=0:=by omega
         exact (ay.new V 46 #[.int .u64 xk]).cell 0
        intro v1 w1 r1 f1 i1;obtain ⟨va1,vn1,vc1,rfl⟩:=Row.qT r1;obtain ⟨yz,R_⟩:=HK.o _ w1 _ dC.o r1 f1 i1;have Il:=ae R_;clear r1 f1 i1 R_ dC;clear al;refine hK.out _ _ ⟨trivial,yz⟩ (fun al=>?_);clear hK K;refine Mk.pt ?_;refine Gd.MI (i:=10) (v:=?_) rfl (by kernel_rfl) (by kernel_rfl) (by kernel_rfl) (by kernel_rfl) (by kernel_rfl) (fun _ _ _ h=>Mk.aN h) (Or.inl ⟨by rfl,?_⟩) (by assumption) ?_;rotate_left
        ·exact abQ
        refine Mk.pt ?_;refine Gd.ready (rs:=[8]) (by kernel_rfl) (by simp) ?_;refine Gd.cU.cons rfl (fun K hK=>?_) Gd.cU.nil;refine QX ?_;go_simp;refine hK.out _ _ ⟨trivial,Du.alloc al.2 _⟩ (fun al=>?_);clear hK K;refine Mk.pt ?_;refine Gd.ready (rs:=[9]) (by kernel_rfl) (by simp) ?_;refine Gd.cU.cons rfl (fun K hK=>?_) Gd.cU.nil;refine dq rfl (.tmp 77) (.tmp 79) 24 rfl 3 Tryz.underlying24 Vf.b_ rfl (by decide) dv ln.length (aU ln) (by simp [Act.eval,Act.put]) (Il.o.at_ (w1.alloc (.cells #[ι xn] 3)) ((Below.refl _ _).alloc (Nat.le_refl _) _)).2 (π w1.heap.size 0) 1 1 (fun _=> ι xn) (by simp [Act.eval,Act.put]) ?_ (fun j _=>rfl) oH.o.1 oH.o.2 ?_
        ·intro j hj;obtain rfl:j=0:=by omega
         exact (ay.new w1 3 #[ι xn]).cell 0
        intro v2 w2 r2 f2 i2;obtain ⟨P8,P_,Qa,rfl⟩:=Row.qT r2;obtain ⟨Ck,ff,EM,fq,jd,iO⟩:=Il.o.fin (w1.alloc (.cells #[ι xn] 3)) ((Below.refl _ _).alloc (Nat.le_refl _) _) _ w2 r2 f2 i2;exact adW
       ·refine QX ?_;go_simp;refine hK.out _ _ ⟨trivial,Du.alloc al.2 _⟩ (fun al=>?_);clear hK K;refine Mk.pt ?_;refine Gd.ready (rs:=[4]) (by kernel_rfl) (by simp) ?_;refine Gd.cU.cons rfl (fun K hK=>?_) Gd.cU.nil;have dC:=ae (show Below W.heap.size W ((V.alloc (.cells #[.int .u64 xk] 46)).alloc (.cells #[ι xn] 3)) from (R9.o.alloc R9.o.size _).alloc (by rw [aE];have:=R9.o.size;omega) _);refine dq rfl (.tmp 72) (.tmp 74) 41 rfl 46 Tryz.underlying41 sW rfl (by decide) cv lk.length (nK lk) (by simp [Act.eval,Act.put]) (Wk.o _ dC.o) (π V.heap.size 0) 1 1 (fun _=> .int .u64 xk) (by simp [Act.eval,Act.put]) ?_ (fun j _=>rfl) tR.o.1 tR.o.2 ?_
        ·intro j hj;obtain rfl:j=0:=by omega
         exact ((ay.new V 46 #[.int .u64 xk]).alloc (.cells #[ι xn] 3)).cell 0
        intro v1 w1 r1 f1 i1;obtain ⟨va1,vn1,vc1,rfl⟩:=Row.qT r1;obtain ⟨yz,R_⟩:=HK.o _ w1 _ dC.o r1 f1 i1;have Il:=ae R_;have NO:=ae (show ay w1 (V.heap.size+1) 3 #[ι xn] by have:=(ay.new (V.alloc (.cells #[.int .u64 xk] 46)) 3 #[ι xn]).aB f1 (fun hc=>by have:=HCN.o _ hc;rw [aE] at this;omega);rw [aE] at this;exact this);clear r1 f1 i1 R_ dC;clear al;refine hK.out _ _ ⟨trivial,yz⟩ (fun al=>?_);clear hK K;refine Mk.pt ?_;refine Gd.MI (i:=10) (v:=?_) rfl (by kernel_rfl) (by kernel_rfl) (by kernel_rfl) (by kernel_rfl) (by kernel_rfl) (fun _ _ _ h=>Mk.aN h) (Or.inl ⟨by rfl,?_⟩) (by assumption) ?_;rotate_left
        ·exact abQ
        refine Mk.pt ?_;refine Gd.ready (rs:=[9]) (by kernel_rfl) (by simp) ?_;refine Gd.cU.cons rfl (fun K hK=>?_) Gd.cU.nil;refine dq rfl (.tmp 77) (.tmp 79) 24 rfl 3 Tryz.underlying24 Vf.b_ rfl (by decide) dv ln.length (aU ln) (by simp [Act.eval,Act.put]) (Il.o.at_ w1 (Below.refl _ _)).2 (π (V.heap.size+1) 0) 1 1 (fun _=> ι xn) (by simp [Act.eval,Act.put]) ?_ (fun j _=>rfl) oH.o.1 oH.o.2 ?_
        ·intro j hj;obtain rfl:j=0:=by omega
         exact NO.o.cell 0
        exact adX
      ·refine QX ?_;go_simp;refine hK.out _ _ ⟨trivial,Du.alloc al.2 _⟩ (fun al=>?_);clear hK K;refine Mk.pt ?_;refine Gd.ready (rs:=[3]) (by kernel_rfl) (by simp) ?_;refine Gd.cU.cons rfl (fun K hK=>?_) Gd.cU.nil;refine QX ?_;go_simp;refine hK.out _ _ ⟨trivial,Du.alloc al.2 _⟩ (fun al=>?_);clear hK K;refine Mk.pt ?_;refine Gd.ready (rs:=[4]) (by kernel_rfl) (by simp) ?_;refine Gd.cU.cons rfl (fun K hK=>?_) Gd.cU.nil;have dC:=ae (show Below W.heap.size W ((V.alloc (.cells #[ι xn] 3)).alloc (.cells #[.int .u64 xk] 46)) from (R9.o.alloc R9.o.size _).alloc (by rw [aE];have:=R9.o.size;omega) _);refine dq rfl (.tmp 72) (.tmp 74) 41 rfl 46 Tryz.underlying41 sW rfl (by decide) cv lk.length (nK lk) (by simp [Act.eval,Act.put]) (Wk.o _ dC.o) (π (V.heap.size+1) 0) 1 1 (fun _=> .int .u64 xk) (by simp [Act.eval,Act.put]) ?_ (fun j _=>rfl) tR.o.1 tR.o.2 ?_
       ·intro j hj;obtain rfl:j=0:=by omega
        have:=(ay.new (V.alloc (.cells #[ι xn] 3)) 46 #[.int .u64 xk]).cell 0;rw [aE] at this;exact this
       intro v1 w1 r1 f1 i1;obtain ⟨va1,vn1,vc1,rfl⟩:=Row.qT r1;obtain ⟨yz,R_⟩:=HK.o _ w1 _ dC.o r1 f1 i1;have Il:=ae R_;have NO:=ae (show ay w1 V.heap.size 3 #[ι xn] from ((ay.new V 3 #[ι xn]).alloc (.cells #[.int .u64 xk] 46)).aB f1 (fun hc=>by have:=HCN.o _ hc;omega));clear r1 f1 i1 R_ dC;clear al;refine hK.out _ _ ⟨trivial,yz⟩ (fun al=>?_);clear hK K;refine Mk.pt ?_;refine Gd.MI (i:=10) (v:=?_) rfl (by kernel_rfl) (by kernel_rfl) (by kernel_rfl) (by kernel_rfl) (by kernel_rfl) (fun _ _ _ h=>Mk.aN h) (Or.inl ⟨by rfl,?_⟩) (by assumption) ?_;rotate_left
       ·exact abQ
       refine Mk.pt ?_;refine Gd.ready (rs:=[9]) (by kernel_rfl) (by simp) ?_;refine Gd.cU.cons rfl (fun K hK=>?_) Gd.cU.nil;refine dq rfl (.tmp 77) (.tmp 79) 24 rfl 3 Tryz.underlying24 Vf.b_ rfl (by decide) dv ln.length (aU ln) (by simp [Act.eval,Act.put]) (Il.o.at_ w1 (Below.refl _ _)).2 (π V.heap.size 0) 1 1 (fun _=> ι xn) (by simp [Act.eval,Act.put]) ?_ (fun j _=>rfl) oH.o.1 oH.o.2 ?_
       ·intro j hj;obtain rfl:j=0:=by omega
        exact NO.o.cell 0
       exact adX
     case done=>
      rintro D ys W hD rfl ⟨cv,dv,mX⟩ Zw;rw [Db.o,Mc.o] at mX;obtain ⟨r0,r1,r2,r3⟩:=mX.o.k.b3.c4;obtain ⟨s0,s1,s2,s3⟩:=mX.o.k.b2.c4;have sf:=mX.o.k.b2.frozen;have l2:=mX.o.k.b2.lt;have l3:=mX.o.k.b3.lt;have hDl:D < W.heap.size:=(Array.getElem?_eq_some_iff.1 Zw).1;have abp:=mX.o.k.jK;have hDn:D∉R8:=fun hc=>by have:=Zv.o D hc;omega
      have kk:=mX.o.k.mark Zw hDn (by have:=mX.o.lay.le;omega);have lay:=mX.o.lay;obtain ⟨a1,a2,a3,rfl⟩:=Row.qT lay.ls.row;obtain ⟨b1,b2,b3,rfl⟩:=Row.qT lay.fr.row;obtain ⟨c1,c2,c3,rfl⟩:=Row.qT lay.ks.row;obtain ⟨d1,d2,d3,rfl⟩:=Row.qT lay.ns.row;clear mX Na;go_wp2_with fail;have F9:∀v0 v1 v2 v3,ax [w.heap.size] W ((((W.setCell (π w.heap.size 0) v0).setCell (π w.heap.size 1) v1).setCell (π w.heap.size 2) v2).setCell (π w.heap.size 3) v3):=fun v0 v1 v2 v3=>((((ax.refl [w.heap.size] W).setCell (by simp) _).setCell (by simp) _).setCell (by simp) _).setCell (by simp) _;have E9:∀v0 v1 v2 v3,ay ((((W.setCell (π w.heap.size 0) v0).setCell (π w.heap.size 1) v1).setCell (π w.heap.size 2) v2).setCell (π w.heap.size 3) v3) w.heap.size 52 #[v0,v1,v2,v3]:=fun v0 v1 v2 v3=>(((kk.b2.set 0 v0).set 1 v1).set 2 v2).set 3 v3;have G9:∀v0 v1 v2 v3,Below w.heap.size w ((((W.setCell (π w.heap.size 0) v0).setCell (π w.heap.size 1) v1).setCell (π w.heap.size 2) v2).setCell (π w.heap.size 3) v3):=fun v0 v1 v2 v3=>(((kk.zm.setCell (Nat.le_refl _) _).setCell (Nat.le_refl _) _).setCell (Nat.le_refl _) _).setCell (Nat.le_refl _) _;replace F9:=F9 (.slice a1 a2 a3) (.slice b1 b2 b3) (.slice c1 c2 c3) (.slice d1 d2 d3);replace E9:=E9 (.slice a1 a2 a3) (.slice b1 b2 b3) (.slice c1 c2 c3) (.slice d1 d2 d3);replace G9:=G9 (.slice a1 a2 a3) (.slice b1 b2 b3) (.slice c1 c2 c3) (.slice d1 d2 d3);have nlo:∀D',D'∈D::R8->xb+1<=D':=kk.ml;have M9:=kk.CM.keeps fun k hk=>F9.block k (kk.CM.lt hk) (by simp;have:=nlo k hk;omega);have L9:=lay.off F9 (fun b hb=>by simp at hb;subst hb;exact .inl (.inl (by omega)));have S9:=F9.size;generalize (((W.setCell (π w.heap.size 0) (.slice a1 a2 a3)).setCell (π w.heap.size 1) (.slice b1 b2 b3)).setCell (π w.heap.size 2) (.slice c1 c2 c3)).setCell (π w.heap.size 3) (.slice d1 d2 d3)=W9 at*;refine Mk.zo (D::R8) _ M9 fun W' Jq=>?_;have b':ay W' w.heap.size 52 #[.slice a1 a2 a3,.slice b1 b2 b3,.slice c1 c2 c3,.slice d1 d2 d3]:=E9.of (Jq.cells M9 E9.Hm);have L':=L9.off Jq.aB (fun b hb=> .inr (.inr ⟨_,M9.at_ b hb,rfl⟩));obtain ⟨i0,i1,i2,i3⟩:=b'.c4;refine ⟨.agg #[.slice a1 a2 a3,.slice b1 b2 b3,.slice c1 c2 c3,.slice d1 d2 d3],by simp [results,Tryz.results19,go_sem,i0,i1,i2,i3],?_⟩;refine ⟨L,_,_,_,_,g1,w7.heap.size,VJ,Wj.o,rfl,G9.trans (Jq.below fun D' hD'=>by have:=nlo D' hD';omega),?_⟩;have L8:=L'.mono (hi':=W'.heap.size) (by rw [Jq.size];exact S9);exact L8.lower (by omega)
end
end Go.Proofs.YtblkblclmbhjiaaGreat.Ma
namespace Go.Proofs.YtblkblclmbhjiaaGreat.Ma
open Go.RowKit ak.Vm
open ak hiding aL an aj
open Vf (Kp fP pV aV cV)
def jX (w:World) (C:Co) (lo:Nat) (p:aO) (c:Cp) (s:St) (t:fI) (used:Int):Prop:=∃(RO:List Nat) (K:Kc) (T:Map),Mx w C RO K p c s t used (.pointer none)/\N6 K C.mb p c/\Env p c T/\mh p/\Inv (aw p c) s/\(∀b,b∈C.l++RO->lo<=b)
section
variable {w w':World} {C:Co} {lo:Nat} {p:aO} {c:Cp} {s:St} {t:fI} {used:Int}
theorem jX.later (h:jX w C lo p c s t used) (b:Below w.heap.size w w'):jX w' C lo p c s t used:=by obtain ⟨RO,K,T,h1,h2⟩:=h;exact ⟨RO,K,T,h1.later b,h2⟩
theorem jX.lt (h:jX w C lo p c s t used) {b:Nat} (hb:b∈C.l):lo<=b/\b < w.heap.size:=by obtain ⟨RO,K,T,h1,-,-,-,-,h2⟩:=h;exact ⟨h2 b (by simp [hb]),h1.sep.lt b hb⟩
theorem bu.low {C':Co} (k:bu w w' C C') (h:∀b,b∈C.l->lo<=b) (hs:lo<=w.heap.size):Below lo w w':=k.f.below hs h
def aaS (w:World) (C:Co) (lo:Nat) (p:aO) (c:Cp) (s:St) (t:fI) (key:Nat) (e:Ending) (w':World):Prop:=
 ∃(tv:Value) (C':Co),e= .returned (.agg #[.bool (if dE p c s key=0 then sH p c s key else false),tv,ι (dE p c s key)])/\bu w w' C C'/\
  jX w' C' lo p c (dF p c s key) (if dE p c s key=0 then mj t (sH p c s key) (gK p c s key) else t) (lD p c s key).1/\
  vX w' tv (if dE p c s key=0 then gK p c s key else [])/\∀b,b∈vb tv->b∉C'.l/\b∉Ma.rest w C
theorem adY {p:Prop} (h:p:=by
 rw [List.mem_append] at iN;rcases iN with iN|iN
 ·rcases k.c b iN with h2|h2
  ·exact iF b (by simp [h2])
  ·omega
 ·exact iF b (by simp [iN])):p:=h
theorem Nb (h:jX w C lo p c s t used) (hl:lo<=w.heap.size) {key:Nat} (hk:key < 18446744073709551616):
 Calls Tryz.prog 17 #[ρ C.mb,.int .u64 key] w (aaS w C lo p c s t key):=by
 obtain ⟨RO,K,T,h1,M,V,hS,hI,iF⟩:=h;have aaT:Calls Tryz.prog 17 #[ρ C.mb,.int .u64 key] w (eD w C RO K p c t s key):=by
  cases hf:s.f key with
  |none=>exact Cz M V hS h1 hI hk hf
  |some n=>
   obtain ⟨q,hq,hn,-⟩:=(hI.idx key n).1 hf;cases hg:p.ap.getD q false with
   |false=>exact E4 M V hS h1 hI hk hf hq hn hg
   |true=>exact As M V hS h1 hI hk hf hq hn hg
 refine aaT.mono ?_;rintro e w' ⟨tv,C',rfl,k,m,ht,hb⟩;refine ⟨tv,C',rfl,k,⟨RO,K,T,m,by rw [k.mb];exact M,V,hS,oW V hS hI hk,fun b iN=>?_⟩,ht,hb⟩;exact adY
def Zx (w:World) (C:Co) (lo:Nat) (p:aO) (c:Cp) (s:St) (t:fI) (used:Int) (key:Nat) (e:Ending) (w':World):Prop:=
 e= .returned (ι (gT p c s key))/\∃C',bu w w' C C'/\jX w' C' lo p c (gX p c s key) (if gT p c s key=0 then t else {t with ud:=wrap64 (t.ud+1)}) used
theorem Zy (h:jX w C lo p c s t used) (hl:lo<=w.heap.size) (key:Nat):
 Calls Tryz.prog 26 #[ρ C.mb,.int .u64 key] w (Zx w C lo p c s t used key):=by
 obtain ⟨RO,K,T,h1,M,V,hS,hI,iF⟩:=h;have tb:=(cK M.check).1;refine (M0 h1 hI M.BP (by have:=tb.g;omega) key (M.ev hI).total).mono ?_;rintro e w' ⟨rfl,C',k,m⟩;refine ⟨rfl,C',k,RO,K,T,m,by rw [k.mb];exact M,V,hS,D2 hI key,fun b iN=>?_⟩;exact adY
theorem E8 (h:jX w C lo p c s t used):Calls Tryz.prog 19 #[ρ C.mb] w (rW w p s (bH (aw p c))):=by obtain ⟨RO,K,T,h1,M,V,hS,hI,iF⟩:=h;have:=M8 h1 (cK M.check).1 M.BP;rw [M.nd] at this;exact this
theorem GN (h:jX w C lo p c s t used):Calls Tryz.prog 28 #[ρ C.mb] w (fun e w'=>e= .returned (ι used)/\w'=w):=by obtain ⟨RO,K,T,h1,-⟩:=h;exact (Ur h1).mono fun e w' hh=>⟨hh.1,hh.2.symm⟩
def Uw (w:World) (p:aO) (c:Cp) (e:Ending) (w':World):Prop:=Below w.heap.size w w'/\
 ((¬((aZ p).1=0/\kH p c=true)/\∃er:Int,er≠0/\e= .returned (.tuple #[.pointer none,ι er]))\/
  ((aZ p).1=0/\kH p c=true/\∃C:Co,e= .returned (.tuple #[ρ C.mb,ι 0])/\jX w' C w.heap.size p c (xx p) ⟨0,0,0,0⟩ 0))
theorem Nc {p:aO} {c:Cp} (hv:(aZ p).1=0) (lO:kH p c=true):∃T,Env p c T:=by obtain ⟨hc,T,hT,-⟩:=rA rfl hv;have h:=lO;unfold kH at h;simp only [Bool.and_eq_true] at h;exact ⟨T,hT,hc,Vf.yE h.1⟩
theorem E_ {K:Kp} {qv:Value} (h:fP w K p) (hq:aV w 1 qv c.aI.length (aU c.aI)) (hS:(aZ p).1=0->kH p c=true->mh p):Calls Tryz.prog 16 #[pV K p,cV c qv] w (Uw w p c):=by
 refine (Bs h hq).mono ?_;rintro e w' ⟨hb,h1|h1|h1⟩
 ·exact ⟨hb,.inl ⟨fun h=>h1.1 h.1,_,h1.1,h1.2⟩⟩
 ·exact ⟨hb,.inl ⟨fun h=>by rw [h.2] at h1;exact absurd h1.2.1 (by simp),45,by decide,h1.2.2⟩⟩
 ·obtain ⟨hv,lO,C,RO,K',rfl,m,M,iF⟩:=h1;obtain ⟨T,V⟩:=Nc hv lO;exact ⟨hb,.inr ⟨hv,lO,C,rfl,RO,K',T,m,M,V,hS hv lO,GK c (cK M.check).1,iF⟩⟩
end
end Go.Proofs.YtblkblclmbhjiaaGreat.Ma
namespace Go.Proofs.YtblkblclmbhjiaaGreat.Ma
open Go.RowKit ak.Vm
open ak hiding aL an aj
theorem ej {w:World} {e:TypeId} {size n:Nat} {v:Value} {g:Nat->Value} (h:Row w e size v n g):∃a c,v= .slice a n c/\n<=c/\c<=maxLen:=by
 rcases h.val with ⟨e,rfl⟩|⟨_,_,e,h1,h2,-⟩
 ·exact ⟨_,_,e,Nat.le_refl _,Nat.zero_le _⟩
 ·exact ⟨_,_,e,h1,h2⟩
def FI (J:Nat->Value):Act:={tmps:=#[J 0,J 1,J 2,J 3,J 4,J 5,J 6,J 7,J 8,J 9,J 10,J 11,J 12,J 13,J 14,J 15,J 16,J 17,J 18,J 19,J 20,J 21,J 22,J 23,J 24,J 25],defers:=[]}
theorem FI.of (A:Array Value) (h:A=(FI fun k=>A.getD k undef).tmps):({tmps:=A,defers:=[]}:Act)=FI fun k=>A.getD k undef:=by rw [h];rfl
def FY (J:Nat->Value):Act:={tmps:=#[J 0,J 1,J 2,J 3,J 4,J 5,J 6,J 7,J 8,J 9,J 10,J 11,J 12,J 13,J 14,J 15,J 16,J 17,J 18,J 19,J 20,J 21,J 22,J 23,J 24,J 25,J 26,J 27,J 28,J 29,J 30,J 31,J 32,J 33,J 34,J 35,J 36,J 37,J 38,J 39,J 40,J 41,J 42,J 43,J 44,J 45,J 46,J 47,J 48,J 49,J 50,J 51,J 52,J 53,J 54,J 55,J 56,J 57,J 58,J 59,J 60,J 61,J 62,J 63,J 64,J 65,J 66,J 67,J 68,J 69,J 70,J 71,J 72,J 73,J 74,J 75],defers:=[]}
theorem FY.of (A:Array Value) (h:A=(FY fun k=>A.getD k undef).tmps):({tmps:=A,defers:=[]}:Act)=FY fun k=>A.getD k undef:=by rw [h];rfl
def IN1 (w:World) (x y:Value) (n:Nat) (m:Nat) (a:Act) (W:World):Prop:=∃(J:Nat->Value) (i:Nat),a=FI J/\J 0=x/\J 1=y/\J 5=ι i/\i<=n/\m+i=n+1/\Hid (∃k,W=w.drewN k)
def SL1 (W2:World) (x y n:Nat) (m:Nat) (a:Act) (W:World):Prop:=∃(J:Nat->Value) (i:Nat),a=FY J/\J 2=ρ x/\J 3=ρ y/\J 5=ι i/\i<=n/\m+i=n+1/\Hid (Below W2.heap.size W2 W)
def SL2 (W2:World) (x y n:Nat) (m:Nat) (a:Act) (W:World):Prop:=∃(J:Nat->Value) (i:Nat),a=FY J/\J 2=ρ x/\J 3=ρ y/\J 6=ι i/\i<=n/\m+i=n+1/\Hid (Below W2.heap.size W2 W)
section
variable {w:World} {a b:Value} {l:List Int}
theorem Fa (ha:Row w 3 1 a l.length (aU l)) (hb:Row w 3 1 b l.length (aU l)):Calls Tryz.prog 68 #[a,b] w (fun e w'=>e= .returned (.bool true)/\∃k,w'=w.drewN k):=by
 obtain ⟨aa,ac,rfl,a1,a2⟩:=ej ha;obtain ⟨ba,bc,rfl,b1,b2⟩:=ej hb;have HA:=ae ha;have HB:=ae hb;clear ha hb;go_enter Tryz.func68,Tryz.ntmps68;go_wp2_with fail;refine Mk.aP (IN1 w (.slice aa l.length ac) (.slice ba l.length bc) l.length) (l.length+1) ⟨_,0,FI.of _ rfl,rfl,rfl,rfl,Nat.zero_le _,by omega,ae ⟨0,rfl⟩⟩ (fun a W hh=>by obtain ⟨J,i,-,-,-,-,h1,h2,-⟩:=hh;omega) ?_;rintro m a W ⟨J,i,rfl,j0,j1,j5,hi,hm,HW⟩;obtain ⟨k,rfl⟩:=HW.o;unfold FI;rw [j0,j1,j5];clear j0 j1 j5;by_cases a8:i < l.length
 ·have w2:IntKind.i64.wrap ((i:Int)+1)=((i+1:Nat):Int):=by unfold maxLen at a2;rw [IntWalk.i64_in _ (by constructor<;>omega)];omega
  have ha:=HA.o;have hb:=HB.o;obtain ⟨xa,xc,ea,-,-,la⟩:=ha.some (by omega);obtain ⟨ya,yc,eb,-,-,lb⟩:=hb.some (by omega);simp only [Value.slice.injEq] at ea eb;obtain ⟨rfl,-,rfl⟩:=ea;obtain ⟨rfl,-,rfl⟩:=eb;have c0:w.cell? (π xa i)=some (ι (l.getD i 0)):=ha.cell (o:=i) (by omega);have c1:w.cell? (π ya i)=some (ι (l.getD i 0)):=hb.cell (o:=i) (by omega);have dh:=ae a8;generalize l.getD i 0=z at*;clear ha hb;go_wp2_with fail;go_quiet (fail);go_wp2_with fail;refine ⟨_,i+1,FI.of _ rfl,rfl,rfl,?_,dh.o,by omega,ae ⟨_,by first|rfl|rw [World.drewN_drewN]⟩⟩
  first|rfl|exact congrArg (Value.int .i64) (show (i:Int)+1=((i+1:Nat):Int) by omega)
 ·obtain rfl:i=l.length:=by omega
  clear a8;go_wp2_with fail
  first|refine Vf.eP (P:=Tryz.prog) (fn:=Tryz.f68) rfl ?_|(rw [Exit.noGoto_ret];refine Vf.eP (P:=Tryz.prog) (fn:=Tryz.f68) rfl ?_)
  exact ⟨rfl,_,rfl⟩
end
section
variable {w:World} {lo h1 h2 hi zR h1' h2' hi':Nat} {a b c d a' b' c' d':Value} {L:PL} {lv lv':Nat->Value}
theorem adZ {p:Prop} (h:p:=by
 go_wp2_with fail;refine ⟨_,i+1,FY.of _ rfl,rfl,rfl,?_,dh.o,by omega,ae (HW.o.trans (au _ _ _))⟩
 first|rfl|exact congrArg (Value.int .i64) (show (i:Int)+1=((i+1:Nat):Int) by omega)):p:=h
theorem CN (hx:lI w lo h1 h2 hi a b c d L lv) (hy:lI w zR h1' h2' hi' a' b' c' d' L lv'):Calls Tryz.prog 27 #[.agg #[a,b,c,d],.agg #[a',b',c',d']] w (fun e w'=>e= .returned (.bool true)/\Below w.heap.size w w'):=by
 obtain ⟨aa,ac,rfl,a1,a2⟩:=ej hx.ls.row;obtain ⟨ba,bc,rfl,-,-⟩:=ej hx.fr.row;obtain ⟨ca,cc,rfl,c1,c2⟩:=ej hx.ks.row;obtain ⟨da,dc,rfl,-,-⟩:=ej hx.ns.row;obtain ⟨aa',ac',rfl,a1',-⟩:=ej hy.ls.row;obtain ⟨ba',bc',rfl,-,-⟩:=ej hy.fr.row;obtain ⟨ca',cc',rfl,c1',-⟩:=ej hy.ks.row;obtain ⟨da',dc',rfl,-,-⟩:=ej hy.ns.row;have nU:=ae (fun V (hb:Below w.heap.size w V)=>Fa (w:=V) (hx.fr.row.aB (ax.ah (S:=[]) hb) (by simp)) (hy.fr.row.aB (ax.ah (S:=[]) hb) (by simp)));have HNS:=ae (fun V (hb:Below w.heap.size w V)=>Fa (w:=V) (hx.ns.row.aB (ax.ah (S:=[]) hb) (by simp)) (hy.ns.row.aB (ax.ah (S:=[]) hb) (by simp)));have HLS:=ae (fun V (hb:Below w.heap.size w V) q (hq:q < L.lists.length)=>Fa (w:=V) ((hx.ls.q q hq).row.aB (ax.ah (S:=[]) hb) (by simp)) ((hy.ls.q q hq).row.aB (ax.ah (S:=[]) hb) (by simp)));have HX:=ae hx;have HY:=ae hy;obtain ⟨W0,lL⟩:∃W0,W0=(w.alloc (.cells #[.slice aa L.lists.length ac,.slice ba (fA L.free).length bc,.slice ca L.keys.length cc,.slice da L.nodes.length dc] 52)).alloc (.cells #[.slice aa' L.lists.length ac',.slice ba' (fA L.free).length bc',.slice ca' L.keys.length cc',.slice da' L.nodes.length dc'] 52):=⟨_,rfl⟩;have pZ:=ae (show ay W0 w.heap.size 52 #[.slice aa L.lists.length ac,.slice ba (fA L.free).length bc,.slice ca L.keys.length cc,.slice da L.nodes.length dc] by rw [lL];exact (ay.new _ _ _).alloc _);have kY:=ae (show ay W0 (w.heap.size+1) 52 #[.slice aa' L.lists.length ac',.slice ba' (fA L.free).length bc',.slice ca' L.keys.length cc',.slice da' L.nodes.length dc'] by rw [lL];exact ay.a_ (by simp));have gp:=ae (show Below w.heap.size w W0 by rw [lL];exact ((Below.refl _ _).alloc (Nat.le_refl _) _).alloc (by simp) _);clear hx hy;go_enter Tryz.func27,Tryz.ntmps27;go_wp2_with fail;rw [<-lL];clear lL;refine (nU.o _ gp.o).mono ?_;rintro e W1 ⟨rfl,k1,rfl⟩;obtain ⟨e0,-,e2,e3⟩:=pZ.o.c4;have e3':W0.cell? (π (w.heap.size+1) 3)=some (.slice da' L.nodes.length dc'):=kY.o.cell 3;have l1:w.heap.size < W0.heap.size:=pZ.o.lt;have l2:w.heap.size+1 < W0.heap.size:=kY.o.lt;go_wp2_with fail;refine (HNS.o _ (gp.o.trans (au _ _ k1))).mono ?_;rintro e W2 ⟨rfl,k2,rfl⟩;clear e0 e2 e3 e3' l1 l2;have fg:=ae ((gp.o.trans (au _ _ k1)).trans (au w.heap.size (W0.drewN k1) k2));have Nf:=ae ((pZ.o.drewN k1).drewN k2);have Ng:=ae ((kY.o.drewN k1).drewN k2);clear pZ kY gp;generalize (W0.drewN k1).drewN k2=W2 at*;go_wp2_with fail;refine Mk.aP (SL1 W2 w.heap.size (w.heap.size+1) L.lists.length) (L.lists.length+1) ⟨_,0,FY.of _ rfl,rfl,rfl,rfl,Nat.zero_le _,by omega,ae (Below.refl _ _)⟩ (fun a W hh=>by obtain ⟨J,i,-,-,-,-,h1,h2,-⟩:=hh;omega) ?_;rintro m a W ⟨J,i,rfl,j2,j3,j5,hi,hm,HW⟩;unfold FY;rw [j2,j3,j5];clear j2 j3 j5;have Ux:=Nf.o.of (HW.o.block _ Nf.o.lt);have GM:=Ng.o.of (HW.o.block _ Ng.o.lt);have k0:=Ux.c1;have n0:=GM.c1;have l1:=Ux.lt;have l2:=GM.lt;clear Ux GM;by_cases a8:i < L.lists.length
 ·have w2:IntKind.i64.wrap ((i:Int)+1)=((i+1:Nat):Int):=by unfold maxLen at a2;rw [IntWalk.i64_in _ (by constructor<;>omega)];omega
  have Nh:=fg.o.trans (HW.o.mono fg.o.size);have ha:=HX.o.ls.row.aB (ax.ah (S:=[]) Nh) (by simp);have hb:=HY.o.ls.row.aB (ax.ah (S:=[]) Nh) (by simp);obtain ⟨xa,xc,ea,-,-,la⟩:=ha.some (by omega);obtain ⟨ya,yc,eb,-,-,lb⟩:=hb.some (by omega);simp only [Value.slice.injEq] at ea eb;obtain ⟨rfl,-,rfl⟩:=ea;obtain ⟨rfl,-,rfl⟩:=eb;have c0:W.cell? (π xa i)=some (lv i):=ha.cell (o:=i) (by omega);have c1:W.cell? (π ya i)=some (lv' i):=hb.cell (o:=i) (by omega);have iM:=ae (fun V (hb:Below W.heap.size W V)=>HLS.o V (Nh.trans (hb.mono Nh.size)) i a8);obtain ⟨xs,xsc,ex,-,-⟩:=ej (HX.o.ls.q i a8).row;obtain ⟨ys,ysc,ey,-,-⟩:=ej (HY.o.ls.q i a8).row;rw [ex,ey] at iM;rw [ex] at c0;rw [ey] at c1;have dh:=ae a8;clear ha hb Nh ex ey;generalize (fA (L.lists.getD i [])).length=n9 at*;go_wp2_with fail;refine Mk.bF (S:=fun wx=>Below W.heap.size W wx) (by kernel_rfl) (au _ W 1) (fun al=>?_);refine Mk.bL 0 ?_;refine Mk.Re 1 k0 ?_;refine Mk.bL 2 ?_;refine Mk.bL 3 ?_;refine Mk.Re 4 c0 ?_;refine Mk.bL 5 ?_;refine Mk.Re 6 n0 ?_;refine Mk.bL 7 ?_;refine Mk.bL 8 ?_;refine Mk.Re 9 c1 ?_;refine Mk.nW (rs:=[10]) (AllReadyH.cons rfl (fun K9 hK=>?_) AllReadyH.nil);refine QX ?_;go_simp
  with_reducible refine (iM.o _ al).mono ?_
  rintro e W1 ⟨rfl,k9,rfl⟩;have hS:=al.trans (au _ _ k9);clear al;refine hK.out _ _ hS (fun al=>?_);clear hK K9;refine Mk.pt ?_;refine Mk.bL 11 ?_;refine wpAnyH_done (by kernel_rfl) ⟨rfl,?_⟩ _;have HS:=ae hS;clear al hS;exact adZ
 obtain rfl:i=L.lists.length:=by omega
 clear a8;have ki:=ae (fg.o.trans (HW.o.mono fg.o.size));have Dh:=ae (Nf.o.of (HW.o.block _ Nf.o.lt));have HK4:=ae (Ng.o.of (HW.o.block _ Ng.o.lt));go_wp2_with fail;clear k0 n0 l1 l2 HW Nf Ng fg;refine Mk.aP (SL2 W w.heap.size (w.heap.size+1) L.keys.length) (L.keys.length+1) ⟨_,0,FY.of _ rfl,rfl,rfl,rfl,Nat.zero_le _,by omega,ae (Below.refl _ _)⟩ (fun a W hh=>by obtain ⟨J,i,-,-,-,-,h1,h2,-⟩:=hh;omega) ?_;rintro m a W9 ⟨J,i,rfl,j2,j3,j6,hi,hm,HW⟩;unfold FY;rw [j2,j3,j6];clear j2 j3 j6;have Ux:=Dh.o.of (HW.o.block _ Dh.o.lt);have GM:=HK4.o.of (HW.o.block _ HK4.o.lt);have k0:W9.cell? (π w.heap.size 2)=some (.slice ca L.keys.length cc):=Ux.cell 2;have n0:W9.cell? (π (w.heap.size+1) 2)=some (.slice ca' L.keys.length cc'):=GM.cell 2;have l1:=Ux.lt;have l2:=GM.lt;clear Ux GM;have Nh:=ki.o.trans (HW.o.mono ki.o.size);have EP:=ae Nh;by_cases a8:i < L.keys.length
 ·have w2:IntKind.i64.wrap ((i:Int)+1)=((i+1:Nat):Int):=by unfold maxLen at c2;rw [IntWalk.i64_in _ (by constructor<;>omega)];omega
  have ha:=HX.o.ks.row.aB (ax.ah (S:=[]) Nh) (by simp);have hb:=HY.o.ks.row.aB (ax.ah (S:=[]) Nh) (by simp);obtain ⟨xa,xc,ea,-,-,la⟩:=ha.some (by omega);obtain ⟨ya,yc,eb,-,-,lb⟩:=hb.some (by omega);simp only [Value.slice.injEq] at ea eb;obtain ⟨rfl,-,rfl⟩:=ea;obtain ⟨rfl,-,rfl⟩:=eb;have c0:W9.cell? (π xa i)=some (.int .u64 (L.keys.getD i 0:Nat)):=ha.cell (o:=i) (by omega);have c1:W9.cell? (π ya i)=some (.int .u64 (L.keys.getD i 0:Nat)):=hb.cell (o:=i) (by omega);have dh:=ae a8;generalize L.keys.getD i 0=z at*;clear ha hb Nh;go_wp2_with fail;go_quiet (fail);exact adZ
 obtain rfl:i=L.keys.length:=by omega
 clear a8 Nh;go_wp2_with fail
 first|refine Vf.eP (P:=Tryz.prog) (fn:=Tryz.f27) rfl ?_|(rw [Exit.noGoto_ret];refine Vf.eP (P:=Tryz.prog) (fn:=Tryz.f27) rfl ?_)
 exact ⟨rfl,EP.o⟩
end
end Go.Proofs.YtblkblclmbhjiaaGreat.Ma
namespace Go.Proofs.YtblkblclmbhjiaaGreat.Ma
open Go.RowKit ak.Vm
open ak hiding aL an aj
open Vf (Kp fP pV aV cV)
theorem px {w:World} {b n size:Nat} {E:TypeId} {cs:Array Value} {g:Nat->Value} (h:ay w b E cs) (hc:cs=((List.range (n*size)).map g).toArray) (hm:n<=maxLen):aV w size (.slice (some (π b 0)) n n) n g:=by refine .inr ⟨_,_,rfl,Nat.le_refl _,hm,fun o ho=>⟨rfl,?_⟩⟩;rw [h.cell,hc,Nat.zero_add];simp [ho]
def Qi (w:World) (e:Ending) (w':World):Prop:=∃xg xo xc,e= .returned (pV ⟨.slice xg 1 1,ν,ν,.slice xo 1 1,.slice xc 9 9⟩ gj)/\fP w' ⟨.slice xg 1 1,ν,ν,.slice xo 1 1,.slice xc 9 9⟩ gj/\Below w.heap.size w w'
theorem Zz (w:World):Calls Tryz.prog 51 #[] w (Qi w):=by
 obtain ⟨Wf,Uy⟩:∃Wf,Wf=(((w.alloc (.cells #[.slice (some (π (w.heap.size+1) 0)) 1 1,ν,ν,.slice (some (π (w.heap.size+1+1) 0)) 1 1,ι 2,.slice (some (π (w.heap.size+1+1+1) 0)) 9 9] 27)).alloc (.cells #[.bool false] 4)).alloc (.cells #[ι 0] 3)).alloc (.cells #[ι 32,ι 0,ι 0,ι 0,ι 0,ι 0,ι 0,ι 0,ι 0,ι 0,ι 4,ι 0,ι 0,ι 0,ι 0,ι 5,ι 0,ι 0,ι 0,ι 0,ι 19,ι 0,ι 0,ι 0,ι 0,ι 23,ι 7,ι 0,ι 0,ι 0,ι 40,ι 0,ι 1,ι 0,ι 0,ι 31,ι 0,ι 0,ι 0,ι 0,ι 0,ι 0,ι 0,ι 0,ι 0] 40):=⟨_,rfl⟩;have k0:ay Wf w.heap.size 27 #[.slice (some (π (w.heap.size+1) 0)) 1 1,ν,ν,.slice (some (π (w.heap.size+1+1) 0)) 1 1,ι 2,.slice (some (π (w.heap.size+1+1+1) 0)) 9 9]:=by rw [Uy];exact (((ay.new _ _ _).alloc _).alloc _).alloc _
 have k1:ay Wf (w.heap.size+1) 4 #[.bool false]:=by rw [Uy];exact ((ay.a_ (by simp)).alloc _).alloc _
 have k2:ay Wf (w.heap.size+1+1) 3 #[ι 0]:=by rw [Uy];exact (ay.a_ (by simp)).alloc _
 have k3:ay Wf (w.heap.size+1+1+1) 40 #[ι 32,ι 0,ι 0,ι 0,ι 0,ι 0,ι 0,ι 0,ι 0,ι 0,ι 4,ι 0,ι 0,ι 0,ι 0,ι 5,ι 0,ι 0,ι 0,ι 0,ι 19,ι 0,ι 0,ι 0,ι 0,ι 23,ι 7,ι 0,ι 0,ι 0,ι 40,ι 0,ι 1,ι 0,ι 0,ι 31,ι 0,ι 0,ι 0,ι 0,ι 0,ι 0,ι 0,ι 0,ι 0]:=by rw [Uy];exact ay.a_ (by simp)
 have hb:Below w.heap.size w Wf:=by rw [Uy];exact ((((Below.refl _ _).alloc (Nat.le_refl _) _).alloc (by simp) _).alloc (by simp;omega) _).alloc (by simp;omega) _
 obtain ⟨c0,c1,c2,c3,c4,c5⟩:=k0.c6;go_enter Tryz.func51,Tryz.ntmps51;go_wp2_with fail;rw [<-Uy];clear Uy;refine bodyPost_ret (v:= .agg #[.slice (some (π (w.heap.size+1) 0)) 1 1,ν,ν,.slice (some (π (w.heap.size+1+1) 0)) 1 1,ι 2,.slice (some (π (w.heap.size+1+1+1) 0)) 9 9]) ?_ rfl ⟨_,_,_,rfl,⟨px k1 rfl (by decide),.inl ⟨rfl,rfl⟩,.inl ⟨rfl,rfl⟩,px k2 rfl (by decide),px k3 (by kernel_rfl) (by decide)⟩,hb⟩;simp [results,Tryz.results51,go_sem,c0,c1,c2,c3,c4,c5]
end Go.Proofs.YtblkblclmbhjiaaGreat.Ma
