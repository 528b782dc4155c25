import Derived.Test.YtblkblclmbhjiaaGreatM4
import Derived.StillTailTactics
import Derived.Deep.RegionLaw
import Derived.RangeFuncNested
import Derived.RangeFuncBound
import Derived.RangeFuncCalls
import Derived.RangeFuncLeaves
import Derived.Shelf.Abstract
import Derived.TacticsInMore
import Derived.LoopNIn
import Derived.LoopIn
set_option linter.unusedVariables false
set_option linter.unusedSimpArgs false
set_option maxHeartbeats 40000000
set_option maxRecDepth 100000
open Go.Proofs.Tryz
abbrev afN:=@Int.eq_ofNat_of_zero_le
abbrev ags:=@Go.step_append_lies
abbrev agA:=@List.take_succ_eq_append_getElem
theorem qX2 {p:Prop} (h:p:=by
 have um:g < wr.heap.size:=aS c0
 gi_wp2
 refine hR.mono ?_;rintro e W3 (⟨rfl,Rc,iO⟩|⟨rfl,Bu⟩)
 ·have HK:=ae (iO g (by simp [dJ]));have HJ:=ae Rc;clear iO Rc
  gi_wp2
  go_roundw
  case rel=>exact ⟨k+1,omm,smm,by rw [<-HT.o];exact HJ.o,by rw [HK.o,Below.heap_alloc _ _ _ um];exact HG.o⟩
  case measure=>simp [intOf];omega
 ·have HJ:=ae Bu;clear Bu
  gi_wp2
  refine bodyPost_ret (afT rfl _ _ _) rfl ?_;exact ⟨⟨_,rfl⟩,.inr ⟨_,by rw [HT.o];exact List.take_prefix _ _,HJ.o⟩⟩):p:=h
theorem qX6 {p:Prop} (h:p:=by
 obtain rfl:k=L.length:=omm;have HJ:=ae hJs;clear hJs
 gi_wp2
 go_end0;exact ⟨⟨_,rfl⟩,.inl ⟨_,rfl,by have:=HJ.o;rwa [List.take_length] at this⟩⟩):p:=h
theorem agO {p:Prop} (h:p:=by
 have ht:L.take k++[L[k]]=L.take (k+1):=by rw [agA a8]
 have HT:=ae ht;have HG:=ae rl;clear ht rl Rb hJs;generalize L[k]=x at*;exact qX2):p:=h
theorem agI {p:Prop} (h:p:=by
 obtain ⟨rfl,hj⟩:=hrel
 gi_wp2
 go_end0;exact ⟨⟨_,rfl⟩,.inl ⟨_,rfl,hj⟩⟩):p:=h
abbrev afR:=@Go.wpAnyH_ready
abbrev af4:=@Go.wpAnyH_take
namespace Go.Proofs.YtblkblclmbhjiaaGreat.dT
open Go.RowKit ak.Vm
open ak hiding aL an aj
def SI (w:World) (ab:Nat) (V L:Value) (az nl:Nat) (R':Raw) (n:Nat) (r:Ending) (w':World):Prop:=
 r= .returned (.tuple #[ι n,ι 0])/\∃V',qg w' ab V' L az nl R'/\da (bp ab V L) w w'/\∀b,V'.ownBlock=some b->V.ownBlock=some b\/w.heap.size<=b
theorem Hg:(prog.info? 202).map (fun i=>(i.zero,i.size,i.bytes))=some (some (.agg #[.int .u64 0,ι 0,ι 0,ι 0,ι 0,ι 0,ι 0,ι 0]),8,64):=by kernel_rfl
def qE:List Value:=[.int .u64 0,ι 0,ι 0,ι 0,ι 0,ι 0,ι 0,ι 0]
theorem OQ {w:World} {V:Value} {R:Raw} (h:w.ownsRow 0 202 8 V (R.made+1) (eE (R.made*8) (ep R)++qE)):Row w 202 8 V (R.made+1) (ep (pT R dI)):=by
 unfold Row;have e:eE ((R.made+1)*8) (ep (pT R dI))=eE (R.made*8) (ep R)++qE:=by
  rw [show (R.made+1)*8=R.made*8+8 by omega,pD];congr 1
  ·refine nS fun o ho=>?_;unfold ep pT;dsimp only;have:o / 8≠R.made:=omm;rw [aj _ _ this,aj _ _ this,aj _ _ this]
  ·have hk:∀i,i < 8->(R.made*8+i) / 8=R.made/\(R.made*8+i) % 8=i:=fun i hi=>omm;unfold qE;simp only [show List.range 8=[0,1,2,3,4,5,6,7] from rfl,List.map_cons,List.map_nil];unfold ep pT;dsimp only;simp only [(hk 0 omm).1,(hk 0 omm).2,(hk 1 omm).1,(hk 1 omm).2,(hk 2 omm).1,(hk 2 omm).2,(hk 3 omm).1,(hk 3 omm).2,(hk 4 omm).1,(hk 4 omm).2,(hk 5 omm).1,(hk 5 omm).2,(hk 6 omm).1,(hk 6 omm).2,(hk 7 omm).1,(hk 7 omm).2,an];rfl
 rw [e];exact h
theorem Kx {w:World} {ab nb cn lb cl az nl q e:Nat} {R:Raw} (h:dO w ab nb cn lb cl az nl R) (v:eW) (hq:q < nl) (he:e<=1) {m:Nat} (r8:R.cS=(m:Int)) (hm:m < R.made) (hu:R.used < az) (dA:R.ends q e < 0\/∃k:Nat,R.ends q e=(k:Int)/\k < R.made/\k≠m) (hc:R.cR q<=4194304) (yZ:R.made<=az) (qV:az<=4194304) (iZ:nl<=256):
 Calls prog 306 #[ρ ab,ι q,ι e,bG v] w fun r w'=>r= .returned (.tuple #[ι m,ι 0])/\da [ab,nb,lb] w w'/\dO w' ab nb cn lb cl az nl (gH R q e v):=by
 have ul:Below w.heap.size w (w.alloc (.cells #[.int .u64 v.key,ι (v.tg 0),ι (v.tg 1),ι (v.tg 2),ι (v.tg 3)] 118)):=(afL _ w).alloc (afF _) _;have AF:=ay.new w 118 #[.int .u64 v.key,ι (v.tg 0),ι (v.tg 1),ι (v.tg 2),ι (v.tg 3)];have Nk:=h.later ul;have HI:=ae (G_ Nk.c hq he);have DJ:=ae Nk;have gp:=ae ul;have tz:=ae AF;have hz:=Nk.apart AF;have HL:=ae (fun wx (hx:dO wx ab nb cn lb cl az nl (iu (tW R) m v))=>DH hx (n:=m) (by show m < R.made;exact hm) hq he dA (by show R.cR q<=_;exact hc) (by show R.made<=_;omega) iZ);have HP:=ae (show gH R q e v={e_ (iu (tW R) m v) m q e with used:=R.used+1} by unfold gH;rw [r8,abH omm,abH omm];rfl);have WN:=ae r8;have HUS:=ae (show (e_ (iu (tW R) m v) m q e).used=R.used from rfl);have h0:=Nk.h0;clear h Nk ul AF dA hc r8;unfold bG;obtain ⟨w1,jo⟩:∃w1,w1=w.alloc (.cells #[.int .u64 v.key,ι (v.tg 0),ι (v.tg 1),ι (v.tg 2),ι (v.tg 3)] 118):=⟨_,rfl⟩;rw [<-jo] at HI DJ gp tz h0;obtain ⟨d1,d2,d3⟩:=DJ.o.ne;obtain ⟨a1,a3,a4,k0,k1,k2,k3,k4,b5,b6,b7,fn,fa⟩:=DJ.o.facts hm;obtain ⟨g0,g1,g2,g3,g4,gf⟩:=jc tz.o;rw [WN.o] at a3;go_enter func306,ntmps306;go_wp2_with fail;rw [<-jo];clear jo;have SE:Hid (da [ab,nb,lb] w w1):=ae (da.ah gp.o);clear gp;generalize w.heap.size=bx at tz hz g0 g1 g2 g3 g4 gf ⊢;have bz:((R.used:Int)==(az:Int))=false:=by simp;omega
 refine HI.o.mono ?_;rintro r w' ⟨rfl,rfl⟩;go_wp2_with fail;go_region;go_wp2_with fail;obtain ⟨w2,qD⟩:∃w2,w2=(w1.setCell (π ab 3) (ι (R.bK m 0))).drew:=⟨_,rfl⟩;rw [<-qD];have tZ:tW R={R with cS:=R.bK m 0}:=by unfold tW;rw [WN.o];rfl
 have hX2:dO w2 ab nb cn lb cl az nl (tW R):=by rw [qD,tZ];exact (DJ.o.Bf (R.bK m 0)).drewN 1
 have hR2:=tz.o.aB (show da [ab] w1 w2 by rw [qD];exact ((da.refl [ab] w1).setCell smm _).drew) sso;have hF2:da [ab,nb,lb] w w2:=by rw [qD];exact (SE.o.setCell smm _).drew
 have lN:=ae hX2;have rj:=ae hR2;have tB:=ae hF2;clear qD tZ hX2 hR2 hF2 a1 a3 a4 k0 k1 k2 k3 k4 b5 b6 b7 fn fa g0 g1 g2 g3 g4 gf h0 SE DJ tz HI;obtain ⟨a1,a3,a4,k0,k1,k2,k3,k4,b5,b6,b7,fn,fa⟩:=lN.o.facts (n:=m) hm;obtain ⟨g0,g1,g2,g3,g4,gf⟩:=jc rj.o;have Bq:(tW R).made=R.made:=rfl;rw [Bq] at a1;clear Bq a3 a4;go_region;go_wp2_with fail;have Jl:dO ((dr w2 nb (m*8) v).drewN 1) ab nb cn lb cl az nl (iu (tW R) m v):=(lN.o.yY (n:=m) hm v).drewN 1;have HF:=ae ((fD (b:=nb) tB.o smm (m*8) v).drewN 1);have HC:=ae (HL.o _ Jl);clear Jl;refine HC.o.mono ?_;rintro r w3 ⟨rfl,F3,X3⟩;have c4:=X3.h4;rw [HUS.o] at c4;have c4f:=X3.fa;have Jj:=ae X3;have DK:=ae F3;clear X3 F3 HL HC;go_wp2;go_ret2;refine ⟨rfl,(HF.o.trans DK.o).setCell smm _,?_⟩;rw [HP.o];exact Jj.o.yW (R.used+1)
theorem appended {w w4:World} {ab az nl g cap:Nat} {V L:Value} {R:Raw} {o:Obj} (X:qg w ab V L az nl R) (fo:w4.ownsRow 0 202 8 (.slice (some (π g 0)) (R.made+1) cap) (R.made+1) (eE (R.made*8) (ep R)++qE))
 (hg:(w.alloc o).grownBy w4 V.ownBlock) (pG:V.ownBlock=some g\/g=w.heap.size+1):
 w4.cell? (π ab 1)=some V/\(∀o,w4.frozen? (π ab o)=false)/\da (bp ab V L) w (w4.setCell (π ab 1) (.slice (some (π g 0)) (R.made+1) cap))/\
 qg (w4.setCell (π ab 1) (.slice (some (π g 0)) (R.made+1) cap)) ab (.slice (some (π g 0)) (R.made+1) cap) L az nl (pT R dI)/\(V.ownBlock=some g\/w.heap.size<=g)/\da (V.ownBlock.toList) w w4:=by
 have h4:ay w4 ab 191 #[ι az,V,L,ι R.cS,ι R.used]:=(X.head.alloc o).grown hg (fun e=>X.nb e.symm);have hn:=OQ fo;have hga:g≠ab:=by have:=hn.eF h4 dee;simpa [Value.ownBlock] using this
 have hl:Row w4 194 3 L nl (lW R):=(X.lists.alloc o).grown hg (by
  rcases X.lists.ne X.nodes dee with h|h
  ·exact .inl h
  ·exact .inr h)
 have qW:da (V.ownBlock.toList) w w4:=by refine ((da.refl _ w).alloc o).trans ⟨hg.os,hg.tape,hg.output,hg.size,fun k hk hs=>hg.block k hk ?_⟩;intro e;exact hs (by rw [<-e];simp)
 refine ⟨h4.cell 1,h4.frozen,((qW.mono (T:=bp ab V L) (by intro k hk;simp [bp] at hk ⊢;exact .inr (.inl hk))).setCell (by simp [bp]) _),⟨h4.set 1 _,hn.other (by simp [Value.ownBlock];exact hga) _ _,hl.other X.lb _ _⟩,?_,qW⟩;rcases pG with h|h
 ·exact .inl h
 ·exact .inr omm
theorem DO {w:World} {V:Value} {n:Nat} (h:(V=ν/\n=0)\/∃b cap,V= .slice (some (π b 0)) n cap/\n<=cap/\cap<=maxLen/\b < w.heap.size) (wx:World):
 (Builtin.len_ #[189] 3 #[V]).run prog wx= .ok (ι n) wx:=by
 rcases h with ⟨rfl,rfl⟩|⟨b,cap,rfl,_⟩
 ·exact run_len_slice (P:=prog) wx 189 3 none 0 0 krr
 ·exact run_len_slice (P:=prog) wx 189 3 (some (π b 0)) n cap krr
theorem Ky {w:World} {ab lb cl az nl q e:Nat} {V:Value} {R:Raw} (h:qg w ab V (.slice (some (π lb 0)) nl cl) az nl R) (v:eW) (hq:q < nl) (he:e<=1) (r8:R.cS < 0) (hu:R.used < az) (dA:R.ends q e < 0\/∃k:Nat,R.ends q e=(k:Int)/\k < R.made/\k≠R.made) (hc:R.cR q<=4194304) (FJ:R.made < 4194304) (qV:az<=4194304) (iZ:nl<=256):
 Calls prog 306 #[ρ ab,ι q,ι e,bG v] w (SI w ab V (.slice (some (π lb 0)) nl cl) az nl (gH R q e v) R.made):=by
 obtain ⟨i0,hi,gA,jF,r_⟩:=aga Hg;have ul:Below w.heap.size w (w.alloc (.cells #[.int .u64 v.key,ι (v.tg 0),ι (v.tg 1),ι (v.tg 2),ι (v.tg 3)] 118)):=(afL _ w).alloc (afF _) _;have AF:=ay.new w 118 #[.int .u64 v.key,ι (v.tg 0),ι (v.tg 1),ι (v.tg 2),ι (v.tg 3)];have Nk:=h.later ul;have HI:=ae (G_ Nk hq he);have DJ:=ae Nk;have gp:=ae ul;have tz:=ae AF;have HL:=ae (fun (wx:World) (nb cn:Nat) (hx:dO wx ab nb cn lb cl az nl (iu (pT R dI) R.made v))=>DH hx (n:=R.made) (by show R.made < R.made+1;omega) hq he (by rcases dA with h1|⟨k,h1,h2,h3⟩;exact .inl h1;exact .inr ⟨k,h1,by show k < R.made+1;omega,h3⟩) (by show R.cR q<=_;exact hc) (by show R.made+1<=_;omega) iZ);have HP:=ae (show gH R q e v={e_ (iu (pT R dI) R.made v) R.made q e with used:=R.used+1} by unfold gH;rw [afE r8,afE r8]);have HUS:=ae (show (e_ (iu (pT R dI) R.made v) R.made q e).used=R.used from rfl);obtain ⟨a0,a1,-,a3,a4⟩:=Nk.head.c5;have ir:=h.nodes.val;have eN:V.ownBlock≠some ab:=h.nb;have dn:∀b,V.ownBlock=some b->b < w.heap.size:=fun b hb=>(af3 h.nodes b hb).2;have wN:=h.vl;have Vo:=h.lb;have C2:∀u∈qE,u.oneCell'=true:=by decide
 have C3:R.made+1<=maxLen:=by unfold maxLen;omega
 have C4:(R.made+1)*64<=140737488355328:=omm;have Ζ:=ae C2;have Η:=ae C3;have HC4:=ae C4;clear h Nk ul AF dA hc C2 C3 C4;unfold bG;obtain ⟨w1,jo⟩:∃w1,w1=w.alloc (.cells #[.int .u64 v.key,ι (v.tg 0),ι (v.tg 1),ι (v.tg 2),ι (v.tg 3)] 118):=⟨_,rfl⟩;rw [<-jo] at HI DJ gp tz a0 a1 a3 a4;generalize hfd:R.cS=Km at*;have HFD:=ae hfd;clear hfd;have bz:((R.used:Int)==(az:Int))=false:=by simp;omega
 have Kz:=ae ir;have dC:=ae eN;have fg:=ae dn;have ki:=ae wN;have Vp:=ae Vo;clear ir eN dn wN Vo;have hlen:=DO Kz.o;go_enter func306,ntmps306;go_wp2_with fail;rw [<-jo];clear jo;generalize eO:w.heap.size=bx at tz ⊢;refine HI.o.mono ?_;rintro r w' ⟨rfl,rfl⟩;go_wp2_with fail;go_region;obtain ⟨w2,qD⟩:∃w2,w2=w1.drew:=⟨_,rfl⟩;rw [<-qD];have lN:Hid (qg w2 ab V (.slice (some (π lb 0)) nl cl) az nl R):=by rw [qD];exact ae (DJ.o.drewN 1)
 have tB:Hid (da [] w w2):=by rw [qD];exact ae ((da.ah gp.o).drew)
 have rj:Hid (ay w2 bx 118 #[.int .u64 v.key,ι (v.tg 0),ι (v.tg 1),ι (v.tg 2),ι (v.tg 3)]):=by rw [qD];exact tz.o
 have ze:Hid (w1.heap.size=w2.heap.size):=by rw [qD];exact ae rfl
 have b1:w2.cell? (π ab 1)=some V:=lN.o.head.cell 1;have b3:w2.cell? (π ab 3)=some (ι Km):=by rw [<-HFD.o];exact lN.o.head.cell 3
 have lab:=lN.o.head.lt;clear a0 a1 a3 a4 qD DJ gp tz HI;have WO:(w2.alloc (.cells #[.int .u64 0,ι 0,ι 0,ι 0,ι 0,ι 0,ι 0,ι 0] 202)).heap.size=w2.heap.size+1:=by simp
 have tC:=ae WO;clear WO;go_wp2_with ((at_builtin;refine wpList_append_lies _ rfl _ _ 189 rfl 0 202 i0 (.agg #[.int .u64 0,ι 0,ι 0,ι 0,ι 0,ι 0,ι 0,ι 0]) 8 64 underlying189 hi gA jF r_ rfl dee V _ _ rfl ((lN.o.nodes).alloc _) (π w2.heap.size 0) 1 1 qE rfl rfl (gP.gr _ qE _ _ rfl) Ζ.o dee Η.o HC4.o (afO _) _ tC.o ?_;intro g cap w4 fo fe pG um;obtain ⟨j1,j2,j3,j4,j5,j6⟩:=appended lN.o fo fe pG;have J3:=ae j3;have J4:=ae j4;have J5:=ae j5;have J6:=ae j6;clear fo fe pG j3 j4 j5 j6));obtain ⟨w5,hw5⟩:∃w5,w5=w4.setCell (π ab 1) (.slice (some (π g 0)) (R.made+1) cap):=⟨_,rfl⟩;rw [<-hw5] at J3 J4 ⊢;have WQ:dO w5 ab g cap lb cl az nl (pT R dI):=⟨J4.o,Nat.succ_pos _⟩;have Vq:bx∉bp ab V (.slice (some (π lb 0)) nl cl):=by have e1:=lN.o.head.ne rj.o dee;have e2:=lN.o.nodes.eF rj.o dee;have e3:=lN.o.lists.eF rj.o dee;simp [bp,Value.ownBlock] at e2 e3 ⊢;refine ⟨fun e=>e1 e.symm,e2,fun e=>e3 e.symm⟩
 have hR5:=rj.o.aB J3.o Vq;have OR:=ae ((tB.o.mono (T:=bp ab V (.slice (some (π lb 0)) nl cl)) smm).trans J3.o);have HG:Hid (V.ownBlock=some g\/w.heap.size<=g):=ae (by rcases J5.o with h1|h1;exact .inl h1;exact .inr (by have:=tB.o.size;omega));have ZH:=ae WQ;obtain ⟨d1,d2,d3⟩:=WQ.ne;have hn5:R.made < (pT R dI).made:=Nat.lt_succ_self _;obtain ⟨a1,a3,a4,k0,k1,k2,k3,k4,b5,b6,b7,fn,fa⟩:=WQ.facts hn5;obtain ⟨g0,g1,g2,g3,g4,gf⟩:=jc hR5;have Jm:bx≠ab/\bx≠g/\bx≠lb:=WQ.apart hR5;have Bq:(pT R dI).made=R.made+1:=rfl;rw [Bq] at a1;clear Bq a3 a4 hw5 WQ Vq hR5 hn5 j1 j2 b1 b3 J3 J4 J5 J6 lN tB rj ze tC Kz dC fg ki Vp hlen lab;go_region;go_wp2_with fail;have WR:dO ((dr w5 g (R.made*8) v).drewN 1) ab g cap lb cl az nl (iu (pT R dI) R.made v):=(ZH.o.yY (n:=R.made) (Nat.lt_succ_self _) v).drewN 1;have Jn:Hid (da [g] w5 ((dr w5 g (R.made*8) v).drewN 1)):=ae ((fD (b:=g) (da.refl [g] w5) smm (R.made*8) v).drewN 1);have HC:=ae (HL.o _ _ _ WR);clear WR;refine HC.o.mono ?_;rintro r w7 ⟨rfl,F7,X7⟩;have c4:=X7.h4;rw [HUS.o] at c4;have c4f:=X7.fa;have HX7:=ae X7;have NM:=ae F7;clear X7 F7 HL HC;go_wp2;go_ret2;refine ⟨rfl,.slice (some (π g 0)) (R.made+1) cap,?_,?_,?_⟩
 ·rw [HP.o];exact (HX7.o.yW (R.used+1)).c
 ·have f1:da (g::bp ab V (.slice (some (π lb 0)) nl cl)) w _:=(((OR.o.mono (by intro k hk;simp [hk])).trans (Jn.o.mono (by intro k hk;simp at hk;simp [hk]))).trans (NM.o.mono (by intro k hk;simp [bp,Value.ownBlock] at hk ⊢;rcases hk with rfl|rfl|rfl<;>simp))).setCell (p:=(π ab 4)) (by simp [bp]) (ι (R.used+1));refine f1.Wx fun k hk=>?_;rcases List.mem_cons.1 hk with rfl|hk
  ·rcases HG.o with h1|h1
   ·left;simp [bp,h1]
   ·exact .inr h1
  ·exact .inl hk
 ·intro b hb;have:g=b:=by simpa [Value.ownBlock] using hb
  subst this;exact HG.o
def bP (w:World) (ab:Nat) (V L:Value) (az nl:Nat) (a:Nd):Prop:=∃R A,qg w ab V L az nl R/\GQ nl R A none/\abs A=a/\R.made<=az
theorem SJ {l:List Nat} {n m:Nat} (pR:l.Nodup) (h:kK l n=(m:Int)):m≠n:=by
 induction l with
 |nil=>simp [kK] at h
 |cons a t ih=>
  have h2:=List.nodup_cons.1 pR;unfold kK at h;split at h
  ·next e=>
   subst e;cases t with
   |nil=>simp [hd] at h
   |cons b t=>simp [hd] at h;intro e;subst e;have:b=m:=omm;subst this;exact h2.1 smm
  ·exact ih h2.2 h
section
variable {nl:Nat} {R:Raw} {A:Ar}
theorem xT (h:GQ nl R A none) {q n e:Nat} (hq:q < nl) (hn:n∈A.ls q) (he:e<=1):oK R n e:=by
 unfold oK;rw [h.bK q n e hq hn he];rcases Sm (dir e (A.ls q)) n with h1|h1
 ·left;omega
 ·right;obtain ⟨m,hm⟩:=afN h1;have eG:=Ft hm;rw [iD] at eG;exact ⟨m,hm,by rw [h.made];exact h.wW q m hq eG,SJ (kS.2 (h.nd q hq)) hm⟩
theorem DP (h:GQ nl R A none) {q:Nat} (hq:q < nl):(A.ls q).length<=R.used:=by rw [h.used];exact AW (f:=fun q=>(A.ls q).length) hq
theorem zg (h:GQ nl R A none):R.used+A.fr.length=R.made:=by have:=h.Sl;simp at this;rw [h.made];exact this
theorem KD (h:GQ nl R A none) (hm:R.made<=4194304) (iZ:nl<=256) {q n:Nat} (hq:q < nl) (hn:n∈A.ls q):Rm R nl n q:=by have h1:=DP h hq;have h2:=zg h;have h3:=agw hn;have h4:=h.cR q hq;exact ⟨by rw [h.made];exact h.wW q n hq hn,hq,h.own q n hq hn,xT h hq hn omm,xT h hq hn omm,omm,omm,hm,iZ,omm,omm⟩
theorem uo (h:GQ nl R A none) {q e:Nat} (hq:q < nl) (he:e<=1):R.ends q e < 0/\A.ls q=[]\/∃k:Nat,R.ends q e=(k:Int)/\k∈A.ls q/\k=ck (abs A) q e:=by
 rw [h.ends q e hq he];unfold ck;show _\/∃k:Nat,_/\_/\k=(hd (dir (1 - e) (A.ls q))).toNat;cases hh:dir (1 - e) (A.ls q) with
 |nil=>
  left;refine ⟨by simp [hd],?_⟩;cases hl:A.ls q with
  |nil=>rfl
  |cons x t=>
   have:x∈dir (1 - e) (A.ls q):=by rw [iD,hl];simp
   rw [hh] at this;simp at this
 |cons x t=>right;refine ⟨x,rfl,?_,by simp [hd]⟩;rw [<-iD (1 - e),hh];simp
variable {w:World} {ab az:Nat} {V L:Value} {a:Nd}
theorem bP.aB {S:List Nat} {w':World} (h:bP w ab V L az nl a) (f:da S w w') (hs:∀b,b∈bp ab V L->b∉S):bP w' ab V L az nl a:=by obtain ⟨R,A,hC,hR,hA,hm⟩:=h;exact ⟨R,A,hC.aB f hs,hR,hA,hm⟩
theorem bP.later {w':World} (h:bP w ab V L az nl a) (b:Below w.heap.size w w'):bP w' ab V L az nl a:=by obtain ⟨R,A,hC,hR,hA,hm⟩:=h;exact ⟨R,A,hC.later b,hR,hA,hm⟩
theorem bP.drewN (h:bP w ab V L az nl a) (n:Nat):bP (w.drewN n) ab V L az nl a:=by obtain ⟨R,A,hC,hR,hA,hm⟩:=h;exact ⟨R,A,hC.drewN n,hR,hA,hm⟩
theorem bP.lt (h:bP w ab V L az nl a):∀b,b∈bp ab V L->b < w.heap.size:=by
 obtain ⟨R,A,hC,hR,hA,hm⟩:=h;intro b hb;simp [bp] at hb;rcases hb with rfl|hb|hb
 ·exact hC.head.lt
 ·exact (af3 hC.nodes b hb).2
 ·exact (af3 hC.lists b hb).2
theorem uT (h:bP w ab V L az nl a) {q:Nat} (hq:q < nl):Calls prog 204 #[ρ ab,ι q] w fun r w'=>r= .returned (ι (a.ls q).length)/\w=w':=by obtain ⟨R,A,hC,hR,rfl,hm⟩:=h;have:=WI hC hq;rw [hR.cR q hq] at this;exact this
theorem xU (h:bP w ab V L az nl a) {q e:Nat} (hq:q < nl) (he:e<=1) (bz:a.ls q≠[]):Calls prog 134 #[ρ ab,ι q,ι e] w fun r w'=>r= .returned (.tuple #[ι (ck a q e),.bool true])/\w=w':=by
 obtain ⟨R,A,hC,hR,rfl,hm⟩:=h;have:=Kl hC hq he;rcases uo hR hq he with ⟨_,h1⟩|⟨k,h1,h2,h3⟩
 ·exact absurd h1 bz
 ·rw [xO h1,h3] at this;exact this
theorem xV (h:bP w ab V L az nl a) {q e:Nat} (hq:q < nl) (he:e<=1) (bz:a.ls q=[]):Calls prog 134 #[ρ ab,ι q,ι e] w fun r w'=>r= .returned (.tuple #[ι 0,.bool false])/\w=w':=by
 obtain ⟨R,A,hC,hR,rfl,hm⟩:=h;have:=Kl hC hq he;rcases uo hR hq he with ⟨h1,_⟩|⟨k,h1,h2,h3⟩
 ·rw [xP h1] at this;exact this
 ·exfalso;have bz:A.ls q=[]:=bz;rw [bz] at h2;simp at h2
theorem DQ (h:bP w ab V L az nl a) {q n e:Nat} (hq:q < nl) (hn:n∈a.ls q) (he:e<=1):Calls prog 135 #[ρ ab,ι n,ι e] w fun r w'=>r= .returned (d_ (kK (dir e (a.ls q)) n))/\w=w':=by obtain ⟨R,A,hC,hR,rfl,hm⟩:=h;have h1:n∈A.ls q:=hn;have:=SC hC (n:=n) (by rw [hR.made];exact hR.wW q n hq h1) (by rw [hR.own q n hq h1];omega) hm he;rw [hR.bK q n e hq h1 he] at this;exact this
theorem KH (h:bP w ab V L az nl a) {q n:Nat} (hq:q < nl) (hn:n∈a.ls q):Calls prog 208 #[ρ ab,ι n] w fun r w'=>r= .returned (.tuple #[bG (a.val n),ι 0])/\Below w.heap.size w w':=by obtain ⟨R,A,hC,hR,rfl,hm⟩:=h;have h1:n∈A.ls q:=hn;have:=xM hC (n:=n) (by rw [hR.made];exact hR.wW q n hq h1) (by rw [hR.own q n hq h1];omega) hm;rw [hR.val] at this;exact this
theorem zh (h:bP w ab V L az nl a) {q n:Nat} (hq:q < nl) (hn:n∈a.ls q):Calls prog 60 #[ρ ab,ι n] w fun r w'=>r= .returned (.tuple #[ι q,.bool true])/\w=w':=by obtain ⟨R,A,hC,hR,rfl,hm⟩:=h;have h1:n∈A.ls q:=hn;have:=SB hC (n:=n) (by rw [hR.made];exact hR.wW q n hq h1) (by rw [hR.own q n hq h1];omega) hm;rw [hR.own q n hq h1] at this;exact this
theorem ss {R:Raw} (h:qg w ab V L az nl R) {n q:Nat} (hn:n < R.made) (hq:q < nl):∃nb cn lb cl,V= .slice (some (π nb 0)) R.made cn/\L= .slice (some (π lb 0)) nl cl/\dO w ab nb cn lb cl az nl R:=by obtain ⟨nb,cn,rfl⟩:=oM h hn;obtain ⟨lb,cl,rfl⟩:=oL h hq;exact ⟨nb,cn,lb,cl,rfl,rfl,h,omm⟩
theorem Q8 (h:bP w ab V L az nl a) {q n:Nat} (hq:q < nl) (hn:n∈a.ls q) (x:eW):Calls prog 268 #[ρ ab,ι n,bG x] w fun r w'=>r= .returned (ι 0)/\da (bp ab V L) w w'/\bP w' ab V L az nl (GZ a n x):=by
 obtain ⟨R,A,hC,hR,rfl,hm⟩:=h;have h1:n∈A.ls q:=hn;have a8:n < R.made:=by rw [hR.made];exact hR.wW q n hq h1
 obtain ⟨nb,cn,lb,cl,rfl,rfl,hX⟩:=ss hC a8 hq;refine (Kj hX a8 (by rw [hR.own q n hq h1];omega) hm x).mono ?_;rintro r w' ⟨rfl,f,x'⟩;exact ⟨rfl,f,_,_,x'.c,yS hR n x,rfl,hm⟩
theorem acC {p:Prop} (h:p:=by
 refine ⟨by rw [hR.val];rfl,f,_,A',?_,Q9,hA',by rw [G3];exact hm⟩;have:=x'.c;rw [G3] at this;exact this):p:=h
theorem WS (h:bP w ab V L az nl a) (qi:az<=4194304) (iZ:nl<=256) {q e:Nat} (hq:q < nl) (he:e<=1) (bz:a.ls q≠[]):Calls prog 308 #[ρ ab,ι q,ι e] w fun r w'=>r= .returned (.tuple #[bG (a.val (ck a q e)),ι 0])/\da (bp ab V L) w w'/\bP w' ab V L az nl (takeN a q (ck a q e)):=by
 obtain ⟨R,A,hC,hR,rfl,hm⟩:=h;rcases uo hR hq he with ⟨_,h1⟩|⟨k,h1,h2,h3⟩
 ·exact absurd h1 bz
 ·rw [<-h3];have r:=KD hR omm iZ hq h2;obtain ⟨nb,cn,lb,cl,rfl,rfl,hX⟩:=ss hC r.hn hq;obtain ⟨A',Q9,hA'⟩:=AZ hR hq h2;refine (uQ hX r he h1).mono ?_;rintro r' w' ⟨rfl,f,x'⟩;have G3:(jD R k).made=R.made:=(jN R k).2.1;exact acC
theorem Br (h:bP w ab V L az nl a) (qi:az<=4194304) (iZ:nl<=256) {q n:Nat} (hq:q < nl) (hn:n∈a.ls q):Calls prog 67 #[ρ ab,ι n] w fun r w'=>r= .returned (.tuple #[bG (a.val n),ι 0])/\da (bp ab V L) w w'/\bP w' ab V L az nl (takeN a q n):=by obtain ⟨R,A,hC,hR,rfl,hm⟩:=h;have h2:n∈A.ls q:=hn;have r:=KD hR omm iZ hq h2;obtain ⟨nb,cn,lb,cl,rfl,rfl,hX⟩:=ss hC r.hn hq;obtain ⟨A',Q9,hA'⟩:=AZ hR hq h2;refine (Kq hX r hm).mono ?_;rintro r' w' ⟨rfl,f,x'⟩;have G3:(jD R n).made=R.made:=(jN R n).2.1;exact acC
theorem SK (h:bP w ab V L az nl a) (qi:az<=4194304) (iZ:nl<=256) {q n e:Nat} (hq:q < nl) (hn:n∈a.ls q) (he:e<=1):Calls prog 274 #[ρ ab,ι n,ι q,ι e] w fun r w'=>r= .returned (ι 0)/\da (bp ab V L) w w'/\bP w' ab V L az nl (mZ a n q e):=by
 obtain ⟨R,A,hC,hR,rfl,hm⟩:=h;have h2:n∈A.ls q:=hn;have r:=KD hR omm iZ hq h2;obtain ⟨nb,cn,lb,cl,rfl,rfl,hX⟩:=ss hC r.hn hq;obtain ⟨A',Q9,hA'⟩:=Kb hR hq h2 he;obtain ⟨hcut,_⟩:=yR hR hq h2;have nT:∀k,k∈(qB A n q).ls q->k∈A.ls q/\k≠n:=by intro k hk;have hk:k∈aL A.ls q ((A.ls q).erase n) q:=hk;rw [an] at hk;exact ⟨List.mem_of_mem_erase hk,fun e=>by subst e;exact (hR.nd q hq).not_mem_erase hk⟩
 have dA:(cP R n).ends q e < 0\/∃m:Nat,(cP R n).ends q e=(m:Int)/\m < R.made/\m≠n:=by
  have:=hcut.ends q e hq he;have this:(cP R n).ends q e=_:=this;rw [this];cases hh:dir (1 - e) ((qB A n q).ls q) with
  |nil=>left;simp [hd]
  |cons x t=>
   right;have hx:x∈(qB A n q).ls q:=by rw [<-iD (1 - e),hh];simp
   obtain ⟨h3,h4⟩:=nT x hx;exact ⟨x,rfl,by rw [hR.made];exact hR.wW q x hq h3,h4⟩
 have hc:(cP R n).cR q<=4194304:=by
  have h5:(cP R n).cR q=_:=hcut.cR q hq;have h6:((qB A n q).ls q).length=(A.ls q).length - 1:=by show (aL A.ls q ((A.ls q).erase n) q).length=_;rw [an,agr h2]
  have:=r.hc;have:=hR.cR q hq;omega
 refine (SF hX r hm hq he dA hc).mono ?_;rintro r' w' ⟨rfl,f,x'⟩;have G3:(pE R n q e).made=R.made:=(jN R n).2.1;refine ⟨rfl,f,_,A',?_,Q9,hA',by rw [G3];exact hm⟩;have:=x'.c;rw [G3] at this;exact this
def OS (w:World) (ab:Nat) (V L:Value) (az nl:Nat) (a':Nd) (n:Nat) (r:Ending) (w':World):Prop:=
 r= .returned (.tuple #[ι n,ι 0])/\∃V',bP w' ab V' L az nl a'/\da (bp ab V L) w w'/\∀b,V'.ownBlock=some b->V.ownBlock=some b\/w.heap.size<=b
theorem ae1 (h:bP w ab V L az nl a) (qi:az<=4194304) (iZ:nl<=256) {q e:Nat} (hq:q < nl) (he:e<=1) (x:eW) (wI:(cF nl fun q=>(a.ls q).length) < az):
 Calls prog 306 #[ρ ab,ι q,ι e,bG x] w (OS w ab V L az nl (gd a q e x) (a.fs 0)):=by
 obtain ⟨R,A,hC,hR,rfl,hm⟩:=h;have Vj:R.used < az:=by rw [hR.used];exact wI
 have hul:=zg hR;obtain ⟨A',Q9,hA',CZ⟩:=Ka hR hq he x;have Hh:=DP hR hq;have OI:=hR.cR q hq;have dA:∀n,(n∈A.fr\/n=A.made)->R.ends q e < 0\/∃k:Nat,R.ends q e=(k:Int)/\k < R.made/\k≠n:=by
  intro n hn;rcases uo hR hq he with ⟨h1,_⟩|⟨k,h1,h2,_⟩
  ·exact .inl h1
  ·refine .inr ⟨k,h1,by rw [hR.made];exact hR.wW q k hq h2,?_⟩;intro e';subst e';rcases hn with hn|hn
   ·exact hR.re hq h2 hn
   ·have:=hR.wW q k hq h2;omega
 cases hf:A.fr with
 |nil=>
  have kL:R.cS < 0:=by rw [hR.wX,hf];decide
  rw [hf] at hul;simp at hul;rw [afE kL] at CZ;obtain ⟨lb,cl,rfl⟩:=oL hC hq;refine (Ky hC x hq he kL Vj (by have:=dA A.made (.inr rfl);rw [<-hR.made] at this;exact this) omm omm qi iZ).mono ?_;rintro r w' ⟨rfl,V',hV,f,hb⟩;refine ⟨by rw [CZ],V',⟨_,A',hV,Q9,hA',?_⟩,f,hb⟩;unfold gH;rw [afE kL,afE kL];show R.made+1<=az;omega
 |cons m t=>
  have WT:R.cS=(m:Int):=by rw [hR.wX,hf];rfl
  have eG:m∈A.fr:=by rw [hf];simp
  have a8:m < R.made:=by rw [hR.made];exact hR.JS m eG
  rw [abH omm,WT,Int.toNat_natCast] at CZ;obtain ⟨nb,cn,lb,cl,rfl,rfl,hX⟩:=ss hC a8 hq;refine (Kx hX x hq he WT a8 Vj (dA m (.inl eG)) omm hm qi iZ).mono ?_;rintro r w' ⟨rfl,f,x'⟩;have G3:(gH R q e x).made=R.made:=by unfold gH;rw [abH omm,abH omm];rfl
  refine ⟨by rw [CZ],_,⟨_,A',?_,Q9,hA',by rw [G3];exact hm⟩,f,fun b hb=> .inl hb⟩;have:=x'.c;rw [G3] at this;exact this
theorem Hi:(prog.info? 194).map (fun i=>(i.zero,i.size,i.bytes))=some (some (.agg #[ι 0,ι 0,ι 0]),3,24):=by kernel_rfl
def gL (i o:Nat):Value:=if o / 3 < i/\o % 3 < 2 then ι (-1) else ι 0
def KI:Raw:={made:=0,cS:= -1,used:=0,val:=fun _=>dI,own:=fun _=>0,bK:=fun _ _=>0,ends:=fun _ _=> -1,cR:=fun _=>0}
def zk:Nd:=⟨fun _=>[],fun _=>dI,fun i=>i⟩
theorem uU (n:Nat):(cF n fun _=>0)=0:=by
 induction n with
 |zero=>rfl
 |succ n ih=>show cF n _+0=0;rw [ih]
theorem Hj (nl:Nat):GQ nl KI {made:=0,fr:=[],ls:=fun _=>[],val:=fun _=>dI} none:=
 ⟨rfl,rfl,fun _ _=>List.Pairwise.nil,List.Pairwise.nil,fun _ _ _ h=>by simp at h,fun _ h=>by simp at h,fun _ _ _ h=>by simp at h,fun _ h=>by simp at h,fun n h=>by simp at h,fun _ h=>by simp at h,
   fun _ _ _ _ h=>by simp at h,fun q e _ he=>by show (-1:Int)=hd (dir (1 - e) []);rw [Ou];rfl,fun _ _=>rfl,rfl,fun _ h=>by simp at h,(uU nl).symm,rfl⟩
theorem Hk:abs {made:=0,fr:=[],ls:=fun _=>[],val:=fun _=>dI}=zk:=by refine Nd.ext rfl rfl ?_;funext i;show 0+i=i;omega
theorem OT (nl:Nat):∀o,o < nl*3->gL nl o=lW KI o:=by
 intro o ho;unfold gL lW;by_cases h:o % 3 < 2
 ·rw [afE ⟨omm,h⟩,afE h];rfl
 ·rw [abH (fun h'=>h h'.2),abH h];rfl
theorem OU (i:Nat):(fun o=>if o=i*3+1 then ι (-1) else if o=i*3 then ι (-1) else gL i o)=gL (i+1):=by
 funext o;unfold gL;by_cases h1:o=i*3+1
 ·rw [afE h1,afE ⟨omm,omm⟩]
 ·rw [abH h1];by_cases h2:o=i*3
  ·rw [afE h2,afE ⟨omm,omm⟩]
  ·rw [abH h2];by_cases h3:o / 3 < i/\o % 3 < 2
   ·rw [afE h3,afE ⟨omm,h3.2⟩]
   ·rw [abH h3,abH omm]
structure Mk (w wr:World) (az nl i:Nat):Prop where
 head:ay wr (w.heap.size+1) 191 #[ι az,ν,.slice (some (π w.heap.size 0)) nl nl,ι (-1),ι 0]
 row:Row wr 194 3 (.slice (some (π w.heap.size 0)) nl nl) nl (gL i)
 aB:da [] w wr
theorem Mk.next {w wr:World} {az nl i:Nat} (h:Mk w wr az nl i) (hi:i < nl):Mk w ((wr.setCell (π w.heap.size (i*3)) (ι (-1))).setCell (π w.heap.size (i*3+1)) (ι (-1))) az nl (i+1):=by have h1:=(h.row.set (o:=i*3) omm (ι (-1))).set (o:=i*3+1) omm (ι (-1));rw [OU] at h1;exact ⟨(h.head.other omm _ _).other omm _ _,h1,(h.aB.qz smm _).qz smm _⟩
theorem Bs (az nl:Nat) (w:World) (hm:az<=4194304) (iZ:nl<=256):
 Calls prog 56 #[ι az,ι nl] w fun e w'=>e= .returned (.tuple #[ρ (w.heap.size+1),ι 0])/\da [] w w'/\
  bP w' (w.heap.size+1) ν (.slice (some (π w.heap.size 0)) nl nl) az nl zk:=by
 obtain ⟨i0,hi,gA,jF,r_⟩:=aga Hi;have WU:∀(n:Nat) (wx:World),n<=256->(Instr.makeSlice 188 (ι n) (ι n)).run prog wx= .ok (.slice (some (π wx.heap.size 0)) n n) (wx.alloc (.cells (madeCells #[ι 0,ι 0,ι 0] (n*3)) 194)):=by intro n wx hn;have:=run_make (P:=prog) wx 188 194 i0 _ underlying188 hi gA .i64 .i64 n n omm omm (by rw [r_];omega) omm;rw [jF] at this;exact this
 have aaf:=WU nl w iZ;have HM0:Hid (Mk w ((w.alloc (.cells (madeCells #[ι 0,ι 0,ι 0] (nl*3)) 194)).alloc (.cells #[ι az,ν,.slice (some (π w.heap.size 0)) nl nl,ι (-1),ι 0] 191)) az nl 0):=by
  have b1:=ay.new w 194 (madeCells #[ι 0,ι 0,ι 0] (nl*3));have b2:=ay.new (w.alloc (.cells (madeCells #[ι 0,ι 0,ι 0] (nl*3)) 194)) 191 #[ι az,ν,.slice (some (π w.heap.size 0)) nl nl,ι (-1),ι 0];rw [aE] at b2;refine ⟨b2,Row.made (b1.alloc _) (by simp [madeCells]) (by unfold maxLen;omega) fun o ho=>?_,((da.refl [] w).alloc _).alloc _⟩;have hq:o=(o / 3)*3+o % 3:=omm;obtain ⟨m0,m1,m2⟩:=iB (ι 0) (ι 0) (ι 0) nl (o / 3) omm;have h0:gL 0 o=ι 0:=by unfold gL;rw [abH omm]
  rw [h0,hq];have hr:o % 3=0\/o % 3=1\/o % 3=2:=omm;rcases hr with hr|hr|hr<;>rw [hr]
  ·exact m0
  ·exact m1
  ·exact m2
 clear WU hi gA jF r_;have t1:decide ((az:Int) < 0)=false:=by simp
 have t2:decide ((4194304:Int) < (az:Int))=false:=by simp;omega
 have t3:decide ((nl:Int) < 0)=false:=by simp
 have t4:decide ((256:Int) < (nl:Int))=false:=by simp;omega
 go_enter func56,ntmps56;go_wp2
 go_loopg [32] nl (fun f s32 wr=>∃i:Nat,s32=ι i/\i+f=nl/\Hid (Mk w wr az nl i))
 case atStart=>exact ⟨0,rfl,omm,HM0⟩
 case round=>
  clear HM0 aaf;obtain ⟨i,rfl,hif,H⟩:=hrel;by_cases a8:i < nl
  ·have c2:wr.cell? (π (w.heap.size+1) 2)=some (.slice (some (π w.heap.size 0)) nl nl):=H.o.head.cell 2;have c0:=H.o.row.cell (o:=i*3) omm;have c1:=H.o.row.cell (o:=i*3+1) omm;have cf:=H.o.row.frozen;have HN:=ae (H.o.next a8);have bz:w.heap.size+1≠w.heap.size:=omm;clear H;generalize gL i (i*3)=x0 at*;generalize gL i (i*3+1)=x1 at*;go_wp2
   go_roundg (gk - 1)
   case measure=>omega
   case rel=>exact ⟨i+1,by go_num,omm,HN⟩
  ·have hi:i=nl:=omm;subst hi;clear a8;go_wp2;go_ret2;refine ⟨rfl,H.o.aB,_,_,⟨H.o.head,?_,H.o.row.congr (OT i)⟩,Hj i,Hk,afO _⟩;exact Row.nil _ _ _ _
def t_ (x:Nat×eW):List Value:=[ι x.1,.int .u64 x.2.key,ι (x.2.tg 0),ι (x.2.tg 1),ι (x.2.tg 2),ι (x.2.tg 3)]
def qj (l:List (Nat×eW)):List Value:=l.flatMap t_
def rowsOf (a:Nd) (l:List Nat):List (Nat×eW):=l.map fun n=>(n,a.val n)
theorem ZI (a b:List (Nat×eW)):qj (a++b)=qj a++qj b:=by simp [qj]
theorem Bt (a:Nd) (l:List Nat) (n:Nat):rowsOf a (l++[n])=rowsOf a l++[(n,a.val n)]:=by simp [rowsOf]
theorem mJ (a:Nd) (l:List Nat):(rowsOf a l).length=l.length:=by simp [rowsOf]
theorem rm:(prog.info? 206).map (fun i=>(i.zero,i.size,i.bytes))=some (some (.agg #[ι 0,.int .u64 0,ι 0,ι 0,ι 0,ι 0]),6,48):=by kernel_rfl
theorem bP.node (h:bP w ab V L az nl a) {q n:Nat} (hq:q < nl) (hn:n∈a.ls q):∃nb cn m,w.cell? (π ab 1)=some (.slice (some (π nb 0)) m cn)/\n < m/\m<=az/\
 w.cell? (π nb (n*8))=some (.int .u64 (a.val n).key)/\w.cell? (π nb (n*8+1))=some (ι ((a.val n).tg 0))/\w.cell? (π nb (n*8+2))=some (ι ((a.val n).tg 1))/\
 w.cell? (π nb (n*8+3))=some (ι ((a.val n).tg 2))/\w.cell? (π nb (n*8+4))=some (ι ((a.val n).tg 3)):=by
 obtain ⟨R,A,hC,hR,rfl,hm⟩:=h;have h2:n∈A.ls q:=hn;have a8:n < R.made:=by rw [hR.made];exact hR.wW q n hq h2
 obtain ⟨nb,cn,lb,cl,rfl,rfl,hX⟩:=ss hC a8 hq;obtain ⟨k0,k1,k2,k3,k4⟩:=hX.aW a8;rw [hR.val] at k0 k1 k2 k3 k4;exact ⟨nb,cn,R.made,hX.h1,a8,hm,k0,k1,k2,k3,k4⟩
theorem bP.uV (h:bP w ab V L az nl a) {q:Nat} (hq:q < nl):(a.ls q).length<=az/\(a.ls q).Nodup:=by obtain ⟨R,A,hC,hR,rfl,hm⟩:=h;have h1:=DP hR hq;have h2:=zg hR;have h3:(A.ls q).length<=az:=omm;exact ⟨h3,hR.nd q hq⟩
structure DS (w wr:World) (a:Nd) (l pre:List Nat) (lv:Value):Prop where
 box:Boxed wr w.heap.size 203 lv
 own:wr.ownsRow w.heap.size 206 6 lv pre.length (qj (rowsOf a pre))
 zm:Below w.heap.size w wr
 nil:pre=[]->lv=ν
theorem WV (h:bP w ab V L az nl a) (qi:az<=4194304) {q:Nat} (hq:q < nl):
 Calls prog 64 #[ρ ab,ι q,ι 0] w fun r w'=>r= .returned (.func (.func 136) #[] #[ρ w.heap.size])/\∃lv,DS w w' a (a.ls q) (a.ls q) lv:=by
 obtain ⟨i0,hi,gA,jF,r_⟩:=aga rm;obtain ⟨hlen,gm⟩:=h.uV hq;have ul:Below w.heap.size w (w.alloc (.cells #[ν] 203)):=(afL _ w).alloc (afF _) _;have H0:=ae (h.later ul);have HA:=ae h;have aa4:=h.lt ab (by simp [bp]);have gp:=ae ul;have WW:=ae gm;have HS0:Hid (DS w (w.alloc (.cells #[ν] 203)) a (a.ls q) [] ν):=ae ⟨Boxed.new _ _ _,World.ownsRow_nil ..,ul,fun _=>rfl⟩;have HPS:=ae (fun (bz:a.ls q≠[])=>xU H0.o hq (e:=0) omm bz);have Vs:=ae (fun (bz:a.ls q=[])=>xV H0.o hq (e:=0) omm bz);have Jo:=ae (fun (wx:World) (hx:bP wx ab V L az nl a) (n:Nat) (hn:n∈a.ls q)=>DQ hx hq hn (e:=1) omm);clear h ul gm;have key:∀(n0:Nat) (WZ:Bool),(WZ=true->∃rest,a.ls q=n0::rest)->(WZ=false->a.ls q=[])->
  Calls prog 134 #[ρ ab,ι q,ι 0] (w.alloc (.cells #[ν] 203)) (fun r w'=>r= .returned (.tuple #[ι n0,.bool WZ])/\w.alloc (.cells #[ν] 203)=w')->
  Calls prog 64 #[ρ ab,ι q,ι 0] w fun r w'=>r= .returned (.func (.func 136) #[] #[ρ w.heap.size])/\∃lv,DS w w' a (a.ls q) (a.ls q) lv:=by
  intro n0 WZ h1 h2 Si;have Vt:=ae Si;have Jp:=ae h1;have uW:=ae h2;clear Si h1 h2;go_enter func64,ntmps64;go_wp2_with (go_at_call 134;refine Vt.o.mono ?_;rintro r w' ⟨rfl,rfl⟩);clear Vt
  go_loopg [8,9] (a.ls q).length (fun f s8 s9 wr=>∃(n:Nat) (ok:Bool) (pre:List Nat) (lv:Value),s8=ι n/\s9= .bool ok/\Hid (pre.length+f=(a.ls q).length)/\Hid (ok=true->∃rest,a.ls q=pre++n::rest)/\Hid (ok=false->a.ls q=pre)/\Hid (DS w wr a (a.ls q) pre lv))
  case atStart=>exact ⟨n0,WZ,[],ν,rfl,rfl,ae smm,Jp,ae (fun e=>uW.o e),HS0⟩
  case round=>
   clear HS0 Jp uW HPS Vs H0 gp;obtain ⟨n,ok,pre,lv,rfl,rfl,HF,H1,H2,H⟩:=hrel;have bc:=H.o.box.cell;have bf:=H.o.box.frozen;cases ok
   ·have hl:=H2.o rfl;go_wp2;go_ret;have h':=H.o;rw [hl] at h';exact ⟨rfl,lv,h'⟩
   ·obtain ⟨rest,hl⟩:=H1.o rfl;have hn:n∈a.ls q:=by rw [hl];simp
    have hr:bP wr ab V L az nl a:=HA.o.later H.o.zm;obtain ⟨nb,cn,m,c1,hnm,yZ,k0,k1,k2,k3,k4⟩:=hr.node hq hn;have yO:kK (dir 1 (a.ls q)) n=hd rest:=by show kK (a.ls q) n=_;rw [hl];refine jC ?_ _;intro hm;have:=WW.o;rw [hl] at this;exact (List.nodup_append.1 this).2.2 n hm n smm rfl
    have sr:=H.o.box.lt;have hpl:pre.length+1<=(a.ls q).length:=by rw [hl];simp
    have C3:=ae (show pre.length+1<=maxLen by unfold maxLen;omega);have C4:=ae (show (pre.length+1)*48<=140737488355328 by omega);have C2:=ae (show ∀u∈t_ (n,a.val n),u.oneCell'=true by intro u hu;simp [t_] at hu;rcases hu with rfl|rfl|rfl|rfl|rfl|rfl<;>rfl);obtain ⟨n1,W_,uG,hq1,kO⟩:∃(n1:Nat) (W_:Bool),d_ (hd rest)= .tuple #[ι n1,.bool W_]/\(W_=true->∃r2,a.ls q=(pre++[n])++n1::r2)/\(W_=false->a.ls q=pre++[n]):=by
     cases rest with
     |nil=>exact ⟨0,false,xP dee,(fun e=>by cases e),fun _=>hl⟩
     |cons m' r2=>exact ⟨m',true,xO rfl,(fun _=>⟨r2,by rw [hl];simp⟩),(fun e=>by cases e)⟩
    have Fv:=fun (wx:World) (hx:bP wx ab V L az nl a)=>Jo.o wx hx n hn;rw [yO,uG] at Fv;have NO:=ae Fv;have SM:=ae hq1;have HQ2:=ae kO;clear uG hq1 kO Fv;have HN:=ae hn;have HL:=ae hl;have HX:=ae yO;clear hn hl yO hr H1 H2;have HXD:=ae (show Boxed wr.drew w.heap.size 203 lv from H.o.box);have Q_:=ae (show wr.drew.ownsRow w.heap.size 206 6 lv pre.length (qj (rowsOf a pre)) from H.o.own);have kN:w.heap.size<=wr.heap.size:=H.o.zm.size;generalize hv:a.val n=v at*;have HV:=ae hv;clear hv;go_wp2_with fail
    go_region_law ((refine ags _ rfl (.tmp 26) (.tmp 37) 203 rfl w.heap.size 206 i0 (.agg #[ι 0,.int .u64 0,ι 0,ι 0,ι 0,ι 0]) 6 48 underlying203 hi gA jF r_ rfl dee lv _ _ (by simp [Act.eval,Act.put]) (Q_.o.alloc _) (π wr.heap.size 0) 1 1 (t_ (n,v)) (by simp [Act.eval,Act.put]) rfl (gP.gr _ (t_ (n,v)) _ _ smm) C2.o dee C3.o C4.o sso _ rfl ?_;intro g cap w1 fo fe pG um;obtain ⟨fN,NK,Q5,jd,dn⟩:=HXD.o.appended dee Q_.o kN (afF _) fo fe;have nO:=fN.cell;have Jk:=fN.frozen;have OP:=ae NK;have rj:=ae Q5;have fg:=ae dn;clear fN NK Q5 jd dn fo fe pG))
    all_goals
     have FU:=(H.o.zm.trans (au w.heap.size wr 1)).trans fg.o;have dC:=ae FU;clear FU;go_wp2_with fail;refine (NO.o _ (HA.o.later dC.o)).mono ?_;rintro r w' ⟨rfl,rfl⟩;have tC:Hid (DS w (w1.setCell (π w.heap.size 0) (.slice (some (π g 0)) (pre.length+1) cap)) a (a.ls q) (pre++[n]) (.slice (some (π g 0)) (pre.length+1) cap)):=ae ⟨OP.o,by rw [age,Bt,ZI,HV.o];exact rj.o,dC.o,fun e=>by simp at e⟩;go_wp2_with fail
     go_roundg (gk - 1)
     case measure=>have:=HF.o;omega
     case rel=>exact ⟨n1,W_,pre++[n],_,rfl,rfl,ae (by have:=HF.o;simp;omega),SM,HQ2,tC⟩
 by_cases bz:a.ls q=[]
 ·exact key 0 false (fun e=>by cases e) (fun _=>bz) (Vs.o bz)
 ·cases hl:a.ls q with
  |nil=>exact absurd hl bz
  |cons x t=>
   have hx:ck a q 0=x:=by unfold ck;show (hd (dir 1 (a.ls q))).toNat=x;rw [hl];rfl
   have:=HPS.o bz;rw [hx] at this;rw [<-hl];exact key x true (fun _=>⟨t,hl⟩) (fun e=>by cases e) this
end
end Go.Proofs.YtblkblclmbhjiaaGreat.dT
namespace Go.Proofs.YtblkblclmbhjiaaGreat.gP
open Go.RowKit ak Go.Shelf
attribute [local go_sem] Oper.semAt_some
def w_ (FB:List Nat) (W W':World):Prop:=∀k,k∈FB->W'.heap[k]? =W.heap[k]?
theorem w_.t {FB:List Nat} {A B C:World} (h:w_ FB A B) (k:w_ FB B C):w_ FB A C:=fun i hi=>(k i hi).trans (h i hi)
theorem w_.b {FB:List Nat} {w:World} (hl:∀k,k∈FB->k < w.heap.size) (W:World) (l:Nat) (o o':Obj) (hle:w.heap.size<=l) (_:W.heap[l]? =some o) (_:o.isCells=false) (_:o.isWalk=false):w_ FB W (W.putObj l o'):=
 fun k hk=>World.putObj_heap_other (by have:=hl k hk;omega)
def dJ:Value->List Nat
 | .slice (some a) _ _=>[a.block]
 |_=>[]
theorem ZE.iK {w w':World} {base:Nat} {lv:Value} {L:List (Nat×Int)} (h:ZE w base lv L) (hb:∀k,k∈dJ lv->w'.heap[k]? =w.heap[k]?) (hs:w.heap.size<=w'.heap.size):ZE w' base lv L:=by
 rcases h with h|⟨g,cap,rfl,h1,h2,h3,h4⟩
 ·exact .inl h
 ·have e:=hb g (by simp [dJ]);refine .inr ⟨g,cap,rfl,h1,omm,h3,fun i hi=>?_⟩;have c:∀o,w'.cell? (π g o)=w.cell? (π g o):=fun o=>afG e;rw [c,c,c];exact h4 i hi
theorem zn (F:Fence) (n:Nat) (hf:F.fn 140) (mR:F.round=none) (hn:1<=n) (l B base:Nat) (lv:Value) (L:List (Nat×Int)) (hlen:L.length<=1099511627776) (J Jx:List (Nat×Int)->World->Prop) (KJ:Nat)
 (hJ:AbidesFrom KJ J)
 (hY:∀pre x W,J pre W->pre.length < L.length->YieldAt F (n - 1) prog l #[.int .u64 x.1,ι x.2] W fun e W'=>
   (e= .returned (.bool true)/\J (pre++[x]) W'/\w_ (B::dJ lv) W W')\/(e= .returned (.bool false)/\Jx (pre++[x]) W'))
 (W:World) (hB:Boxed W B 195 lv) (hL:ZE W base lv L) (h0:J [] W):
 CallsIn F n prog 140 #[.func (.yield l) #[] #[],ρ B] W fun e W'=>(∃v,e= .returned v)/\
  ((∃ys,ys=L/\J ys W')\/(∃pre,pre <+:L/\Jx pre W')):=by
 refine callsIn_of_wp func140 rfl hf ?_ mR;simp only [ntmps140,List.size_toArray,List.length_cons,List.length_nil,Nat.reduceAdd,Nat.reduceSub,Array.replicate_succ,Array.replicate_zero,List.push_toArray,List.append_toArray,List.nil_append,List.cons_append];have su:=hB.cell;rcases hL with ⟨rfl,rfl⟩|⟨g,cap,rfl,C7,SN,bz,hc⟩
 ·gi_wp2
  gi_loopw [7] (fun i wr=>i=ι 0/\J [] wr) (fun i _=>0)
  case atStart=>exact ⟨rfl,h0⟩
  case round=>exact agI
 ·have HC:=ae hc;have HB:=ae hB;clear hc hB
  gi_wp2
  gi_loopw [7] (fun i wr=>∃k:Nat,k<=L.length/\i=ι k/\J (L.take k) wr/\wr.heap[g]? =W.heap[g]?)
   (fun i _=>L.length - (intOf i).toNat)
  case atStart=>exact ⟨0,Nat.zero_le _,rfl,by simpa using h0,rfl⟩
  case round=>
   obtain ⟨k,hk,rfl,hJs,rl⟩:=hrel;by_cases a8:k < L.length
   ·have Ra:∀o,wr.cell? (π g o)=W.cell? (π g o):=fun o=>afG rl;obtain ⟨c0,c1,c2⟩:=HC.o k a8;rw [<-Ra] at c0 c1 c2;clear Ra;have Rb:J (L.take k) (wr.alloc (.cells #[.bool true,.int .u64 L[k].1,ι L[k].2] 199)):=hJ _ _ _ none hJs (World.grownBy_alloc wr _ none) (fun r e=>by cases e);obtain ⟨fn,tmps,assign,body,hy,hR⟩:=hY _ L[k] _ Rb (by rw [List.length_take];omega);exact agO
   ·exact qX6
theorem uX (F:Fence) (n:Nat) (hf:F.fn 140) (mR:F.round=none) (hn:1<=n) (B base:Nat) (lv:Value) (L:List (Nat×Int)) (hlen:L.length<=1099511627776)
 (W:World) (hB:Boxed W B 195 lv) (hL:ZE W base lv L) (sr:∀k,k∈dJ lv->k < W.heap.size):
 SeqStopsK F n prog 140 #[ρ B] (fun x:Nat×Int=>#[.int .u64 x.1,ι x.2]) (w_ (B::dJ lv)) (· =L) (· <+:L) L.length W:=by
 intro l J Jx W1 hW hJ hJx hY h0;have FU:Boxed W1 B 195 lv:=(hW.block B hB.lt).trans hB;have KK:ZE W1 base lv L:=hL.iK (fun k hk=>hW.block k (sr k hk)) hW.size;exact zn F n hf mR hn l B base lv L hlen J Jx _ hJ hY W1 FU KK h0
end Go.Proofs.YtblkblclmbhjiaaGreat.gP
namespace Go.Proofs.YtblkblclmbhjiaaGreat.dT
open Go.RowKit ak.Vm Go.Shelf
open ak hiding aL an aj
open gP (w_ dJ)
attribute [local go_sem] Oper.semAt_some
def uY (w:World) (base:Nat) (lv:Value) (L:List (Nat×eW)):Prop:=
 (L=[]/\lv=ν)\/∃g cap,lv= .slice (some (π g 0)) L.length cap/\base<=g/\g < w.heap.size/\L≠[]/\
   ∀i (hi:i < L.length),w.cell? (π g (i*6))=some (ι L[i].1)/\w.cell? (π g (i*6+1))=some (.int .u64 L[i].2.key)/\w.cell? (π g (i*6+2))=some (ι (L[i].2.tg 0))/\
    w.cell? (π g (i*6+3))=some (ι (L[i].2.tg 1))/\w.cell? (π g (i*6+4))=some (ι (L[i].2.tg 2))/\w.cell? (π g (i*6+5))=some (ι (L[i].2.tg 3))
theorem uY.iK {w w':World} {base:Nat} {lv:Value} {L:List (Nat×eW)} (h:uY w base lv L) (hb:∀k,k∈dJ lv->w'.heap[k]? =w.heap[k]?) (hs:w.heap.size<=w'.heap.size):uY w' base lv L:=by
 rcases h with h|⟨g,cap,rfl,h1,h2,h3,h4⟩
 ·exact .inl h
 ·have e:=hb g (by simp [dJ]);refine .inr ⟨g,cap,rfl,h1,omm,h3,fun i hi=>?_⟩;have c:∀o,w'.cell? (π g o)=w.cell? (π g o):=fun o=>afG e;rw [c,c,c,c,c,c];exact h4 i hi
theorem Hl (L:List (Nat×eW)):∀i (hi:i < L.length) c,c < 6->(qj L)[i*6+c]? =(t_ L[i])[c]? :=by
 induction L with
 |nil=>intro i hi;simp at hi
 |cons x L ih=>
  intro i hi c hc;have hx:qj (x::L)=t_ x++qj L:=by simp [qj]
  rw [hx];cases i with
  |zero=>rw [agh (by simp [t_];omega)];simp
  |succ i=>rw [agf (by simp [t_];omega)];have:=ih i (by simpa using hi) c hc;rw [show (i+1)*6+c - (t_ x).length=i*6+c from by simp [t_];omega];simpa using this
theorem Qs {w wr:World} {a:Nd} {l pre:List Nat} {lv:Value} (h:DS w wr a l pre lv):uY wr w.heap.size lv (rowsOf a pre):=by
 by_cases hp:pre=[]
 ·subst hp;exact .inl ⟨rfl,h.nil rfl⟩
 ·have hl:0 < pre.length:=by cases pre with|nil=>exact absurd rfl hp|cons x t=>simp
  rcases h.own.2 with ⟨_,h0⟩|⟨g,cap,yQ,hv,hb,hg,_,_,_,_⟩
  ·omega
  ·subst hv;refine .inr ⟨g,cap,by rw [mJ],hb,(Array.getElem?_eq_some_iff.1 hg).1,by intro e;have:=afK List.length e;rw [mJ] at this;simp at this;exact hp this,fun i hi=>?_⟩;have key:∀c,c < 6->∀u,(t_ (rowsOf a pre)[i])[c]? =some u->wr.cell? (π g (i*6+c))=some u:=by intro c hc u hu;have:=World.ownsRow.cells h.own (g:=g) rfl (i*6+c) u (by rw [Hl _ i hi c hc];exact hu);rwa [show ((π g 0):Addr).add (i*6+c)=(π g (i*6+c)) by unfold Addr.add;split<;>simp_all] at this
   exact ⟨key 0 omm _ rfl,key 1 omm _ rfl,key 2 omm _ rfl,key 3 omm _ rfl,key 4 omm _ rfl,key 5 omm _ rfl⟩
theorem zn (F:Fence) (n:Nat) (hf:F.fn 136) (mR:F.round=none) (hn:1<=n) (l B base:Nat) (lv:Value) (L:List (Nat×eW)) (hlen:L.length<=1099511627776) (J Jx:List (Nat×eW)->World->Prop) (KJ:Nat)
 (hJ:AbidesFrom KJ J)
 (hY:∀pre x W,J pre W->pre.length < L.length->YieldAt F (n - 1) prog l #[ι x.1,bG x.2] W fun e W'=>
   (e= .returned (.bool true)/\J (pre++[x]) W'/\w_ (B::dJ lv) W W')\/(e= .returned (.bool false)/\Jx (pre++[x]) W'))
 (W:World) (hB:Boxed W B 203 lv) (hL:uY W base lv L) (h0:J [] W):
 CallsIn F n prog 136 #[.func (.yield l) #[] #[],ρ B] W fun e W'=>(∃v,e= .returned v)/\
  ((∃ys,ys=L/\J ys W')\/(∃pre,pre <+:L/\Jx pre W')):=by
 refine callsIn_of_wp func136 rfl hf ?_ mR;simp only [ntmps136,List.size_toArray,List.length_cons,List.length_nil,Nat.reduceAdd,Nat.reduceSub,Array.replicate_succ,Array.replicate_zero,List.push_toArray,List.append_toArray,List.nil_append,List.cons_append];have su:=hB.cell;rcases hL with ⟨rfl,rfl⟩|⟨g,cap,rfl,C7,SN,bz,hc⟩
 ·gi_wp2
  gi_loopw [7] (fun i wr=>i=ι 0/\J [] wr) (fun i _=>0)
  case atStart=>exact ⟨rfl,h0⟩
  case round=>exact agI
 ·have HC:=ae hc;have HB:=ae hB;clear hc hB
  gi_wp2
  gi_loopw [7] (fun i wr=>∃k:Nat,k<=L.length/\i=ι k/\J (L.take k) wr/\wr.heap[g]? =W.heap[g]?)
   (fun i _=>L.length - (intOf i).toNat)
  case atStart=>exact ⟨0,afO _,rfl,by simpa using h0,rfl⟩
  case round=>
   obtain ⟨k,hk,rfl,hJs,rl⟩:=hrel;by_cases a8:k < L.length
   ·have Ra:∀o,wr.cell? (π g o)=W.cell? (π g o):=fun o=>afG rl;obtain ⟨c0,c1,c2,c3,c4,c5⟩:=HC.o k a8;rw [<-Ra] at c0 c1 c2 c3 c4 c5;clear Ra;have Rb:J (L.take k) (wr.alloc (.cells #[ι L[k].1,.int .u64 L[k].2.key,ι (L[k].2.tg 0),ι (L[k].2.tg 1),ι (L[k].2.tg 2),ι (L[k].2.tg 3)] 206)):=hJ _ _ _ none hJs (World.grownBy_alloc wr _ none) (fun r e=>by cases e);obtain ⟨fn,tmps,assign,body,hy,hR⟩:=hY _ L[k] _ Rb (by rw [List.length_take];omega);unfold bG at hy;exact agO
   ·exact qX6
theorem uX (F:Fence) (n:Nat) (hf:F.fn 136) (mR:F.round=none) (hn:1<=n) (B base:Nat) (lv:Value) (L:List (Nat×eW)) (hlen:L.length<=1099511627776)
 (W:World) (hB:Boxed W B 203 lv) (hL:uY W base lv L) (sr:∀k,k∈dJ lv->k < W.heap.size):
 SeqStopsK F n prog 136 #[ρ B] (fun x:Nat×eW=>#[ι x.1,bG x.2]) (w_ (B::dJ lv)) (· =L) (· <+:L) L.length W:=by
 intro l J Jx W1 hW hJ hJx hY h0;have FU:Boxed W1 B 203 lv:=(hW.block B hB.lt).trans hB;have KK:uY W1 base lv L:=hL.iK (fun k hk=>hW.block k (sr k hk)) hW.size;exact zn F n hf mR hn l B base lv L hlen J Jx _ hJ hY W1 FU KK h0
theorem M4 {α:Type} (va:α->Nat×eW) (F:Fence) (n:Nat) (hf:F.fn 136) (mR:F.round=none) (hn:1<=n) (l B base:Nat) (lv:Value) (L:List α) (hlen:L.length<=1099511627776) (J Jx:List α->World->Prop) (KJ:Nat)
 (hJ:AbidesFrom KJ J)
 (hY:∀pre x W,J pre W->pre.length < L.length->YieldAt F (n - 1) prog l #[ι (va x).1,bG (va x).2] W fun e W'=>
   (e= .returned (.bool true)/\J (pre++[x]) W'/\w_ (B::dJ lv) W W')\/(e= .returned (.bool false)/\Jx (pre++[x]) W'))
 (W:World) (hB:Boxed W B 203 lv) (hL:uY W base lv (L.map va)) (h0:J [] W):
 CallsIn F n prog 136 #[.func (.yield l) #[] #[],ρ B] W fun e W'=>(∃v,e= .returned v)/\
  ((∃ys,ys=L/\J ys W')\/(∃pre,pre <+:L/\Jx pre W')):=by
 refine callsIn_of_wp func136 rfl hf ?_ mR;simp only [ntmps136,List.size_toArray,List.length_cons,List.length_nil,Nat.reduceAdd,Nat.reduceSub,Array.replicate_succ,Array.replicate_zero,List.push_toArray,List.append_toArray,List.nil_append,List.cons_append];have su:=hB.cell;rcases hL with ⟨DN,rfl⟩|⟨g,cap,rfl,C7,SN,bz,hc⟩
 ·have Zk:L=[]:=List.map_eq_nil_iff.1 DN;clear DN;subst Zk
  gi_wp2
  gi_loopw [7] (fun i wr=>i=ι 0/\J [] wr) (fun i _=>0)
  case atStart=>exact ⟨rfl,h0⟩
  case round=>exact agI
 ·have HC:=ae hc;have HB:=ae hB;clear hc hB;rw [List.length_map] at su
  gi_wp2
  gi_loopw [7] (fun i wr=>∃k:Nat,k<=L.length/\i=ι k/\J (L.take k) wr/\wr.heap[g]? =W.heap[g]?)
   (fun i _=>L.length - (intOf i).toNat)
  case atStart=>exact ⟨0,afO _,rfl,by simpa using h0,rfl⟩
  case round=>
   obtain ⟨k,hk,rfl,hJs,rl⟩:=hrel;by_cases a8:k < L.length
   ·have Ra:∀o,wr.cell? (π g o)=W.cell? (π g o):=fun o=>afG rl;obtain ⟨c0,c1,c2,c3,c4,c5⟩:=HC.o k (by rw [List.length_map];exact a8);rw [List.getElem_map] at c0 c1 c2 c3 c4 c5;rw [<-Ra] at c0 c1 c2 c3 c4 c5;clear Ra;have Rb:J (L.take k) (wr.alloc (.cells #[ι (va L[k]).1,.int .u64 (va L[k]).2.key,ι ((va L[k]).2.tg 0),ι ((va L[k]).2.tg 1),ι ((va L[k]).2.tg 2),ι ((va L[k]).2.tg 3)] 206)):=hJ _ _ _ none hJs (World.grownBy_alloc wr _ none) (fun r e=>by cases e);obtain ⟨fn,tmps,assign,body,hy,hR⟩:=hY _ L[k] _ Rb (by rw [List.length_take];omega);unfold bG at hy;have ht:L.take k++[L[k]]=L.take (k+1):=by rw [agA a8]
    have HT:=ae ht;have HG:=ae rl;clear ht rl Rb hJs;generalize L[k]=x at*;generalize va x=y at*;exact qX2
   ·exact qX6
theorem CI {α:Type} (va:α->Nat×eW) (F:Fence) (n:Nat) (hf:F.fn 136) (mR:F.round=none) (hn:1<=n) (B base:Nat) (lv:Value) (L:List α) (hlen:L.length<=1099511627776)
 (W:World) (hB:Boxed W B 203 lv) (hL:uY W base lv (L.map va)) (sr:∀k,k∈dJ lv->k < W.heap.size):
 SeqStopsK F n prog 136 #[ρ B] (fun x:α=>#[ι (va x).1,bG (va x).2]) (w_ (B::dJ lv)) (· =L) (· <+:L) L.length W:=by
 intro l J Jx W1 hW hJ hJx hY h0;have FU:Boxed W1 B 203 lv:=(hW.block B hB.lt).trans hB;have KK:uY W1 base lv (L.map va):=hL.iK (fun k hk=>hW.block k (sr k hk)) hW.size;exact M4 va F n hf mR hn l B base lv L hlen J Jx _ hJ hY W1 FU KK h0
end Go.Proofs.YtblkblclmbhjiaaGreat.dT
section
namespace ak.Vm
open Go Go.RowKit
theorem ay.Hm {W:World} {b:Nat} {T:TypeId} {cs:Array Value} (h:ay W b T cs):∃o:Obj,W.heap[b]? =some o/\o.isCells=true:=⟨_,h,rfl⟩
theorem Row.Hm {W:World} {e:TypeId} {size n:Nat} {v:Value} {g:Nat->Value} (h:Row W e size v n g) {b:Nat} (hb:v.ownBlock= .some b):∃o:Obj,W.heap[b]? = .some o/\o.isCells=true:=by
 rcases h.2 with ⟨rfl,_⟩|⟨g',cap,yQ,rfl,_,hg,_⟩
 ·simp [Value.ownBlock] at hb
 ·simp [Value.ownBlock] at hb;subst hb;exact ⟨_,hg,rfl⟩
end ak.Vm
namespace Go.Proofs.YtblkblclmbhjiaaGreat.Mk
open Go.RowKit ak Go.Shelf ak.Vm
open gP (w_ dJ)
structure Marks (W:World) (Ds:List Nat):Prop where
 nd:Ds.Nodup
 at_:∀D,D∈Ds->W.heap[D]? =some (.deferred (some []))
def marksOf (Ds:List Nat):List Deferred:=Ds.map fun D=>{target:= .collected D,args:=#[]}
structure Shut (Ds:List Nat) (W W':World):Prop where
 os:W'.os=W.os
 tape:W'.tape=W.tape
 output:W'.output=W.output
 size:W'.heap.size=W.heap.size
 block:∀k,k∉Ds->W'.heap[k]? =W.heap[k]?
theorem zo {F:Fence} {n:Nat} {P:Program} {fn:Func} {tmps:Array Value} {R:Ending->World->Prop}:∀(Ds:List Nat) (W:World),Marks W Ds->
 (∀W',Shut Ds W W'->LeavesInM F n P fn tmps R [] .returning W')->LeavesInM F n P fn tmps R (marksOf Ds) .returning W:=by
 intro Ds
 induction Ds with
 |nil=>intro W _ h;exact h W ⟨rfl,rfl,rfl,rfl,fun _ _=>rfl⟩
 |cons D Ds ih=>
  intro W hM h;have hD:=hM.at_ D smm;have gm:=List.nodup_cons.1 hM.nd;refine ⟨smm,.inl ⟨D,_,rfl,run_takeDeferred hD,?_⟩⟩;refine ih _ ⟨gm.2,fun k hk=>?_⟩ fun W' Jq=>?_
  ·exact (World.putObj_heap_other (by intro e;subst e;exact gm.1 hk)).trans (hM.at_ k (by simp [hk]))
  ·refine h W' ⟨Jq.os,Jq.tape,Jq.output,Jq.size.trans smm,fun k hk=>?_⟩;simp only [List.mem_cons,not_or] at hk;exact (Jq.block k hk.2).trans (World.putObj_heap_other (fun e=>hk.1 e))
theorem Shut.cells {Ds:List Nat} {W W':World} (h:Shut Ds W W') (M:Marks W Ds) {k:Nat} (hk:∃o:Obj,W.heap[k]? =some o/\o.isCells=true):W'.heap[k]? =W.heap[k]? :=by refine h.block k fun hm=>?_;obtain ⟨o,h1,h2⟩:=hk;rw [M.at_ k hm] at h1;cases h1;simp [Obj.isCells] at h2
theorem Shut.below {Ds:List Nat} {W W':World} (h:Shut Ds W W') {B:Nat} (hB:∀D,D∈Ds->B<=D):Below B W W':=
 ⟨h.os,h.tape,h.output,by rw [h.size];exact afF _,fun k hk=>h.block k fun hm=>by have:=hB k hm;omega⟩
theorem Shut.aB {Ds:List Nat} {W W':World} (h:Shut Ds W W'):da Ds W W':=⟨h.os,h.tape,h.output,by rw [h.size];exact afF _,fun k _ hk=>h.block k hk⟩
theorem Marks.nil (W:World):Marks W []:=⟨.nil,fun _ h=>by simp at h⟩
theorem Marks.cons {W:World} {Ds:List Nat} {D:Nat} (M:Marks W Ds) (hD:W.heap[D]? =some (.deferred (some []))) (h:D∉Ds):Marks W (D::Ds):=
 ⟨List.nodup_cons.2 ⟨h,M.nd⟩,fun k hk=>by rcases List.mem_cons.1 hk with rfl|hk;exact hD;exact M.at_ k hk⟩
theorem Marks.keeps {W W':World} {Ds:List Nat} (M:Marks W Ds) (h:∀k,k∈Ds->W'.heap[k]? =W.heap[k]?):Marks W' Ds:=⟨M.nd,fun k hk=>(h k hk).trans (M.at_ k hk)⟩
theorem Marks.lt {W:World} {Ds:List Nat} (M:Marks W Ds) {D:Nat} (h:D∈Ds):D < W.heap.size:=(Array.getElem?_eq_some_iff.1 (M.at_ D h)).1
theorem Marks.not {W:World} {Ds:List Nat} (M:Marks W Ds) {k:Nat} (hk:∃o:Obj,W.heap[k]? =some o/\o.isCells=true):k∉Ds:=by intro hm;obtain ⟨o,h1,h2⟩:=hk;rw [M.at_ k hm] at h1;cases h1;simp [Obj.isCells] at h2
theorem aP {P:Program} {Q:Exit->Act->World->Prop} {a:Act} {w:World} {c:Code} (R:Nat->Act->World->Prop) (m:Nat) (h0:R m a w) (hz:∀a w,¬R 0 a w)
 (h:∀m a w,R (m+1) a w->c.wp P (Exit.then (R m) Q) a w):(Code.loop c).wp P Q a w:=by
 refine wp_loop_rounds m ?_
 induction m generalizing a w with
 |zero=>exact absurd h0 (hz a w)
 |succ m ih=>
  rw [af9];refine wp_mono (h m a w h0) ?_;intro e a' w' hq;cases e with
  |normal=>exact ih hq
  |_=>exact hq
def KL (W:World) (k:Nat):Prop:=∃o:Obj,W.heap[k]? =some o/\o.isCells=true
theorem KL.lt {W:World} {k:Nat} (h:KL W k):k < W.heap.size:=by obtain ⟨o,h,-⟩:=h;exact (Array.getElem?_eq_some_iff.1 h).1
theorem KL.grown {W W':World} {row:Option Nat} {k:Nat} (hk:KL W k) (hg:W.grownBy W' row) (hr:∀r,row=some r->∃o:Obj,W.heap[r]? =some o/\o.isCells=false):W'.heap[k]? =W.heap[k]? :=by refine hg.block k hk.lt fun e=>?_;obtain ⟨o,h1,h2⟩:=hk;obtain ⟨o',h3,h4⟩:=hr k e.symm;rw [h1] at h3;cases h3;rw [h2] at h4;simp at h4
def rp (ops:Array Oper):Bool:=ops.all fun o=>match o.op with| .defer _=>false|_=>true
theorem DT {ops:Array Oper} (h:rp ops=true) {i:Nat} {o:Oper} (ho:ops[i]? =some o) (c:Call):o.op≠.defer c:=by intro e;unfold rp at h;have hm:o∈ops:=Array.mem_of_getElem? ho;have:=Array.all_eq_true_iff_forall_mem.1 h o hm;rw [e] at this;simp at this
theorem Hn {P:Program} {row:String} {args:Array Value} {w:World} {R:Value->World->Prop} {l n:Nat} (h:Rows P row args w R):RowsIn (Fence.wide.inRound l) n P row args w R:=
 fun c cs _=>let ⟨v,w',r,s⟩:=h c cs;⟨v,w',r,stepsIn_wide.2 s⟩
theorem DU {P:Program} {o:Oper} {a:Act} {l n:Nat} {K:Act->World->Prop} {Q:Exit->Act->World->Prop} {r:Result Next} (h:o.upon P a K Q r):o.uponIn (Fence.wide.inRound l) n P a K Q r:=by
 cases r with
 |ok x w'=>
  cases x with
  |value v=>exact h
  |skip=>exact h
  |defer d=>exact h
  |enter f args=>exact ⟨fun hh=>by simp [Fence.wide] at hh,CallsIn.inRound l (callsIn_wide.2 h)⟩
  |row row args=>exact ⟨fun hh=>by simp [Fence.wide] at hh,Hn h⟩
  |_=>exact absurd h (by simp [Oper.upon])
 |halt x w'=>cases x<;>exact h
theorem m_ {P:Program} {md:Region.Mode} {ops:Array Oper} {Q:Exit->Act->World->Prop} {l n:Nat} (hd:rp ops=true) (hQ:∀a w,¬Q .outgrown a w):∀(iT:Nat) (eH:Array Bool) (a:Act) (w:World),
 wpAny P md ops Q iT eH a w->wpAnyIn (Fence.wide.inRound l) n P md ops Q iT eH a w
 |0,_,_,_,h=>h
 |iT+1,eH,a,w,h=>⟨h.1,fun i hi=>by
   have h2:=h.2 i hi;unfold wpOp at h2;unfold wpOpIn;cases ho:ops[i]? with
   |none=>rw [ho] at h2;exact m_ hd hQ iT _ _ _ h2
   |some o=>
    rw [ho] at h2;dsimp only at h2 ⊢;split
    ·next hw=>
     rw [afE hw] at h2;rcases h2 with h2|⟨-,a',w',h2⟩
     ·refine ⟨fun _ _=>trivial,?_⟩;rw [Oper.semAt_eq _ _ _ (DT hd ho)];refine DU ?_;exact Oper.wp_mono (fun a' w' h'=>m_ hd hQ iT _ _ _ h') h2
     ·exact absurd h2 (hQ a' w')
    ·next hw=>
     rw [abH hw] at h2;exact ⟨fun _ _=>trivial,m_ hd hQ iT _ _ _ h2⟩⟩
def iw (Q:Exit->Act->World->Prop) (e:Exit) (a:Act) (w:World):Prop:=e= .normal/\Q .normal a w
theorem aN {Q:Exit->Act->World->Prop} {c:List PanicEntry} {a:Act} {w:World} {X:Prop} (h:iw Q (.panic c) a w):X:=by cases h.1
theorem bF {P:Program} {id:Nat} {ops:Array Oper} {Q:Exit->Act->World->Prop} {a:Act} {w:World} {S:World->Prop} (hm:P.follows .mixedOrders=true) (hS:S w.drew)
 (h:S w.drew->wpAnyH P .any ops (iw Q) S ops.size (Array.replicate ops.size false) a w.drew):(Code.region id ops true).wp P Q a w:=
 Code.wp_mono (fun e a w hq=>by obtain ⟨rfl,hq⟩:=hq;exact hq) (wp_region_held_drew hm hS h)
theorem rr {P:Program} {id:Nat} {ops:Array Oper} {Q:Exit->Act->World->Prop} {a:Act} {w:World} {l n:Nat} {S:World->Prop} (hm:P.follows .mixedOrders=true) (hd:rp ops=true) (hS:S w.drew)
 (h:S w.drew->wpAnyH P .any ops (iw Q) S ops.size (Array.replicate ops.size false) a w.drew):(Code.region id ops true).wpIn (Fence.wide.inRound l) n P Q a w:=by
 refine wpIn_mono (Q:=iw Q) ?_ (fun e a w hq=>by obtain ⟨rfl,hq⟩:=hq;exact hq);exact wpIn_region_any hm (m_ hd (fun a w hq=>by cases hq.1) _ _ _ _ (wpAny_of_held _ _ _ _ (h hS)))
end Go.Proofs.YtblkblclmbhjiaaGreat.Mk
end
namespace Go.Proofs.YtblkblclmbhjiaaGreat.Mk
open Go.RowKit ak Go.Shelf ak.Vm
def nV:Code->List Code
 | .loop c=>[c]
 | .seq a b=>nV a++nV b
 | .block _ c=>nV c
 | .scope c=>nV c
 | .cond _ a b=>nV a++nV b
 |_=>[]
def mK (b:Option Code) (k:Nat):Code:=((nV (b.getD .skip))[k]?).getD .skip
section
variable {P:Program} {ops:Array Oper} {md:Region.Mode} {Q:Exit->Act->World->Prop} {S:World->Prop} {oi:Oper} {v:Value} {iT:Nat} {eH:Array Bool} {a:Act} {w:World}
theorem tk (i:Nat) (hi:ops[i]? =some oi) (hy:∀w,S w->(execOp a.eval oi).run P w= .ok (.value v) w) (hS:S w) (h:wpAnyH P md ops (iw Q) S iT (eH.setIfInBounds i true) (a.put oi.dst v) w)
 (hw:Region.wanted oi (yielded ops a.tmps)=true:=by rfl) (hs:Region.noSelect ops=true:=by kernel_rfl) (hf:Region.free md ops eH i=true:=by kernel_rfl) (hr:(Region.ready md ops eH).contains i=true:=by kernel_rfl):
 wpAnyH P md ops (iw Q) S (iT+1) eH a w:=
 af4 hi hs hf hr (fun _ _ _ h=>aN h) (.inl ⟨hw,hy⟩) hS h
theorem sk (i:Nat) (hi:ops[i]? =some oi) (hS:S w) (h:wpAnyH P md ops (iw Q) S iT (eH.setIfInBounds i true) (a.put oi.dst undef) w)
 (hw:Region.wanted oi (yielded ops a.tmps)=false:=by rfl) (hs:Region.noSelect ops=true:=by kernel_rfl) (hf:Region.free md ops eH i=true:=by kernel_rfl) (hr:(Region.ready md ops eH).contains i=true:=by kernel_rfl):
 wpAnyH P md ops (iw Q) S (iT+1) eH a w:=
 af4 hi hs hf hr (fun _ _ _ h=>aN h) (.inr ⟨hw,rfl⟩) hS h
theorem nW {rs:List Nat} (h:AllReadyH P md ops (iw Q) S iT eH a w rs) (hr:Region.ready md ops eH=rs:=by kernel_rfl) (bz:rs≠[]:=by simp):wpAnyH P md ops (iw Q) S (iT+1) eH a w:=afR hr bz h
end
end Go.Proofs.YtblkblclmbhjiaaGreat.Mk
namespace Go.Proofs.YtblkblclmbhjiaaGreat.Gd
open Go.RowKit ak ak.Vm
section
variable {P:Program} {ops:Array Oper} {Q:Exit->Act->World->Prop} {md:Region.Mode} {D:List Nat} {S0 S1:World->Prop}
def Not (D:List Nat) (l:Array Bool):Prop:=∀d,d∈D->l.getD d true=false
def Oi (D:List Nat) (S0 S1:World->Prop) (l:Array Bool) (w:World):Prop:=S0 w/\(Not D l->S1 w)
def lQ (P:Program) (md:Region.Mode) (ops:Array Oper) (Q:Exit->Act->World->Prop) (D:List Nat) (S0 S1:World->Prop):Nat->Array Bool->Act->World->Prop
 |0,l,a,w=>Region.ready md ops l=[]/\Q .normal a w
 |f+1,l,a,w=>(Region.ready md ops l=[]->Q .normal a w)/\∀i,i∈Region.ready md ops l->wpOp P ops Q i (fun a' w'=>Oi D S0 S1 (l.setIfInBounds i true) w'/\lQ P md ops Q D S0 S1 f (l.setIfInBounds i true) a' w') a w
theorem lQ.any:∀(f:Nat) (l:Array Bool) (a:Act) (w:World),lQ P md ops Q D S0 S1 f l a w->wpAny P md ops Q f l a w
 |0,_,_,_,h=>h
 |f+1,l,a,w,h=>⟨h.1,fun i hi=>wpOp_mono (fun a' w' k=>lQ.any f _ a' w' k.2) (h.2 i hi)⟩
def Aw (md:Region.Mode) (ops:Array Oper) (i:Nat):List Nat:=((List.range ops.size).foldl (fun N k=>match ops[k]? with|some o=>if o.after.any (fun e=>Region.binds md e&&N.contains e.on) then k::N else N|none=>N) [i])
def RY (md:Region.Mode) (ops:Array Oper) (N:List Nat) (i:Nat):Prop:=∀n,n∈N->n=i\/∃o,ops[n]? =some o/\∃e,e∈o.after/\Region.binds md e=true/\e.on∈N
def Ap (md:Region.Mode) (ops:Array Oper) (N:List Nat) (i:Nat):Bool:=N.contains i&&N.all fun n=>n==i||(match ops[n]? with|some o=>o.after.any (fun e=>Region.binds md e&&N.contains e.on)|none=>false)
theorem MG {N:List Nat} {i:Nat} (h:Ap md ops N i=true):i∈N/\RY md ops N i:=by
 unfold Ap at h;rw [Bool.and_eq_true] at h;refine ⟨by simpa using h.1,fun n hn=>?_⟩;have:=List.all_eq_true.1 h.2 n hn;rw [Bool.or_eq_true] at this;rcases this with this|h2
 ·exact .inl (by simpa using this)
 right;cases ho:ops[n]? with
 |none=>rw [ho] at h2;simp at h2
 |some o=>rw [ho] at h2;dsimp only at h2;obtain ⟨e,he,hb⟩:=Array.any_eq_true'.1 h2;rw [Bool.and_eq_true] at hb;exact ⟨o,rfl,e,he,hb.1,by simpa using hb.2⟩
theorem GI {l:Array Bool} {j:Nat} (h:Not D l) (hj:j∉D):Not D (l.setIfInBounds j true):=fun d hd=>by rw [getD_set_ne true (fun e=>hj (by rw [e];exact hd))];exact h d hd
theorem IY {l:Array Bool} {j:Nat} (h:Not D (l.setIfInBounds j true)):Not D l:=fun d hd=>by
 have h1:=h d hd;by_cases e:j=d
 ·subst e;by_cases hj:j < l.size
  ·simp [Array.getD,hj] at h1
  ·simp [Array.getD,hj] at h1
 ·rw [getD_set_ne true e] at h1;exact h1
theorem Oi.RZ {l:Array Bool} {j:Nat} {w:World} (h:Oi D S0 S1 l w):Oi D S0 S1 (l.setIfInBounds j true) w:=⟨h.1,fun hn=>h.2 (IY hn)⟩
theorem Oi.set {l:Array Bool} {j:Nat} {w:World} (h:Oi D S0 S1 (l.setIfInBounds j true) w) (hj:j∉D):Oi D S0 S1 l w:=⟨h.1,fun hn=>h.2 (GI hn hj)⟩
theorem first {i:Nat} {oi:Oper} {v:Value} {S:World->Prop} {N:List Nat} (hi:ops[i]? =some oi) (YS:∀(j:Nat) (o:Oper) cs b,ops[j]? =some o->o.op≠.select cs b)
 (hQ:∀c a w,Q (.panic c) (a.put oi.dst v) w->Q (.panic c) a w) (hW:RY md ops N i) (hiD:i∉D) (hC:∀l w,Not N l->Oi D S0 S1 l w->S w):
 ∀(f:Nat) (l:Array Bool) (a:Act) (w:World),
  (∀j oj,ops[j]? =some oj->j≠i->l.getD j true=false->(∀e∈oj.after,Region.binds md e=true->e.on≠i)->oi.apart ops oj=true)->
  i∈Region.ready md ops l->YieldsIf P ops S oi v a->Oi D S0 S1 l w->Not N l->
  lQ P md ops Q D S0 S1 f (l.setIfInBounds i true) (a.put oi.dst v) w->lQ P md ops Q D S0 S1 (f+1) l a w:=by
 intro f
 induction f with
 |zero=>
  intro l a w _ hr hy hS hN H;refine ⟨fun h=>(by rw [h] at hr;cases hr),fun j hj=>?_⟩;by_cases Oj:j=i
  ·subst Oj;exact hy.wpOp hi (hC l w hN hS) ⟨hS.RZ,H⟩
  ·have:=ready_mono hj Oj;rw [H.1] at this;cases this
 |succ f ih=>
  intro l a w R0 hr hy hS hN H;refine ⟨fun h=>(by rw [h] at hr;cases hr),fun j hj=>?_⟩;by_cases Oj:j=i
  ·subst Oj;exact hy.wpOp hi (hC l w hN hS) ⟨hS.RZ,H⟩
  ·have h1:=H.2 j (ready_mono hj Oj);obtain ⟨YT,oj,hoj,fF⟩:=mem_ready.1 hj;have YU:∀e∈oj.after,Region.binds md e=true->e.on∉N:=fun e he hb hm=>by
    have a1:=fF e he hb;have a0:=hN _ hm;rcases Nat.lt_or_ge e.on l.size with h'|h'
    ·simp [h'] at a0 a1;rw [a0] at a1;cases a1
    ·simp [Array.getElem?_eq_none h'] at a1
   have aaN:∀e∈oj.after,Region.binds md e=true->e.on≠i:=fun e he hb uF=>by
    have a1:=fF e he hb;have a0:=(mem_ready.1 hr).1;rw [uF] at a1;rcases Nat.lt_or_ge i l.size with h'|h'
    ·simp [h'] at a0 a1;rw [a0] at a1;cases a1
    ·simp [Array.getElem?_eq_none h'] at a1
   have hjN:j∉N:=fun hm=>by
    rcases hW j hm with e|⟨o,ho,e,he,hb,uF⟩
    ·exact Oj e
    ·rw [hoj] at ho;cases ho;exact YU e he hb uF
   have h2:=wpOp_putIf hoj (R0 j oj hoj Oj YT aaN) (fun cs b=>YS i oi cs b hi) (fun cs b=>YS j oj cs b hoj) hQ hy h1;refine wpOp_mono (fun a' w' h3=>?_) h2;obtain ⟨y3,c3,H3⟩:=h3;rw [Array.setIfInBounds_comm _ _ (Ne.symm Oj)] at c3;have c4:=c3.set hiD;refine ⟨c4,ih (l.setIfInBounds j true) a' w' (fun k ok hk hki hun P4=>R0 k ok hk hki ?_ P4) (ready_mono hr (Ne.symm Oj)) y3 c4 (GI hN hjN) ?_⟩
   ·by_cases hjk:j=k
    ·subst hjk;exact YT
    ·rw [getD_set_ne true hjk] at hun;exact hun
   ·rw [Array.setIfInBounds_comm _ _ Oj];exact H3
theorem MH {N:List Nat} {l:Array Bool} (h:(N.all fun d=> !(l.getD d true))=true):Not N l:=fun d hd=>by simpa using List.all_eq_true.1 h d hd
theorem take {i:Nat} {oi:Oper} {v:Value} {f:Nat} {l:Array Bool} {a:Act} {w:World} (hi:ops[i]? =some oi) (hs:Region.noSelect ops=true) (hf:Region.free md ops l i=true) (hr:(Region.ready md ops l).contains i=true)
 (hW:(Ap md ops (Aw md ops i) i&&D.all (fun d=>d !=i&&(Aw md ops i).contains d))=true) (hN:((Aw md ops i).all fun d=> !(l.getD d true))=true) (hQ:∀c a w,Q (.panic c) (a.put oi.dst v) w->Q (.panic c) a w) (hy:YieldsIf P ops (fun w=>S0 w/\S1 w) oi v a) (hS:S0 w/\S1 w)
 (h:lQ P md ops Q D S0 S1 f (l.setIfInBounds i true) (a.put oi.dst v) w):lQ P md ops Q D S0 S1 (f+1) l a w:=by
 rw [Bool.and_eq_true] at hW;obtain ⟨-,hw⟩:=MG hW.1;have hD:∀d,d∈D->d≠i/\d∈Aw md ops i:=fun d hd=>by have:=List.all_eq_true.1 hW.2 d hd;rw [Bool.and_eq_true] at this;exact ⟨by simpa using this.1,by simpa using this.2⟩
 exact first (N:=Aw md ops i) hi (Region.noSelect_spec hs) hQ hw (fun hm=>(hD i hm).1 rfl) (fun l w hn hc=>⟨hc.1,hc.2 fun d hd=>hn d (hD d hd).2⟩) f l a w (Region.free_spec hi hf) (by simpa using hr) hy ⟨hS.1,fun _=>hS.2⟩ (MH hN) h
theorem MI {i:Nat} {oi:Oper} {v:Value} {f:Nat} {l:Array Bool} {a:Act} {w:World} (hi:ops[i]? =some oi) (hs:Region.noSelect ops=true) (hf:Region.free md ops l i=true) (hr:(Region.ready md ops l).contains i=true)
 (hW:(D.all fun d=>d !=i)=true) (hN:([i].all fun d=> !(l.getD d true))=true) (hQ:∀c a w,Q (.panic c) (a.put oi.dst v) w->Q (.panic c) a w) (hy:YieldsIf P ops S0 oi v a) (hS:S0 w/\S1 w)
 (h:lQ P md ops Q D S0 S1 f (l.setIfInBounds i true) (a.put oi.dst v) w):lQ P md ops Q D S0 S1 (f+1) l a w:=
 first (N:=[i]) hi (Region.noSelect_spec hs) hQ (fun n hn=> .inl (by simpa using hn)) (fun hm=>by have:=List.all_eq_true.1 hW i hm;simp at this) (fun l w _ hc=>hc.1) f l a w (Region.free_spec hi hf) (by simpa using hr) hy ⟨hS.1,fun _=>hS.2⟩ (MH hN) h
def cU (P:Program) (md:Region.Mode) (ops:Array Oper) (Q:Exit->Act->World->Prop) (D:List Nat) (S0 S1:World->Prop) (f:Nat) (l:Array Bool) (a:Act) (w:World) (rs:List Nat):Prop:=
 ∀i,i∈rs->wpOp P ops Q i (fun a' w'=>Oi D S0 S1 (l.setIfInBounds i true) w'/\lQ P md ops Q D S0 S1 f (l.setIfInBounds i true) a' w') a w
theorem cU.nil {f:Nat} {l:Array Bool} {a:Act} {w:World}:cU P md ops Q D S0 S1 f l a w []:=fun _ h=>by cases h
theorem step {i:Nat} {o:Oper} {K:Act->World->Prop} {a:Act} {w:World} (ho:ops[i]? =some o) (h:if Region.wanted o (yielded ops a.tmps)=true then Oper.wp P o a w K Q else K (a.put o.dst undef) w):wpOp P ops Q i K a w:=by
 unfold wpOp;rw [ho];dsimp only;split
 ·next hw=>rw [afE hw] at h;exact .inl h
 ·next hw=>rw [abH hw] at h;exact h
theorem cU.cons {f:Nat} {l:Array Bool} {a:Act} {w:World} {i:Nat} {o:Oper} {rs:List Nat} (ho:ops[i]? =some o)
 (h:∀K:Act->World->Prop,Shut (∀a w,S0 w/\S1 w->(S0 w/\S1 w->lQ P md ops Q D S0 S1 f (l.setIfInBounds i true) a w)->K a w)->if Region.wanted o (yielded ops a.tmps)=true then Oper.wp P o a w K Q else K (a.put o.dst undef) w)
 (hs:cU P md ops Q D S0 S1 f l a w rs):cU P md ops Q D S0 S1 f l a w (i::rs):=fun j hj=>by
 rcases List.mem_cons.1 hj with rfl|hj
 ·exact step ho (h _ (fun a w hS hW=>⟨⟨hS.1,fun _=>hS.2⟩,hW hS⟩))
 ·exact hs j hj
theorem cU.last {f:Nat} {l:Array Bool} {a:Act} {w:World} {i:Nat} {o:Oper} {rs:List Nat} (ho:ops[i]? =some o) (hD:(D.any fun d=>(l.setIfInBounds i true).getD d true)=true)
 (h:∀K:Act->World->Prop,Shut (∀a w,S0 w->lQ P md ops Q D S0 S1 f (l.setIfInBounds i true) a w->K a w)->if Region.wanted o (yielded ops a.tmps)=true then Oper.wp P o a w K Q else K (a.put o.dst undef) w)
 (hs:cU P md ops Q D S0 S1 f l a w rs):cU P md ops Q D S0 S1 f l a w (i::rs):=fun j hj=>by
 rcases List.mem_cons.1 hj with rfl|hj
 ·refine step ho (h _ (fun a w hS hW=>⟨⟨hS,fun hN=>?_⟩,hW⟩));obtain ⟨d,hd,hb⟩:=List.any_eq_true.1 hD;rw [hN d hd] at hb;cases hb
 ·exact hs j hj
theorem ready {rs:List Nat} {f:Nat} {l:Array Bool} {a:Act} {w:World} (hr:Region.ready md ops l=rs) (bz:rs≠[]) (h:cU P md ops Q D S0 S1 f l a w rs):lQ P md ops Q D S0 S1 (f+1) l a w:=
 ⟨fun h0=>absurd (hr▸h0) bz,hr▸h⟩
theorem done {l:Array Bool} {a:Act} {w:World} (hr:Region.ready md ops l=[]) (h:Q .normal a w):∀f,lQ P md ops Q D S0 S1 f l a w
 |0=>⟨hr,h⟩
 |_+1=>⟨fun _=>h,by rw [hr];simp⟩
variable {id:Nat} {a:Act} {w:World} {l n:Nat}
theorem region (D:List Nat) (S0 S1:World->Prop) (hm:P.follows .mixedOrders=true) (hS:S0 w.drew/\S1 w.drew) (h:S0 w.drew/\S1 w.drew->lQ P .any ops (Mk.iw Q) D S0 S1 ops.size (Array.replicate ops.size false) a w.drew):(Code.region id ops true).wp P Q a w:=
 Code.wp_mono (fun e a w hq=>by obtain ⟨rfl,hq⟩:=hq;exact hq) (wp_region_any hm (lQ.any _ _ _ _ (h hS)))
theorem rr (D:List Nat) (S0 S1:World->Prop) (hm:P.follows .mixedOrders=true) (hd:Mk.rp ops=true) (hS:S0 w.drew/\S1 w.drew) (h:S0 w.drew/\S1 w.drew->lQ P .any ops (Mk.iw Q) D S0 S1 ops.size (Array.replicate ops.size false) a w.drew):(Code.region id ops true).wpIn (Fence.wide.inRound l) n P Q a w:=by refine wpIn_mono (Q:=Mk.iw Q) ?_ (fun e a w hq=>by obtain ⟨rfl,hq⟩:=hq;exact hq);exact wpIn_region_any hm (Mk.m_ hd (fun a w hq=>by cases hq.1) _ _ _ _ (lQ.any _ _ _ _ (h hS)))
end
end Go.Proofs.YtblkblclmbhjiaaGreat.Gd
namespace Go.Proofs.YtblkblclmbhjiaaGreat.Mk
open Go.RowKit ak Go.Shelf ak.Vm
section
variable {P:Program} {ops:Array Oper} {md:Region.Mode} {Q:Exit->Act->World->Prop} {S0 S1:World->Prop} {D:List Nat} {oi:Oper} {v:Value} {iT:Nat} {l:Array Bool} {a:Act} {w:World}
theorem P6 (i:Nat) (hi:ops[i]? =some oi) (hy:∀w,S0 w/\S1 w->(execOp a.eval oi).run P w= .ok (.value v) w) (hS:S0 w/\S1 w) (h:Gd.lQ P md ops (iw Q) D S0 S1 iT (l.setIfInBounds i true) (a.put oi.dst v) w)
 (hw:Region.wanted oi (yielded ops a.tmps)=true:=by rfl) (hs:Region.noSelect ops=true:=by kernel_rfl) (hf:Region.free md ops l i=true:=by kernel_rfl) (hr:(Region.ready md ops l).contains i=true:=by kernel_rfl)
 (hW:(Gd.Ap md ops (Gd.Aw md ops i) i&&D.all (fun d=>d !=i&&(Gd.Aw md ops i).contains d))=true:=by kernel_rfl) (hN:((Gd.Aw md ops i).all fun d=> !(l.getD d true))=true:=by kernel_rfl):Gd.lQ P md ops (iw Q) D S0 S1 (iT+1) l a w:=
 Gd.take hi hs hf hr hW hN (fun _ _ _ h=>aN h) (.inl ⟨hw,hy⟩) hS h
theorem Ud {rs:List Nat} (h:Gd.cU P md ops (iw Q) D S0 S1 iT l a w rs) (hr:Region.ready md ops l=rs:=by kernel_rfl) (bz:rs≠[]:=by simp):Gd.lQ P md ops (iw Q) D S0 S1 (iT+1) l a w:=Gd.ready hr bz h
variable {S:World->Prop} {eH:Array Bool} {a':Act}
theorem bL (i:Nat) (h:wpAnyH P md ops (iw Q) S iT (eH.setIfInBounds i true) a' w)
 (hS:S w:=by assumption)
 (hi:ops[i]? =some oi:=by rfl)
 (hy:∀w,S w->(execOp a.eval oi).run P w= .ok (.value v) w:=by
   intro wz bR
   (try dsimp only at bR)
   (try simp only [List.getElem_toArray,List.getElem_cons_zero,List.getElem_cons_succ])
   first|(go_simp;done)|(go_simp;with_reducible rfl))
 (ha:a'=a.put oi.dst v:=by
   (try simp only [Act.put,List.setIfInBounds_toArray,List.set_cons_zero,List.set_cons_succ,List.getElem_toArray,List.getElem_cons_zero,List.getElem_cons_succ])
   first|done|rfl)
 (hw:Region.wanted oi (yielded ops a.tmps)=true:=by rfl) (hs:Region.noSelect ops=true:=by kernel_rfl) (hf:Region.free md ops eH i=true:=by kernel_rfl) (hr:(Region.ready md ops eH).contains i=true:=by kernel_rfl):
 wpAnyH P md ops (iw Q) S (iT+1) eH a w:=tk i hi hy hS (ha▸h) hw hs hf hr
theorem Re (i:Nat) {W0:World} {b o:Nat} {u:Value} (c:W0.cell? (π b o)=some u) (h:wpAnyH P md ops (iw Q) S iT (eH.setIfInBounds i true) a' w)
 (hS:S w:=by assumption)
 (hi:ops[i]? =some oi:=by rfl)
 (hy:W0.cell? (π b o)=some u->∀w,S w->(execOp a.eval oi).run P w= .ok (.value v) w:=by
   intro c wz bR;have y0:=(afG (bR.block _ (aS c))).trans c
   (try simp only [List.getElem_toArray,List.getElem_cons_zero,List.getElem_cons_succ])
   first|(go_simp;done)|(go_simp;with_reducible rfl))
 (ha:a'=a.put oi.dst v:=by
   (try simp only [Act.put,List.setIfInBounds_toArray,List.set_cons_zero,List.set_cons_succ,List.getElem_toArray,List.getElem_cons_zero,List.getElem_cons_succ])
   first|done|rfl)
 (hw:Region.wanted oi (yielded ops a.tmps)=true:=by rfl) (hs:Region.noSelect ops=true:=by kernel_rfl) (hf:Region.free md ops eH i=true:=by kernel_rfl) (hr:(Region.ready md ops eH).contains i=true:=by kernel_rfl):
 wpAnyH P md ops (iw Q) S (iT+1) eH a w:=tk i hi (hy c) hS (ha▸h) hw hs hf hr
theorem OV (i:Nat) (h:wpAnyH P md ops (iw Q) S iT (eH.setIfInBounds i true) a' w)
 (hS:S w:=by assumption)
 (hi:ops[i]? =some oi:=by rfl)
 (ha:a'=a.put oi.dst undef:=by
   (try simp only [Act.put,List.setIfInBounds_toArray,List.set_cons_zero,List.set_cons_succ,List.getElem_toArray,List.getElem_cons_zero,List.getElem_cons_succ])
   first|done|rfl)
 (hw:Region.wanted oi (yielded ops a.tmps)=false:=by rfl) (hs:Region.noSelect ops=true:=by kernel_rfl) (hf:Region.free md ops eH i=true:=by kernel_rfl) (hr:(Region.ready md ops eH).contains i=true:=by kernel_rfl):
 wpAnyH P md ops (iw Q) S (iT+1) eH a w:=sk i hi hS (ha▸h) hw hs hf hr
theorem pt {p q:Prop} (hq:q) (h:q->p:=by
 intro hq
 (try simp only [Act.put,List.setIfInBounds_toArray,List.set_cons_zero,List.set_cons_succ,List.getElem_toArray,List.getElem_cons_zero,List.getElem_cons_succ])
 exact hq):p:=h hq
theorem gtA (i:Nat) (h:Gd.lQ P md ops (iw Q) D S0 S1 iT (l.setIfInBounds i true) a' w)
 (hS:S0 w/\S1 w:=by assumption)
 (hi:ops[i]? =some oi:=by rfl)
 (hy:∀w,S0 w/\S1 w->(execOp a.eval oi).run P w= .ok (.value v) w:=by
   intro wz bR
   (try dsimp only at bR)
   (try simp only [List.getElem_toArray,List.getElem_cons_zero,List.getElem_cons_succ])
   first|(go_simp;done)|(go_simp;with_reducible rfl))
 (ha:a'=a.put oi.dst v:=by
   (try simp only [Act.put,List.setIfInBounds_toArray,List.set_cons_zero,List.set_cons_succ,List.getElem_toArray,List.getElem_cons_zero,List.getElem_cons_succ])
   first|done|rfl)
 (hw:Region.wanted oi (yielded ops a.tmps)=true:=by rfl) (hs:Region.noSelect ops=true:=by kernel_rfl) (hf:Region.free md ops l i=true:=by kernel_rfl) (hr:(Region.ready md ops l).contains i=true:=by kernel_rfl)
 (hW:(Gd.Ap md ops (Gd.Aw md ops i) i&&D.all (fun d=>d !=i&&(Gd.Aw md ops i).contains d))=true:=by kernel_rfl) (hN:((Gd.Aw md ops i).all fun d=> !(l.getD d true))=true:=by kernel_rfl):Gd.lQ P md ops (iw Q) D S0 S1 (iT+1) l a w:=
 P6 i hi hy hS (ha▸h) hw hs hf hr hW hN
end
end Go.Proofs.YtblkblclmbhjiaaGreat.Mk
namespace Go.Proofs.YtblkblclmbhjiaaGreat.S4
open Go Go.RowKit ak
section
structure ny (n count az e:Nat) (S:Tb Value):Prop where
 inv:Inv n S
 cR:cR n S=count
 le:count<=az
 fit:Fit az n e
 int:∀i k u,S i=some (k,u)->∃x,u=ι x
variable {n count az e:Nat} {S:Tb Value}
theorem ny.pos (T:ny n count az e S):0 < n:=T.fit.Sk.pos
theorem ny.lt (T:ny n count az e S):count < n:=by have:=T.le;have:=T.fit.ge;have:=T.pos;omega
theorem ny.wU (T:ny n count az e S):∃em,em < n/\S em=none:=yP (by rw [T.cR];exact T.lt)
theorem vD {key:Nat} {v:Int} (h:∀i k u,S i=some (k,u)->∃x,u=ι x):∀i k u,putAt n S key (ι v) i=some (k,u)->∃x,u=ι x:=by
 intro i k u hi;unfold putAt at hi;by_cases e:i=find n S key
 ·subst e;rw [an] at hi;simp at hi;exact ⟨v,hi.2.symm⟩
 ·rw [aj _ _ e] at hi;exact h i k u hi
theorem vE {p:Nat} {x:Option (Nat×Value)} (h:∀i k u,S i=some (k,u)->∃x,u=ι x) (hx:∀k u,x=some (k,u)->∃x,u=ι x):∀i k u,aL S p x i=some (k,u)->∃x,u=ι x:=by
 intro i k u hi;by_cases e:i=p
 ·subst e;rw [an] at hi;exact hx k u hi
 ·rw [aj _ _ e] at hi;exact h i k u hi
theorem BC:∀(f:Nat) (S:Tb Value) (i k:Nat),(∀i k u,S i=some (k,u)->∃x,u=ι x)->∀j y u,fV n f S i k j=some (y,u)->∃x,u=ι x:=by
 intro f
 induction f with
 |zero=>intro S i k h;exact h
 |succ f ih=>
  intro S i k h;unfold fV;cases hs:S k with
  |none=>exact h
  |some p=>
   obtain ⟨y,v⟩:=p;dsimp only;split
   ·exact ih _ _ _ (vE (vE h fun k' u e=>h k k' u (hs.trans e)) fun k u e=>by simp at e)
   ·exact ih _ _ _ h
theorem sK {p:Nat} (h:∀i k u,S i=some (k,u)->∃x,u=ι x):∀i k u,ke n S p i=some (k,u)->∃x,u=ι x:=
 BC n _ _ _ (vE h fun k u e=>by simp at e)
end
end Go.Proofs.YtblkblclmbhjiaaGreat.S4
