import Derived.Test.YtblkblclmbhjiaaGreatM18
import Derived.Laws.StructEq
set_option linter.unusedVariables false
set_option linter.unusedSimpArgs false
set_option maxHeartbeats 40000000
set_option maxRecDepth 100000
open Go.Proofs.Tryz
theorem agH {p:Prop} (h:p:=by
 rcases h1 with h1|h1
 ·cases h1
 ·simp;intro e;subst e;exact h1 (by rw [hb];rfl)):p:=h
namespace Go.Proofs.YtblkblclmbhjiaaGreat.Rv
open Go.RowKit ak.Vm
open ak hiding aL an aj
open Ma (aA aQ)
theorem Qz (ty:List Nat) (w:World) {k j:Nat} (hj:j < k) (hk:k<=ty.length) (ht:eI ty):(Instr.index 9 (.string (nM (ty.take k))) (ι ((k - 1 - j:Nat):Int))).run prog w= .ok (.int .u8 ((yJ (ty.getD j 0)).toNat:Nat)) w:=by
 have hs:(nM (ty.take k)).size=k:=by rw [lJ,List.length_take];omega
 have hi:0<=((k - 1 - j:Nat):Int)/\((k - 1 - j:Nat):Int) < ((nM (ty.take k)).size:Int):=omm;rw [run_index_string w _ _ _ _ underlying9,dif_pos hi];simp only [Int.toNat_natCast];have e:(nM (ty.take k))[k - 1 - j]'omm=yJ (ty.getD j 0):=by
  show (nM (ty.take k)).data[k - 1 - j]'_=_;have h2:((ty.take k).reverse.map yJ)[k - 1 - j]? =some (yJ (ty.getD j 0)):=by rw [List.getElem?_map,List.getElem?_reverse (by rw [List.length_take];omega)];rw [show (ty.take k).length - 1 - (k - 1 - j)=j by rw [List.length_take];omega,List.getElem?_take_of_lt hj,afP omm,afS,afP (show j < ty.length by omega)];rfl
  have h3:(nM (ty.take k)).data[k - 1 - j]? =some (yJ (ty.getD j 0)):=by show ((ty.take k).reverse.map yJ).toArray[k - 1 - j]? =_;rw [List.getElem?_toArray];exact h2
  exact (Array.getElem?_eq_some_iff.1 h3).2
 rw [e]
def Fg (w:World) (x:Ins) (ty:List Nat) (e:Ending) (w':World):Prop:=e= .returned (.tuple #[.string (nM (cw x ty).2),ι (cw x ty).1])/\Below w.heap.size w w'
theorem ad6 {p:Prop} (h:p:=by
 go_enter func292,ntmps292;go_wp2_with fail;refine (HT.o _).mono ?_;rintro e w' ⟨rfl,rfl⟩;go_wp2_with fail;go_ret2;exact ⟨rfl,HB.o _ _⟩):p:=h
theorem Fh (w:World) {x:Ins} {ty:List Nat} (h0:0<=x.op) (h1:x.op < 42) (hl:ty.length<=256) (ht:eI ty):
 Calls prog 292 #[aQ x,.string (nM ty)] w (Fg w x ty):=by
 have HO:=ae (rfl:cw x ty=cw x ty);obtain ⟨op,xa,xb,xc,xd⟩:=x;dsimp only at h0 h1;have HT:=ae (fun V=>zM V h0 h1);have HG:=ae (fun V=>rJ V h0 h1);have HS:=ae (lJ ty);have hB:=ag6 w;have hC:∀cs T k,Below w.heap.size w ((w.alloc (.cells cs T)).drewN k):=fun cs T k=>(hB cs T).trans (au _ _ k);have HB:=ae hB;have HC:=ae hC;have Gz:=ae ht;have hz:op=0->bO op.toNat=[]:=fun h=>by rw [h];rfl
 have sE:op=19↔op.toNat=19:=omm;have GO:=sJ op.toNat;clear hB hC ht h0 h1;unfold aQ aA Fg;dsimp only;generalize hk:bO op.toNat=tk at*;have Wm:(nM tk).size=tk.length:=lJ tk;have TI:tk.length<=2:=by rcases GO with rfl|rfl|rfl|rfl|⟨-,rfl⟩<;>simp
 have hu:cw ⟨op,xa,xb,xc,xd⟩ ty=(if ty.length < tk.length\/(op=0/\tk.length < ty.length) then (93,[]) else if 256 < (eL op.toNat++ty.drop tk.length).length then (93,[]) else if op=19 then (if ty.getD 0 0≠ty.getD 1 0 then (94,[]) else (0,eL op.toNat++ty.drop tk.length)) else if ty.take tk.length≠tk then (94,[]) else (0,eL op.toNat++ty.drop tk.length)):=by unfold cw;dsimp only;rw [hk];rfl
 have HU:=ae hu;have HK:=ae hk;clear hu hk;have e2:(nM ty).size=ty.length:=HS.o;by_cases c1:ty.length < tk.length
 ·have IX:=ae (show cw ⟨op,xa,xb,xc,xd⟩ ty=(93,[]) by rw [HU.o,afE (.inl c1)]);have w1:IntKind.i64.wrap ((ty.length:Int) - (tk.length:Int))=(ty.length:Int) - (tk.length:Int):=afU _ coo;rw [IX.o];generalize nM ty=tb at*;generalize nM tk=tkb at*;generalize ty.length=n at*;generalize tk.length=k at*;clear GO sE hz HG HO;exact ad6
 by_cases c2:op=0/\tk.length < ty.length
 ·obtain ⟨rfl,c2⟩:=c2;have IX:=ae (show cw ⟨0,xa,xb,xc,xd⟩ ty=(93,[]) by rw [HU.o,afE (.inr ⟨rfl,c2⟩)]);have w1:IntKind.i64.wrap ((ty.length:Int) - (tk.length:Int))=((ty.length - tk.length:Nat):Int):=by rw [afU _ coo];omega
  rw [IX.o];have c3:0 < ty.length - tk.length:=omm;generalize nM ty=tb at*;generalize nM tk=tkb at*;generalize ty.length - tk.length=nk at*;generalize ty.length=n at*;generalize tk.length=k at*;clear GO sE hz HG HO;exact ad6
 have uP:cw ⟨op,xa,xb,xc,xd⟩ ty=(if 256 < (eL op.toNat++ty.drop tk.length).length then (93,[]) else if op=19 then (if ty.getD 0 0≠ty.getD 1 0 then (94,[]) else (0,eL op.toNat++ty.drop tk.length)) else if ty.take tk.length≠tk then (94,[]) else (0,eL op.toNat++ty.drop tk.length)):=by rw [HU.o,abH (by simp only [not_or];exact ⟨c1,c2⟩)]
 have w1:IntKind.i64.wrap ((ty.length:Int) - (tk.length:Int))=((ty.length - tk.length:Nat):Int):=by rw [afU _ coo];omega
 have SV:=Np ty (k:=tk.length) omm;have hX:=No ty tk.length;have hxs:(nM (ty.drop tk.length)).size=ty.length - tk.length:=by rw [lJ,List.length_drop]
 have hgs:(nM (eL op.toNat)).size=(eL op.toNat).length:=lJ _;have abv:(eL op.toNat).length<=1:=by unfold eL;split<;>simp
 have hXG:nM (ty.drop tk.length)++nM (eL op.toNat)=nM (eL op.toNat++ty.drop tk.length):=Qx _ _;have hlz:=lJ (eL op.toNat++ty.drop tk.length);have htz:=lJ (ty.take tk.length);have HR:=ae (fun (w:World) (j:Nat) (hj:j < tk.length)=>Qz ty w hj omm Gz.o);have TD:=ae (fun (h:eI tk)=>Fe (Gz.o.take tk.length) h);have um:(eL op.toNat++ty.drop tk.length).length<=257:=by rw [age,List.length_drop];unfold eL;split<;>simp<;>omega
 have c4:op=0/\ty.length=tk.length\/op≠0:=by
  by_cases o:op=0
  ·exact .inl ⟨o,by have:¬tk.length < ty.length:=fun h=>c2 ⟨o,h⟩;omega⟩
  ·exact .inr o
 have IX:=ae uP;have Vd:ty.length - tk.length<=ty.length:=omm;clear uP c2 HU HO;have Lf:=ae GO;have HZ:=ae hz;clear GO hz;generalize hLb:nM (eL op.toNat++ty.drop tk.length)=lb at*;generalize hTb:nM (ty.take tk.length)=tpb at*;generalize hGb:nM (eL op.toNat)=gb at*;generalize hXb:nM (ty.drop tk.length)=xb9 at*;generalize hGl:(eL op.toNat).length=gl at*;have Sa:=ae hGl;have Oc:=ae hXb;have Vp:=ae hLb;have qX:=ae hTb;have HGB:=ae hGb;clear hLb hTb hGb hXb hGl;generalize tO:nM ty=tb at*;generalize GO:nM tk=tkb at*;have Yv:=ae tO;have abw:=ae GO;clear tO GO;generalize ZN:ty.length - tk.length=nk at*;have HNK:=ae ZN;clear ZN;generalize hn9:ty.length=n at*;have HN:=ae hn9;clear hn9;generalize hk9:tk.length=k at*;have UG:=ae hk9;clear hk9;have nO:k<=n:=omm;generalize Hh:(eL op.toNat++ty.drop k).length=ll at*;have HLL:=ae Hh;clear Hh c1;have c6:((op==0)=true/\decide (0 < nk)=false)\/(op==0)=false:=by
  rcases c4 with ⟨h,h2⟩|h
  ·exact .inl ⟨by simpa using h,by have:=HNK.o;simp;omega⟩
  ·exact .inr (by simpa using h)
 clear c4;rcases c6 with ⟨c4,c7⟩|c4
 all_goals
  go_enter func292,ntmps292;go_wp2_with fail;refine (HT.o _).mono ?_;rintro e w' ⟨rfl,rfl⟩;go_wp2_with fail;go_quiet ((go_at_call 318;exact Calls.quiet_of_same (HG.o _)));by_cases c5:256 < ll
  ·have HE:=ae (show cw _ ty=(93,[]) from by rw [IX.o,afE c5]);clear sE;go_wp2_with fail;go_ret2;exact ⟨by rw [HE.o];rfl,HC.o _ _ _⟩
  by_cases ZO:op=19
  ·subst ZO
   try (exact absurd c4 dee)
   all_goals
    have e2:tk=[3,3]:=HK.o.symm;have k2:k=2:=by rw [<-UG.o,e2];rfl
    have r0:∀V:World,(Instr.index 9 (.string tpb) (ι 1)).run prog V= .ok (.int .u8 ((yJ (ty.getD 0 0)).toNat:Nat)) V:=fun V=>by have:=HR.o V 0 omm;rw [k2] at this;exact this
    have r1:∀V:World,(Instr.index 9 (.string tpb) (ι 0)).run prog V= .ok (.int .u8 ((yJ (ty.getD 1 0)).toNat:Nat)) V:=fun V=>by have:=HR.o V 1 omm;rw [k2] at this;exact this
    have h0:=Gz.o.at (j:=0) (by have:=HN.o;omega);have h1:=Gz.o.at (j:=1) (by have:=HN.o;omega);have hch:=GS h1 h0;have HE:=ae (show cw ⟨19,xa,xb,xc,xd⟩ ty=if ty.getD 0 0≠ty.getD 1 0 then (94,[]) else (0,eL (Int.toNat 19)++ty.drop k) by rw [IX.o,abH c5,afE rfl]);generalize ty.getD 0 0=t0 at*;generalize ty.getD 1 0=t1 at*;clear sE e2 k2 h0 h1;by_cases hq:t0=t1
    ·subst hq;have nC:=ae (show cw ⟨19,xa,xb,xc,xd⟩ ty=(0,eL (Int.toNat 19)++ty.drop k) by rw [HE.o,abH smm]);clear hch;generalize (yJ t0).toNat=u0 at*;go_wp2_with fail;go_quiet (fail);go_wp2_with fail;go_ret2;exact ⟨by rw [nC.o,<-Vp.o];rfl,(HC.o _ _ _).trans (au _ _ _)⟩
    ·have nC:=ae (show cw ⟨19,xa,xb,xc,xd⟩ ty=(94,[]) by rw [HE.o,afE hq]);have bz:¬(yJ t1).toNat=(yJ t0).toNat:=fun h=>hq (hch.1 (UInt8.toNat_inj.1 h)).symm;clear hch hq;generalize (yJ t0).toNat=u0 at*;generalize (yJ t1).toNat=u1 at*;go_wp2_with fail;go_quiet (fail);go_wp2_with fail;go_ret2;exact ⟨by rw [nC.o];rfl,(HC.o _ _ _).trans (au _ _ _)⟩
  ·have ho:(op==19)=false:=by simpa using ZO
   have GO:eI tk:=by
    have hh:tk=[]\/tk=[1]\/tk=[2]\/tk=[1,1]:=by
     rcases Lf.o with h|h|h|h|⟨h,-⟩
     ·exact .inl h
     ·exact .inr (.inl h)
     ·exact .inr (.inr (.inl h))
     ·exact .inr (.inr (.inr h))
     ·exact absurd (sE.2 h) ZO
    rcases hh with rfl|rfl|rfl|rfl<;>intro t ht<;>simp at ht<;>simp [ht]
   have uF:=TD.o GO;have HE:=ae (show cw ⟨op,xa,xb,xc,xd⟩ ty=if ty.take k≠tk then (94,[]) else (0,eL (Int.toNat op)++ty.drop k) by rw [IX.o,abH c5,abH ZO]);clear GO sE ZO;by_cases hq:ty.take k=tk
   ·have nC:=ae (show cw ⟨op,xa,xb,xc,xd⟩ ty=(0,eL (Int.toNat op)++ty.drop k) by rw [HE.o,abH (by simp [hq])]);have hb:(tpb.toList==tkb.toList)=true:=by rw [beq_iff_eq,uF];exact hq
    clear uF hq;go_wp2_with fail;go_ret2;exact ⟨by rw [nC.o,<-Vp.o];rfl,HC.o _ _ _⟩
   ·have nC:=ae (show cw ⟨op,xa,xb,xc,xd⟩ ty=(94,[]) by rw [HE.o,afE hq]);have hb:(tpb.toList==tkb.toList)=false:=by rw [beq_eq_false_iff_ne,ne_eq,uF];exact hq
    clear uF hq;go_wp2_with fail;go_ret2;exact ⟨by rw [nC.o];rfl,HC.o _ _ _⟩
end Go.Proofs.YtblkblclmbhjiaaGreat.Rv
namespace Go.Proofs.YtblkblclmbhjiaaGreat.Rv
open Go.RowKit ak.Vm
open ak hiding aL an aj
open Ma (dx bQ aU vb aA aQ)
open Vf (Kp fP pV qu bw aV)
def mQ (s:kE):Value:= .agg #[.string (nM s.ty),ι s.loop,ι s.hand,.bool s.jI]
def CQ (f:Nat->kE) (o:Nat):Value:=(#[.string (nM (f (o / 4)).ty),ι (f (o / 4)).loop,ι (f (o / 4)).hand,.bool (f (o / 4)).jI]:Array Value).getD (o % 4) undef
structure qx (w:World) (K:Kp) (p:aO) (lb:Nat) (iz j_ jA:Value) (L:jS):Prop where
 c_:ay w lb 260 (uj K p iz j_ jA)
 at_:Row w 262 4 iz p.code.length (CQ L.at_)
 up:Row w 3 1 j_ p.code.length (fun i=> ι (L.up i))
 st:Row w 4 1 jA p.code.length (fun i=> .bool (fx p i))
section
variable {w w':World} {K:Kp} {p:aO} {iz j_ jA:Value} {lb:Nat} {L:jS} {x:Ins}
theorem qx.aB (h:qx w K p lb iz j_ jA L) (f:da [] w w'):qx w' K p lb iz j_ jA L:=⟨h.c_.aB f smm,h.at_.aB f smm,h.up.aB f smm,h.st.aB f smm⟩
theorem qx.RD (h:qx w K p lb iz j_ jA L) {i:Nat} (hi:i < p.code.length):∃b cap,iz= .slice (some (π b 0)) p.code.length cap/\p.code.length<=cap/\cap<=maxLen/\b < w.heap.size/\
 w.cell? (π b (i*4))=some (.string (nM (L.at_ i).ty))/\w.cell? (π b (i*4+1))=some (ι (L.at_ i).loop)/\w.cell? (π b (i*4+2))=some (ι (L.at_ i).hand)/\w.cell? (π b (i*4+3))=some (.bool (L.at_ i).jI):=by
 obtain ⟨b,cap,e,h1,h2,h3⟩:=h.at_.some omm;have hr:=h.at_;rw [e] at hr;have key:∀k,k < 4->w.cell? (π b (i*4+k))=some ((#[.string (nM (L.at_ i).ty),ι (L.at_ i).loop,ι (L.at_ i).hand,.bool (L.at_ i).jI]:Array Value).getD k undef):=fun k hk=>by have e:=hr.cell (o:=i*4+k) omm;rw [e];unfold CQ;rw [show (i*4+k) / 4=i by omega,show (i*4+k) % 4=k by omega]
 exact ⟨b,cap,e,h1,h2,h3,key 0 omm,key 1 omm,key 2 omm,key 3 omm⟩
theorem qx.start (h:qx w K p lb iz j_ jA L) {i:Nat} (hi:i < p.code.length):∃b cap,jA= .slice (some (π b 0)) p.code.length cap/\p.code.length<=cap/\b < w.heap.size/\w.cell? (π b i)=some (.bool (fx p i)):=by obtain ⟨b,cap,e,h1,h2,h3⟩:=h.st.some omm;have hr:=h.st;rw [e] at hr;exact ⟨b,cap,e,h1,h3,hr.cell omm⟩
theorem qx.upc (h:qx w K p lb iz j_ jA L) {i:Nat} (hi:i < p.code.length):∃b cap,j_= .slice (some (π b 0)) p.code.length cap/\p.code.length<=cap/\b < w.heap.size/\w.cell? (π b i)=some (ι (L.up i)):=by obtain ⟨b,cap,e,h1,h2,h3⟩:=h.up.some omm;have hr:=h.up;rw [e] at hr;exact ⟨b,cap,e,h1,h3,hr.cell omm⟩
structure JOk (p:aO) (L:jS) (pc:Nat) (x:Ins) (ty:List Nat) (loop:Int):Prop where
 pc:pc < p.code.length
 len:p.code.length<=262144
 lp:loop < p.code.length
 ty:eI ty
 lt:∀n,eI (L.at_ n).ty
def Nr (w:World) (b:Bool) (e:Ending) (w':World):Prop:=e= .returned (.bool b)/\Below w.heap.size w w'
theorem acr {p:Prop} (h:p:=by
 go_enter func294,ntmps294;exact ad7):p:=h
theorem ac6 {p:Prop} (h:p:=by
 go_enter func294,ntmps294;go_wp2_with fail;go_ret;exact ⟨by rw [HJ.o];rfl,HB.o _ _ _ _⟩):p:=h
theorem ac5 {p:Prop} (h:p:=by
 go_enter func294,ntmps294;go_wp2_with fail;refine (uW.o _ _ _ _).mono ?_;rintro e w' ⟨rfl,rfl⟩;exact ad7):p:=h
theorem ad7 {p:Prop} (h:p:=by
 go_wp2_with fail;go_quiet (fail);go_wp2_with fail;go_ret;exact ⟨by rw [HJ.o];rfl,HC.o _ _ _ _ _⟩):p:=h
theorem abV {p:Prop} (h:p:=by
 go_enter func294,ntmps294;go_wp2_with fail;refine (uW.o _ _ _ _).mono ?_;rintro e w' ⟨rfl,rfl⟩;go_wp2_with fail;go_ret;exact ⟨by rw [HJ.o];rfl,HB.o _ _ _ _⟩):p:=h
theorem Ac {pc:Nat} {ty:List Nat} {loop:Int} (h:fP w K p) (hl:qx w K p lb iz j_ jA L) (hx:ai p pc=x) (J:JOk p L pc x ty loop):
 Calls prog 294 #[ρ lb,ι pc,.agg #[.string (nM ty),ι loop,ι 0,.bool false]] w (Nr w (dL p L pc x ty loop)):=by
 obtain ⟨jpc,abx,jlp,jty,jlt⟩:=J;obtain ⟨cb,wk,zF,kc,q1,q2,c0,c1,c2,c3,c4⟩:=h.ins jpc;rw [hx] at c0 c1 c2 c3 c4;have lc:=aS c0;obtain ⟨-,-,-,-,-,v5,v6,-,v8⟩:=hl.c_.c9;have ll:=hl.c_.lt;rw [kc] at v5;have hB:=ag7 w;have hC:∀cs T mV T2 k,Below w.heap.size w (((w.alloc (.cells cs T)).alloc (.cells mV T2)).drewN k):=fun cs T mV T2 k=>(hB cs T mV T2).trans (au _ _ k);have HB:=ae hB;have HC:=ae hC;have HT:=ae (fun cs T mV T2 n=>Ev (h.aB (da.ah (hB cs T mV T2))) (hl.c_.of ((hB cs T mV T2).block _ ll)) n);have H:=ae h;have HL:=ae hl;have xj:=ae kc;clear h hl hB hC kc;obtain ⟨op,xa,xb,xc,xd⟩:=x;have HX:=ae hx;clear hx;unfold Nr;dsimp only at*;have hj:∀X,X=dL p L pc ⟨op,xa,xb,xc,xd⟩ ty loop->X=dL p L pc ⟨op,xa,xb,xc,xd⟩ ty loop:=fun _ h=>h;clear hj;by_cases o1:op=22\/op=23\/op=25\/op=26
 ·by_cases o2:xa<=pc
  ·have HJ:=ae (show dL p L pc ⟨op,xa,xb,xc,xd⟩ ty loop=false from by unfold dL;rw [afE ⟨o1,.inl o2⟩]);rcases o1 with rfl|rfl|rfl|rfl
   all_goals
    exact ac6
  have o3:(pc:Int) < xa:=omm;clear o2;cases o4:gE p xa with
  |true=>
   have HJ:=ae (show dL p L pc ⟨op,xa,xb,xc,xd⟩ ty loop=false from by unfold dL;rw [afE ⟨o1,.inr o4⟩]);have uW:=ae (fun cs T mV T2=>o4▸HT.o cs T mV T2 xa);clear o4;rcases o1 with rfl|rfl|rfl|rfl
   all_goals
    exact abV
  |false=>
   have uW:=ae (fun cs T mV T2=>o4▸HT.o cs T mV T2 xa);have P4:¬((op=22\/op=23\/op=25\/op=26)/\(xa<=pc\/gE p xa=true)):=by rintro ⟨-,h|h⟩;omega;rw [o4] at h;cases h
   have kR:dL p L pc ⟨op,xa,xb,xc,xd⟩ ty loop=(if op=25 then decide (0 < pc)&&decide ((ai p (pc - 1)).op=24)&& !fx p pc else if op=24 then gE p ((pc:Int)+1) else if op=26 then decide (0<=loop)&&decide (xa=(ai p loop.toNat).a) else if op=27 then decide (0<=loop)&&decide (xa=loop)&&decide (ty=(L.at_ loop.toNat).ty) else if op=0 then decide (loop < 0) else true):=by unfold dL;rw [abH P4]
   have EU:=ae kR;clear o4 P4 kR;rcases o1 with rfl|rfl|rfl|rfl
   ·have HJ:=ae (show dL p L pc ⟨22,xa,xb,xc,xd⟩ ty loop=true from by rw [EU.o];rfl);exact abV
   ·have HJ:=ae (show dL p L pc ⟨23,xa,xb,xc,xd⟩ ty loop=true from by rw [EU.o];rfl);exact abV
   ·have kR:=EU.o;rw [afE rfl] at kR;by_cases p0:0 < pc
    ·obtain ⟨m,rfl⟩:∃m,pc=m+1:=⟨pc - 1,omm⟩;have w1:IntKind.i64.wrap (((m+1:Nat):Int) - 1)=(m:Int):=by rw [afU _ coo];omega
     obtain ⟨cb2,ZP,ZQ,Cl,-,-,e0,-⟩:=H.o.ins (i:=m) omm;rw [xj.o] at Cl;simp only [afH,af5,Addr.mk.injEq] at Cl;obtain ⟨⟨rfl,rfl,-⟩,-,rfl⟩:=Cl;simp only [Nat.add_sub_cancel] at kR;rw [show decide (0 < m+1)=true by simp,Bool.true_and] at kR;generalize (ai p m).op=op2 at*;by_cases p1:op2=24
     ·subst p1;obtain ⟨sb,aby,es,s1,s2,s3⟩:=HL.o.start jpc;rw [es] at v8;simp only [decide_true,Bool.true_and] at kR;cases hs:fx p (m+1) with
      |true=>rw [hs] at s3 kR;have HJ:=ae kR;clear kR hs;exact abV
      |false=>rw [hs] at s3 kR;have HJ:=ae kR;clear kR hs;exact abV
     ·have p2:(op2==24)=false:=by simpa using p1
      rw [show decide (op2=24)=false by simpa using p1,Bool.false_and] at kR;have HJ:=ae kR;clear kR p1;exact abV
    ·obtain rfl:pc=0:=omm;simp only [Nat.zero_mul,Nat.add_zero] at c0 c1 c2 c3 c4;have HJ:=ae (show _=false from kR.trans smm);clear kR;exact abV
   ·have kR:=EU.o;rw [abH dee,abH dee,afE rfl] at kR;by_cases p0:0<=loop
    ·obtain ⟨m,rfl⟩:=afN p0;obtain ⟨cb2,ZP,ZQ,Cl,-,-,-,e1,-⟩:=H.o.ins (i:=m) omm;rw [xj.o] at Cl;simp only [afH,af5,Addr.mk.injEq] at Cl;obtain ⟨⟨rfl,rfl,-⟩,-,rfl⟩:=Cl;obtain ⟨a2,Gx⟩:∃z,(ai p m).a=z:=⟨_,rfl⟩;rw [Gx] at e1;replace kR:=kR.trans (show _=decide (xa=a2) by simp [Gx]);clear Gx EU;by_cases p1:xa=a2
     ·subst p1;have HJ:=ae (show _=true from kR.trans smm);clear kR;exact ac5
     ·have HJ:=ae (show _=false from kR.trans (by simpa using p1));have p2:(xa==a2)=false:=by simpa using p1
      clear kR p1;exact ac5
    ·have HJ:=ae (show _=false from kR.trans (by simp [p0]));have p1:decide (0<=loop)=false:=by simpa using p0
     clear kR p0;exact ac5
 have P4:¬((op=22\/op=23\/op=25\/op=26)/\(xa<=pc\/gE p xa=true)):=fun h=>o1 h.1;have kR:dL p L pc ⟨op,xa,xb,xc,xd⟩ ty loop=(if op=25 then decide (0 < pc)&&decide ((ai p (pc - 1)).op=24)&& !fx p pc else if op=24 then gE p ((pc:Int)+1) else if op=26 then decide (0<=loop)&&decide (xa=(ai p loop.toNat).a) else if op=27 then decide (0<=loop)&&decide (xa=loop)&&decide (ty=(L.at_ loop.toNat).ty) else if op=0 then decide (loop < 0) else true):=by unfold dL;rw [abH P4]
 simp only [not_or] at o1;obtain ⟨n22,n23,n25,n26⟩:=o1;have e22:(op==22)=false:=by simpa using n22
 have e23:(op==23)=false:=by simpa using n23
 have e25:(op==25)=false:=by simpa using n25
 have e26:(op==26)=false:=by simpa using n26
 rw [abH n25,abH n26] at kR;clear P4;by_cases RT:op=24
 ·subst RT;have HJ:=ae (kR.trans (afE rfl));have w1:IntKind.i64.wrap ((pc:Int)+1)=(pc:Int)+1:=afU _ coo;clear kR n22 n23 n25 n26;rw [HJ.o];have HT3:=ae (fun cs T mV T2=>HT.o cs T mV T2 ((pc:Int)+1));clear HJ HT;generalize gE p ((pc:Int)+1)=tb9 at*;go_enter func294,ntmps294;go_wp2_with fail;refine (HT3.o _ _ _ _).mono ?_;rintro e w' ⟨rfl,rfl⟩;go_wp2_with fail;go_ret;exact ⟨rfl,HB.o _ _ _ _⟩
 rw [abH RT] at kR;have e24:(op==24)=false:=by simpa using RT
 by_cases TX:op=27
 ·subst TX;rw [afE rfl] at kR;clear n22 n23 n25 n26 RT;by_cases p0:0<=loop
  ·obtain ⟨m,rfl⟩:=afN p0;simp only [Int.toNat_natCast,p0,decide_true,Bool.true_and] at kR;obtain ⟨ab,ph,ea,a1,a2,a3,s0,-⟩:=HL.o.RD (i:=m) omm;rw [ea] at v6;have uF:=Fe jty (jlt m);clear ea;by_cases p1:xa=(m:Int)
   ·subst p1;simp only [decide_true,Bool.true_and] at kR;by_cases p2:ty=(L.at_ m).ty
    ·have HJ:=ae (show _=true from kR.trans (by simpa using p2));have e9:((nM ty).toList==(nM (L.at_ m).ty).toList)=true:=by rw [beq_iff_eq,uF];exact p2
     clear kR p2 uF jty jlt;generalize nM (L.at_ m).ty=t2 at*;generalize nM ty=t1 at*;exact acr
    ·have HJ:=ae (show _=false from kR.trans (by simpa using p2));have e9:((nM ty).toList==(nM (L.at_ m).ty).toList)=false:=by rw [beq_eq_false_iff_ne,ne_eq,uF];exact p2
     clear kR p2 uF jty jlt;generalize nM (L.at_ m).ty=t2 at*;generalize nM ty=t1 at*;exact acr
   ·have HJ:=ae (show _=false from kR.trans (by simp [p1]));have p2:(xa==(m:Int))=false:=by simpa using p1
    clear kR p1 uF;exact acr
  ·have HJ:=ae (show _=false from kR.trans (by simp [p0]));have p1:decide (0<=loop)=false:=by simpa using p0
   clear kR p0;exact acr
 rw [abH TX] at kR;have e27:(op==27)=false:=by simpa using TX
 by_cases o0:op=0
 ·subst o0;have HJ:=ae (kR.trans (afE rfl));clear kR n22 n23 n25 n26 RT TX;exact ac6
 have HJ:=ae (kR.trans (abH o0));have e0:(op==0)=false:=by simpa using o0
 clear kR n22 n23 n25 n26 RT TX o0;exact ac6
theorem CR {W:World} {E:TypeId} {A cap n z:Nat} {g:Nat->Value} (h:Row W E 4 (.slice (some (π A 0)) n cap) n g) (hz:z < n) (v0 v1 v2 v3:Value):
 Row ((((W.setCell (π A (z*4)) v0).setCell (π A (z*4+1)) v1).setCell (π A (z*4+2)) v2).setCell (π A (z*4+3)) v3) E 4 (.slice (some (π A 0)) n cap) n (fun o=>if o / 4=z then (#[v0,v1,v2,v3]:Array Value).getD (o % 4) undef else g o):=by
 refine Row.congr ((((h.set (o:=z*4) omm v0).set (o:=z*4+1) omm v1).set (o:=z*4+2) omm v2).set (o:=z*4+3) omm v3) ?_;intro o ho;by_cases e:o / 4=z
 ·rw [afE e];obtain ⟨k,hk,rfl⟩:∃k,k < 4/\o=z*4+k:=⟨o % 4,omm,omm⟩;rw [show (z*4+k) % 4=k by omega];have:k=0\/k=1\/k=2\/k=3:=omm;rcases this with rfl|rfl|rfl|rfl<;>simp
 ·rw [abH e]
  repeat rw [abH omm]
variable {A cap:Nat}
theorem qx.put (h:qx w K p lb (.slice (some (π A 0)) p.code.length cap) j_ jA L) {z:Nat} (hz:z < p.code.length) (s:kE) {W':World}
 (e:W'=((((w.setCell (π A (z*4)) (.string (nM s.ty))).setCell (π A (z*4+1)) (ι s.loop)).setCell (π A (z*4+2)) (ι s.hand)).setCell (π A (z*4+3)) (.bool s.jI))):
 qx W' K p lb (.slice (some (π A 0)) p.code.length cap) j_ jA {L with at_:=aL L.at_ z s}/\da [A] w W':=by
 subst e;have f:da [A] w ((((w.setCell (π A (z*4)) (.string (nM s.ty))).setCell (π A (z*4+1)) (ι s.loop)).setCell (π A (z*4+2)) (ι s.hand)).setCell (π A (z*4+3)) (.bool s.jI)):=
  ((((da.refl [A] w).setCell (p:=(π A (z*4))) smm _).setCell (p:=(π A (z*4+1))) smm _).setCell (p:=(π A (z*4+2))) smm _).setCell (p:=(π A (z*4+3))) smm _
 have nb:lb∉[A]:=by have:=h.at_.eF h.c_ dee;simp;intro e;exact this (by rw [e];rfl)
 have nu:∀b,j_.ownBlock=some b->b∉[A]:=fun b hb=>by have h1:=h.at_.ne h.up dee;exact agH
 have ns:∀b,jA.ownBlock=some b->b∉[A]:=fun b hb=>by have h1:=h.at_.ne h.st dee;exact agH
 refine ⟨⟨h.c_.aB f nb,(CR h.at_ hz _ _ _ _).congr fun o ho=>?_,h.up.aB f nu,h.st.aB f ns⟩,f⟩;unfold CQ;by_cases e:o / 4=z
 ·rw [afE e,e];dsimp only;rw [an]
 ·rw [abH e];dsimp only;rw [aj _ _ e]
theorem eqS (s t:kE) (hs:eI s.ty) (ht:eI t.ty) (w:World):(binOp .eql 262 (mQ s) (mQ t)).run prog w= .ok (.bool (decide (s=t))) w:=by
 obtain ⟨a,b,c,d⟩:=s;obtain ⟨a',b',c',d'⟩:=t;have hq:=Fe hs ht;dsimp only at hq;have kO:(((nM a).toList==(nM a').toList):Bool)=decide (a=a'):=by rw [af7,beq_iff_eq,hq,afX]
 unfold mQ;dsimp only;have u3:=underlying3;have q3:=isAgg3;have z3:=sizeOf3;have u4:=underlying4;have q4:=isAgg4;have z4:=sizeOf4;have u9:=underlying9;have q9:=isAgg9;have z9:=sizeOf9;rw [run_eql_struct];have hu:prog.underlying 262=some (.struct (prog.fieldsOf 262)):=by kernel_rfl
 have fj:prog.stoodInHeld 262=false:=by kernel_rfl
 have hf:=hu.symm.trans underlying262;simp only [af5,TypeDesc.struct.injEq] at hf;rw [run_equalIn_agg _ _ _ _ _ hu fj,hf];clear hf hu fj;simp only [Op.eqFields];go_simp;by_cases h1:a=a'
 ·subst h1;by_cases h2:b=b'
  ·subst h2;by_cases h3:c=c'
   ·subst h3;cases d<;>cases d'<;>simp
   ·simp [h3]
  ·simp [h2]
 ·simp [h1]
def rY (L:jS) (z:Nat) (s:kE):Bool×jS:=if (L.at_ z).jI then (decide (L.at_ z=s),L) else (true,{L with at_:=aL L.at_ z s})
def GU (w:World) (K:Kp) (p:aO) (lb A cap:Nat) (j_ jA:Value) (L:jS) (z:Nat) (s:kE) (e:Ending) (w':World):Prop:=
 e= .returned (.bool (rY L z s).1)/\(∃W,Below w.heap.size w W/\da [A] W w')/\qx w' K p lb (.slice (some (π A 0)) p.code.length cap) j_ jA (rY L z s).2
theorem xM (hl:qx w K p lb (.slice (some (π A 0)) p.code.length cap) j_ jA L) {z:Nat} (hz:z < p.code.length) {s:kE} (hs:eI s.ty) (ht:eI (L.at_ z).ty):
 Calls prog 296 #[ρ lb,ι z,mQ s] w (GU w K p lb A cap j_ jA L z s):=by
 have hq:=eqS (L.at_ z) s ht hs;have v6:w.cell? (π lb 6)=some (.slice (some (π A 0)) p.code.length cap):=hl.c_.cell 6;have ll:=hl.c_.lt;obtain ⟨b,mI,e,h1,h2,h3,c0,c1,c2,c3⟩:=hl.RD hz;simp only [afH,af5,Addr.mk.injEq] at e;obtain ⟨⟨rfl,-,-⟩,-,rfl⟩:=e;have HL:=ae hl;have HZ:=ae hz;have HB:=ae (fun cs T=>(afL w.heap.size w).alloc (afF _) (.cells cs T));have tM:∀o,w.frozen? (π A o)=false:=fun o=>hl.at_.frozen o;cases hg:(L.at_ z).jI with
 |true=>rw [hg] at c3;have HG:=ae (show rY L z s=(decide (L.at_ z=s),L) by unfold rY;rw [hg];rfl);unfold mQ at hq ⊢;obtain ⟨dd,wm⟩:∃d,decide (L.at_ z=s)=d:=⟨_,rfl⟩;rw [wm] at hq HG;rw [hg] at hq;clear hg hl wm tM;generalize nM (L.at_ z).ty=t1 at*;generalize (L.at_ z).loop=l1 at*;generalize (L.at_ z).hand=h1' at*;generalize nM s.ty=t2 at*;generalize s.loop=l2 at*;generalize s.hand=h2' at*;generalize s.jI=g2 at*;go_enter func296,ntmps296;go_wp2_with fail;go_quiet (fail);go_wp2_with fail;go_ret;exact ⟨by rw [HG.o];rfl,⟨_,(HB.o _ _).trans (au _ _ _),da.refl _ _⟩,by rw [HG.o];exact (HL.o.aB ((da.refl [] w).alloc _)).aB (da.ah (au _ _ _))⟩
 |false=>
  rw [hg] at c3;have HG:=ae (show rY L z s=(true,{L with at_:=aL L.at_ z s}) by unfold rY;rw [hg];rfl);have IS:=ae (fun (V:World) (hb:Below w.heap.size w V)=>qx.put (hl.aB (da.ah hb)) hz s rfl);have eN:=HB.o #[.string (nM s.ty),ι s.loop,ι s.hand,.bool s.jI] 262;have kx:ay (w.alloc (.cells #[.string (nM s.ty),ι s.loop,ι s.hand,.bool s.jI] 262)) w.heap.size 262 #[.string (nM s.ty),ι s.loop,ι s.hand,.bool s.jI]:=ay.new _ _ _;clear hg hl hq;unfold mQ;generalize nM (L.at_ z).ty=t1 at*;generalize (L.at_ z).loop=l1 at*;generalize (L.at_ z).hand=h1' at*;generalize nM s.ty=t2 at*;generalize s.loop=l2 at*;generalize s.hand=h2' at*;generalize s.jI=g2 at*;go_enter func296,ntmps296;go_wp2_with fail;obtain ⟨W1,Ak⟩:∃W1,W1=w.alloc (.cells #[.string t2,ι l2,ι h2',.bool g2] 262):=⟨_,rfl⟩;rw [<-Ak] at eN kx ⊢;have key:∀b o v,w.cell? (π b o)=some v->W1.cell? (π b o)=some v:=fun b o v h=>(afG (eN.block _ (aS h))).trans h;replace c0:=key _ _ _ c0;replace c1:=key _ _ _ c1;replace c2:=key _ _ _ c2;replace c3:=key _ _ _ c3;replace v6:=key _ _ _ v6;obtain ⟨d0,d1,d2,d3⟩:=kx.c4;have dC:=ae eN;clear Ak kx key eN tM;generalize eO:w.heap.size=bx at*;have jg:=ae eO;clear eO
  go_still_tail 7,krr
  change wpList _ _ _ _ _ (W1.drewN 1);have dn:=dC.o.trans (au _ W1 1);have tM:∀o,(W1.drewN 1).frozen? (π A o)=false:=fun o=>(World.frozen?_of_block (dn.block _ h3)).trans (HL.o.at_.frozen o);have HP:=ae (IS.o (W1.drewN 1) dn);have fg:=ae dn;have o0:(W1.drewN 1).cell? (π A (z*4))=some (.string t1):=c0;have o1:(W1.drewN 1).cell? (π A (z*4+1))=some (ι l1):=c1;have o2:(W1.drewN 1).cell? (π A (z*4+2))=some (ι h1'):=c2;have o3:(W1.drewN 1).cell? (π A (z*4+3))=some (.bool false):=c3;clear dn c0 c1 c2 c3 d0 d1 d2 d3 v6;generalize W1.drewN 1=V0 at*;go_wp2_with fail;go_ret;exact ⟨by rw [HG.o];rfl,⟨V0,by rw [jg.o];exact fg.o,HP.o.2⟩,by rw [HG.o];exact HP.o.1⟩
def FG (J:Nat->Value):Act:={tmps:=#[J 0,J 1,J 2,J 3,J 4,J 5,J 6,J 7,J 8,J 9,J 10,J 11,J 12,J 13,J 14,J 15,J 16,J 17,J 18,J 19,J 20,J 21,J 22,J 23,J 24,J 25,J 26,J 27,J 28,J 29,J 30,J 31,J 32,J 33,J 34,J 35,J 36,J 37,J 38,J 39,J 40,J 41,J 42,J 43,J 44,J 45,J 46,J 47,J 48,J 49,J 50,J 51,J 52,J 53,J 54,J 55,J 56,J 57,J 58,J 59,J 60,J 61,J 62,J 63,J 64,J 65,J 66,J 67,J 68,J 69,J 70,J 71,J 72,J 73,J 74,J 75,J 76,J 77,J 78,J 79,J 80,J 81,J 82,J 83,J 84,J 85,J 86],defers:=[]}
theorem FG.of (A:Array Value) (h:A=(FG fun k=>A.getD k undef).tmps):({tmps:=A,defers:=[]}:Act)=FG fun k=>A.getD k undef:=by rw [h];rfl
def zW:Nat×kE:=(0,s0)
structure g_ (W:World) (lo:Nat) (nv wv:Value) (l:List (Nat×kE)):Prop where
 n:Row W 3 1 nv l.length (fun i=> ι ((l.getD i zW).1:Nat))
 s:Row W 262 4 wv l.length (CQ fun i=>(l.getD i zW).2)
 nl:∀b,nv.ownBlock=some b->lo<=b
 wl:∀b,wv.ownBlock=some b->lo<=b
theorem g_.one {W:World} {lo bn bs:Nat} {a:Nat} {s:kE} {cn cs:Array Value} (kn:ay W bn 3 cn) (ks:ay W bs 262 cs) (h1:lo<=bn) (h2:lo<=bs) (en:cn=#[ι a]) (es:cs=#[.string (nM s.ty),ι s.loop,ι s.hand,.bool s.jI]):
 g_ W lo (.slice (some (π bn 0)) 1 1) (.slice (some (π bs 0)) 1 1) [(a,s)]:=by
 subst en es;refine ⟨Row.made kn rfl dee (fun i hi=>?_),Row.made ks rfl dee (fun o ho=>?_),fun b hb=>by cases hb;exact h1,fun b hb=>by cases hb;exact h2⟩
 ·obtain rfl:i=0:=omm;rfl
 ·have:o=0\/o=1\/o=2\/o=3:=omm;rcases this with rfl|rfl|rfl|rfl<;>rfl
theorem g_.two {W:World} {lo bn bs:Nat} {a b:Nat} {s t:kE} {cn cs:Array Value} (kn:ay W bn 3 cn) (ks:ay W bs 262 cs) (h1:lo<=bn) (h2:lo<=bs) (en:cn=#[ι a,ι b]) (es:cs=#[.string (nM s.ty),ι s.loop,ι s.hand,.bool s.jI,.string (nM t.ty),ι t.loop,ι t.hand,.bool t.jI]):
 g_ W lo (.slice (some (π bn 0)) 2 2) (.slice (some (π bs 0)) 2 2) [(a,s),(b,t)]:=by
 subst en es;refine ⟨Row.made kn rfl dee (fun i hi=>?_),Row.made ks rfl dee (fun o ho=>?_),fun b hb=>by cases hb;exact h1,fun b hb=>by cases hb;exact h2⟩
 ·have:i=0\/i=1:=omm;rcases this with rfl|rfl<;>rfl
 ·have:o=0\/o=1\/o=2\/o=3\/o=4\/o=5\/o=6\/o=7:=omm;rcases this with rfl|rfl|rfl|rfl|rfl|rfl|rfl|rfl<;>rfl
theorem g_.nil (W:World) (lo:Nat):g_ W lo ν ν []:=⟨Row.nil _ _ _ _,Row.nil _ _ _ _,fun b hb=>(by cases hb),fun b hb=>(by cases hb)⟩
theorem g_.low {W:World} {lo zR:Nat} {nv wv:Value} {l:List (Nat×kE)} (h:g_ W lo nv wv l) (hh:zR<=lo):g_ W zR nv wv l:=⟨h.n,h.s,fun b hb=>afM hh (h.nl b hb),fun b hb=>afM hh (h.wl b hb)⟩
def RG (V:World) (l:List (Nat×kE)) (a:Act) (W:World):Prop:=∃(J:Nat->Value) (nv wv:Value),a=FG J/\J 6=nv/\J 7=wv/\Hid (Below V.heap.size V W)/\Hid (g_ W V.heap.size nv wv l)
def wJ (w:World) (K:Kp) (p:aO) (lb:Nat) (iz j_ jA:Value) (L:jS) (pc:Nat) (x:Ins) (s:kE) (e:Ending) (w':World):Prop:=∃nv wv,e= .returned (.tuple #[nv,wv])/\da j_.ownBlock.toList w w'/\qx w' K p lb iz j_ jA (fQ L pc x s.loop)/\g_ w' w.heap.size nv wv (dP (fQ L pc x s.loop) pc x s)
theorem yK {P:Program} {fn:Func} {R:Ending->World->Prop} {A:Array Value} {w:World} {t u:Tmp} (h:fn.results=#[.tmp t,.tmp u]) (hR:R (.returned (.tuple #[A.getD t undef,A.getD u undef])) w):Exit.noGoto (bodyPost P fn R) .ret {tmps:=A,defers:=[]} w:=by rw [Exit.noGoto_ret];exact Vf.PG h hR
theorem qx.ZR {w:World} {K:Kp} {p:aO} {lb U cap:Nat} {iz jA:Value} {L:jS} (h:qx w K p lb iz (.slice (some (π U 0)) p.code.length cap) jA L) {z:Nat} (hz:z < p.code.length) (n:Int):
 qx (w.setCell (π U z) (ι n)) K p lb iz (.slice (some (π U 0)) p.code.length cap) jA {L with up:=aL L.up z n}/\da [U] w (w.setCell (π U z) (ι n)):=by
 have f:da [U] w (w.setCell (π U z) (ι n)):=(da.refl [U] w).setCell (p:=(π U z)) smm _;have nb:lb∉[U]:=by have:=h.up.eF h.c_ dee;simp;intro e;exact this (by rw [e];rfl)
 have na:∀b,iz.ownBlock=some b->b∉[U]:=fun b hb=>by have h1:=h.up.ne h.at_ dee;exact agH
 have ns:∀b,jA.ownBlock=some b->b∉[U]:=fun b hb=>by have h1:=h.up.ne h.st dee;exact agH
 refine ⟨⟨h.c_.aB f nb,h.at_.aB f na,(h.up.set (o:=z) omm (ι n)).congr fun o ho=>?_,h.st.aB f ns⟩,f⟩;show _=ι (aL L.up z n o);rw [cG];by_cases e:o=z
 ·rw [afE e,afE e]
 ·rw [abH e,abH e]
theorem ad8 {p:Prop} (h:p:=by
 have y0:=key _ _ _ Ja;have y1:=key _ _ _ wE;have y2:=key _ _ _ Jb;have y3:=key _ _ _ Jc;exact qU):p:=h
theorem aeb {p:Prop} (h:p:=by
 have key:∀b i v,V2.cell? (π b i)=some v->wz.cell? (π b i)=some v:=fun b i v hc=>(afG (bR.block _ (aS hc))).trans hc;exact ad8):p:=h
theorem aea {p:Prop} (h:p:=by
 have key:∀b i v,V2.cell? (π b i)=some v->wz.cell? (π b i)=some v:=fun b i v hc=>(afG (bR.block _ (aS hc))).trans hc;have y0:=key _ _ _ t0';have y1:=key _ _ _ t1';have y2:=key _ _ _ t2';have y3:=key _ _ _ t3';exact qU):p:=h
theorem ac9 {p:Prop} (h:p:=by
 rintro e a W ⟨rfl,J,nv,wv,rfl,j6,j7,Dp,QB⟩;unfold FG;rw [j6,j7];clear j6 j7;go_wp2_with fail;refine yK rfl ?_;exact CS.o _ _ _ _ HW.o HU.o Dp.o QB.o):p:=h
theorem ac8 {p:Prop} (h:p:=by
 have key:∀b i v,V.cell? (π b i)=some v->wz.cell? (π b i)=some v:=fun b i v hc=>(afG (bR.block _ (aS hc))).trans hc;exact ad8):p:=h
theorem ad9 {p:Prop} (h:p:=by
 refine Mk.tk 3 (v:=?_) rfl (fun wz bR=>?_) al ?_;rotate_left
 ·exact ac8
 refine Mk.pt ?_;refine Mk.nW (rs:=[2,4]) (afJ rfl (fun K9 hK=>?_) (afJ rfl (fun K9 hK=>?_) af1))
 ·refine QX ?_;go_simp;refine hK.out _ _ (al.alloc al.size _) (fun al=>?_);clear hK K9;refine Mk.pt ?_;refine Mk.bL 5 ?_;refine Mk.nW (rs:=[4]) (afJ rfl (fun K9 hK=>?_) af1);refine QX ?_;go_simp;refine hK.out _ _ (al.alloc al.size _) (fun al=>?_);clear hK K9;refine Mk.pt ?_;refine Mk.bL 6 ?_;refine afZ krr ⟨rfl,rfl,_,_,_,FG.of _ rfl,rfl,rfl,ae al,ae ?_⟩ _;exact g_.one ((ay.new _ _ _).alloc _) (ay.a_ smm) smm smm rfl rfl
 ·refine QX ?_;go_simp;refine hK.out _ _ (al.alloc al.size _) (fun al=>?_);clear hK K9;refine Mk.pt ?_;refine Mk.nW (rs:=[2]) (afJ rfl (fun K9 hK=>?_) af1);refine QX ?_;go_simp;refine hK.out _ _ (al.alloc al.size _) (fun al=>?_);clear hK K9;refine Mk.pt ?_;refine Mk.bL 5 ?_;refine Mk.bL 6 ?_;refine afZ krr ⟨rfl,rfl,_,_,_,FG.of _ rfl,rfl,rfl,ae al,ae ?_⟩ _;exact g_.one (ay.a_ smm) ((ay.new _ _ _).alloc _) smm smm rfl rfl):p:=h
theorem ac7 {p:Prop} (h:p:=by
 refine Mk.pt ?_;refine Mk.nW (rs:=[4,7]) (afJ rfl (fun K9 hK=>?_) (afJ rfl (fun K9 hK=>?_) af1))
 ·refine QX ?_;go_simp;refine hK.out _ _ (al.alloc al.size _) (fun al=>?_);clear hK K9;refine Mk.pt ?_;refine Mk.bL 8 ?_;refine Mk.nW (rs:=[7]) (afJ rfl (fun K9 hK=>?_) af1);refine QX ?_;go_simp;refine hK.out _ _ (al.alloc al.size _) (fun al=>?_);clear hK K9;refine Mk.pt ?_;refine Mk.bL 9 ?_;refine afZ krr ⟨rfl,rfl,_,_,_,FG.of _ rfl,rfl,rfl,ae al,ae ?_⟩ _;exact g_.two ((ay.new _ _ _).alloc _) (ay.a_ smm) smm smm rfl rfl
 ·refine QX ?_;go_simp;refine hK.out _ _ (al.alloc al.size _) (fun al=>?_);clear hK K9;refine Mk.pt ?_;refine Mk.nW (rs:=[4]) (afJ rfl (fun K9 hK=>?_) af1);refine QX ?_;go_simp;refine hK.out _ _ (al.alloc al.size _) (fun al=>?_);clear hK K9;refine Mk.pt ?_;refine Mk.bL 8 ?_;refine Mk.bL 9 ?_;refine afZ krr ⟨rfl,rfl,_,_,_,FG.of _ rfl,rfl,rfl,ae al,ae ?_⟩ _;exact g_.two (ay.a_ smm) ((ay.new _ _ _).alloc _) smm smm rfl rfl):p:=h
theorem UH {pc:Nat} {s:kE} (h:fP w K p) (hl:qx w K p lb iz j_ jA L) (hx:ai p pc=x) (nj:pc < p.code.length) (hlen:p.code.length<=262144) (wT:(x.op=22\/x.op=23\/x.op=25\/x.op=26)->0<=x.a/\x.a < p.code.length) (C_:x.op=26->0<=s.loop/\s.loop < p.code.length):
 Calls prog 295 #[ρ lb,ι pc,mQ s] w (wJ w K p lb iz j_ jA L pc x s):=by
 obtain ⟨cb,wk,zF,kc,q1,q2,c0,c1,c2,c3,c4⟩:=h.ins nj;rw [hx] at c0 c1 c2 c3 c4;have lc:=aS c0;obtain ⟨-,-,-,-,-,v5,-,v7⟩:=hl.c_.c8;have ll:=hl.c_.lt;rw [kc] at v5;have HL:=ae hl;clear h hl kc hx;obtain ⟨op,xa,xb,xc,xd⟩:=x;dsimp only at c0 c1 c2 c3 c4 wT C_;obtain ⟨V,hV⟩:∃V,V=(w.alloc (.cells #[.string (nM s.ty),ι s.loop,ι s.hand,.bool s.jI] 262)).alloc (.cells #[ι op,ι xa,ι xb,ι xc,ι xd] 40):=⟨_,rfl⟩;have ks:ay V w.heap.size 262 #[.string (nM s.ty),ι s.loop,ι s.hand,.bool s.jI]:=by rw [hV];exact (ay.new _ _ _).alloc _
 have kx:ay V (w.heap.size+1) 40 #[ι op,ι xa,ι xb,ι xc,ι xd]:=by rw [hV];exact ay.a_ smm
 have hb:Below w.heap.size w V:=by rw [hV];exact ((afL _ _).alloc (afF _) _).alloc smm _
 have HB:=ae hb;have Wj:=ae ks;have Hh:=ae (HL.o.aB (da.ah hb));obtain ⟨Ja,wE,Jb,Jc⟩:=ks.c4;obtain ⟨x0',Nw⟩:=kx.c2;have Wp:V.cell? (π lb 7)=some j_:=(afG (hb.block _ ll)).trans v7;have ll':lb < V.heap.size:=afQ ll hb.size;have lS:=ks.lt;have lX:=kx.lt;have w1:IntKind.i64.wrap ((pc:Int)+1)=((pc+1:Nat):Int):=by rw [afU _ coo];omega
 have hE:=ae hb;have HP:=ae (rfl:pc=pc);have CS:=ae (fun W (nv wv:Value) (l:List (Nat×kE)) (hw:dP (fQ L pc ⟨op,xa,xb,xc,xd⟩ s.loop) pc ⟨op,xa,xb,xc,xd⟩ s=l) (hu:fQ L pc ⟨op,xa,xb,xc,xd⟩ s.loop=L) (hb:Below V.heap.size V W) (h:g_ W V.heap.size nv wv l)=>show wJ w K p lb iz j_ jA L pc ⟨op,xa,xb,xc,xd⟩ s (.returned (.tuple #[nv,wv])) W from
  ⟨nv,wv,rfl,((da.ah (S:=[]) HB.o).trans (da.ah hb)).mono smm,by rw [hu];exact Hh.o.aB (da.ah hb),by rw [hu] at hw ⊢;rw [hw];exact ⟨h.n,h.s,fun b e=>afM HB.o.size (h.nl b e),fun b e=>afM HB.o.size (h.wl b e)⟩⟩)
 by_cases o1:op=0\/op=27
 ·have HW:=ae (show dP (fQ L pc ⟨op,xa,xb,xc,xd⟩ s.loop) pc ⟨op,xa,xb,xc,xd⟩ s=[] by unfold dP;rw [afE o1]);have HU:=ae (show fQ L pc ⟨op,xa,xb,xc,xd⟩ s.loop=L by unfold fQ;rw [abH (by dsimp only;omega)]);rcases o1 with rfl|rfl
  all_goals
   unfold mQ;go_enter func295,ntmps295;go_wp2_with fail;rw [<-hV];refine yK rfl ?_;exact CS.o _ _ _ _ HW.o HU.o (afL _ _) (g_.nil _ _)
 have e0:(op==0)=false:=by simp;omega
 have e27:(op==27)=false:=by simp;omega
 by_cases o2:op=22
 ·subst o2;obtain ⟨xm,rfl⟩:=afN (wT smm).1;have HW:=ae (show dP (fQ L pc ⟨22,xm,xb,xc,xd⟩ s.loop) pc ⟨22,xm,xb,xc,xd⟩ s=[(xm,s)] by unfold dP;simp);have HU:=ae (show fQ L pc ⟨22,xm,xb,xc,xd⟩ s.loop=L by unfold fQ;simp);unfold mQ;go_enter func295,ntmps295;go_wp2_with fail;rw [<-hV];clear hV c0 c1 c2 c3 c4 lc v5 v7 ll ks kx hb hlen nj q1 q2;generalize w.heap.size=bx at*;refine wp_mono (Q:=fun e a W=>e=Exit.normal/\RG V [(xm,s)] a W) ?_ ?_
  ·refine Mk.bF (S:=fun wx=>Below V.heap.size V wx) krr (au _ V 1) (fun al=>?_);refine Mk.bL 0 ?_;refine Mk.Re 1 Nw ?_;exact ad9
  ·exact ac9
 have e22:(op==22)=false:=by simp;omega
 by_cases o3:op=23
 ·subst o3;obtain ⟨xm,rfl⟩:=afN (wT smm).1;have HW:=ae (show dP (fQ L pc ⟨23,xm,xb,xc,xd⟩ s.loop) pc ⟨23,xm,xb,xc,xd⟩ s=[(pc+1,s),(xm,s)] by unfold dP;simp);have HU:=ae (show fQ L pc ⟨23,xm,xb,xc,xd⟩ s.loop=L by unfold fQ;simp);unfold mQ;go_enter func295,ntmps295;go_wp2_with fail;rw [<-hV];clear hV c0 c1 c2 c3 c4 lc v5 v7 ll ks kx hb hlen nj q1 q2;generalize w.heap.size=bx at*;refine wp_mono (Q:=fun e a W=>e=Exit.normal/\RG V [(pc+1,s),(xm,s)] a W) ?_ ?_
  ·refine Mk.bF (S:=fun wx=>Below V.heap.size V wx) krr (au _ V 1) (fun al=>?_);refine Mk.bL 0 ?_;refine Mk.bL 1 ?_;refine Mk.bL 2 ?_;refine Mk.Re 3 Nw ?_;refine Mk.tk 5 (v:=?_) rfl (fun wz bR=>?_) al ?_;rotate_left
   ·exact ac8
   refine Mk.pt ?_;refine Mk.tk 6 (v:=?_) rfl (fun wz bR=>?_) al ?_;rotate_left
   ·exact ac8
   exact ac7
  ·exact ac9
 have e23:(op==23)=false:=by simp;omega
 by_cases o4:op=25
 ·subst o4;obtain ⟨xm,rfl⟩:=afN (wT smm).1;have HU:=ae (show fQ L pc ⟨25,xm,xb,xc,xd⟩ s.loop={L with up:=aL L.up pc s.loop} by unfold fQ;simp);have HW:=ae (show dP (fQ L pc ⟨25,xm,xb,xc,xd⟩ s.loop) pc ⟨25,xm,xb,xc,xd⟩ s=[(pc+1,{s with loop:=(pc:Int)}),(xm,s)] by unfold dP;simp);obtain ⟨U,QC,hu,u1,u2,u3⟩:=HL.o.upc nj;have UI:V.cell? (π U pc)=some (ι (L.up pc)):=(afG (hb.block _ u2)).trans u3;have GC:=ae nj;rw [hu] at Wp;have HUV:=ae hu;have lU:U < V.heap.size:=afQ u2 hb.size;have hUX:Hid (U < w.heap.size):=ae u2;have IS:=ae (fun (Z:World) (hz:Below V.heap.size V Z)=>(show qx Z K p lb iz (.slice (some (π U 0)) p.code.length QC) jA L by rw [<-hu];exact Hh.o.aB (da.ah hz)).ZR nj s.loop);have ZS:=ae (fun Z W (nv wv:Value) (l:List (Nat×kE)) (hw:dP (fQ L pc ⟨25,xm,xb,xc,xd⟩ s.loop) pc ⟨25,xm,xb,xc,xd⟩ s=l) (f:da [U] V Z) (hz:qx Z K p lb iz (.slice (some (π U 0)) p.code.length QC) jA {L with up:=aL L.up pc s.loop}) (hb:Below Z.heap.size Z W) (h:g_ W Z.heap.size nv wv l)=>show wJ w K p lb iz j_ jA L pc ⟨25,xm,xb,xc,xd⟩ s (.returned (.tuple #[nv,wv])) W from
   ⟨nv,wv,rfl,by rw [HUV.o];exact ((da.ah HB.o).trans f).trans (da.ah hb),by rw [HU.o,HUV.o];exact hz.aB (da.ah hb),by rw [hw];exact h.low (afM HB.o.size f.size)⟩)
  clear u2 u3 hu;unfold mQ;go_enter func295,ntmps295;go_wp2_with fail;rw [<-hV];clear hV c0 c1 c2 c3 c4 lc v5 v7 ll ks kx hb hlen nj q1 q2;generalize w.heap.size=bx at*;have nj:=GC.o
  go_still_tail 8,krr
  change wpList _ _ _ _ _ (V.drewN 1);have dn:=au V.heap.size V 1;have hP:=IS.o _ dn;have xr:=ae hP.1;have JA:=ae hP.2;have tM:∀o,(V.drewN 1).frozen? (π U o)=false:=fun o=>by have h9:=(Hh.o.aB (da.ah dn)).up;rw [HUV.o] at h9;exact h9.frozen o
  replace UI:(V.drewN 1).cell? (π U pc)=some (ι (L.up pc)):=UI;replace Ja:(V.drewN 1).cell? (π bx 0)=some (.string (nM s.ty)):=Ja;replace wE:(V.drewN 1).cell? (π bx 1)=some (ι s.loop):=wE;replace Jb:(V.drewN 1).cell? (π bx 2)=some (ι s.hand):=Jb;replace Jc:(V.drewN 1).cell? (π bx 3)=some (.bool s.jI):=Jc;replace Nw:(V.drewN 1).cell? (π (bx+1) 1)=some (ι xm):=Nw;have fg:=ae dn;have Jo:=ae (And.intro lS lX);clear dn hP x0' Wp lU lS lX ll';replace lS:bx < (V.drewN 1).heap.size:=Jo.o.1;replace lX:bx+1 < (V.drewN 1).heap.size:=Jo.o.2;have uG:bx≠U:=by have:=hUX.o;omega
  have ot:bx+1≠U:=by have:=hUX.o;omega
  generalize V.drewN 1=V0 at*;go_wp2_with fail;obtain ⟨V2,DI⟩:∃V2,V2=(V0.setCell (π U pc) (ι s.loop)).alloc (.cells #[.string (nM s.ty),ι pc,ι s.hand,.bool s.jI] 262):=⟨_,rfl⟩;rw [<-DI];have k9:ay V2 V0.heap.size 262 #[.string (nM s.ty),ι pc,ι s.hand,.bool s.jI]:=by rw [DI];exact ay.a_ smm
  have f9:da [U] V0 V2:=by rw [DI];exact JA.o.alloc _
  have Xz:=ae ((da.ah (S:=[U]) fg.o).trans f9);have HL9:=ae (show qx V2 K p lb iz (.slice (some (π U 0)) p.code.length QC) jA {L with up:=aL L.up pc s.loop} by rw [DI];exact xr.o.aB ((da.refl [] _).alloc _));have rZ:∀b o v,b≠U->V0.cell? (π b o)=some v->V2.cell? (π b o)=some v:=fun b o v hn hc=>(afG (f9.block _ (aS hc) (by simpa using hn))).trans hc;replace Ja:=rZ _ _ _ uG Ja;replace wE:=rZ _ _ _ uG wE;replace Jb:=rZ _ _ _ uG Jb;replace Jc:=rZ _ _ _ uG Jc;replace Nw:=rZ _ _ _ ot Nw;obtain ⟨t0',t1',t2',t3'⟩:=k9.c4;clear DI k9 f9 rZ xr JA tM UI lS lX;generalize V0.heap.size=b9 at*;refine wp_mono (Q:=fun e a W=>e=Exit.normal/\RG V2 [(pc+1,{s with loop:=(pc:Int)}),(xm,s)] a W) ?_ ?_
  ·refine Mk.bF (S:=fun wx=>Below V2.heap.size V2 wx) krr (au _ V2 1) (fun al=>?_);refine Mk.bL 0 ?_;refine Mk.bL 1 ?_;refine Mk.bL 2 ?_;refine Mk.Re 3 Nw ?_;refine Mk.tk 5 (v:=?_) rfl (fun wz bR=>?_) al ?_;rotate_left
   ·exact aea
   refine Mk.pt ?_;refine Mk.tk 6 (v:=?_) rfl (fun wz bR=>?_) al ?_;rotate_left
   ·exact aeb
   exact ac7
  ·rintro e a W ⟨rfl,J,nv,wv,rfl,j6,j7,Dp,QB⟩;unfold FG;rw [j6,j7];clear j6 j7;go_wp2_with fail;refine yK rfl ?_;exact ZS.o _ _ _ _ _ HW.o Xz.o HL9.o Dp.o QB.o
 have e25:(op==25)=false:=by simp;omega
 by_cases o5:op=26
 ·subst o5;obtain ⟨xm,rfl⟩:=afN (wT smm).1;obtain ⟨lm,TU⟩:=afN (C_ rfl).1;have a8:lm < p.code.length:=by have:=(C_ rfl).2;omega
  have HU:=ae (show fQ L pc ⟨26,xm,xb,xc,xd⟩ s.loop=L by unfold fQ;simp);have HW:=ae (show dP (fQ L pc ⟨26,xm,xb,xc,xd⟩ s.loop) pc ⟨26,xm,xb,xc,xd⟩ s=[(pc+1,s),(xm,{s with loop:=L.up lm})] by rw [HU.o];unfold dP;simp [TU]);obtain ⟨U,QC,hu,u1,u2,u3⟩:=HL.o.upc a8;have UI:V.cell? (π U lm)=some (ι (L.up lm)):=(afG (hb.block _ u2)).trans u3;rw [hu] at Wp;rw [TU] at wE;have HLM:=ae TU;have Lj:=ae (show V.heap.size=w.heap.size+1+1 by rw [hV];simp);clear u2 u3 hu C_ wT TU;unfold mQ;go_enter func295,ntmps295;go_wp2_with fail;rw [<-hV];clear hV c0 c1 c2 c3 c4 lc v5 v7 ll ks kx hb hlen nj q1 q2;generalize w.heap.size=bx at*;obtain ⟨V1,hV1⟩:∃V1,V1=V.alloc (.cells #[.string (nM s.ty),ι s.loop,ι s.hand,.bool s.jI] 262):=⟨_,rfl⟩;rw [<-hV1];have k9:ay V1 (bx+1+1) 262 #[.string (nM s.ty),ι s.loop,ι s.hand,.bool s.jI]:=by rw [hV1,<-Lj.o];exact ay.new _ _ _
  have eN:Below V.heap.size V V1:=by rw [hV1];exact (afL _ _).alloc (afF _) _
  have rZ:∀b o v,V.cell? (π b o)=some v->(V1.drewN 1).cell? (π b o)=some v:=fun b o v hc=>(afG (eN.block _ (aS hc))).trans hc;have QD:∀b o v,V.cell? (π b o)=some v->V1.cell? (π b o)=some v:=rZ;have UG:=ae k9;have dC:=ae eN;have S8:=ae (And.intro (rZ _ _ _ Ja) (And.intro (rZ _ _ _ wE) (And.intro (rZ _ _ _ Jb) (And.intro (rZ _ _ _ Jc) (rZ _ _ _ Nw)))));replace Wp:=QD _ _ _ Wp;replace UI:=QD _ _ _ UI;replace wE:=QD _ _ _ wE;replace ll':lb < V1.heap.size:=afQ ll' eN.size;have lS2:bx < V1.heap.size:=afQ lS eN.size;have ZT:=ae (And.intro lS lX);have l9:=k9.lt;clear hV1 rZ QD Ja Jb Jc x0' Nw lS lX eN k9
  go_still_tail 9,krr
  change wpList _ _ _ _ _ (V1.drewN 1);have k8:ay (V1.drewN 1) (bx+1+1) 262 #[.string (nM s.ty),ι s.loop,ι s.hand,.bool s.jI]:=UG.o.drewN 1;obtain ⟨t0',t1',t2',t3'⟩:=k8.c4;have tM:=k8.frozen;have fg:=ae (dC.o.trans ((au _ V1 1).mono dC.o.size));have ο:=ae k8;replace l9:=k8.lt;clear k8 Wp UI ll' lS2 wE;generalize V1.drewN 1=V0 at*;go_wp2_with fail;obtain ⟨V2,DI⟩:∃V2,V2=V0.setCell (π (bx+1+1) 1) (ι (L.up lm)):=⟨_,rfl⟩;rw [<-DI];have k7:ay V2 (bx+1+1) 262 #[.string (nM s.ty),ι (L.up lm),ι s.hand,.bool s.jI]:=by rw [DI];exact ο.o.set 1 _
  have ki:=ae (show Below V.heap.size V V2 by rw [DI];exact fg.o.setCell (p:=(π (bx+1+1) 1)) (by show V.heap.size<=bx+1+1;rw [Lj.o];exact afF _) _);have f9:da [bx+1+1] V0 V2:=by rw [DI];exact (da.refl _ _).setCell (p:=(π (bx+1+1) 1)) smm _
  have Jd:∀b o v,b < V.heap.size->V0.cell? (π b o)=some v->V2.cell? (π b o)=some v:=fun b o v hn hc=>(afG (f9.block _ (aS hc) (by have:=Lj.o;simp;omega))).trans hc;have Ja:=Jd _ _ _ ZT.o.1 S8.o.1;have wE:=Jd _ _ _ ZT.o.1 S8.o.2.1;have Jb:=Jd _ _ _ ZT.o.1 S8.o.2.2.1;have Jc:=Jd _ _ _ ZT.o.1 S8.o.2.2.2.1;have Nw:=Jd _ _ _ ZT.o.2 S8.o.2.2.2.2;rw [<-HLM.o] at wE;replace t0':V2.cell? (π (bx+1+1) 0)=some (.string (nM s.ty)):=k7.cell 0;replace t1':V2.cell? (π (bx+1+1) 1)=some (ι (L.up lm)):=k7.cell 1;replace t2':V2.cell? (π (bx+1+1) 2)=some (ι s.hand):=k7.cell 2;replace t3':V2.cell? (π (bx+1+1) 3)=some (.bool s.jI):=k7.cell 3;clear DI k7 f9 Jd tM l9 ο UG S8;refine wp_mono (Q:=fun e a W=>e=Exit.normal/\RG V2 [(pc+1,s),(xm,{s with loop:=L.up lm})] a W) ?_ ?_
  ·refine Mk.bF (S:=fun wx=>Below V2.heap.size V2 wx) krr (au _ V2 1) (fun al=>?_);refine Mk.bL 0 ?_;refine Mk.bL 1 ?_;refine Mk.bL 2 ?_;refine Mk.Re 3 Nw ?_;refine Mk.tk 5 (v:=?_) rfl (fun wz bR=>?_) al ?_;rotate_left
   ·exact aeb
   refine Mk.pt ?_;refine Mk.tk 6 (v:=?_) rfl (fun wz bR=>?_) al ?_;rotate_left
   ·exact aea
   exact ac7
  ·rintro e a W ⟨rfl,J,nv,wv,rfl,j6,j7,Dp,QB⟩;unfold FG;rw [j6,j7];clear j6 j7;go_wp2_with fail;refine yK rfl ?_;exact CS.o _ _ _ _ HW.o HU.o (ki.o.trans (Dp.o.mono ki.o.size)) (QB.o.low ki.o.size)
 have e26:(op==26)=false:=by simp;omega
 have HW:=ae (show dP (fQ L pc ⟨op,xa,xb,xc,xd⟩ s.loop) pc ⟨op,xa,xb,xc,xd⟩ s=[(pc+1,s)] by unfold dP;dsimp only;rw [abH o1,abH o2,abH o3,abH o4,abH o5]);have HU:=ae (show fQ L pc ⟨op,xa,xb,xc,xd⟩ s.loop=L by unfold fQ;dsimp only;rw [abH o4]);clear o1 o2 o3 o4 o5 wT C_;unfold mQ;go_enter func295,ntmps295;go_wp2_with fail;rw [<-hV];clear hV c0 c1 c2 c3 c4 lc v5 v7 ll ks kx hb hlen nj q1 q2;generalize w.heap.size=bx at*;refine wp_mono (Q:=fun e a W=>e=Exit.normal/\RG V [(pc+1,s)] a W) ?_ ?_
 ·refine Mk.bF (S:=fun wx=>Below V.heap.size V wx) krr (au _ V 1) (fun al=>?_);refine Mk.bL 0 ?_;refine Mk.bL 1 ?_;exact ad9
 ·exact ac9
end
end Go.Proofs.YtblkblclmbhjiaaGreat.Rv
namespace Go.Proofs.YtblkblclmbhjiaaGreat.Rv
open Go.RowKit ak.Vm
open ak hiding aL an aj
open Ma (dx bQ aU vb aA aQ)
open Vf (Kp fP pV qu bw aV gN lP dm rP nJ kP)
def FC (J:Nat->Value):Act:={tmps:=#[J 0,J 1,J 2,J 3,J 4,J 5,J 6,J 7,J 8,J 9,J 10,J 11,J 12,J 13,J 14,J 15,J 16,J 17,J 18,J 19,J 20,J 21,J 22,J 23,J 24,J 25,J 26,J 27,J 28,J 29,J 30,J 31,J 32,J 33,J 34,J 35,J 36,J 37,J 38,J 39,J 40,J 41,J 42,J 43,J 44,J 45,J 46,J 47,J 48,J 49,J 50,J 51,J 52,J 53,J 54,J 55,J 56,J 57,J 58,J 59,J 60,J 61,J 62,J 63,J 64,J 65,J 66,J 67,J 68,J 69,J 70,J 71,J 72,J 73,J 74,J 75,J 76,J 77,J 78,J 79,J 80,J 81,J 82,J 83,J 84,J 85,J 86,J 87,J 88,J 89,J 90,J 91,J 92,J 93,J 94,J 95,J 96,J 97,J 98,J 99,J 100,J 101,J 102,J 103,J 104,J 105,J 106,J 107,J 108,J 109,J 110,J 111,J 112,J 113,J 114,J 115,J 116,J 117,J 118,J 119,J 120,J 121,J 122,J 123,J 124,J 125,J 126,J 127,J 128,J 129,J 130,J 131],defers:=[]}
theorem FC.of (A:Array Value) (h:A=(FC fun k=>A.getD k undef).tmps):({tmps:=A,defers:=[]}:Act)=FC fun k=>A.getD k undef:=by rw [h];rfl
noncomputable def ckL (k:Nat):Code:=Mk.mK Tryz.f231.body k
noncomputable def ckI:Code:=Mk.mK (some (match ckL 1 with| .loop c=>c|c=>c)) 0
theorem mu {P:Program} {fn:Func} {R:Ending->World->Prop} {A:Array Value} {w:World} {t:Tmp} (h:fn.results=#[.tmp t]) (hR:R (.returned (A.getD t undef)) w):Exit.noGoto (bodyPost P fn R) .ret {tmps:=A,defers:=[]} w:=by rw [Exit.noGoto_ret];exact Vf.eP h hR
theorem wK {α:Type} (d:α) {f:α->Bool} {l:List α}:l.all f=true↔∀i,i < l.length->f (l.getD i d)=true:=by
 rw [agb];constructor
 ·intro h i hi;rw [afS,afP hi];exact h _ (af6 hi)
 ·intro h x hx;obtain ⟨i,hi,rfl⟩:=agd hx;have:=h i hi;rwa [afS,afP hi] at this
section
variable {w:World} {K:Kp} {p:aO} {Q:Exit->Act->World->Prop} {oa ca:Option Addr} {oc cc no:Nat}
def C1 (w:World) (K:Kp) (p:aO) (m:Nat) (a:Act) (W:World):Prop:=∃(J:Nat->Value) (i:Nat),a=FC J/\J 1=ρ w.heap.size/\J 3=ι i/\i<=p.on.length/\m+i=p.on.length+1/\Hid (Below w.heap.size w W)/\Hid (ay W w.heap.size 27 (gN K p))/\Hid (∀j,j < i->aF (p.on.getD j 0) (-1) ((p.code.length:Int) - 1)=true)
theorem acG {p:Prop} (h:p:=by
 have HG:=ae (show aF z (-1) ((p.code.length:Int) - 1)=false by unfold aF;simp;omega);go_wp2_with fail;go_quiet (fail);go_wp2_with fail;exact gO _ _ rfl (HB.o.trans (au _ _ _)) ⟨i,dh.o,by rw [HZ.o];exact HG.o⟩):p:=h
theorem ck1 (H:Hid (fP w K p)) (hko:K.o= .slice oa no oc) (hkc:K.c= .slice ca p.code.length cc) (P4:no=p.on.length) (hn:p.on.length<=16) (hc:p.code.length<=262144)
 (gO:∀(A:Array Value) W,A.getD 2 undef=ι 85->Below w.heap.size w W->(∃j,j < p.on.length/\aF (p.on.getD j 0) (-1) ((p.code.length:Int) - 1)=false)->Q .ret {tmps:=A,defers:=[]} W)
 (eZ:∀(J:Nat->Value) W,J 1=ρ w.heap.size->Below w.heap.size w W->ay W w.heap.size 27 (gN K p)->(∀j,j < p.on.length->aF (p.on.getD j 0) (-1) ((p.code.length:Int) - 1)=true)->Q (.exit 0) (FC J) W)
 {a:Act} {W:World} (h:C1 w K p (p.on.length+1) a W):(Code.loop (ckL 0)).wp prog Q a W:=by
 subst P4;refine Mk.aP (fun m a W=>C1 w K p m a W) (p.on.length+1) h ?_ ?_
 ·rintro a W ⟨J,i,-,-,-,h1,h2,-⟩;omega
 rintro m a0 W ⟨J,i,rfl,j1,j3,hi,hm,HB,HK,HA⟩;unfold FC
 conv=>arg 2;whnf
 have w2:=ag5 i omm;rw [j1,j3];clear j1 j3;obtain ⟨-,-,-,f3,-,f5⟩:=HK.o.c6;have lw:=HK.o.lt;rw [hkc] at f5;by_cases a8:i < p.on.length
 ·obtain ⟨b,off,cap,ho,q1,q2,lb,c⟩:=(H.o.o.aB (da.ah HB.o)).some omm omm;rw [ho] at f3;have c0:W.cell? (π b (off+i))=some (ι (p.on.getD i 0)):=c i omm;have dh:=ae a8;clear c ho;obtain ⟨z,hz⟩:∃z,p.on.getD i 0=z:=⟨_,rfl⟩;rw [hz] at c0;have HZ:=ae hz;clear hz;by_cases h1: -1<=z
  ·by_cases h2:z < p.code.length
   ·have HG:=ae (show aF z (-1) ((p.code.length:Int) - 1)=true by unfold aF;simp;omega);go_wp2_with fail;go_quiet (fail);go_wp2_with fail;refine ⟨_,i+1,FC.of _ rfl,rfl,rfl,dh.o,omm,ae (HB.o.trans (au _ _ _)),ae (HK.o.drewN _),ae fun j hj=>?_⟩;by_cases e:j=i
    ·subst e;rw [HZ.o];exact HG.o
    ·exact HA.o j omm
   ·exact acG
  ·exact acG
 ·obtain rfl:i=p.on.length:=omm;clear a8;rw [hko] at f3;go_wp2_with fail;exact Eq.mpr (afK (fun a=>Q (.exit 0) a W) (FC.of _ rfl)) (eZ _ _ rfl HB.o HK.o HA.o)
def C3 (w:World) (K:Kp) (p:aO) (i:Nat) (x:Ins) (tb ib nb:Nat) (m:Nat) (a:Act) (W:World):Prop:=∃(J:Nat->Value) (k:Nat),a=FC J/\J 1=ρ w.heap.size/\J 4= .slice (some (π tb 0)) 42 42/\J 5=ι i/\J 6=ρ ib/\J 7=ρ nb/\J 8=ι k/\k<=4/\m+k=5/\
 Hid (Below w.heap.size w W)/\Hid (ay W w.heap.size 27 (gN K p))/\Hid (aV W 5 (.slice (some (π tb 0)) 42 42) 42 CW)/\Hid (ay W ib 40 #[ι x.op,ι x.a,ι x.b,ι x.c,ι x.d])/\Hid (ay W nb 116 #[ι x.a,ι x.b,ι x.c,ι x.d])/\Hid (∀k',k' < k->aY p (dm x k') (lP x k')=true)
theorem QI:∀n,n < 42->∀k,k < 4->(bY n).getD k 0<=8:=by decide
theorem ck3 (H:Hid (fP w K p)) {x:Ins} {i tb ib nb:Nat} (cW:0<=x.op/\x.op < 42)
 (gO:∀(A:Array Value) W,A.getD 2 undef=ι 92->Below w.heap.size w W->gI p x=false->Q .ret {tmps:=A,defers:=[]} W)
 (eZ:∀(J:Nat->Value) W,J 1=ρ w.heap.size->J 4= .slice (some (π tb 0)) 42 42->J 5=ι i->Below w.heap.size w W->ay W w.heap.size 27 (gN K p)->aV W 5 (.slice (some (π tb 0)) 42 42) 42 CW->gI p x=true->Q (.exit 4) (FC J) W)
 {a:Act} {W:World} (h:C3 w K p i x tb ib nb 5 a W):(Code.loop ckI).wp prog Q a W:=by
 obtain ⟨n,hn⟩:=afN cW.1;have Ch:n < 42:=omm;have HN:=ae (show x.op.toNat=n by omega);refine Mk.aP (fun m a W=>C3 w K p i x tb ib nb m a W) 5 h ?_ ?_
 ·rintro a W ⟨J,k,-,-,-,-,-,-,-,h1,h2,-⟩;omega
 rintro m a0 W ⟨J,k,rfl,j1,j4,j5,j6,j7,j8,hk,hm,HB,HK,HT,HX,HO,HA⟩;unfold FC
 conv=>arg 2;whnf
 have w2:IntKind.i64.wrap ((k:Int)+1)=((k+1:Nat):Int):=by rw [afU _ coo];omega
 rw [j1,j4,j5,j6,j7,j8];clear j1 j4 j5 j6 j7 j8;by_cases a8:k < 4
 ·obtain ⟨⟨ga,gc,g1,g2,g3⟩,⟨va,vc,v1,v2,v3⟩,⟨ta,tc,t1,t2,t3⟩,⟨oa,oc,o1,o2,o3⟩,⟨ca,cc,c1,c2,c3⟩⟩:=H.o.sl;obtain ⟨f0,f1,f2,f3,f4,f5⟩:=HK.o.c6;have lw:=HK.o.lt;have d0:W.cell? (π ib 0)=some (ι n):=by have h:=HX.o.cell 0;rw [hn] at h;exact h
  have lx:=HX.o.lt;have n0:W.cell? (π nb k)=some (ι (lP x k)):=by rw [HO.o.cell];have e:k=0\/k=1\/k=2\/k=3:=omm;rcases e with rfl|rfl|rfl|rfl<;>rfl
  have ln:=HO.o.lt;obtain ⟨b',TQ,mI,et,-,-,lt,ec⟩:=HT.o.some omm omm;simp only [afH,af5,Addr.mk.injEq] at et;obtain ⟨⟨rfl,rfl,-⟩,-,-⟩:=et;have L5:dm x k=(bY n).getD k 0:=by unfold dm;rw [HN.o]
  have e0:W.cell? (π tb (n*5+1+k))=some (ι (dm x k:Nat)):=by have h:=ec (n*5+1+k) omm;rw [Nat.zero_add] at h;rw [h,L5];unfold CW;rw [abH omm,show (n*5+1+k) / 5=n by omega,show (n*5+1+k) % 5 - 1=k by omega]
  have abz:(n:Int) < 42:=omm;have AI:(k:Int) < 4:=omm;have hk8:dm x k<=8:=by rw [L5];exact QI n Ch k a8
  have HF:=ae (fun V (hb:Below w.heap.size w V)=>E0 (w:=V) (H.o.aB (da.ah hb)) (dm x k) (lP x k) hk8);have Ay:=ae (fun e=>nJ (p:=p) (x:=x) (j:=k) a8 e);unfold pV at HF;rw [g1,v1,t1,o1,c1] at HF;rw [g1] at f0;rw [v1] at f1;rw [t1] at f2;rw [o1] at f3;rw [c1] at f5;obtain ⟨dd,wm⟩:∃d,aY p (dm x k) (lP x k)=d:=⟨_,rfl⟩;rw [wm] at HF Ay;have TR:=ae (show ∀k',k'=k->aY p (dm x k') (lP x k')=dd from fun k' e=>by rw [e];exact wm);have dh:=ae a8;clear wm L5 ec hk8 g1 g2 g3 v1 v2 v3 t1 t2 t3 o1 o2 o3 c1 c2 c3;generalize dm x k=kd at*;generalize lP x k=od at*;go_wp2_with fail;refine Mk.bF (S:=fun wx=>Below W.heap.size W wx) krr (au _ W 1) (fun al=>?_);refine Mk.tk 0 (v:=?_) rfl (fun wz bR=>?_) al ?_;rotate_left
  ·have key:∀b i v,b < W.heap.size->W.cell? (π b i)=some v->wz.cell? (π b i)=some v:=fun b i v hb hc=>(afG (bR.block _ hb)).trans hc;have y0:=key _ _ _ lw f0;have y1:=key _ _ _ lw f1;have y2:=key _ _ _ lw f2;have y3:=key _ _ _ lw f3;have y4:=key _ _ _ lw f4;have y5:=key _ _ _ lw f5;exact qU
  refine Mk.pt ?_;refine Mk.bL 1 ?_;refine Mk.bL 2 ?_;refine Mk.tk 3 (v:=?_) rfl (fun wz bR=>?_) al ?_;rotate_left
  ·have key:∀b i v,b < W.heap.size->W.cell? (π b i)=some v->wz.cell? (π b i)=some v:=fun b i v hb hc=>(afG (bR.block _ hb)).trans hc;have y0:=key _ _ _ lx d0;exact qU
  refine Mk.pt ?_;refine Mk.bL 4 ?_;refine Mk.bL 5 ?_;refine Mk.bL 6 ?_;refine Mk.bL 7 ?_;refine Mk.tk 8 (v:=?_) rfl (fun wz bR=>?_) al ?_;rotate_left
  ·have key:∀b i v,b < W.heap.size->W.cell? (π b i)=some v->wz.cell? (π b i)=some v:=fun b i v hb hc=>(afG (bR.block _ hb)).trans hc;have y0:=key _ _ _ lt e0;exact qU
  refine Mk.pt ?_;refine Mk.bL 9 ?_;refine Mk.bL 10 ?_;refine Mk.tk 11 (v:=?_) rfl (fun wz bR=>?_) al ?_;rotate_left
  ·have key:∀b i v,b < W.heap.size->W.cell? (π b i)=some v->wz.cell? (π b i)=some v:=fun b i v hb hc=>(afG (bR.block _ hb)).trans hc;have y0:=key _ _ _ ln n0;exact qU
  refine Mk.pt ?_;refine Mk.nW (rs:=[12]) (afJ rfl (fun K9 hK=>?_) af1);refine QX ?_;go_simp
  with_reducible refine (HF.o _ (HB.o.trans (al.mono HB.o.size))).mono ?_
  rintro e W1 ⟨rfl,eN⟩;have dn:=al.trans (eN.mono al.size);clear al;refine hK.out _ _ dn (fun al=>?_);clear hK K9;refine Mk.pt ?_;refine Mk.bL 13 ?_;refine afZ krr ⟨rfl,?_⟩ _;clear al f0 f1 f2 f3 f4 f5 d0 n0 e0 lw lx ln lt HF;have dC:=ae (HB.o.trans (dn.mono HB.o.size));have pZ:=ae (HK.o.of (dn.block _ HK.o.lt));have Kk:=ae (HX.o.of (dn.block _ HX.o.lt));have B7:=ae (HO.o.of (dn.block _ HO.o.lt));have Jp:=ae (HT.o.aB (da.ah dn));clear eN dn;cases dd with
  |false=>have HG:=ae (Ay.o rfl);clear Ay;go_wp2_with fail;exact gO _ _ rfl dC.o HG.o
  |true=>
   clear Ay;go_wp2_with fail;refine ⟨_,k+1,FC.of _ rfl,rfl,rfl,rfl,rfl,rfl,rfl,dh.o,omm,dC,pZ,Jp,Kk,B7,ae fun k' uK=>?_⟩;by_cases e:k'=k
   ·exact TR.o k' e
   ·exact HA.o k' omm
 ·obtain rfl:k=4:=omm;clear a8;have HG:=ae (rP (p:=p) (x:=x) HA.o);go_wp2_with fail;exact Eq.mpr (afK (fun a=>Q (.exit 4) a W) (FC.of _ rfl)) (eZ _ _ rfl rfl rfl HB.o HK.o HT.o HG.o)
def C2 (w:World) (K:Kp) (p:aO) (tb:Nat) (m:Nat) (a:Act) (W:World):Prop:=∃(J:Nat->Value) (i:Nat),a=FC J/\J 1=ρ w.heap.size/\J 4= .slice (some (π tb 0)) 42 42/\J 5=ι i/\i<=p.code.length/\m+i=p.code.length+1/\Hid (Below w.heap.size w W)/\Hid (ay W w.heap.size 27 (gN K p))/\Hid (aV W 5 (.slice (some (π tb 0)) 42 42) 42 CW)/\Hid (dp p p.code=dp p (p.code.drop i))
theorem ck2 (H:Hid (fP w K p)) {tb:Nat} (hc:p.code.length<=262144)
 (gO:∀(A:Array Value) W (e:Int),A.getD 2 undef=ι e->Below w.heap.size w W->dp p p.code=e->Q .ret {tmps:=A,defers:=[]} W)
 (eZ:∀(J:Nat->Value) W,Below w.heap.size w W->dp p p.code=0->Q (.exit 2) (FC J) W)
 {a:Act} {W:World} (h:C2 w K p tb (p.code.length+1) a W):(Code.loop (ckL 1)).wp prog Q a W:=by
 refine Mk.aP (fun m a W=>C2 w K p tb m a W) (p.code.length+1) h ?_ ?_
 ·rintro a W ⟨J,i,-,-,-,-,h1,h2,-⟩;omega
 rintro m a0 W ⟨J,i,rfl,j1,j4,j5,hi,hm,HB,HK,HT,HE⟩;unfold FC
 conv=>arg 2;whnf
 have w2:=ag5 i omm;rw [j1,j4,j5];clear j1 j4 j5;have f5:W.cell? (π w.heap.size 5)=some K.c:=HK.o.cell 5;have lw:=HK.o.lt;by_cases a8:i < p.code.length
 ·obtain ⟨b,off,cap,ho,q1,q2,c0,c1,c2,c3,c4⟩:=(H.o.aB (da.ah HB.o)).ins a8;rw [ho] at f5;have kV:=ae (kP a8);have dh:=ae a8;have Gn:=ae (fun V=>QE V (ai p i));unfold aQ aA at Gn;have HOO:=ae (show ∀x,ai p i=x->x=ai p i from fun x h=>h.symm);generalize hx:ai p i=x at*;have HX:=ae hx;clear hx ho q1 q2 HOO;have HAL:=ae ((HB.o.alloc HB.o.size (.cells #[ι x.op,ι x.a,ι x.b,ι x.c,ι x.d] 40)));by_cases o0:0<=x.op
  ·have e0:decide (x.op < 0)=false:=by simpa using o0
   by_cases o1:x.op < 42
   ·have xz:=ae (And.intro o0 o1);have pM:=ae (show dp p (p.code.drop i)=if gI p x then dp p (p.code.drop (i+1)) else 92 by rw [kV.o,show iP x=true by unfold iP aF;simp;omega];rfl);have e1:decide (42<=x.op)=false:=by simp;omega
    clear kV;go_wp2_with fail;refine (Gn.o _).mono ?_;rintro e W1 ⟨rfl,hb⟩;have eN:Below W.heap.size W W1:=((afL _ W).alloc (afF _) _).trans (hb.mono smm);have dC:=ae (HB.o.trans (eN.mono HB.o.size));have pZ:=ae (HK.o.of (eN.block _ HK.o.lt));have Jp:=ae (HT.o.aB (da.ah eN));have KX:=ae (show ay W1 W.heap.size 40 #[ι x.op,ι x.a,ι x.b,ι x.c,ι x.d] from (ay.new W _ _).of (hb.block _ smm));clear hb eN c0 c1 c2 c3 c4 f5 lw HAL e0 e1 o0 o1;go_wp2_with fail;have ze:=ae dC.o.size;refine ck3 (tb:=tb) (ib:=W.heap.size) (nb:=W1.heap.size) H xz.o (fun A W3 UD wo hex=>?_) (fun J3 W3 j1 j4 j5 wo ZV hT3 lO=>?_) ⟨_,0,FC.of _ rfl,rfl,rfl,rfl,rfl,rfl,rfl,afO _,rfl,ae (dC.o.alloc dC.o.size _),ae (pZ.o.alloc _),ae (Jp.o.aB ((da.refl [] _).alloc _)),ae (KX.o.alloc _),ae (ay.new _ _ _),ae (fun k hk=>absurd hk omm)⟩
    ·exact gO A W3 92 UD wo (by rw [HE.o,pM.o,hex];rfl)
    ·unfold FC;rw [j1,j4,j5];clear j1 j4 j5;have ki:=ae wo;have Dh:=ae ZV;have HT3:=ae hT3;have HG:=ae (show dp p p.code=dp p (p.code.drop (i+1)) by rw [HE.o,pM.o,lO];rfl);clear wo ZV hT3 lO;go_wp2_with fail;exact ⟨_,i+1,FC.of _ rfl,rfl,rfl,rfl,dh.o,omm,ki,Dh,HT3,HG⟩
   ·have pM:=ae (show dp p (p.code.drop i)=91 by rw [kV.o,show iP x=false by unfold iP aF;simp;omega];rfl);have e1:decide (42<=x.op)=true:=by simp;omega
    clear kV;go_wp2_with fail;exact gO _ _ 91 rfl HAL.o (by rw [HE.o,pM.o])
  ·have pM:=ae (show dp p (p.code.drop i)=91 by rw [kV.o,show iP x=false by unfold iP aF;simp;omega];rfl);have e0:decide (x.op < 0)=true:=by simp;omega
   clear kV;go_wp2_with fail;exact gO _ _ 91 rfl HAL.o (by rw [HE.o,pM.o])
 ·obtain rfl:i=p.code.length:=omm;clear a8;obtain ⟨ca,cc,ec,-,-⟩:=aV.val H.o.cd;rw [ec] at f5;have HG:=ae (show dp p p.code=0 by have h:=HE.o;rw [List.drop_length] at h;rw [h];rfl);go_wp2_with fail;exact Eq.mpr (afK (fun a=>Q (.exit 2) a W) (FC.of _ rfl)) (eZ _ _ HB.o HG.o)
theorem zY (h:fP w K p):Calls prog 231 #[pV K p] w (fun e w'=>e= .returned (ι (bo p))/\Below w.heap.size w w'):=by
 obtain ⟨⟨ga,gc,g1,g2,g3⟩,⟨va,vc,v1,v2,v3⟩,⟨ta,tc,t1,t2,t3⟩,⟨oa,oc,o1,o2,o3⟩,⟨ca,cc,c1,c2,c3⟩⟩:=h.sl;obtain ⟨kg,kv,kt,ko,kc⟩:=K;dsimp only at g1 v1 t1 o1 c1;subst g1 v1 t1 o1 c1;have H:=ae h;have PC:ay (w.alloc (.cells (gN ⟨.slice ga p.ap.length gc,.slice va p.vars.length vc,.slice ta p.aW.length tc,.slice oa p.on.length oc,.slice ca p.code.length cc⟩ p) 27)) w.heap.size 27 (gN ⟨.slice ga p.ap.length gc,.slice va p.vars.length vc,.slice ta p.aW.length tc,.slice oa p.on.length oc,.slice ca p.code.length cc⟩ p):=ay.new w _ _;have dQ:Below w.heap.size w (w.alloc (.cells (gN ⟨.slice ga p.ap.length gc,.slice va p.vars.length vc,.slice ta p.aW.length tc,.slice oa p.on.length oc,.slice ca p.code.length cc⟩ p) 27)):=(afL _ _).alloc (afF _) _;have CV:Hid (p.vars.length<=16->Calls prog 286 #[.slice va p.vars.length vc] (w.alloc (.cells (gN ⟨.slice ga p.ap.length gc,.slice va p.vars.length vc,.slice ta p.aW.length tc,.slice oa p.on.length oc,.slice ca p.code.length cc⟩ p) 27)) (fun e w'=>e= .returned (.bool (p.vars.all me))/\Below w.heap.size w w'/\ay w' w.heap.size 27 (gN ⟨.slice ga p.ap.length gc,.slice va p.vars.length vc,.slice ta p.aW.length tc,.slice oa p.on.length oc,.slice ca p.code.length cc⟩ p))):=
  ae fun h2=>(UJ (h.aB (da.ah dQ)) h2).mono fun e w' hh=>by obtain ⟨h1,k,rfl⟩:=hh;exact ⟨h1,dQ.trans (au _ _ k),PC.drewN k⟩
 have gp:=ae dQ;unfold pV;unfold gN at CV;dsimp only at CV ⊢;clear h PC dQ g2 g3 v2 v3 t2 t3 o2 o3;have m5:=ae c2;have m6:=ae c3;by_cases h1:p.ap.length<=16
 case neg=>go_enter func231,ntmps231;go_wp2_with fail;go_ret;exact ⟨by simp [bo,bS,h1],gp.o⟩
 by_cases h2:p.vars.length<=16
 case neg=>go_enter func231,ntmps231;go_wp2_with fail;go_ret;exact ⟨by simp [bo,bS,h2],gp.o⟩
 by_cases h3:p.aW.length<=4
 case neg=>go_enter func231,ntmps231;go_wp2_with fail;go_ret;exact ⟨by simp [bo,bS,h3],gp.o⟩
 have CT:Hid (∀W,Below w.heap.size w W->Calls prog 287 #[.slice ta p.aW.length tc] W (fun e w'=>e= .returned (.bool (p.aW.all fun t=>aF t 1 255))/\w'=W)):=ae fun W hb=>by have h9:=UY (H.o.aB (da.ah hb)) h3;exact h9
 by_cases h4:p.vars.all me=true
 case neg=>
  have hF:(p.vars.all me)=false:=by simpa using h4
  have HF:=ae (show bo p=85 by unfold bo bS;rw [hF];simp);rw [hF] at CV;clear h4 hF;go_enter func231,ntmps231;go_wp2_with fail;refine (CV.o h2).mono ?_;rintro e W1 ⟨rfl,hb,hk⟩;obtain ⟨f0,f1,f2,f3,f4,f5⟩:=hk.c6;have lw:=hk.lt;have HB:=ae hb;have HK:=ae hk;clear hb hk CV gp;exact agp
 rw [h4] at CV;by_cases h5:(p.aW.all fun t=>aF t 1 255)=true
 case neg=>
  have hF:((p.aW.all fun t=>aF t 1 255))=false:=by simpa using h5
  have HF:=ae (show bo p=85 by unfold bo bS;rw [hF];simp);rw [hF] at CT;clear h5 hF;go_enter func231,ntmps231;go_wp2_with fail;refine (CV.o h2).mono ?_;rintro e W1 ⟨rfl,hb,hk⟩;obtain ⟨f0,f1,f2,f3,f4,f5⟩:=hk.c6;have lw:=hk.lt;have HB:=ae hb;have HK:=ae hk;clear hb hk CV gp;go_wp2_with fail;refine (CT.o _ HB.o).mono ?_;rintro e W2 ⟨rfl,rfl⟩;clear CT;exact agp
 rw [h5] at CT;by_cases h6:p.on.length=p.ap.length
 case neg=>go_enter func231,ntmps231;go_wp2_with fail;refine (CV.o h2).mono ?_;rintro e W1 ⟨rfl,hb,hk⟩;obtain ⟨f0,f1,f2,f3,f4,f5⟩:=hk.c6;have lw:=hk.lt;have HB:=ae hb;have HK:=ae hk;clear hb hk CV gp;go_wp2_with fail;refine (CT.o _ HB.o).mono ?_;rintro e W2 ⟨rfl,rfl⟩;clear CT;go_wp2_with fail;go_ret;exact ⟨by simp [bo,bS,h6],HB.o⟩
 simp only [h6] at CV H;by_cases h7:p.code.length<=262144
 case neg=>go_enter func231,ntmps231;go_wp2_with fail;refine (CV.o h2).mono ?_;rintro e W1 ⟨rfl,hb,hk⟩;obtain ⟨f0,f1,f2,f3,f4,f5⟩:=hk.c6;have lw:=hk.lt;have HB:=ae hb;have HK:=ae hk;clear hb hk CV gp;go_wp2_with fail;refine (CT.o _ HB.o).mono ?_;rintro e W2 ⟨rfl,rfl⟩;clear CT;go_wp2_with fail;go_ret;exact ⟨by simp [bo,bS,h7],HB.o⟩
 by_cases h8: -1<=p.aJ
 case neg=>go_enter func231,ntmps231;go_wp2_with fail;refine (CV.o h2).mono ?_;rintro e W1 ⟨rfl,hb,hk⟩;obtain ⟨f0,f1,f2,f3,f4,f5⟩:=hk.c6;have lw:=hk.lt;have HB:=ae hb;have HK:=ae hk;clear hb hk CV gp;go_wp2_with fail;refine (CT.o _ HB.o).mono ?_;rintro e W2 ⟨rfl,rfl⟩;clear CT;go_wp2_with fail;go_ret;exact ⟨by unfold bo bS aF;simp [show ¬(-1<=p.aJ) by omega],HB.o⟩
 by_cases h9:p.aJ < p.code.length
 case neg=>go_enter func231,ntmps231;go_wp2_with fail;refine (CV.o h2).mono ?_;rintro e W1 ⟨rfl,hb,hk⟩;obtain ⟨f0,f1,f2,f3,f4,f5⟩:=hk.c6;have lw:=hk.lt;have HB:=ae hb;have HK:=ae hk;clear hb hk CV gp;go_wp2_with fail;refine (CT.o _ HB.o).mono ?_;rintro e W2 ⟨rfl,rfl⟩;clear CT;go_wp2_with fail;go_ret;exact ⟨by unfold bo bS aF;simp [show ¬p.aJ<=(p.code.length:Int) - 1 by omega],HB.o⟩
 go_enter func231,ntmps231;go_wp2_with fail;refine (CV.o h2).mono ?_;rintro e W1 ⟨rfl,hb,hk⟩;obtain ⟨f0,f1,f2,f3,f4,f5⟩:=hk.c6;have lw:=hk.lt;have HB:=ae hb;have HK:=ae hk;clear hb hk CV gp;go_wp2_with fail;refine (CT.o _ HB.o).mono ?_;rintro e W2 ⟨rfl,rfl⟩;clear CT;go_wp2_with fail;clear f0 f1 f2 f3 f4 f5 lw;have qX:=ae (show bS p=(p.on.all fun n=>aF n (-1) ((p.code.length:Int) - 1)) by
  have e9:aF p.aJ (-1) ((p.code.length:Int) - 1)=true:=by unfold aF;simp;omega
  unfold bS;rw [h4,h5,e9];simp [h1,h2,h3,h6,h7])
 refine ck1 (no:=p.ap.length) H rfl rfl h6.symm omm h7 (fun A W3 UD wo hex=>?_) (fun J3 W3 j1 wo ZV UD=>?_) ⟨_,0,FC.of _ rfl,rfl,rfl,afO _,omm,HB,HK,ae (fun j hj=>absurd hj omm)⟩
 ·simp only [Exit.inBlock,Exit.then];have HF:=ae (show bo p=85 by
   obtain ⟨j,hj,e⟩:=hex;unfold bo;have:(p.on.all fun n=>aF n (-1) ((p.code.length:Int) - 1))=false:=by rw [agk];intro fF;rw [wK (0:Int)] at fF;rw [fF j hj] at e;cases e
   rw [qX.o,this];rfl)
  refine Vf.eP (P:=prog) (fn:=Tryz.f231) rfl ?_;exact ⟨by rw [UD,HF.o],wo⟩
 ·have HF:=ae (show bo p=dp p p.code by
   unfold bo;have:(p.on.all fun n=>aF n (-1) ((p.code.length:Int) - 1))=true:=by rw [wK (0:Int)];exact UD
   rw [qX.o,this];rfl)
  have ki:=ae wo;have Dh:=ae ZV;unfold FC;rw [j1];clear UD wo ZV j1 qX HB HK;go_wp2_with fail;refine (Aq W3).mono ?_;rintro e W4 ⟨tb,rfl,hr,hb⟩;have mU:=ae (ki.o.trans (hb.mono ki.o.size));have HK4:=ae (Dh.o.of (hb.block _ Dh.o.lt));have HR4:=ae hr;clear hb hr;go_wp2_with fail;refine ck2 (tb:=tb) H h7 (fun A W3 e UD wo he=>?_) (fun J3 W3 wo he=>?_) ⟨_,0,FC.of _ rfl,rfl,rfl,rfl,afO _,omm,mU,HK4,HR4,ae (by rw [List.drop_zero])⟩
  ·simp only [Exit.inBlock,Exit.then];refine Vf.eP (P:=prog) (fn:=Tryz.f231) rfl ?_;exact ⟨by rw [UD,HF.o,he],wo⟩
  ·have HE:=ae (show bo p=0 by rw [HF.o,he]);have Dp:=ae wo;unfold FC;clear he wo;go_wp2_with fail;refine Vf.eP (P:=prog) (fn:=Tryz.f231) rfl ?_;exact ⟨by rw [HE.o];rfl,Dp.o⟩
end
end Go.Proofs.YtblkblclmbhjiaaGreat.Rv
