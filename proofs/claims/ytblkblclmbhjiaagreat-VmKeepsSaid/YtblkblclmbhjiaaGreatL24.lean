/- Of the proof that VmKeeps holds: a key keeps its node, what traps leaves no trace. No condition. -/
import Derived.Test.YtblkblclmbhjiaaGreatL23
import Derived.Great.BuildSlice
import Derived.Laws.StructEq
set_option linter.unusedVariables false
set_option linter.unusedSimpArgs false
set_option maxHeartbeats 40000000
set_option maxRecDepth 100000
namespace Go.Proofs.YtblkblclmbhjiaaGreat.Rv
open Go.RowKit ak.Vm
open ak hiding aL an aj
open Ma (dx bQ aU vb aA aQ)
open Vf (Kp fP pV qu bw aV)
theorem QE (w:World) (x:Ins):Calls Tryz.prog 289 #[aQ x] w (fun e w'=>e= .returned (.agg #[ι x.a,ι x.b,ι x.c,ι x.d])/\Below w.heap.size w w'):=by unfold aQ aA;go_enter Tryz.func289,Tryz.ntmps289;go_wp2_with fail;exact bodyPost_ret (v:= .agg #[ι x.a,ι x.b,ι x.c,ι x.d]) (by simp [results,Tryz.results289,go_sem]) rfl ⟨rfl,((Below.refl _ _).alloc (Nat.le_refl _) _).alloc (by simp) _⟩
def FW (J:Nat->Value):Act:={tmps:=#[J 0,J 1,J 2,J 3,J 4,J 5,J 6,J 7,J 8,J 9,J 10,J 11,J 12,J 13,J 14,J 15,J 16,J 17,J 18,J 19,J 20,J 21,J 22],defers:=[]}
theorem FW.of (A:Array Value) (h:A=(FW fun k=>A.getD k undef).tmps):({tmps:=A,defers:=[]}:Act)=FW fun k=>A.getD k undef:=by rw [h];rfl
def kC (g:Nat->Int) (i j:Nat):Value:=ι (if j < i then g j else 0)
def Az (nm:ByteArray) (g:Nat->Int) (i:Nat):Array Value:=#[.string nm,kC g i 0,kC g i 1,kC g i 2,kC g i 3]
theorem Nx (nm:ByteArray) (g:Nat->Int) {i:Nat} (h:i < 4):(Az nm g i).setIfInBounds (1+i) (ι (g i))=Az nm g (i+1):=by
 have:i=0\/i=1\/i=2\/i=3:=by omega
 rcases this with rfl|rfl|rfl|rfl<;>simp [Az,kC]
def ZU (w:World) (nm:ByteArray) (v:Value) (n:Nat) (g:Nat->Int) (m:Nat) (a:Act) (W:World):Prop:=∃(J:Nat->Value) (i:Nat),a=FW J/\J 1=v/\J 4=ρ w.heap.size/\J 5=ρ (w.heap.size+1)/\J 6=ι i/\i<=n/\m+i=n+1/\Hid (Below w.heap.size w W)/\
 Hid (ay W (w.heap.size+1) 306 (Az nm g i))/\Hid (ay W w.heap.size 306 #[.string ⟨#[]⟩,ι 0,ι 0,ι 0,ι 0])
theorem CU {w:World} (nm:ByteArray) {v:Value} {n:Nat} {g:Nat->Int} (h:aV w 1 v n (fun i=> ι (g i))) (hn:n<=4):
 Calls Tryz.prog 316 #[.string nm,v] w (fun e w'=>e= .returned (.agg (Az nm g n))/\Below w.heap.size w w'):=by
 have HR:=ae h;obtain ⟨va,vc,rfl,-,-⟩:=aV.val h;have k0:ay ((w.alloc (.cells #[.string ⟨#[]⟩,ι 0,ι 0,ι 0,ι 0] 306)).alloc (.cells #[.string nm,ι 0,ι 0,ι 0,ι 0] 306)) w.heap.size 306 #[.string ⟨#[]⟩,ι 0,ι 0,ι 0,ι 0]:=(ay.new w _ _).alloc _;have k1:ay ((w.alloc (.cells #[.string ⟨#[]⟩,ι 0,ι 0,ι 0,ι 0] 306)).alloc (.cells #[.string nm,ι 0,ι 0,ι 0,ι 0] 306)) (w.heap.size+1) 306 (Az nm g 0):=ay.a_ (by simp);have K0:=ae k0;have K1:=ae k1;clear h k0 k1;go_enter Tryz.func316,Tryz.ntmps316;go_wp2_with fail;refine Mk.aP (ZU w nm (.slice va n vc) n g) (n+1) ⟨_,0,FW.of _ rfl,rfl,rfl,rfl,rfl,Nat.zero_le _,by omega,ae (((Below.refl _ _).alloc (Nat.le_refl _) _).alloc (by simp) _),K1,K0⟩ (fun a W hh=>by obtain ⟨J,i,-,-,-,-,-,h1,h2,-⟩:=hh;omega) ?_;rintro m a W ⟨J,i,rfl,j1,j4,j5,j6,hi,hm,HB,HK,HZ⟩;have w2:IntKind.i64.wrap ((i:Int)+1)=((i+1:Nat):Int):=by rw [IntWalk.i64_in _ (by constructor<;>omega)];omega
 unfold FW;rw [j1,j4,j5,j6];clear j1 j4 j5 j6 K0 K1;by_cases a8:i < n
 ·obtain ⟨b,off,cap,hv,-,-,hb,hc⟩:=aV.some (HR.o.aB (ax.ah HB.o)) (by omega) (by omega);simp only [Value.slice.injEq] at hv;obtain ⟨rfl,-,rfl⟩:=hv;have c0:W.cell? (π b (off+i))=some (ι (g i)):=hc i (by omega);have lb:=aS c0;have ho:∃u,W.cell? (π (w.heap.size+1) (1+i))=some u:=by have hz:(Az nm g i).size=5:=rfl;exact ⟨_,(HK.o.cell (1+i)).trans (Array.getElem?_eq_getElem (show 1+i < (Az nm g i).size by omega))⟩
  obtain ⟨u,hu⟩:=ho;have fz:=HK.o.frozen;have lx:=HK.o.lt;have HS:=ae (HK.o.set (1+i) (ι (g i)));have dh:=ae a8;have NV:(i:Int) < 4:=by omega
  clear hc;go_wp2_with fail;refine ⟨_,i+1,FW.of _ rfl,rfl,rfl,rfl,rfl,dh.o,by omega,ae (HB.o.setCell (p:=(π (w.heap.size+1) (1+i))) (by simp) _),ae ?_,ae (HZ.o.other (by omega) _ _)⟩;rw [<-Nx nm g (by omega)];exact HS.o
 ·obtain rfl:i=n:=by omega
  have HF:=ae (show Az nm g i=#[.string nm,ι (if 0 < i then g 0 else 0),ι (if 1 < i then g 1 else 0),ι (if 2 < i then g 2 else 0),ι (if 3 < i then g 3 else 0)] from rfl);have hk:=HK.o;rw [HF.o] at hk;generalize (if 0 < i then g 0 else 0)=g0 at*;generalize (if 1 < i then g 1 else 0)=g1 at*;generalize (if 2 < i then g 2 else 0)=g2 at*;generalize (if 3 < i then g 3 else 0)=g3 at*;obtain ⟨c0,c1,c2,c3,c4⟩:=hk.c5;obtain ⟨z0,z1,z2,z3,z4⟩:=HZ.o.c5;have fz:=HZ.o.frozen;have lz:=HZ.o.lt;clear a8 hk;go_wp2_with fail;refine bodyPost_ret (v:= .agg #[.string nm,ι g0,ι g1,ι g2,ι g3]) ?_ rfl ⟨by rw [HF.o],((((HB.o.setCell (p:=(π w.heap.size 0)) (Nat.le_refl _) _).setCell (p:=(π w.heap.size 1)) (Nat.le_refl _) _).setCell (p:=(π w.heap.size 2)) (Nat.le_refl _) _).setCell (p:=(π w.heap.size 3)) (Nat.le_refl _) _).setCell (p:=(π w.heap.size 4)) (Nat.le_refl _) _⟩;simp [results,Tryz.results316,go_sem,c0,c1,c2,c3,c4,z0,z1,z2,z3,z4]
theorem UK (W:World) (nm:ByteArray):Calls Tryz.prog 316 #[.string nm,ν] W (fun e w'=>e= .returned (.agg #[.string nm,ι 0,ι 0,ι 0,ι 0])/\Below W.heap.size W w'):=
 CU nm (g:=fun _=>0) (.inl ⟨rfl,rfl⟩) (by omega)
theorem eE {W:World} {l:List Int} {cs:Array Value} (hc:cs=(l.map (Value.int .i64)).toArray) (hl:l.length<=4):aV (W.alloc (.cells cs 3)) 1 (.slice (some (π W.heap.size 0)) l.length l.length) l.length (fun i=> ι (l.getD i 0)):=by
 refine .inr ⟨_,_,rfl,Nat.le_refl _,by unfold maxLen;omega,fun o ho=>⟨rfl,?_⟩⟩;have h1:ay (W.alloc (.cells cs 3)) W.heap.size 3 cs:=ay.new _ _ _;have h2:=h1.cell (0+o);rw [h2,hc,Nat.zero_add];have:o < l.length:=by omega
 simp [List.getD_eq_getElem?_getD,this]
theorem pQ {W w':World} {x:Obj} (h:Below (W.alloc x).heap.size (W.alloc x) w'):Below W.heap.size W w':=((Below.refl _ _).alloc (Nat.le_refl _) _).trans (h.mono (by simp))
theorem UL (W:World) (nm:ByteArray) (a:Int):Calls Tryz.prog 316 #[.string nm,.slice (some (π W.heap.size 0)) 1 1] (W.alloc (.cells #[ι a] 3)) (fun e w'=>e= .returned (.agg #[.string nm,ι a,ι 0,ι 0,ι 0])/\Below W.heap.size W w'):=
 (CU nm (eE (l:=[a]) rfl (by simp)) (by simp)).mono fun e w' h=>⟨h.1,pQ h.2⟩
theorem UM (W:World) (nm:ByteArray) (a b:Int):Calls Tryz.prog 316 #[.string nm,.slice (some (π W.heap.size 0)) 2 2] (W.alloc (.cells #[ι a,ι b] 3)) (fun e w'=>e= .returned (.agg #[.string nm,ι a,ι b,ι 0,ι 0])/\Below W.heap.size W w'):=
 (CU nm (eE (l:=[a,b]) rfl (by simp)) (by simp)).mono fun e w' h=>⟨h.1,pQ h.2⟩
theorem UN (W:World) (nm:ByteArray) (a b c:Int):Calls Tryz.prog 316 #[.string nm,.slice (some (π W.heap.size 0)) 3 3] (W.alloc (.cells #[ι a,ι b,ι c] 3)) (fun e w'=>e= .returned (.agg #[.string nm,ι a,ι b,ι c,ι 0])/\Below W.heap.size W w'):=
 (CU nm (eE (l:=[a,b,c]) rfl (by simp)) (by simp)).mono fun e w' h=>⟨h.1,pQ h.2⟩
theorem UO (W:World) (nm:ByteArray) (a b c d:Int):Calls Tryz.prog 316 #[.string nm,.slice (some (π W.heap.size 0)) 4 4] (W.alloc (.cells #[ι a,ι b,ι c,ι d] 3)) (fun e w'=>e= .returned (.agg #[.string nm,ι a,ι b,ι c,ι d])/\Below W.heap.size W w'):=
 (CU nm (eE (l:=[a,b,c,d]) rfl (by simp)) (by simp)).mono fun e w' h=>⟨h.1,pQ h.2⟩
def nmB:List ByteArray:=[⟨#[101,110,100]⟩,⟨#[110,117,109]⟩,⟨#[98,111,111,108]⟩,⟨#[118,97,114]⟩,⟨#[108,101,110]⟩,⟨#[99,97,112]⟩,⟨#[115,105,122,101]⟩,⟨#[116,111,116,97,108]⟩,⟨#[97,116]⟩,⟨#[116,97,103,120]⟩,⟨#[116,97,103,101,110,100]⟩,⟨#[109,105,110]⟩,⟨#[109,97,120]⟩,⟨#[110,101,103]⟩,⟨#[110,111,116]⟩,⟨#[109,117,108]⟩,⟨#[100,105,118]⟩,⟨#[97,100,100]⟩,⟨#[115,117,98]⟩,⟨#[101,113]⟩,⟨#[108,116]⟩,⟨#[108,101]⟩,⟨#[106,117,109,112]⟩,⟨#[101,108,115,101]⟩,⟨#[108,111,111,112]⟩,⟨#[116,117,114,110]⟩,⟨#[113,117,105,116]⟩,⟨#[97,103,97,105,110]⟩,⟨#[115,101,116]⟩,⟨#[109,97,114,107,120]⟩,⟨#[109,97,114,107,101,110,100]⟩,⟨#[105,110,115,101,114,116]⟩,⟨#[109,111,118,101]⟩,⟨#[102,111,114,103,101,116]⟩,⟨#[116,97,107,101]⟩,⟨#[103,105,118,101]⟩,⟨#[116,101,108,108]⟩,⟨#[108,111,111,115,101]⟩,⟨#[115,104,105,102,116]⟩,⟨#[115,112,105,108,108]⟩,⟨#[101,118,105,99,116]⟩,⟨#[100,114,111,112]⟩]
def ixL:List Nat:=[1,3,5,7,9,11,12,13,15,17,19,20,21,22,23,24,25,26,27,28,29,30,32,34,36,38,40,42,44,46,48,50,52,53,55,57,58,59,61,63,65,67]
def UP (i:Nat):Value:= .agg #[.string (nmB.getD i ⟨#[]⟩),ι ((bY i).getD 0 0:Nat),ι ((bY i).getD 1 0:Nat),ι ((bY i).getD 2 0:Nat),ι ((bY i).getD 3 0:Nat)]
def mH:List Value:=(List.range 42).map UP
def CW (o:Nat):Value:=if o % 5=0 then .string (nmB.getD (o / 5) ⟨#[]⟩) else ι ((bY (o / 5)).getD (o % 5 - 1) 0:Nat)
theorem Je:mH.length=42:=by simp [mH]
theorem yL:∀v∈mH,v.cells.size=5:=by intro v hv;obtain ⟨i,-,rfl⟩:=List.mem_map.1 hv;rfl
theorem QF {o:Nat} (ho:o < 42*5):(mH.flatMap fun v=>v.cells.toList).toArray[o]? =some (CW o):=by
 have h:=Great.flat_get (s:=5) (by omega) mH yL o;have h1:mH[o / 5]? =some (UP (o / 5)):=by
  have:o / 5 < 42:=by omega
  simp [mH,this]
 have e:(mH.flatMap fun v=>v.cells.toList).toArray[o]? =(mH.flatMap fun v=>v.cells.toList)[o]? :=by simp
 rw [e,h,h1];have:o % 5=0\/o % 5=1\/o % 5=2\/o % 5=3\/o % 5=4:=by omega
 rcases this with h|h|h|h|h<;>simp [CW,UP,h,Value.cells]
def Jf (w:World) (e:Ending) (w':World):Prop:=∃b,e= .returned (.slice (some (π b 0)) 42 42)/\aV w' 5 (.slice (some (π b 0)) 42 42) 42 CW/\Below w.heap.size w w'
theorem rm:(Tryz.prog.info? 306).map (·.size)=some 5:=by kernel_rfl
theorem Ny:((Tryz.prog.info? 306).bind (·.zero)).isSome=true:=by kernel_rfl
theorem QG:Tryz.prog.underlying 301=some (.slice 306):=by kernel_rfl
theorem QH {o:Oper} {a:Act} {w0 w:World} {K:Act->World->Prop} {Q:Exit->Act->World->Prop} (parts:Array (Nat×Operand)) (ho:o.op= .buildSlice 301 42 parts) (hB:Below w0.heap.size w0 w)
 (UQ:parts.toList=(List.range 42).map fun i=>(i,Operand.tmp (ixL.getD i 0))) (sT:(List.range 42).map (fun i=>a.eval (.tmp (ixL.getD i 0)))=mH)
 (h:∀W' b,aV W' 5 (.slice (some (π b 0)) 42 42) 42 CW->Below w0.heap.size w0 W'->K (a.put o.dst (.slice (some (π b 0)) 42 42)) W'):o.wp Tryz.prog a w K Q:=by
 cases X_:Tryz.prog.info? 306 with
 |none=>have:=rm;simp [X_] at this
 |some ie=>
  have kN:=rm;have hz:=Ny;simp only [X_,Option.map_some,Option.some.injEq,Option.bind_some] at kN hz;obtain ⟨z,hzz⟩:=Option.isSome_iff_exists.1 hz;refine wp_buildSlice 301 306 42 parts ho (mH.flatMap fun v=>v.cells.toList).toArray ie z QG X_ hzz (by rw [kN];omega) (by rw [kN];omega) ?_ ?_
  ·have e1:(parts.map fun (i,x)=>(i,a.eval x)).toList=(mH.zipIdx 0).map fun x=>(x.2,x.1):=by
    rw [Array.toList_map,UQ,List.map_map,<-sT];apply List.ext_getElem
    ·simp
    ·intro i h1 h2;simp
   rw [e1,kN];exact Great.fill_whole (by omega) mH _ yL (by rw [Je];simp)
  refine h _ _ (.inr ⟨_,_,rfl,Nat.le_refl _,by unfold maxLen;omega,fun o ho=>⟨rfl,?_⟩⟩) (hB.alloc hB.size _);have h1:=(ay.new w 306 (mH.flatMap fun v=>v.cells.toList).toArray).cell (0+o);rw [h1,Nat.zero_add];exact QF ho
theorem Aq (w:World):Calls Tryz.prog 288 #[] w (Jf w):=by have hB:=Below.refl w.heap.size w;go_enter Tryz.func288,Tryz.ntmps288;go_wp2_with (first|(with_reducible refine (UK _ _).mono ?_;rintro e W9 ⟨rfl,hb⟩;replace hB:=hB.trans (hb.mono hB.size);clear hb)|(with_reducible refine (UL _ _ _).mono ?_;rintro e W9 ⟨rfl,hb⟩;replace hB:=hB.trans (hb.mono hB.size);clear hb)|(with_reducible refine (UM _ _ _ _).mono ?_;rintro e W9 ⟨rfl,hb⟩;replace hB:=hB.trans (hb.mono hB.size);clear hb)|(with_reducible refine (UN _ _ _ _ _).mono ?_;rintro e W9 ⟨rfl,hb⟩;replace hB:=hB.trans (hb.mono hB.size);clear hb)|(with_reducible refine (UO _ _ _ _ _ _).mono ?_;rintro e W9 ⟨rfl,hb⟩;replace hB:=hB.trans (hb.mono hB.size);clear hb));refine QH (w0:=w) _ rfl hB (by kernel_rfl) (by kernel_rfl) ?_;intro W' b hR hB';have HB:=ae hB';have HR:=ae hR;clear hB' hR hB;go_wp2_with fail;go_ret;exact ⟨_,rfl,HR.o,HB.o⟩
theorem aej {p:Prop} (h:p:=by
 have HF:=ae (show aF n 1 255=false by unfold aF;simp;omega);go_enter Tryz.func315,Tryz.ntmps315;exact acu):p:=h
theorem acu {p:Prop} (h:p:=by
 go_wp2_with fail;go_ret;exact ⟨by rw [HF.o];rfl,rfl⟩):p:=h
theorem aaY (w:World) (n:Int):Calls Tryz.prog 315 #[ι n,ι 1,ι 255] w (fun e w'=>e= .returned (.bool (aF n 1 255))/\w'=w):=by
 by_cases h1:1<=n
 ·by_cases h2:n<=255
  ·have HF:=ae (show aF n 1 255=true by unfold aF;simp;omega);go_enter Tryz.func315,Tryz.ntmps315;exact acu
  ·exact aej
 ·exact aej
section
variable {w:World} {K:Kp} {p:aO}
def FT (J:Nat->Value):Act:={tmps:=#[J 0,J 1,J 2,J 3,J 4,J 5,J 6,J 7,J 8,J 9,J 10,J 11,J 12,J 13,J 14,J 15],defers:=[]}
theorem FT.of (A:Array Value) (h:A=(FT fun k=>A.getD k undef).tmps):({tmps:=A,defers:=[]}:Act)=FT fun k=>A.getD k undef:=by rw [h];rfl
def LW (w:World) (p:aO) (v:Value) (m:Nat) (a:Act) (W:World):Prop:=∃(J:Nat->Value) (i:Nat),a=FT J/\J 0=v/\J 3=ι i/\i<=p.aW.length/\m+i=p.aW.length+1/\W=w/\Hid (∀j,j < i->aF (p.aW.getD j 0) 1 255=true)
theorem UY (h:fP w K p) (hl:p.aW.length<=4):Calls Tryz.prog 287 #[K.t] w (fun e w'=>e= .returned (.bool (p.aW.all fun t=>aF t 1 255))/\w'=w):=by
 have HT:=ae h.t;obtain ⟨ta,tc,t1,-,-⟩:=aV.val h.t;have HV:=ae t1;rw [t1] at HT ⊢;clear h t1;go_enter Tryz.func287,Tryz.ntmps287;go_wp2_with fail;refine Mk.aP (LW w p (.slice ta p.aW.length tc)) (p.aW.length+1) ⟨_,0,FT.of _ rfl,rfl,rfl,Nat.zero_le _,by omega,rfl,ae (fun j hj=>absurd hj (by omega))⟩ (fun a W hh=>by obtain ⟨J,i,-,-,-,h1,h2,-⟩:=hh;omega) ?_;rintro m a W ⟨J,i,rfl,j0,j3,hi,hm,rfl,HA⟩;have w2:IntKind.i64.wrap ((i:Int)+1)=((i+1:Nat):Int):=by rw [IntWalk.i64_in _ (by constructor<;>omega)];omega
 unfold FT;rw [j0,j3];clear j0 j3;by_cases a8:i < p.aW.length
 ·obtain ⟨b,off,cap,hv,-,-,hb,hc⟩:=aV.some HT.o (by omega) (by omega);simp only [Value.slice.injEq] at hv;obtain ⟨rfl,-,rfl⟩:=hv;have c0:W.cell? (π b (off+i))=some (ι (p.aW.getD i 0)):=hc i (by omega);clear hc;have dh:=ae a8;obtain ⟨x,hx⟩:∃x,p.aW.getD i 0=x:=⟨_,rfl⟩;rw [hx] at c0;have HX:=ae hx;clear hx;obtain ⟨r,hr⟩:∃r,aF x 1 255=r:=⟨_,rfl⟩;have VQ:=ae (fun V=>hr▸aaY V x);have HR:=ae hr;clear hr;go_wp2_with fail;refine (VQ.o _).mono ?_;rintro e W1 ⟨rfl,rfl⟩;cases r with
  |false=>
   have HF:=ae (show (p.aW.all fun t=>aF t 1 255)=false from by
    rw [Bool.eq_false_iff];intro fF;rw [List.all_eq_true] at fF;have:=fF (p.aW.getD i 0) (by rw [List.getD_eq_getElem?_getD,List.getElem?_eq_getElem dh.o];exact List.getElem_mem dh.o);rw [HX.o,HR.o] at this;cases this)
   exact acu
  |true=>
   go_wp2_with fail;refine ⟨_,i+1,FT.of _ rfl,rfl,rfl,dh.o,by omega,rfl,ae fun j hj=>?_⟩;by_cases e:j=i
   ·subst e;rw [HX.o];exact HR.o
   ·exact HA.o j (by omega)
 ·obtain rfl:i=p.aW.length:=by omega
  have HF:=ae (show (p.aW.all fun t=>aF t 1 255)=true from by
   rw [List.all_eq_true];intro v hv;obtain ⟨j,hj,e⟩:=List.getElem_of_mem hv;have:=HA.o j hj;rw [List.getD_eq_getElem?_getD,List.getElem?_eq_getElem hj] at this;simpa [e] using this)
  clear a8;exact acu
end
end Go.Proofs.YtblkblclmbhjiaaGreat.Rv
namespace Go.Proofs.YtblkblclmbhjiaaGreat.Rv
open Go.RowKit ak.Vm
open ak hiding aL an aj
open Ma (aA aQ)
theorem Qz (ty:List Nat) (w:World) {k j:Nat} (hj:j < k) (hk:k<=ty.length) (ht:eI ty):(Instr.index 9 (.string (fk (ty.take k))) (ι ((k - 1 - j:Nat):Int))).run Tryz.prog w= .ok (.int .u8 ((yJ (ty.getD j 0)).toNat:Nat)) w:=by
 have hs:(fk (ty.take k)).size=k:=by rw [lJ,List.length_take];omega
 have hi:0<=((k - 1 - j:Nat):Int)/\((k - 1 - j:Nat):Int) < ((fk (ty.take k)).size:Int):=by omega
 rw [run_index_string w _ _ _ _ Tryz.underlying9,dif_pos hi];simp only [Int.toNat_natCast];have e:(fk (ty.take k))[k - 1 - j]'(by omega)=yJ (ty.getD j 0):=by
  show (fk (ty.take k)).data[k - 1 - j]'_=_;have h2:((ty.take k).reverse.map yJ)[k - 1 - j]? =some (yJ (ty.getD j 0)):=by rw [List.getElem?_map,List.getElem?_reverse (by rw [List.length_take];omega)];rw [show (ty.take k).length - 1 - (k - 1 - j)=j by rw [List.length_take];omega,List.getElem?_take_of_lt hj,List.getElem?_eq_getElem (by omega),List.getD_eq_getElem?_getD,List.getElem?_eq_getElem (show j < ty.length by omega)];rfl
  have h3:(fk (ty.take k)).data[k - 1 - j]? =some (yJ (ty.getD j 0)):=by show ((ty.take k).reverse.map yJ).toArray[k - 1 - j]? =_;rw [List.getElem?_toArray];exact h2
  exact (Array.getElem?_eq_some_iff.1 h3).2
 rw [e]
def Fg (w:World) (x:Ins) (ty:List Nat) (e:Ending) (w':World):Prop:=e= .returned (.tuple #[.string (fk (cw x ty).2),ι (cw x ty).1])/\Below w.heap.size w w'
theorem ad6 {p:Prop} (h:p:=by
 go_enter Tryz.func292,Tryz.ntmps292;go_wp2_with fail;refine (HT.o _).mono ?_;rintro e w' ⟨rfl,rfl⟩;go_wp2_with fail;go_ret2;exact ⟨rfl,HB.o _ _⟩):p:=h
theorem Fh (w:World) {x:Ins} {ty:List Nat} (h0:0<=x.op) (h1:x.op < 42) (hl:ty.length<=256) (ht:eI ty):
 Calls Tryz.prog 292 #[aQ x,.string (fk ty)] w (Fg w x ty):=by
 have HO:=ae (rfl:cw x ty=cw x ty);obtain ⟨op,xa,xb,xc,xd⟩:=x;dsimp only at h0 h1;have HT:=ae (fun V=>zM V h0 h1);have HG:=ae (fun V=>rJ V h0 h1);have HS:=ae (lJ ty);have hB:∀cs T,Below w.heap.size w (w.alloc (.cells cs T)):=fun cs T=>(Below.refl _ _).alloc (Nat.le_refl _) _;have hC:∀cs T k,Below w.heap.size w ((w.alloc (.cells cs T)).drewN k):=fun cs T k=>(hB cs T).trans (au _ _ k);have HB:=ae hB;have HC:=ae hC;have Gz:=ae ht;have hz:op=0->bO op.toNat=[]:=fun h=>by rw [h];rfl
 have sE:op=19↔op.toNat=19:=by omega
 have GO:=sJ op.toNat;clear hB hC ht h0 h1;unfold aQ aA Fg;dsimp only;generalize hk:bO op.toNat=tk at*;have Wm:(fk tk).size=tk.length:=lJ tk;have TI:tk.length<=2:=by rcases GO with rfl|rfl|rfl|rfl|⟨-,rfl⟩<;>simp
 have hu:cw ⟨op,xa,xb,xc,xd⟩ ty=(if ty.length < tk.length\/(op=0/\tk.length < ty.length) then (93,[]) else if 256 < (eL op.toNat++ty.drop tk.length).length then (93,[]) else if op=19 then (if ty.getD 0 0≠ty.getD 1 0 then (94,[]) else (0,eL op.toNat++ty.drop tk.length)) else if ty.take tk.length≠tk then (94,[]) else (0,eL op.toNat++ty.drop tk.length)):=by unfold cw;dsimp only;rw [hk];rfl
 have HU:=ae hu;have HK:=ae hk;clear hu hk;have e2:(fk ty).size=ty.length:=HS.o;by_cases c1:ty.length < tk.length
 ·have IX:=ae (show cw ⟨op,xa,xb,xc,xd⟩ ty=(93,[]) by rw [HU.o,if_pos (.inl c1)]);have w1:IntKind.i64.wrap ((ty.length:Int) - (tk.length:Int))=(ty.length:Int) - (tk.length:Int):=IntWalk.i64_in _ (by constructor<;>omega);rw [IX.o];generalize fk ty=tb at*;generalize fk tk=tkb at*;generalize ty.length=n at*;generalize tk.length=k at*;clear GO sE hz HG HO;exact ad6
 by_cases c2:op=0/\tk.length < ty.length
 ·obtain ⟨rfl,c2⟩:=c2;have IX:=ae (show cw ⟨0,xa,xb,xc,xd⟩ ty=(93,[]) by rw [HU.o,if_pos (.inr ⟨rfl,c2⟩)]);have w1:IntKind.i64.wrap ((ty.length:Int) - (tk.length:Int))=((ty.length - tk.length:Nat):Int):=by rw [IntWalk.i64_in _ (by constructor<;>omega)];omega
  rw [IX.o];have c3:0 < ty.length - tk.length:=by omega
  generalize fk ty=tb at*;generalize fk tk=tkb at*;generalize ty.length - tk.length=nk at*;generalize ty.length=n at*;generalize tk.length=k at*;clear GO sE hz HG HO;exact ad6
 have uP:cw ⟨op,xa,xb,xc,xd⟩ ty=(if 256 < (eL op.toNat++ty.drop tk.length).length then (93,[]) else if op=19 then (if ty.getD 0 0≠ty.getD 1 0 then (94,[]) else (0,eL op.toNat++ty.drop tk.length)) else if ty.take tk.length≠tk then (94,[]) else (0,eL op.toNat++ty.drop tk.length)):=by rw [HU.o,if_neg (by simp only [not_or];exact ⟨c1,c2⟩)]
 have w1:IntKind.i64.wrap ((ty.length:Int) - (tk.length:Int))=((ty.length - tk.length:Nat):Int):=by rw [IntWalk.i64_in _ (by constructor<;>omega)];omega
 have SV:=Np ty (k:=tk.length) (by omega);have hX:=No ty tk.length;have hxs:(fk (ty.drop tk.length)).size=ty.length - tk.length:=by rw [lJ,List.length_drop]
 have hgs:(fk (eL op.toNat)).size=(eL op.toNat).length:=lJ _;have abv:(eL op.toNat).length<=1:=by unfold eL;split<;>simp
 have hXG:fk (ty.drop tk.length)++fk (eL op.toNat)=fk (eL op.toNat++ty.drop tk.length):=Qx _ _;have hlz:=lJ (eL op.toNat++ty.drop tk.length);have htz:=lJ (ty.take tk.length);have HR:=ae (fun (w:World) (j:Nat) (hj:j < tk.length)=>Qz ty w hj (by omega) Gz.o);have TD:=ae (fun (h:eI tk)=>Fe (Gz.o.take tk.length) h);have um:(eL op.toNat++ty.drop tk.length).length<=257:=by rw [List.length_append,List.length_drop];unfold eL;split<;>simp<;>omega
 have c4:op=0/\ty.length=tk.length\/op≠0:=by
  by_cases o:op=0
  ·exact .inl ⟨o,by have:¬tk.length < ty.length:=fun h=>c2 ⟨o,h⟩;omega⟩
  ·exact .inr o
 have IX:=ae uP;have Vd:ty.length - tk.length<=ty.length:=by omega
 clear uP c2 HU HO;have Lf:=ae GO;have HZ:=ae hz;clear GO hz;generalize hLb:fk (eL op.toNat++ty.drop tk.length)=lb at*;generalize hTb:fk (ty.take tk.length)=tpb at*;generalize hGb:fk (eL op.toNat)=gb at*;generalize hXb:fk (ty.drop tk.length)=xb9 at*;generalize hGl:(eL op.toNat).length=gl at*;have Sa:=ae hGl;have Oc:=ae hXb;have Vp:=ae hLb;have qX:=ae hTb;have HGB:=ae hGb;clear hLb hTb hGb hXb hGl;generalize tO:fk ty=tb at*;generalize GO:fk tk=tkb at*;have Yv:=ae tO;have abw:=ae GO;clear tO GO;generalize ZN:ty.length - tk.length=nk at*;have HNK:=ae ZN;clear ZN;generalize hn9:ty.length=n at*;have HN:=ae hn9;clear hn9;generalize hk9:tk.length=k at*;have UG:=ae hk9;clear hk9;have nO:k<=n:=by omega
 generalize Hh:(eL op.toNat++ty.drop k).length=ll at*;have HLL:=ae Hh;clear Hh c1;have c6:((op==0)=true/\decide (0 < nk)=false)\/(op==0)=false:=by
  rcases c4 with ⟨h,h2⟩|h
  ·exact .inl ⟨by simpa using h,by have:=HNK.o;simp;omega⟩
  ·exact .inr (by simpa using h)
 clear c4;rcases c6 with ⟨c4,c7⟩|c4
 all_goals
  go_enter Tryz.func292,Tryz.ntmps292;go_wp2_with fail;refine (HT.o _).mono ?_;rintro e w' ⟨rfl,rfl⟩;go_wp2_with fail;go_quiet ((go_at_call 318;exact Calls.quiet_of_same (HG.o _)));by_cases c5:256 < ll
  ·have HE:=ae (show cw _ ty=(93,[]) from by rw [IX.o,if_pos c5]);clear sE;go_wp2_with fail;go_ret2;exact ⟨by rw [HE.o];rfl,HC.o _ _ _⟩
  by_cases ZO:op=19
  ·subst ZO
   try (exact absurd c4 (by decide))
   all_goals
    have e2:tk=[3,3]:=HK.o.symm;have k2:k=2:=by rw [<-UG.o,e2];rfl
    have r0:∀V:World,(Instr.index 9 (.string tpb) (ι 1)).run Tryz.prog V= .ok (.int .u8 ((yJ (ty.getD 0 0)).toNat:Nat)) V:=fun V=>by have:=HR.o V 0 (by omega);rw [k2] at this;exact this
    have r1:∀V:World,(Instr.index 9 (.string tpb) (ι 0)).run Tryz.prog V= .ok (.int .u8 ((yJ (ty.getD 1 0)).toNat:Nat)) V:=fun V=>by have:=HR.o V 1 (by omega);rw [k2] at this;exact this
    have h0:=Gz.o.at (j:=0) (by have:=HN.o;omega);have h1:=Gz.o.at (j:=1) (by have:=HN.o;omega);have hch:=GS h1 h0;have HE:=ae (show cw ⟨19,xa,xb,xc,xd⟩ ty=if ty.getD 0 0≠ty.getD 1 0 then (94,[]) else (0,eL (Int.toNat 19)++ty.drop k) by rw [IX.o,if_neg c5,if_pos rfl]);generalize ty.getD 0 0=t0 at*;generalize ty.getD 1 0=t1 at*;clear sE e2 k2 h0 h1;by_cases hq:t0=t1
    ·subst hq;have nC:=ae (show cw ⟨19,xa,xb,xc,xd⟩ ty=(0,eL (Int.toNat 19)++ty.drop k) by rw [HE.o,if_neg (by simp)]);clear hch;generalize (yJ t0).toNat=u0 at*;go_wp2_with fail;go_quiet (fail);go_wp2_with fail;go_ret2;exact ⟨by rw [nC.o,<-Vp.o];rfl,(HC.o _ _ _).trans (au _ _ _)⟩
    ·have nC:=ae (show cw ⟨19,xa,xb,xc,xd⟩ ty=(94,[]) by rw [HE.o,if_pos hq]);have bz:¬(yJ t1).toNat=(yJ t0).toNat:=fun h=>hq (hch.1 (UInt8.toNat_inj.1 h)).symm;clear hch hq;generalize (yJ t0).toNat=u0 at*;generalize (yJ t1).toNat=u1 at*;go_wp2_with fail;go_quiet (fail);go_wp2_with fail;go_ret2;exact ⟨by rw [nC.o];rfl,(HC.o _ _ _).trans (au _ _ _)⟩
  ·have ho:(op==19)=false:=by simpa using ZO
   have GO:eI tk:=by
    have hh:tk=[]\/tk=[1]\/tk=[2]\/tk=[1,1]:=by
     rcases Lf.o with h|h|h|h|⟨h,-⟩
     ·exact .inl h
     ·exact .inr (.inl h)
     ·exact .inr (.inr (.inl h))
     ·exact .inr (.inr (.inr h))
     ·exact absurd (sE.2 h) ZO
    rcases hh with rfl|rfl|rfl|rfl<;>intro t ht<;>simp at ht<;>simp [ht]
   have uF:=TD.o GO;have HE:=ae (show cw ⟨op,xa,xb,xc,xd⟩ ty=if ty.take k≠tk then (94,[]) else (0,eL (Int.toNat op)++ty.drop k) by rw [IX.o,if_neg c5,if_neg ZO]);clear GO sE ZO;by_cases hq:ty.take k=tk
   ·have nC:=ae (show cw ⟨op,xa,xb,xc,xd⟩ ty=(0,eL (Int.toNat op)++ty.drop k) by rw [HE.o,if_neg (by simp [hq])]);have hb:(tpb.toList==tkb.toList)=true:=by rw [beq_iff_eq,uF];exact hq
    clear uF hq;go_wp2_with fail;go_ret2;exact ⟨by rw [nC.o,<-Vp.o];rfl,HC.o _ _ _⟩
   ·have nC:=ae (show cw ⟨op,xa,xb,xc,xd⟩ ty=(94,[]) by rw [HE.o,if_pos hq]);have hb:(tpb.toList==tkb.toList)=false:=by rw [beq_eq_false_iff_ne,ne_eq,uF];exact hq
    clear uF hq;go_wp2_with fail;go_ret2;exact ⟨by rw [nC.o];rfl,HC.o _ _ _⟩
end Go.Proofs.YtblkblclmbhjiaaGreat.Rv
namespace Go.Proofs.YtblkblclmbhjiaaGreat.Rv
open Go.RowKit ak.Vm
open ak hiding aL an aj
open Ma (dx bQ aU vb aA aQ)
open Vf (Kp fP pV qu bw aV)
def mQ (s:kE):Value:= .agg #[.string (fk s.ty),ι s.loop,ι s.hand,.bool s.jI]
def CQ (f:Nat->kE) (o:Nat):Value:=(#[.string (fk (f (o / 4)).ty),ι (f (o / 4)).loop,ι (f (o / 4)).hand,.bool (f (o / 4)).jI]:Array Value).getD (o % 4) undef
structure qx (w:World) (K:Kp) (p:aO) (lb:Nat) (iz j_ jA:Value) (L:jS):Prop where
 c_:ay w lb 260 (uj K p iz j_ jA)
 at_:Row w 262 4 iz p.code.length (CQ L.at_)
 up:Row w 3 1 j_ p.code.length (fun i=> ι (L.up i))
 st:Row w 4 1 jA p.code.length (fun i=> .bool (fx p i))
section
variable {w w':World} {K:Kp} {p:aO} {iz j_ jA:Value} {lb:Nat} {L:jS} {x:Ins}
theorem qx.aB (h:qx w K p lb iz j_ jA L) (f:ax [] w w'):qx w' K p lb iz j_ jA L:=⟨h.c_.aB f (by simp),h.at_.aB f (by simp),h.up.aB f (by simp),h.st.aB f (by simp)⟩
theorem qx.RD (h:qx w K p lb iz j_ jA L) {i:Nat} (hi:i < p.code.length):∃b cap,iz= .slice (some (π b 0)) p.code.length cap/\p.code.length<=cap/\cap<=maxLen/\b < w.heap.size/\
 w.cell? (π b (i*4))=some (.string (fk (L.at_ i).ty))/\w.cell? (π b (i*4+1))=some (ι (L.at_ i).loop)/\w.cell? (π b (i*4+2))=some (ι (L.at_ i).hand)/\w.cell? (π b (i*4+3))=some (.bool (L.at_ i).jI):=by
 obtain ⟨b,cap,e,h1,h2,h3⟩:=h.at_.some (by omega);have hr:=h.at_;rw [e] at hr;have key:∀k,k < 4->w.cell? (π b (i*4+k))=some ((#[.string (fk (L.at_ i).ty),ι (L.at_ i).loop,ι (L.at_ i).hand,.bool (L.at_ i).jI]:Array Value).getD k undef):=fun k hk=>by have e:=hr.cell (o:=i*4+k) (by omega);rw [e];unfold CQ;rw [show (i*4+k) / 4=i by omega,show (i*4+k) % 4=k by omega]
 exact ⟨b,cap,e,h1,h2,h3,key 0 (by omega),key 1 (by omega),key 2 (by omega),key 3 (by omega)⟩
theorem qx.start (h:qx w K p lb iz j_ jA L) {i:Nat} (hi:i < p.code.length):∃b cap,jA= .slice (some (π b 0)) p.code.length cap/\p.code.length<=cap/\b < w.heap.size/\w.cell? (π b i)=some (.bool (fx p i)):=by obtain ⟨b,cap,e,h1,h2,h3⟩:=h.st.some (by omega);have hr:=h.st;rw [e] at hr;exact ⟨b,cap,e,h1,h3,hr.cell (by omega)⟩
theorem qx.upc (h:qx w K p lb iz j_ jA L) {i:Nat} (hi:i < p.code.length):∃b cap,j_= .slice (some (π b 0)) p.code.length cap/\p.code.length<=cap/\b < w.heap.size/\w.cell? (π b i)=some (ι (L.up i)):=by obtain ⟨b,cap,e,h1,h2,h3⟩:=h.up.some (by omega);have hr:=h.up;rw [e] at hr;exact ⟨b,cap,e,h1,h3,hr.cell (by omega)⟩
structure JOk (p:aO) (L:jS) (pc:Nat) (x:Ins) (ty:List Nat) (loop:Int):Prop where
 pc:pc < p.code.length
 len:p.code.length<=262144
 lp:loop < p.code.length
 ty:eI ty
 lt:∀n,eI (L.at_ n).ty
def Nr (w:World) (b:Bool) (e:Ending) (w':World):Prop:=e= .returned (.bool b)/\Below w.heap.size w w'
theorem acr {p:Prop} (h:p:=by
 go_enter Tryz.func294,Tryz.ntmps294;exact ad7):p:=h
theorem ac6 {p:Prop} (h:p:=by
 go_enter Tryz.func294,Tryz.ntmps294;go_wp2_with fail;go_ret;exact ⟨by rw [HJ.o];rfl,HB.o _ _ _ _⟩):p:=h
theorem ac5 {p:Prop} (h:p:=by
 go_enter Tryz.func294,Tryz.ntmps294;go_wp2_with fail;refine (uW.o _ _ _ _).mono ?_;rintro e w' ⟨rfl,rfl⟩;exact ad7):p:=h
theorem ad7 {p:Prop} (h:p:=by
 go_wp2_with fail;go_quiet (fail);go_wp2_with fail;go_ret;exact ⟨by rw [HJ.o];rfl,HC.o _ _ _ _ _⟩):p:=h
theorem abV {p:Prop} (h:p:=by
 go_enter Tryz.func294,Tryz.ntmps294;go_wp2_with fail;refine (uW.o _ _ _ _).mono ?_;rintro e w' ⟨rfl,rfl⟩;go_wp2_with fail;go_ret;exact ⟨by rw [HJ.o];rfl,HB.o _ _ _ _⟩):p:=h
theorem Ac {pc:Nat} {ty:List Nat} {loop:Int} (h:fP w K p) (hl:qx w K p lb iz j_ jA L) (hx:ai p pc=x) (J:JOk p L pc x ty loop):
 Calls Tryz.prog 294 #[ρ lb,ι pc,.agg #[.string (fk ty),ι loop,ι 0,.bool false]] w (Nr w (dL p L pc x ty loop)):=by
 obtain ⟨jpc,abx,jlp,jty,jlt⟩:=J;obtain ⟨cb,wk,zF,kc,q1,q2,c0,c1,c2,c3,c4⟩:=h.ins jpc;rw [hx] at c0 c1 c2 c3 c4;have lc:=aS c0;obtain ⟨-,-,-,-,-,v5,v6,-,v8⟩:=hl.c_.c9;have ll:=hl.c_.lt;rw [kc] at v5;have hB:∀cs T mV T2,Below w.heap.size w ((w.alloc (.cells cs T)).alloc (.cells mV T2)):=fun cs T mV T2=>((Below.refl _ _).alloc (Nat.le_refl _) _).alloc (by simp) _;have hC:∀cs T mV T2 k,Below w.heap.size w (((w.alloc (.cells cs T)).alloc (.cells mV T2)).drewN k):=fun cs T mV T2 k=>(hB cs T mV T2).trans (au _ _ k);have HB:=ae hB;have HC:=ae hC;have HT:=ae (fun cs T mV T2 n=>Ev (h.aB (ax.ah (hB cs T mV T2))) (hl.c_.of ((hB cs T mV T2).block _ ll)) n);have H:=ae h;have HL:=ae hl;have xj:=ae kc;clear h hl hB hC kc;obtain ⟨op,xa,xb,xc,xd⟩:=x;have HX:=ae hx;clear hx;unfold Nr;dsimp only at*;have hj:∀X,X=dL p L pc ⟨op,xa,xb,xc,xd⟩ ty loop->X=dL p L pc ⟨op,xa,xb,xc,xd⟩ ty loop:=fun _ h=>h;clear hj;by_cases o1:op=22\/op=23\/op=25\/op=26
 ·by_cases o2:xa<=pc
  ·have HJ:=ae (show dL p L pc ⟨op,xa,xb,xc,xd⟩ ty loop=false from by unfold dL;rw [if_pos ⟨o1,.inl o2⟩]);rcases o1 with rfl|rfl|rfl|rfl
   all_goals
    exact ac6
  have o3:(pc:Int) < xa:=by omega
  clear o2;cases o4:gE p xa with
  |true=>
   have HJ:=ae (show dL p L pc ⟨op,xa,xb,xc,xd⟩ ty loop=false from by unfold dL;rw [if_pos ⟨o1,.inr o4⟩]);have uW:=ae (fun cs T mV T2=>o4▸HT.o cs T mV T2 xa);clear o4;rcases o1 with rfl|rfl|rfl|rfl
   all_goals
    exact abV
  |false=>
   have uW:=ae (fun cs T mV T2=>o4▸HT.o cs T mV T2 xa);have P4:¬((op=22\/op=23\/op=25\/op=26)/\(xa<=pc\/gE p xa=true)):=by rintro ⟨-,h|h⟩;omega;rw [o4] at h;cases h
   have kR:dL p L pc ⟨op,xa,xb,xc,xd⟩ ty loop=(if op=25 then decide (0 < pc)&&decide ((ai p (pc - 1)).op=24)&& !fx p pc else if op=24 then gE p ((pc:Int)+1) else if op=26 then decide (0<=loop)&&decide (xa=(ai p loop.toNat).a) else if op=27 then decide (0<=loop)&&decide (xa=loop)&&decide (ty=(L.at_ loop.toNat).ty) else if op=0 then decide (loop < 0) else true):=by unfold dL;rw [if_neg P4]
   have EU:=ae kR;clear o4 P4 kR;rcases o1 with rfl|rfl|rfl|rfl
   ·have HJ:=ae (show dL p L pc ⟨22,xa,xb,xc,xd⟩ ty loop=true from by rw [EU.o];rfl);exact abV
   ·have HJ:=ae (show dL p L pc ⟨23,xa,xb,xc,xd⟩ ty loop=true from by rw [EU.o];rfl);exact abV
   ·have kR:=EU.o;rw [if_pos rfl] at kR;by_cases p0:0 < pc
    ·obtain ⟨m,rfl⟩:∃m,pc=m+1:=⟨pc - 1,by omega⟩;have w1:IntKind.i64.wrap (((m+1:Nat):Int) - 1)=(m:Int):=by rw [IntWalk.i64_in _ (by constructor<;>omega)];omega
     obtain ⟨cb2,ZP,ZQ,Cl,-,-,e0,-⟩:=H.o.ins (i:=m) (by omega);rw [xj.o] at Cl;simp only [Value.slice.injEq,Option.some.injEq,Addr.mk.injEq] at Cl;obtain ⟨⟨rfl,rfl,-⟩,-,rfl⟩:=Cl;simp only [Nat.add_sub_cancel] at kR;rw [show decide (0 < m+1)=true by simp,Bool.true_and] at kR;generalize (ai p m).op=op2 at*;by_cases p1:op2=24
     ·subst p1;obtain ⟨sb,aby,es,s1,s2,s3⟩:=HL.o.start jpc;rw [es] at v8;simp only [decide_true,Bool.true_and] at kR;cases hs:fx p (m+1) with
      |true=>rw [hs] at s3 kR;have HJ:=ae kR;clear kR hs;exact abV
      |false=>rw [hs] at s3 kR;have HJ:=ae kR;clear kR hs;exact abV
     ·have p2:(op2==24)=false:=by simpa using p1
      rw [show decide (op2=24)=false by simpa using p1,Bool.false_and] at kR;have HJ:=ae kR;clear kR p1;exact abV
    ·obtain rfl:pc=0:=by omega
     simp only [Nat.zero_mul,Nat.add_zero] at c0 c1 c2 c3 c4;have HJ:=ae (show _=false from kR.trans (by simp));clear kR;exact abV
   ·have kR:=EU.o;rw [if_neg (by decide),if_neg (by decide),if_pos rfl] at kR;by_cases p0:0<=loop
    ·obtain ⟨m,rfl⟩:=Int.eq_ofNat_of_zero_le p0;obtain ⟨cb2,ZP,ZQ,Cl,-,-,-,e1,-⟩:=H.o.ins (i:=m) (by omega);rw [xj.o] at Cl;simp only [Value.slice.injEq,Option.some.injEq,Addr.mk.injEq] at Cl;obtain ⟨⟨rfl,rfl,-⟩,-,rfl⟩:=Cl;obtain ⟨a2,Gx⟩:∃z,(ai p m).a=z:=⟨_,rfl⟩;rw [Gx] at e1;replace kR:=kR.trans (show _=decide (xa=a2) by simp [Gx]);clear Gx EU;by_cases p1:xa=a2
     ·subst p1;have HJ:=ae (show _=true from kR.trans (by simp));clear kR;exact ac5
     ·have HJ:=ae (show _=false from kR.trans (by simpa using p1));have p2:(xa==a2)=false:=by simpa using p1
      clear kR p1;exact ac5
    ·have HJ:=ae (show _=false from kR.trans (by simp [p0]));have p1:decide (0<=loop)=false:=by simpa using p0
     clear kR p0;exact ac5
 have P4:¬((op=22\/op=23\/op=25\/op=26)/\(xa<=pc\/gE p xa=true)):=fun h=>o1 h.1;have kR:dL p L pc ⟨op,xa,xb,xc,xd⟩ ty loop=(if op=25 then decide (0 < pc)&&decide ((ai p (pc - 1)).op=24)&& !fx p pc else if op=24 then gE p ((pc:Int)+1) else if op=26 then decide (0<=loop)&&decide (xa=(ai p loop.toNat).a) else if op=27 then decide (0<=loop)&&decide (xa=loop)&&decide (ty=(L.at_ loop.toNat).ty) else if op=0 then decide (loop < 0) else true):=by unfold dL;rw [if_neg P4]
 simp only [not_or] at o1;obtain ⟨n22,n23,n25,n26⟩:=o1;have e22:(op==22)=false:=by simpa using n22
 have e23:(op==23)=false:=by simpa using n23
 have e25:(op==25)=false:=by simpa using n25
 have e26:(op==26)=false:=by simpa using n26
 rw [if_neg n25,if_neg n26] at kR;clear P4;by_cases RT:op=24
 ·subst RT;have HJ:=ae (kR.trans (if_pos rfl));have w1:IntKind.i64.wrap ((pc:Int)+1)=(pc:Int)+1:=IntWalk.i64_in _ (by constructor<;>omega);clear kR n22 n23 n25 n26;rw [HJ.o];have HT3:=ae (fun cs T mV T2=>HT.o cs T mV T2 ((pc:Int)+1));clear HJ HT;generalize gE p ((pc:Int)+1)=tb9 at*;go_enter Tryz.func294,Tryz.ntmps294;go_wp2_with fail;refine (HT3.o _ _ _ _).mono ?_;rintro e w' ⟨rfl,rfl⟩;go_wp2_with fail;go_ret;exact ⟨rfl,HB.o _ _ _ _⟩
 rw [if_neg RT] at kR;have e24:(op==24)=false:=by simpa using RT
 by_cases TX:op=27
 ·subst TX;rw [if_pos rfl] at kR;clear n22 n23 n25 n26 RT;by_cases p0:0<=loop
  ·obtain ⟨m,rfl⟩:=Int.eq_ofNat_of_zero_le p0;simp only [Int.toNat_natCast,p0,decide_true,Bool.true_and] at kR;obtain ⟨ab,ph,ea,a1,a2,a3,s0,-⟩:=HL.o.RD (i:=m) (by omega);rw [ea] at v6;have uF:=Fe jty (jlt m);clear ea;by_cases p1:xa=(m:Int)
   ·subst p1;simp only [decide_true,Bool.true_and] at kR;by_cases p2:ty=(L.at_ m).ty
    ·have HJ:=ae (show _=true from kR.trans (by simpa using p2));have e9:((fk ty).toList==(fk (L.at_ m).ty).toList)=true:=by rw [beq_iff_eq,uF];exact p2
     clear kR p2 uF jty jlt;generalize fk (L.at_ m).ty=t2 at*;generalize fk ty=t1 at*;exact acr
    ·have HJ:=ae (show _=false from kR.trans (by simpa using p2));have e9:((fk ty).toList==(fk (L.at_ m).ty).toList)=false:=by rw [beq_eq_false_iff_ne,ne_eq,uF];exact p2
     clear kR p2 uF jty jlt;generalize fk (L.at_ m).ty=t2 at*;generalize fk ty=t1 at*;exact acr
   ·have HJ:=ae (show _=false from kR.trans (by simp [p1]));have p2:(xa==(m:Int))=false:=by simpa using p1
    clear kR p1 uF;exact acr
  ·have HJ:=ae (show _=false from kR.trans (by simp [p0]));have p1:decide (0<=loop)=false:=by simpa using p0
   clear kR p0;exact acr
 rw [if_neg TX] at kR;have e27:(op==27)=false:=by simpa using TX
 by_cases o0:op=0
 ·subst o0;have HJ:=ae (kR.trans (if_pos rfl));clear kR n22 n23 n25 n26 RT TX;exact ac6
 have HJ:=ae (kR.trans (if_neg o0));have e0:(op==0)=false:=by simpa using o0
 clear kR n22 n23 n25 n26 RT TX o0;exact ac6
end
theorem CR {W:World} {E:TypeId} {A cap n z:Nat} {g:Nat->Value} (h:Row W E 4 (.slice (some (π A 0)) n cap) n g) (hz:z < n) (v0 v1 v2 v3:Value):
 Row ((((W.setCell (π A (z*4)) v0).setCell (π A (z*4+1)) v1).setCell (π A (z*4+2)) v2).setCell (π A (z*4+3)) v3) E 4 (.slice (some (π A 0)) n cap) n (fun o=>if o / 4=z then (#[v0,v1,v2,v3]:Array Value).getD (o % 4) undef else g o):=by
 refine Row.congr ((((h.set (o:=z*4) (by omega) v0).set (o:=z*4+1) (by omega) v1).set (o:=z*4+2) (by omega) v2).set (o:=z*4+3) (by omega) v3) ?_;intro o ho;by_cases e:o / 4=z
 ·rw [if_pos e];obtain ⟨k,hk,rfl⟩:∃k,k < 4/\o=z*4+k:=⟨o % 4,by omega,by omega⟩;rw [show (z*4+k) % 4=k by omega];have:k=0\/k=1\/k=2\/k=3:=by omega
  rcases this with rfl|rfl|rfl|rfl<;>simp
 ·rw [if_neg e]
  repeat rw [if_neg (by omega)]
section
variable {w w':World} {K:Kp} {p:aO} {j_ jA:Value} {lb A cap:Nat} {L:jS}
theorem qx.put (h:qx w K p lb (.slice (some (π A 0)) p.code.length cap) j_ jA L) {z:Nat} (hz:z < p.code.length) (s:kE) {W':World}
 (e:W'=((((w.setCell (π A (z*4)) (.string (fk s.ty))).setCell (π A (z*4+1)) (ι s.loop)).setCell (π A (z*4+2)) (ι s.hand)).setCell (π A (z*4+3)) (.bool s.jI))):
 qx W' K p lb (.slice (some (π A 0)) p.code.length cap) j_ jA {L with at_:=aL L.at_ z s}/\ax [A] w W':=by
 subst e;have f:ax [A] w ((((w.setCell (π A (z*4)) (.string (fk s.ty))).setCell (π A (z*4+1)) (ι s.loop)).setCell (π A (z*4+2)) (ι s.hand)).setCell (π A (z*4+3)) (.bool s.jI)):=
  ((((ax.refl [A] w).setCell (p:=(π A (z*4))) (by simp) _).setCell (p:=(π A (z*4+1))) (by simp) _).setCell (p:=(π A (z*4+2))) (by simp) _).setCell (p:=(π A (z*4+3))) (by simp) _
 have nb:lb∉[A]:=by have:=h.at_.eF h.c_ (by decide);simp;intro e;exact this (by rw [e];rfl)
 have nu:∀b,j_.ownBlock=some b->b∉[A]:=fun b hb=>by
  have h1:=h.at_.ne h.up (by decide);rcases h1 with h1|h1
  ·cases h1
  ·simp;intro e;subst e;exact h1 (by rw [hb];rfl)
 have ns:∀b,jA.ownBlock=some b->b∉[A]:=fun b hb=>by
  have h1:=h.at_.ne h.st (by decide);rcases h1 with h1|h1
  ·cases h1
  ·simp;intro e;subst e;exact h1 (by rw [hb];rfl)
 refine ⟨⟨h.c_.aB f nb,(CR h.at_ hz _ _ _ _).congr fun o ho=>?_,h.up.aB f nu,h.st.aB f ns⟩,f⟩;unfold CQ;by_cases e:o / 4=z
 ·rw [if_pos e,e];dsimp only;rw [an]
 ·rw [if_neg e];dsimp only;rw [aj _ _ e]
end
theorem eqS (s t:kE) (hs:eI s.ty) (ht:eI t.ty) (w:World):(binOp .eql 262 (mQ s) (mQ t)).run Tryz.prog w= .ok (.bool (decide (s=t))) w:=by
 obtain ⟨a,b,c,d⟩:=s;obtain ⟨a',b',c',d'⟩:=t;have hq:=Fe hs ht;dsimp only at hq;have kO:(((fk a).toList==(fk a').toList):Bool)=decide (a=a'):=by rw [Bool.eq_iff_iff,beq_iff_eq,hq,decide_eq_true_eq]
 unfold mQ;dsimp only;have u3:=Tryz.underlying3;have q3:=Tryz.isAgg3;have z3:=Tryz.sizeOf3;have u4:=Tryz.underlying4;have q4:=Tryz.isAgg4;have z4:=Tryz.sizeOf4;have u9:=Tryz.underlying9;have q9:=Tryz.isAgg9;have z9:=Tryz.sizeOf9;rw [run_eql_struct];have hu:Tryz.prog.underlying 262=some (.struct (Tryz.prog.fieldsOf 262)):=by kernel_rfl
 have fj:Tryz.prog.stoodInHeld 262=false:=by kernel_rfl
 have hf:=hu.symm.trans Tryz.underlying262;simp only [Option.some.injEq,TypeDesc.struct.injEq] at hf;rw [run_equalIn_agg _ _ _ _ _ hu fj,hf];clear hf hu fj;simp only [Op.eqFields];go_simp;by_cases h1:a=a'
 ·subst h1;by_cases h2:b=b'
  ·subst h2;by_cases h3:c=c'
   ·subst h3;cases d<;>cases d'<;>simp
   ·simp [h3]
  ·simp [h2]
 ·simp [h1]
section
variable {w:World} {K:Kp} {p:aO} {j_ jA:Value} {lb A cap:Nat} {L:jS}
def rY (L:jS) (z:Nat) (s:kE):Bool×jS:=if (L.at_ z).jI then (decide (L.at_ z=s),L) else (true,{L with at_:=aL L.at_ z s})
def GU (w:World) (K:Kp) (p:aO) (lb A cap:Nat) (j_ jA:Value) (L:jS) (z:Nat) (s:kE) (e:Ending) (w':World):Prop:=
 e= .returned (.bool (rY L z s).1)/\(∃W,Below w.heap.size w W/\ax [A] W w')/\qx w' K p lb (.slice (some (π A 0)) p.code.length cap) j_ jA (rY L z s).2
theorem xM (hl:qx w K p lb (.slice (some (π A 0)) p.code.length cap) j_ jA L) {z:Nat} (hz:z < p.code.length) {s:kE} (hs:eI s.ty) (ht:eI (L.at_ z).ty):
 Calls Tryz.prog 296 #[ρ lb,ι z,mQ s] w (GU w K p lb A cap j_ jA L z s):=by
 have hq:=eqS (L.at_ z) s ht hs;have v6:w.cell? (π lb 6)=some (.slice (some (π A 0)) p.code.length cap):=hl.c_.cell 6;have ll:=hl.c_.lt;obtain ⟨b,mI,e,h1,h2,h3,c0,c1,c2,c3⟩:=hl.RD hz;simp only [Value.slice.injEq,Option.some.injEq,Addr.mk.injEq] at e;obtain ⟨⟨rfl,-,-⟩,-,rfl⟩:=e;have HL:=ae hl;have HZ:=ae hz;have HB:=ae (fun cs T=>(Below.refl w.heap.size w).alloc (Nat.le_refl _) (.cells cs T));have tM:∀o,w.frozen? (π A o)=false:=fun o=>hl.at_.frozen o;cases hg:(L.at_ z).jI with
 |true=>rw [hg] at c3;have HG:=ae (show rY L z s=(decide (L.at_ z=s),L) by unfold rY;rw [hg];rfl);unfold mQ at hq ⊢;obtain ⟨dd,wm⟩:∃d,decide (L.at_ z=s)=d:=⟨_,rfl⟩;rw [wm] at hq HG;rw [hg] at hq;clear hg hl wm tM;generalize fk (L.at_ z).ty=t1 at*;generalize (L.at_ z).loop=l1 at*;generalize (L.at_ z).hand=h1' at*;generalize fk s.ty=t2 at*;generalize s.loop=l2 at*;generalize s.hand=h2' at*;generalize s.jI=g2 at*;go_enter Tryz.func296,Tryz.ntmps296;go_wp2_with fail;go_quiet (fail);go_wp2_with fail;go_ret;exact ⟨by rw [HG.o];rfl,⟨_,(HB.o _ _).trans (au _ _ _),ax.refl _ _⟩,by rw [HG.o];exact (HL.o.aB ((ax.refl [] w).alloc _)).aB (ax.ah (au _ _ _))⟩
 |false=>
  rw [hg] at c3;have HG:=ae (show rY L z s=(true,{L with at_:=aL L.at_ z s}) by unfold rY;rw [hg];rfl);have IS:=ae (fun (V:World) (hb:Below w.heap.size w V)=>qx.put (hl.aB (ax.ah hb)) hz s rfl);have eN:=HB.o #[.string (fk s.ty),ι s.loop,ι s.hand,.bool s.jI] 262;have kx:ay (w.alloc (.cells #[.string (fk s.ty),ι s.loop,ι s.hand,.bool s.jI] 262)) w.heap.size 262 #[.string (fk s.ty),ι s.loop,ι s.hand,.bool s.jI]:=ay.new _ _ _;clear hg hl hq;unfold mQ;generalize fk (L.at_ z).ty=t1 at*;generalize (L.at_ z).loop=l1 at*;generalize (L.at_ z).hand=h1' at*;generalize fk s.ty=t2 at*;generalize s.loop=l2 at*;generalize s.hand=h2' at*;generalize s.jI=g2 at*;go_enter Tryz.func296,Tryz.ntmps296;go_wp2_with fail;obtain ⟨W1,Ak⟩:∃W1,W1=w.alloc (.cells #[.string t2,ι l2,ι h2',.bool g2] 262):=⟨_,rfl⟩;rw [<-Ak] at eN kx ⊢;have key:∀b o v,w.cell? (π b o)=some v->W1.cell? (π b o)=some v:=fun b o v h=>(World.cell?_of_block (eN.block _ (aS h))).trans h;replace c0:=key _ _ _ c0;replace c1:=key _ _ _ c1;replace c2:=key _ _ _ c2;replace c3:=key _ _ _ c3;replace v6:=key _ _ _ v6;obtain ⟨d0,d1,d2,d3⟩:=kx.c4;have dC:=ae eN;clear Ak kx key eN tM;generalize eO:w.heap.size=bx at*;have jg:=ae eO;clear eO
  go_still_tail 7,(by kernel_rfl)
  change wpList _ _ _ _ _ (W1.drewN 1);have dn:=dC.o.trans (au _ W1 1);have tM:∀o,(W1.drewN 1).frozen? (π A o)=false:=fun o=>(World.frozen?_of_block (dn.block _ h3)).trans (HL.o.at_.frozen o);have HP:=ae (IS.o (W1.drewN 1) dn);have fg:=ae dn;have o0:(W1.drewN 1).cell? (π A (z*4))=some (.string t1):=c0;have o1:(W1.drewN 1).cell? (π A (z*4+1))=some (ι l1):=c1;have o2:(W1.drewN 1).cell? (π A (z*4+2))=some (ι h1'):=c2;have o3:(W1.drewN 1).cell? (π A (z*4+3))=some (.bool false):=c3;clear dn c0 c1 c2 c3 d0 d1 d2 d3 v6;generalize W1.drewN 1=V0 at*;go_wp2_with fail;go_ret;exact ⟨by rw [HG.o];rfl,⟨V0,by rw [jg.o];exact fg.o,HP.o.2⟩,by rw [HG.o];exact HP.o.1⟩
end
end Go.Proofs.YtblkblclmbhjiaaGreat.Rv
