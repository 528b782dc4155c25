import Derived.Test.YtblkblclmbhjiaaGreatM10
import Derived.Shelf.Bits.Mul64
import Derived.Deep.Onto
import Derived.ArgAppend
set_option linter.unusedVariables false
set_option linter.unusedSimpArgs false
set_option maxHeartbeats 40000000
set_option maxRecDepth 100000
open Go.Proofs.Tryz
abbrev agd:=@List.getElem_of_mem
abbrev agn:=@Array.getD_eq_getD_getElem?
abbrev ago:=@Array.getElem?_eq_getElem
theorem agp {p:Prop} (h:p:=by
 go_wp2_with fail;go_ret;exact ⟨by rw [HF.o];rfl,HB.o⟩):p:=h
namespace ak.Vm
open Go Go.RowKit ak
theorem bJ {P:Program} {w:World} {ops:Array Oper} {o:Oper} {a:Act} {K:Act->World->Prop} {Q:Exit->Act->World->Prop} {E:Prop}
 (hg:o.guard=none) (l c:Operand) (t:TypeId) (cW:o.op=Op.makeSlice t l c)
 (e:TypeId) {size bytes:Nat} {z:Value} (h1:P.underlying t=some (.slice e)) (hi:(P.info? e).map (fun i=>(i.zero,i.size,i.bytes))=some (some z,size,bytes)) (hz:z.cells.size=size) (hs:0 < size)
 (kl kc:IntKind) (L C:Int) (n:Nat) (hl:a.eval l= .int kl L) (hc:a.eval c= .int kc C) (hL:L=(n:Int)) (hC:C=(n:Int)) (b2:bytes*n<=281474976710656) (b3:n<=maxLen)
 (hK:∀w',Row w' e size (.slice (some (π w.heap.size 0)) n n) n (fun o=>z.cells.getD (o % size) undef)->Below w.heap.size w w'->K (a.put o.dst (.slice (some (π w.heap.size 0)) n n)) w'):
 if Region.wanted o (yielded ops a.tmps)=true then Oper.wp P o a w K Q else E:=by
 have hw:Region.wanted o (yielded ops a.tmps)=true:=by simp [Region.wanted,hg]
 rw [if_pos hw];obtain ⟨i,NT,AH,NU,NV⟩:=info_parts hi;obtain ⟨w',uh,r1,r2⟩:=run_make_full (P:=P) w 0 t e i z size h1 NT AH NU kl kc n (by rw [NV];exact b2) b3 (afO _);have hK2:=hK w' (by
  unfold Row;have:(madeCells z.cells (n*size)).toList=eE (n*size) (fun o=>z.cells.getD (o % size) undef):=by
   unfold madeCells eE;rw [hz];simp only [Array.toList_map,Array.toList_range];refine List.map_congr_left fun i _=>?_;have a8:i % size < z.cells.size:=by rw [hz];exact Nat.mod_lt _ hs
   simp [Array.getD,a8]
  rw [<-this];exact r1) ((eJ r2).below (Nat.le_refl _) smm)
 subst hL;subst hC;unfold Oper.wp;simp [execOp,cW,hl,hc,uh,Result.andThen];exact hK2
end ak.Vm
namespace Go.Proofs.YtblkblclmbhjiaaGreat.Vf
open Go.RowKit ak.Vm
open ak hiding aL an aj
open Ma (dx bQ aU vb)
theorem qQ (w:World) (n lo hi:Int):Calls prog 241 #[ι n,ι lo,ι hi] w (fun e w'=>e= .returned (.bool (aF n lo hi))/\w'=w):=by
 by_cases h1:lo<=n
 ·by_cases h2:n<=hi
  ·go_enter func241,ntmps241;go_wp2_with fail;go_ret;simp [aF,h1,h2]
  ·go_enter func241,ntmps241;go_wp2_with fail;go_ret;simp [aF,h1,h2]
 ·go_enter func241,ntmps241;go_wp2_with fail;go_ret;simp [aF,h1];omega
def EG:List (List Nat):=[[101,110,100],[110,117,109],[98,111,111,108],[118,97,114],[108,101,110],[99,97,112],[115,105,122,101],[116,111,116,97,108],[97,116],[116,97,103,120],[116,97,103,101,110,100],[109,105,110],[109,97,120],[110,101,103],[110,111,116],[109,117,108],[100,105,118],[97,100,100],[115,117,98],[101,113],[108,116],[108,101],[106,117,109,112],[101,108,115,101],[108,111,111,112],[116,117,114,110],[113,117,105,116],[97,103,97,105,110],[115,101,116],[109,97,114,107,120],[109,97,114,107,101,110,100],[105,110,115,101,114,116],[109,111,118,101],[102,111,114,103,101,116],[116,97,107,101],[103,105,118,101],[116,101,108,108],[108,111,111,115,101],[115,104,105,102,116],[115,112,105,108,108],[101,118,105,99,116],[100,114,111,112]]
def bytesOf (l:List Nat):ByteArray:=⟨(l.map UInt8.ofNat).toArray⟩
def mr (k:Nat):Nat:=[0,113,118,116,101,110,98,114,112].getD k 0
def mO (op:Nat):ByteArray:=bytesOf ((bY op).map mr)
def nI (j:Nat):Value:=if j % 2=0 then .string (bytesOf (EG.getD (j / 2) [])) else .string (mO (j / 2))
def iG:Array Value:=((List.range 84).map nI).toArray
theorem rO:iG.size=84:=by simp [iG]
theorem v_ {j:Nat} (h:j < 84):iG[j]? =some (nI j):=by simp [iG,h]
theorem tN:∀v∈iG.toList,v.oneCell'=true:=by intro v hv;simp only [iG,List.toList_toArray,List.mem_map] at hv;obtain ⟨j,-,rfl⟩:=hv;unfold nI;split<;>rfl
theorem ZJ (w:World) (op:Nat) (h2:op < 42):Calls prog 239 #[ι op] w (fun e w'=>(∃nm,e= .returned (.tuple #[.agg #[.string nm,.string (mO op)],.bool true]))/\Below w.heap.size w w'):=by
 go_enter func239,ntmps239;have e1:((op:Int) < 0)=False:=by simp
 have e2:((42:Int)<=op)=False:=by simp;omega
 have hT:(prog.info? 314).map (fun i=>i.size)=some iG.size:=by kernel_rfl
 go_wp2_with (first|refine nH rfl 314 _ rfl _ iG rfl (by as_aux_lemma=>kernel_rfl) ?_|refine fM rfl 314 _ _ rfl (w.heap.size+1) iG rfl rfl (ay.a_ smm) (by rw [rO];rfl) hT tN ?_);intro w' hb hf;have hB:Below w.heap.size w w':=(((afL _ w).alloc (afF _) _).alloc smm _).trans (hf.below (by simp only [aE];omega) smm);have c1:w'.cell? (π (w.heap.size+1) (op*2))=some (.string (bytesOf (EG.getD op []))):=by rw [hb.cell,v_ omm];unfold nI;rw [afE omm,show op*2 / 2=op by omega]
 generalize bytesOf (EG.getD op [])=nm at c1;have c2:w'.cell? (π (w.heap.size+1) (op*2+1))=some (.string (mO op)):=by rw [hb.cell,v_ omm];unfold nI;rw [abH omm,show (op*2+1) / 2=op by omega]
 have dn:ay w' w.heap.size 266 #[.string ⟨#[]⟩,.string ⟨#[]⟩]:=((ay.new w _ _).alloc _).aB hf smm;obtain ⟨d1,d2⟩:=dn.c2;have fz:=dn.frozen;have HB:=ae hB;have fg:=ae dn;clear hb hf hB hT dn;go_wp2_with fail;have b9:=(fg.o.set 0 (.string nm)).set 1 (.string (mO op));have Tw:=(HB.o.setCell (p:=(π w.heap.size 0)) (afF _) (.string nm)).setCell (p:=(π w.heap.size 1)) (afF _) (.string (mO op));generalize (w'.setCell (π w.heap.size 0) (.string nm)).setCell (π w.heap.size 1) (.string (mO op))=W9 at*;obtain ⟨i0,i1⟩:=b9.c2;refine afI (v:= .tuple #[.agg #[.string nm,.string (mO op)],.bool true]) ?_ rfl ⟨⟨_,rfl⟩,Tw⟩;simp [results,results239,go_sem,i0,i1]
theorem adB {p:Prop} (h:p:=by
 go_wp2_with fail;have b9:=(fg.o.set 0 (.string ⟨#[]⟩)).set 1 (.string ⟨#[]⟩);have Tw:=(HB.o.setCell (p:=(π w.heap.size 0)) (afF _) (.string ⟨#[]⟩)).setCell (p:=(π w.heap.size 1)) (afF _) (.string ⟨#[]⟩);generalize (w'.setCell (π w.heap.size 0) (.string ⟨#[]⟩)).setCell (π w.heap.size 1) (.string ⟨#[]⟩)=W9 at*;obtain ⟨i0,i1⟩:=b9.c2;refine afI (v:= .tuple #[.agg #[.string ⟨#[]⟩,.string ⟨#[]⟩],.bool false]) ?_ rfl ⟨rfl,Tw⟩;simp [results,results239,go_sem,i0,i1]):p:=h
theorem zX (w:World) (op:Int) (h2:op < 0\/42<=op):Calls prog 239 #[ι op] w (fun e w'=>e= .returned (.tuple #[.agg #[.string ⟨#[]⟩,.string ⟨#[]⟩],.bool false])/\Below w.heap.size w w'):=by
 go_enter func239,ntmps239;have hT:(prog.info? 314).map (fun i=>i.size)=some iG.size:=by kernel_rfl
 go_wp2_with (first|refine nH rfl 314 _ rfl _ iG rfl (by as_aux_lemma=>kernel_rfl) ?_|refine fM rfl 314 _ _ rfl (w.heap.size+1) iG rfl rfl (ay.a_ smm) (by rw [rO];rfl) hT tN ?_);intro w' hb hf;have hB:Below w.heap.size w w':=(((afL _ w).alloc (afF _) _).alloc smm _).trans (hf.below (by simp only [aE];omega) smm);have dn:ay w' w.heap.size 266 #[.string ⟨#[]⟩,.string ⟨#[]⟩]:=((ay.new w _ _).alloc _).aB hf smm;obtain ⟨d1,d2⟩:=dn.c2;have fz:=dn.frozen;have HB:=ae hB;have fg:=ae dn;clear hb hf hB hT dn;rcases h2 with h2|h2
 ·exact adB
 ·by_cases h3:op < 0
  ·omega
  exact adB
structure KpS (K:Kp) (p:aO):Prop where
 g:∃a c,K.g= .slice a p.ap.length c/\p.ap.length<=c/\c<=maxLen
 v:∃a c,K.v= .slice a p.vars.length c/\p.vars.length<=c/\c<=maxLen
 t:∃a c,K.t= .slice a p.aW.length c/\p.aW.length<=c/\c<=maxLen
 o:∃a c,K.o= .slice a p.on.length c/\p.on.length<=c/\c<=maxLen
 c:∃a c,K.c= .slice a p.code.length c/\p.code.length<=c/\c<=maxLen
theorem fP.sl {w:World} {K:Kp} {p:aO} (h:fP w K p):KpS K p:=⟨h.g.val,h.v.val,h.t.val,h.o.val,h.cd.val⟩
theorem pg (n c:Nat) (h:n<=c) (hc:c<=maxLen):IntKind.i64.wrap ((n:Int) - 1)=(n:Int) - 1:=afU _ (by unfold maxLen at hc;constructor<;>omega)
theorem ab1 {p:Prop} (h:p:=by
 go_enter func240,ntmps240;simp only [mr,List.getD_cons_zero,List.getD_cons_succ];exact acD):p:=h
theorem ab0 {p:Prop} (h:p:=by
 go_enter func240,ntmps240;simp only [mr,List.getD_cons_zero,List.getD_cons_succ];go_wp2_with fail;go_quiet (fail);exact acD):p:=h
theorem acD {p:Prop} (h:p:=by
 go_wp2_with fail;go_ret2
 first|exact ⟨by simp [dM,dN],hB _ _⟩|exact ⟨by simp [dM,dN],(hB _ _).trans (au _ _ _)⟩):p:=h
theorem LU (w:World) {K:Kp} {p:aO} (h:KpS K p) (k:Nat) (hk:1<=k/\k<=8):Calls prog 240 #[pV K p,.int .u8 (mr k)] w (fun e w'=>e= .returned (.tuple #[ι (dM k),ι (dN p k)])/\Below w.heap.size w w'):=by
 obtain ⟨⟨ga,gc,g1,g2,g3⟩,⟨va,vc,v1,v2,v3⟩,⟨ta,tc,t1,t2,t3⟩,⟨oa,oc,o1,o2,o3⟩,⟨ca,cc,c1,c2,c3⟩⟩:=h;unfold pV;rw [g1,v1,t1,o1,c1];have w1:=pg _ _ g2 g3;have w2:=pg _ _ v2 v3;have w3:=pg _ _ t2 t3;have w4:=pg _ _ c2 c3;clear g1 g2 g3 v1 v2 v3 t1 t2 t3 o1 o2 o3 c1 c2 c3;have e:k=1\/k=2\/k=3\/k=4\/k=5\/k=6\/k=7\/k=8:=omm;have hB:=ag6 w;rcases e with rfl|rfl|rfl|rfl|rfl|rfl|rfl|rfl
 ·exact ab0
 ·exact ab0
 ·exact ab0
 ·exact ab1
 ·exact ab1
 ·exact ab1
 ·exact ab1
 ·exact ab0
section
variable {w:World} {K:Kp} {p:aO}
theorem fP.vr (h:fP w K p) {i:Nat} (hi:i < p.vars.length):∃b off cap,K.v= .slice (some (π b off)) p.vars.length cap/\p.vars.length<=cap/\cap<=maxLen/\b < w.heap.size/\
 w.cell? (π b (off+i*3))=some (ι (p.vars.getD i ⟨0,0,0⟩).init)/\w.cell? (π b (off+i*3+1))=some (ι (p.vars.getD i ⟨0,0,0⟩).lo)/\w.cell? (π b (off+i*3+2))=some (ι (p.vars.getD i ⟨0,0,0⟩).hi):=by
 obtain ⟨b,off,cap,hv,h1,h2,hb,hc⟩:=h.v.some omm omm;have key:∀k,k < 3->w.cell? (π b (off+i*3+k))=some (dx p (i*3+k)):=fun k hk=>by rw [Nat.add_assoc];exact hc (i*3+k) omm
 have hd:∀k,k < 3->(i*3+k) / 3=i:=fun k hk=>omm;have hm:∀k,k < 3->(i*3+k) % 3=k:=fun k hk=>omm;refine ⟨b,off,cap,hv,h1,h2,hb,(key 0 omm).trans ?_,(key 1 omm).trans ?_,(key 2 omm).trans ?_⟩
 ·unfold dx;dsimp only;rw [hd 0 omm,hm 0 omm];rfl
 ·unfold dx;dsimp only;rw [hd 1 omm,hm 1 omm];rfl
 ·unfold dx;dsimp only;rw [hd 2 omm,hm 2 omm];rfl
theorem all_false {α:Type} {l:List α} {f:α->Bool} {i:Nat} {d:α} (hi:i < l.length) (h:f (l.getD i d)=false):l.all f=false:=by rw [List.all_eq_false];refine ⟨l[i],af6 hi,?_⟩;rw [afS,afP hi] at h;simpa using h
theorem all_true {α:Type} {l:List α} {f:α->Bool} {d:α} (h:∀i,i < l.length->f (l.getD i d)=true):l.all f=true:=by rw [agb];intro x hx;obtain ⟨i,hi,rfl⟩:=agd hx;have:=h i hi;rw [afS,afP hi] at this;simpa using this
def FrV (w:World) (v:Value) (n i:Nat) (a:Act):Prop:=∃J:Nat->Value,a={tmps:=#[J 0,ρ w.heap.size,J 2,J 3,J 4,J 5,J 6,J 7,J 8,J 9,J 10,J 11,J 12,J 13,J 14,J 15,J 16,J 17,J 18,J 19,J 20,J 21,J 22,J 23,J 24,J 25,J 26,J 27,J 28,J 29,J 30,J 31,J 32,J 33,J 34,J 35,J 36,J 37,J 38,J 39,J 40,v,ι n,ι i,J 44,J 45,J 46,J 47,J 48,J 49,J 50,J 51,J 52,J 53,J 54,J 55,J 56,J 57,J 58,J 59,J 60,J 61,J 62,J 63,J 64,J 65,J 66,J 67,J 68,J 69,J 70,J 71,J 72,J 73,J 74,J 75,J 76,J 77,J 78,J 79,J 80,J 81,J 82,J 83,J 84,J 85,J 86,J 87,J 88,J 89,J 90,J 91,J 92,J 93,J 94,J 95,J 96,J 97,J 98,J 99,J 100,J 101,J 102],defers:=[]}
def FrT (w:World) (v:Value) (n i:Nat) (a:Act):Prop:=∃J:Nat->Value,a={tmps:=#[J 0,ρ w.heap.size,J 2,J 3,J 4,J 5,J 6,J 7,J 8,J 9,J 10,J 11,J 12,J 13,J 14,J 15,J 16,J 17,J 18,J 19,J 20,J 21,J 22,J 23,J 24,J 25,J 26,J 27,J 28,J 29,J 30,J 31,J 32,J 33,J 34,J 35,J 36,J 37,J 38,J 39,J 40,J 41,J 42,J 43,J 44,J 45,J 46,J 47,J 48,J 49,J 50,J 51,J 52,J 53,J 54,J 55,J 56,J 57,J 58,J 59,J 60,J 61,J 62,J 63,J 64,J 65,J 66,J 67,J 68,J 69,J 70,v,ι n,ι i,J 74,J 75,J 76,J 77,J 78,J 79,J 80,J 81,J 82,J 83,J 84,J 85,J 86,J 87,J 88,J 89,J 90,J 91,J 92,J 93,J 94,J 95,J 96,J 97,J 98,J 99,J 100,J 101,J 102],defers:=[]}
def FrO (w:World) (v:Value) (n i:Nat) (a:Act):Prop:=∃J:Nat->Value,a={tmps:=#[J 0,ρ w.heap.size,J 2,J 3,J 4,J 5,J 6,J 7,J 8,J 9,J 10,J 11,J 12,J 13,J 14,J 15,J 16,J 17,J 18,J 19,J 20,J 21,J 22,J 23,J 24,J 25,J 26,J 27,J 28,J 29,J 30,J 31,J 32,J 33,J 34,J 35,J 36,J 37,J 38,J 39,J 40,J 41,J 42,J 43,J 44,J 45,J 46,J 47,J 48,J 49,J 50,J 51,J 52,J 53,J 54,J 55,J 56,J 57,J 58,J 59,J 60,J 61,J 62,J 63,J 64,J 65,J 66,J 67,J 68,J 69,J 70,J 71,J 72,J 73,J 74,J 75,J 76,J 77,J 78,J 79,J 80,J 81,v,ι n,ι i,J 85,J 86,J 87,J 88,J 89,J 90,J 91,J 92,J 93,J 94,J 95,J 96,J 97,J 98,J 99,J 100,J 101,J 102],defers:=[]}
def gN (K:Kp) (p:aO):Array Value:=#[K.g,K.v,K.t,K.o,ι p.aJ,K.c]
def LV (w:World) (K:Kp) (p:aO) (v:Value) (m:Nat) (a:Act) (W:World):Prop:=
 ∃i,i<=p.vars.length/\m+i=p.vars.length+1/\FrV w v p.vars.length i a/\Below w.heap.size w W/\ay W w.heap.size 27 (gN K p)/\∀j,j < i->me (p.vars.getD j ⟨0,0,0⟩)=true
def LW (w:World) (K:Kp) (p:aO) (v:Value) (m:Nat) (a:Act) (W:World):Prop:=
 ∃i,i<=p.aW.length/\m+i=p.aW.length+1/\FrT w v p.aW.length i a/\Below w.heap.size w W/\ay W w.heap.size 27 (gN K p)/\∀j,j < i->aF (p.aW.getD j 0) 1 255=true
def XY (w:World) (K:Kp) (p:aO) (v:Value) (m:Nat) (a:Act) (W:World):Prop:=
 ∃i,i<=p.ap.length/\m+i=p.ap.length+1/\FrO w v p.ap.length i a/\Below w.heap.size w W/\ay W w.heap.size 27 (gN K p)/\∀j,j < i->aF (p.on.getD j 0) (-1) ((p.code.length:Int) - 1)=true
theorem ab2 {p:Prop} (h:p:=by
 go_wp2_with fail;go_ret;exact ⟨by rw [HF.o];rfl,wO.o.alloc wO.o.size _⟩):p:=h
theorem ab8 {p:Prop} (h:p:=by
 go_wp2_with fail;refine nU.o.mono ?_;rintro e w' ⟨rfl,rfl⟩;go_wp2_with fail;go_ret;exact ⟨by rw [HF.o];rfl,wO.o⟩):p:=h
theorem LX (w:World) {K:Kp} {p:aO} (h:fP w K p):Calls prog 238 #[pV K p] w (fun e w'=>e= .returned (.bool (bS p))/\Below w.heap.size w w'):=by
 obtain ⟨⟨ga,gc,g1,g2,g3⟩,⟨va,vc,v1,v2,v3⟩,⟨ta,tc,t1,t2,t3⟩,⟨oa,oc,o1,o2,o3⟩,⟨ca,cc,c1,c2,c3⟩⟩:=h.sl;have hB:=ag6 w;have HW:=ae (pg _ _ c2 c3);have H:=ae h;have PC:ay (w.alloc (.cells (gN K p) 27)) w.heap.size 27 (gN K p):=ay.new w _ _;obtain ⟨kg,kv,kt,ko,kc⟩:=K;dsimp only at g1 v1 t1 o1 c1;subst g1 v1 t1 o1 c1;unfold pV;unfold gN at PC;have kW:=ae PC;have m3:=ae v3;have m4:=ae t3;have m5:=ae o3;clear h g2 g3 v2 v3 t2 t3 o2 o3 c2 c3 PC;by_cases h1:p.ap.length<=16
 case neg=>go_enter func238,ntmps238;go_wp2_with fail;go_ret;exact ⟨by simp [bS,h1],hB _ _⟩
 by_cases h2:p.vars.length<=16
 case neg=>go_enter func238,ntmps238;go_wp2_with fail;go_ret;exact ⟨by simp [bS,h2],hB _ _⟩
 by_cases h3:p.aW.length<=4
 case neg=>go_enter func238,ntmps238;go_wp2_with fail;go_ret;exact ⟨by simp [bS,h3],hB _ _⟩
 by_cases h4:p.on.length=p.ap.length
 case neg=>go_enter func238,ntmps238;go_wp2_with fail;go_ret;exact ⟨by simp [bS,h4],hB _ _⟩
 by_cases h5:p.code.length<=262144
 case neg=>go_enter func238,ntmps238;go_wp2_with fail;go_ret;exact ⟨by simp [bS,h5],hB _ _⟩
 go_enter func238,ntmps238;go_wp2_with fail;simp only [h4] at H kW;refine Mk.aP (LV w ⟨.slice ga p.ap.length gc,.slice va p.vars.length vc,.slice ta p.aW.length tc,.slice oa p.ap.length oc,.slice ca p.code.length cc⟩ p (.slice va p.vars.length vc)) (p.vars.length+1) ?start ?zero ?round
 case start=>exact ⟨0,afO _,omm,pC rfl,hB _ _,kW.o,fun j hj=>absurd hj omm⟩
 case zero=>exact fun a W hh=>by obtain ⟨q,h1,h2,_⟩:=hh;omega
 clear kW
 case round=>
  rintro m a W ⟨i,hi,hm,⟨J,rfl⟩,hb,hk,fF⟩;have HA:=ae fF;by_cases a8:i < p.vars.length
  ·obtain ⟨b,off,cap,hv,q1,q2,sr,c0,c1,c2⟩:=(H.o.aB (da.ah hb)).vr a8;simp only [afH] at hv;obtain ⟨rfl,-,rfl⟩:=hv;have fin:∀r,me (p.vars.getD i ⟨0,0,0⟩)=r->(r=false->bS p=false):=fun r e hr=>by subst hr;have:=all_false a8 e;simp [bS,this]
   generalize hx:p.vars.getD i ⟨0,0,0⟩=x at*;have HX:=ae hx;have wO:=ae hb;have HK:=ae hk;have q1':=ae q1;clear fF hx hk q1 q2;have JC:me x=(decide (x.lo<=x.init)&&decide (x.init<=x.hi)&&decide (-1073741824<=x.lo)&&decide (x.hi<=1073741824)):=rfl;by_cases k1:x.lo<=x.init
   case neg=>have HF:=ae (fin false (by simp [JC,k1]) rfl);clear fin JC;exact ab2
   by_cases k2:x.init<=x.hi
   case neg=>have HF:=ae (fin false (by simp [JC,k2]) rfl);clear fin JC;exact ab2
   by_cases k3: -1073741824<=x.lo
   case neg=>have HF:=ae (fin false (by simp [JC,k3]) rfl);clear fin JC;exact ab2
   by_cases k4:x.hi<=1073741824
   case neg=>have HF:=ae (fin false (by simp [JC,k4]) rfl);clear fin JC;exact ab2
   go_wp2_with fail;refine ⟨i+1,omm,omm,pC rfl,wO.o.alloc wO.o.size _,HK.o.alloc _,fun j hj=>?_⟩;by_cases e:j=i
   ·subst e;rw [HX.o,JC];simp [k1,k2,k3,k4]
   ·exact HA.o j omm
  ·obtain rfl:i=p.vars.length:=omm;have x2:W.cell? (π w.heap.size 2)=some (.slice ta p.aW.length tc):=hk.cell 2;have lx:=hk.lt;have wO:=ae hb;have HK:=ae hk;have Lj:=ae (all_true HA.o);clear fF hk hb;go_wp2_with fail;refine Mk.aP (LW w ⟨.slice ga p.ap.length gc,.slice va p.vars.length vc,.slice ta p.aW.length tc,.slice oa p.ap.length oc,.slice ca p.code.length cc⟩ p (.slice ta p.aW.length tc)) (p.aW.length+1) ?wa ?Cg ?wb
   case wa=>exact ⟨0,afO _,omm,pC rfl,wO.o,HK.o,fun j hj=>absurd hj omm⟩
   case Cg=>exact fun a W hh=>by obtain ⟨q,h1,h2,_⟩:=hh;omega
   clear HK wO x2 lx
   case wb=>
    rintro m2 a2 W2 ⟨i,AH,qV,⟨J2,rfl⟩,hb,hk,fF⟩;have VF:=ae fF;have wO:=ae hb;have HK:=ae hk;by_cases qP:i < p.aW.length
    ·obtain ⟨b,off,cap,hv,q1,q2,sr,hc⟩:=(H.o.aB (da.ah hb)).t.some omm omm;simp only [afH] at hv;obtain ⟨rfl,-,rfl⟩:=hv;have c0:W2.cell? (π b (off+i))=some (ι (p.aW.getD i 0)):=hc i omm;generalize hx:p.aW.getD i 0=x at*;have HX:=ae hx;clear hc q1 q2 hb hk fF hx;cases hf:aF x 1 255 with
     |false=>
      have HF:=ae (show bS p=false by
       have:=all_false (f:=fun t=>aF t 1 255) qP (by rw [HX.o];exact hf);simp [bS,this])
      have nU:=ae (show Calls prog 241 #[ι x,ι 1,ι 255] W2 _ from hf▸qQ W2 x 1 255);clear hf;exact ab8
     |true=>
      have nU:=ae (show Calls prog 241 #[ι x,ι 1,ι 255] W2 _ from hf▸qQ W2 x 1 255);have lN:=ae hf;clear hf;go_wp2_with fail;refine nU.o.mono ?_;rintro e w' ⟨rfl,rfl⟩;go_wp2_with fail;refine ⟨i+1,omm,omm,pC rfl,wO.o,HK.o,fun j hj=>?_⟩;by_cases e:j=i
      ·subst e;rw [HX.o];exact lN.o
      ·exact VF.o j omm
    ·obtain rfl:i=p.aW.length:=omm;have HTS:=ae (all_true (f:=fun t=>aF t 1 255) VF.o);have x3:W2.cell? (π w.heap.size 3)=some (.slice oa p.ap.length oc):=hk.cell 3;have lx:=hk.lt;clear hb hk fF;go_wp2_with fail;refine Mk.aP (XY w ⟨.slice ga p.ap.length gc,.slice va p.vars.length vc,.slice ta p.aW.length tc,.slice oa p.ap.length oc,.slice ca p.code.length cc⟩ p (.slice oa p.ap.length oc)) (p.ap.length+1) ?Tx ?XZ ?Ty
     case Tx=>exact ⟨0,afO _,omm,pC rfl,wO.o,HK.o,fun j hj=>absurd hj omm⟩
     case XZ=>exact fun a W hh=>by obtain ⟨q,h1,h2,_⟩:=hh;omega
     clear HK wO x3 lx
     case Ty=>
      rintro m3 a3 W3 ⟨i,NU,hm3,⟨J3,rfl⟩,hb,hk,fF⟩;have zy:=ae fF;have wO:=ae hb;have HK:=ae hk;have y5:W3.cell? (π w.heap.size 5)=some (.slice ca p.code.length cc):=hk.cell 5;have y4:W3.cell? (π w.heap.size 4)=some (ι p.aJ):=hk.cell 4;have lx:=hk.lt;have hws:=HW.o;by_cases aa8:i < p.ap.length
      ·obtain ⟨b,off,cap,hv,q1,q2,sr,hc⟩:=(H.o.aB (da.ah hb)).o.some omm omm;simp only [afH] at hv;obtain ⟨rfl,-,rfl⟩:=hv;have c0:W3.cell? (π b (off+i))=some (ι (p.on.getD i 0)):=hc i omm;generalize hx:p.on.getD i 0=x at*;have HX:=ae hx;clear hc q1 q2 hb hk fF hx y4;cases hf:aF x (-1) ((p.code.length:Int) - 1) with
       |false=>
        have HF:=ae (show bS p=false by
         have:=all_false (f:=fun n=>aF n (-1) ((p.code.length:Int) - 1)) (l:=p.on) (i:=i) omm (by rw [HX.o];exact hf);simp [bS,this])
        have nU:=ae (show Calls prog 241 #[ι x,ι (-1),ι ((p.code.length:Int) - 1)] W3 _ from hf▸qQ W3 x (-1) ((p.code.length:Int) - 1));clear hf;exact ab8
       |true=>
        have nU:=ae (show Calls prog 241 #[ι x,ι (-1),ι ((p.code.length:Int) - 1)] W3 _ from hf▸qQ W3 x (-1) ((p.code.length:Int) - 1));have lN:=ae hf;clear hf;go_wp2_with fail;refine nU.o.mono ?_;rintro e w' ⟨rfl,rfl⟩;go_wp2_with fail;refine ⟨i+1,omm,omm,pC rfl,wO.o,HK.o,fun j hj=>?_⟩;by_cases e:j=i
        ·subst e;rw [HX.o];exact lN.o
        ·exact zy.o j omm
      ·obtain rfl:i=p.ap.length:=omm;have HOS:=ae (all_true (f:=fun n=>aF n (-1) ((p.code.length:Int) - 1)) (l:=p.on) (d:=0) (fun i hi=>zy.o i omm));have nU:=ae (qQ W3 p.aJ (-1) ((p.code.length:Int) - 1));have HF:=ae (show bS p=aF p.aJ (-1) ((p.code.length:Int) - 1) by
        unfold bS;rw [Lj.o,HTS.o,HOS.o];simp [h1,h2,h3,h4,h5])
       clear hb hk fF;exact ab8
def FrC (w:World) (v:Value) (n i:Nat) (a:Act):Prop:=∃J:Nat->Value,a={tmps:=#[J 0,ρ w.heap.size,J 2,J 3,J 4,J 5,J 6,J 7,J 8,J 9,J 10,J 11,J 12,J 13,J 14,v,ι n,ι i,J 18,J 19,J 20,J 21,J 22,J 23,J 24,J 25,J 26,J 27,J 28,J 29,J 30,J 31,J 32,J 33,J 34,J 35,J 36,J 37,J 38,J 39,J 40,J 41,J 42,J 43,J 44,J 45,J 46,J 47,J 48,J 49,J 50,J 51,J 52,J 53,J 54,J 55,J 56,J 57,J 58,J 59,J 60,J 61,J 62,J 63,J 64],defers:=[]}
def FrD (w:World) (v:Value) (n i ib sb j:Nat) (a:Act):Prop:=∃J:Nat->Value,a={tmps:=#[J 0,ρ w.heap.size,J 2,J 3,ρ ib,ρ sb,J 6,J 7,J 8,J 9,J 10,J 11,J 12,J 13,J 14,v,ι n,ι i,J 18,J 19,J 20,J 21,J 22,J 23,J 24,J 25,J 26,J 27,J 28,J 29,J 30,J 31,J 32,J 33,J 34,J 35,J 36,.slice (some (π (sb+1) 0)) 4 4,ι 4,ι j,J 40,J 41,J 42,J 43,J 44,J 45,J 46,J 47,J 48,J 49,J 50,J 51,J 52,J 53,J 54,J 55,J 56,J 57,J 58,J 59,J 60,J 61,J 62,J 63,J 64],defers:=[]}
def lP (x:Ins) (j:Nat):Int:=(operands x).getD j 0
def dm (x:Ins) (j:Nat):Nat:=(bY x.op.toNat).getD j 0
theorem rP {p:aO} {x:Ins} (h:∀j,j < 4->aY p (dm x j) (lP x j)=true):gI p x=true:=by unfold gI;have h0:=h 0 omm;have h1:=h 1 omm;have h2:=h 2 omm;have h3:=h 3 omm;simp only [dm,lP,operands,List.getD_cons_zero,List.getD_cons_succ] at h0 h1 h2 h3;rw [h0,h1,h2,h3];rfl
theorem nJ {p:aO} {x:Ins} {j:Nat} (hj:j < 4) (h:aY p (dm x j) (lP x j)=false):gI p x=false:=by unfold gI;have e:j=0\/j=1\/j=2\/j=3:=omm;rcases e with rfl|rfl|rfl|rfl<;>simp only [dm,lP,operands,List.getD_cons_zero,List.getD_cons_succ] at h<;>rw [h]<;>simp
theorem EH:∀op,op < 42->∀j,j < (bY op).length->1<=(bY op).getD j 0/\(bY op).getD j 0<=8:=by decide
theorem yx (op:Nat):(mO op).size=(bY op).length:=by simp [mO,bytesOf,ByteArray.size]
theorem Gt:∀op,op < 42->∀j,j < (bY op).length->((mO op).data.getD j 0).toNat=mr ((bY op).getD j 0):=by decide
theorem LY (w:World) {n j:Nat} (hn:n < 42) (hj:j < (bY n).length):(Instr.index 9 (.string (mO n)) (ι j)).run prog w= .ok (.int .u8 (mr ((bY n).getD j 0))) w:=by
 have hs:=yx n;have hi:0<=(j:Int)/\(j:Int) < ((mO n).size:Int):=omm;have h2:j < (mO n).size:=omm;rw [run_index_string w _ _ _ _ underlying9,dif_pos hi];have h3:=Gt n hn j hj;simp only [Int.toNat_natCast];have h4:(mO n).data.getD j 0=(mO n)[j]:=by simp only [agn];rw [ago (show j < (mO n).data.size from h2)];rfl
 rw [<-h3,h4]
theorem kP {p:aO} {i:Nat} (hi:i < p.code.length):dp p (p.code.drop i)=if iP (ai p i) then (if gI p (ai p i) then dp p (p.code.drop (i+1)) else 92) else 91:=by
 rw [agu hi];show (if _ then _ else _)=_;have e:ai p i=p.code[i]:=by unfold ai;rw [afS,afP hi];rfl
 rw [e]
def X0 (w:World) (K:Kp) (p:aO) (m:Nat) (a:Act) (W:World):Prop:=
 ∃i,i<=p.code.length/\m+i=p.code.length+1/\FrC w K.c p.code.length i a/\Hid (Below w.heap.size w W)/\Hid (ay W w.heap.size 27 (gN K p))/\Hid (dp p p.code=dp p (p.code.drop i))
def ae9 (w:World) (K:Kp) (p:aO) (i ib sb:Nat) (nm:ByteArray) (m:Nat) (a:Act) (W:World):Prop:=
 ∃j,j<=4/\m+j=5/\FrD w K.c p.code.length i ib sb j a/\Hid (Below w.heap.size w W)/\Hid (ay W w.heap.size 27 (gN K p))/\
  Hid (ay W sb 266 #[.string nm,.string (mO (ai p i).op.toNat)])/\Hid (ay W (sb+1) 3 #[ι (ai p i).a,ι (ai p i).b,ι (ai p i).c,ι (ai p i).d])/\Hid (∀j',j' < j->aY p (dm (ai p i) j') (lP (ai p i) j')=true)
theorem zY (w:World) {K:Kp} {p:aO} (h:fP w K p):Calls prog 172 #[pV K p] w (fun e w'=>e= .returned (ι (bo p))/\Below w.heap.size w w'):=by
 obtain ⟨⟨ga,gc,g1,g2,g3⟩,⟨va,vc,v1,v2,v3⟩,⟨ta,tc,t1,t2,t3⟩,⟨oa,oc,o1,o2,o3⟩,⟨ca,cc,c1,c2,c3⟩⟩:=h.sl;have H:=ae h;obtain ⟨kg,kv,kt,ko,kc⟩:=K;dsimp only at g1 v1 t1 o1 c1;subst g1 v1 t1 o1 c1;have dQ:Below w.heap.size w (w.alloc (.cells (gN ⟨.slice ga p.ap.length gc,.slice va p.vars.length vc,.slice ta p.aW.length tc,.slice oa p.on.length oc,.slice ca p.code.length cc⟩ p) 27)):=(afL _ _).alloc (afF _) _;have gp:=ae dQ;have PC:ay (w.alloc (.cells (gN ⟨.slice ga p.ap.length gc,.slice va p.vars.length vc,.slice ta p.aW.length tc,.slice oa p.on.length oc,.slice ca p.code.length cc⟩ p) 27)) w.heap.size 27 _:=ay.new w _ _;have kW:=ae PC;have HC:=ae (LX _ (h.aB (da.ah dQ)));unfold pV at HC ⊢;unfold gN at gp kW HC;dsimp only at gp kW HC ⊢;clear h dQ PC g2 g3 v2 v3 t2 t3 o2 o3 c2 c3;cases hT:bS p with
 |false=>rw [hT] at HC;go_enter func172,ntmps172;go_wp2_with fail;refine HC.o.mono ?_;rintro e w' ⟨rfl,hb⟩;have HB:=ae hb;clear hb;go_wp2_with fail;go_ret;exact ⟨by simp [bo,hT],gp.o.trans (HB.o.mono smm)⟩
 |true=>
  rw [hT] at HC;have LZ:=ae hT;have hcl:p.code.length<=262144:=by have:=hT;simp [bS] at this;omega
  clear hT;go_enter func172,ntmps172;go_wp2_with fail;refine HC.o.mono ?_;rintro e w' ⟨rfl,hb⟩;have HB:=ae (gp.o.trans (hb.mono smm));have kb:=kW.o.of (hb.block _ smm);have k5:w'.cell? (π w.heap.size 5)=some (.slice ca p.code.length cc):=kb.cell 5;have lw:=kb.lt;have Ju:=ae kb;clear hb kb gp kW HC;go_wp2_with fail;refine Mk.aP (X0 w ⟨.slice ga p.ap.length gc,.slice va p.vars.length vc,.slice ta p.aW.length tc,.slice oa p.on.length oc,.slice ca p.code.length cc⟩ p) (p.code.length+1) ?start ?zero ?round
  case start=>exact ⟨0,afO _,omm,pC rfl,HB,Ju,ae rfl⟩
  case zero=>exact fun a W hh=>by obtain ⟨q,h1,h2,_⟩:=hh;omega
  clear HB Ju k5 lw w'
  case round=>
   rintro m a W ⟨i,hi,hm,⟨J,rfl⟩,HB,HK,HE⟩;by_cases a8:i < p.code.length
   ·obtain ⟨b,off,cap,hv,q1,q2,c0,c1,c2,c3,c4⟩:=(H.o.aB (da.ah HB.o)).ins a8;simp only [afH] at hv;obtain ⟨rfl,-,rfl⟩:=hv;have kV:=ae (kP a8);clear q1 q2;by_cases cW:0<=(ai p i).op/\(ai p i).op < 42
    ·obtain ⟨n,hn⟩:=afN cW.1;have Ch:n < 42:=omm;have VG:(ai p i).op.toNat=n:=omm;have lO:iP (ai p i)=true:=by unfold iP aF;simp;omega
     have Tz:=ae (show dp p (p.code.drop i)=if gI p (ai p i) then dp p (p.code.drop (i+1)) else 92 by rw [kV.o,lO];rfl);have HS:=ae (fun V=>ZJ V n Ch);have rM:=ae VG;have TA:=ae Ch;rw [hn] at c0;have aa9:i < p.code.length:=a8;clear cW kV lO hn VG Ch;go_wp2_with fail;refine (HS.o _).mono ?_;rintro e w' ⟨⟨nm,rfl⟩,hb⟩;have eN:Below W.heap.size W w':=((afL _ W).alloc (afF _) _).trans (hb.mono smm);have dC:=ae (HB.o.trans (eN.mono HB.o.size));have pZ:=ae (HK.o.of (eN.block _ HK.o.lt));have kib:ay w' W.heap.size 40 #[ι n,ι (ai p i).a,ι (ai p i).b,ι (ai p i).c,ι (ai p i).d]:=(ay.new W _ _).of (hb.block _ smm);obtain ⟨-,d1,d2,d3,d4⟩:=kib.c5;have lw:=kib.lt;clear hb eN kib c0 c1 c2 c3 c4;generalize W.heap.size=ib at*;go_wp2_with fail;clear HS d1 d2 d3 d4 lw HB HK;refine Mk.aP (ae9 w ⟨.slice ga p.ap.length gc,.slice va p.vars.length vc,.slice ta p.aW.length tc,.slice oa p.on.length oc,.slice (some (π b off)) p.code.length cc⟩ p i ib w'.heap.size nm) 5 ?wa ?Cg ?wb
     case wa=>exact ⟨0,omm,omm,pC rfl,ae ((dC.o.alloc dC.o.size _).alloc (by simp only [aE];have:=dC.o.size;omega) _),ae ((pZ.o.alloc _).alloc _),ae (by rw [rM.o];exact (ay.new w' _ _).alloc _),ae (ay.a_ smm),ae (fun j' h=>absurd h omm)⟩
     case Cg=>exact fun a W hh=>by obtain ⟨q,h1,h2,_⟩:=hh;omega
     clear dC pZ;generalize w'.heap.size=sb;clear w'
     case wb=>
      rintro m2 a2 W2 ⟨j,hj,qV,⟨J2,rfl⟩,fg,kY,Gu,X5,VF⟩;by_cases hj4:j < 4
      ·have d0:W2.cell? (π (sb+1) j)=some (ι (lP (ai p i) j)):=by rw [X5.o.cell];have e:j=0\/j=1\/j=2\/j=3:=omm;rcases e with rfl|rfl|rfl|rfl<;>rfl
       have e1:W2.cell? (π sb 1)=some (.string (mO n)):=by have h:=Gu.o.cell 1;rw [rM.o] at h;exact h
       have ez:=yx n;by_cases hk:j < (bY n).length
       ·have L5:dm (ai p i) j=(bY n).getD j 0:=by unfold dm;rw [rM.o]
        have tX:=EH n TA.o j hk;rw [<-L5] at tX;have hby:=Gt n TA.o j hk;rw [<-L5] at hby;obtain ⟨f0,f1,f2,f3,f4,f5⟩:=kY.o.c6;have C1:Hid (Calls prog 240 #[pV ⟨.slice ga p.ap.length gc,.slice va p.vars.length vc,.slice ta p.aW.length tc,.slice oa p.on.length oc,.slice (some (π b off)) p.code.length cc⟩ p,.int .u8 (mr (dm (ai p i) j))] (W2.drewN 1) fun e w3=>e= .returned (.tuple #[ι (dM (dm (ai p i) j)),ι (dN p (dm (ai p i) j))])/\
         (w3.cell? (π w.heap.size 0)=some (.slice ga p.ap.length gc)/\w3.cell? (π w.heap.size 1)=some (.slice va p.vars.length vc)/\w3.cell? (π w.heap.size 2)=some (.slice ta p.aW.length tc)/\w3.cell? (π w.heap.size 3)=some (.slice oa p.on.length oc)/\w3.cell? (π w.heap.size 4)=some (ι p.aJ)/\w3.cell? (π w.heap.size 5)=some (.slice (some (π b off)) p.code.length cc)/\w3.cell? (π sb 1)=some (.string (mO n)))/\Hid (Below W2.heap.size W2 w3)):=by
         refine ae ((LU (W2.drewN 1) H.o.sl _ tX).mono ?_);rintro e w3 ⟨rfl,hb⟩;have wN:Below W2.heap.size W2 w3:=(au _ W2 1).trans hb;have iO:=kY.o.of (wN.block _ kY.o.lt);have BM:=Gu.o.of (wN.block _ Gu.o.lt);rw [rM.o] at BM;exact ⟨rfl,⟨iO.cell 0,iO.cell 1,iO.cell 2,iO.cell 3,iO.cell 4,iO.cell 5,BM.cell 1⟩,ae wN⟩
        have Ξ:∀V,(Instr.index 9 (.string (mO n)) (ι j)).run prog V= .ok (.int .u8 (mr (dm (ai p i) j))) V:=fun V=>by rw [L5];exact LY V TA.o hk
        rw [<-ez] at hk;clear hby L5 tX ez;generalize mO n=ob at*;unfold pV at C1;dsimp only at C1;go_wp2_with fail
        go_region_held3 (fun wx=>wx.cell? (π w.heap.size 0)=some (.slice ga p.ap.length gc)/\wx.cell? (π w.heap.size 1)=some (.slice va p.vars.length vc)/\wx.cell? (π w.heap.size 2)=some (.slice ta p.aW.length tc)/\wx.cell? (π w.heap.size 3)=some (.slice oa p.on.length oc)/\wx.cell? (π w.heap.size 4)=some (ι p.aJ)/\wx.cell? (π w.heap.size 5)=some (.slice (some (π b off)) p.code.length cc)/\wx.cell? (π sb 1)=some (.string ob)) (first|exact ⟨f0,f1,f2,f3,f4,f5,e1⟩|assumption) (first|(go_at_call 240;refine C1.o.mono ?_;rintro e w3 ⟨rfl,Gl,N0⟩))
        have ki:=ae (fg.o.trans (N0.o.mono fg.o.size));have Dh:=ae (kY.o.of (N0.o.block _ kY.o.lt));have HS3:=ae (Gu.o.of (N0.o.block _ Gu.o.lt));have HI3:=ae (X5.o.of (N0.o.block _ X5.o.lt));have wj:=ae (qQ w3 (lP (ai p i) j) (dM (dm (ai p i) j)) (dN p (dm (ai p i) j)));have Rq:aF (lP (ai p i) j) (dM (dm (ai p i) j)) (dN p (dm (ai p i) j))=aY p (dm (ai p i) j) (lP (ai p i) j):=rfl;rw [Rq] at wj;clear Rq N0 fg kY Gu X5 C1 Ξ f0 f1 f2 f3 f4 f5 e1 d0 Gl;cases hf:aY p (dm (ai p i) j) (lP (ai p i) j) with
        |false=>
         have HF:=ae (show bo p=92 by
          have h1:=HE.o;rw [Tz.o,nJ hj4 hf] at h1;simp [bo,LZ.o,h1])
         have nU:=ae (wj.o.mono (fun e w' h=>(show (e=Ending.returned (.bool false)/\w'=w3) from hf▸h)));clear hf wj;go_wp2_with fail;refine nU.o.mono ?_;rintro e w9 ⟨rfl,rfl⟩;go_wp2_with fail;go_ret;exact ⟨by rw [HF.o];rfl,ki.o⟩
        |true=>
         have nU:=ae (wj.o.mono (fun e w' h=>(show (e=Ending.returned (.bool true)/\w'=w3) from hf▸h)));have HF:=ae hf;clear hf wj;go_wp2_with fail;refine nU.o.mono ?_;rintro e w9 ⟨rfl,rfl⟩;go_wp2_with fail;refine ⟨j+1,omm,omm,pC rfl,ki,Dh,HS3,HI3,ae fun j' KQ=>?_⟩;by_cases e:j'=j
         ·subst e;exact HF.o
         ·exact VF.o j' omm
       ·have L5:dm (ai p i) j=0:=by unfold dm;rw [rM.o,afS,List.getElem?_eq_none omm];rfl
        have wj:=ae (qQ W2 (lP (ai p i) j) 0 0);have Rq:aF (lP (ai p i) j) 0 0=aY p (dm (ai p i) j) (lP (ai p i) j):=by rw [L5];rfl
        rw [Rq] at wj;clear Rq L5;cases hf:aY p (dm (ai p i) j) (lP (ai p i) j) with
        |false=>
         have HF:=ae (show bo p=92 by
          have h1:=HE.o;rw [Tz.o,nJ hj4 hf] at h1;simp [bo,LZ.o,h1])
         have nU:=ae (wj.o.mono (fun e w' h=>(show (e=Ending.returned (.bool false)/\w'=W2) from hf▸h)));clear hf wj;go_wp2_with fail;refine nU.o.mono ?_;rintro e w9 ⟨rfl,rfl⟩;go_wp2_with fail;go_ret;exact ⟨by rw [HF.o];rfl,fg.o⟩
        |true=>
         have nU:=ae (wj.o.mono (fun e w' h=>(show (e=Ending.returned (.bool true)/\w'=W2) from hf▸h)));have HF:=ae hf;clear hf wj;go_wp2_with fail;refine nU.o.mono ?_;rintro e w9 ⟨rfl,rfl⟩;go_wp2_with fail;refine ⟨j+1,omm,omm,pC rfl,fg,kY,Gu,X5,ae fun j' KQ=>?_⟩;by_cases e:j'=j
         ·subst e;exact HF.o
         ·exact VF.o j' omm
      ·have EI:gI p (ai p i)=true:=rP fun j' KQ=>VF.o j' omm;have nC:=ae (show dp p p.code=dp p (p.code.drop (i+1)) by rw [HE.o,Tz.o,EI];rfl);clear EI;go_wp2_with fail;exact ⟨i+1,omm,omm,pC rfl,fg,kY,nC⟩
    ·have HS:=ae (fun V=>zX V (ai p i).op omm);have HF:=ae (show bo p=91 by
      have e:iP (ai p i)=false:=by unfold iP aF;simp;omega
      have h1:=HE.o;rw [kV.o,e] at h1;simp [bo,LZ.o,h1])
     clear cW kV;go_wp2_with fail;refine (HS.o _).mono ?_;rintro e w' ⟨rfl,hb⟩;have dC:=ae (HB.o.trans (((afL _ W).alloc (afF _) _).trans (hb.mono smm) |>.mono HB.o.size));clear hb;go_wp2_with fail;go_ret;exact ⟨by rw [HF.o];rfl,dC.o.alloc dC.o.size _⟩
   ·obtain rfl:i=p.code.length:=omm;have HF:=ae (show bo p=0 by
     have h1:=HE.o;rw [List.drop_length] at h1;simp [bo,LZ.o,h1,dp])
    exact agp
end
end Go.Proofs.YtblkblclmbhjiaaGreat.Vf
namespace Go.Proofs.YtblkblclmbhjiaaGreat.Vf
open Go.RowKit ak.Vm
open ak hiding aL an aj
open Go.Shelf
def Ci:Go.Shelf.Ren:=⟨fun|264=>304|n=>n,fun|46=>256|53=>46|n=>n,fun|n=>n⟩
theorem PD:Go.Proofs.Lays.n264 prog Ci:={
 mixed:=by kernel_rfl
 f264:=func304.trans (afK some krr)
 t46:=underlying256
 a46:=isAgg256
 z46:=sizeOf256
 v46:=zeroValue256
 t53:=underlying46
 a53:=isAgg46
 z53:=sizeOf46
 v53:=zeroValue46}
theorem aeJ (x y:Nat) (hx:x < 18446744073709551616) (hy:y < 18446744073709551616) (w:World):
 Calls prog 304 #[.int .u64 x,.int .u64 y] w fun e w'=>e= .returned (.tuple #[.int .u64 ((x*y / 18446744073709551616:Nat):Int),.int .u64 ((x*y % 18446744073709551616:Nat):Int)])/\w'=w:=Any.bits_Mul64 PD x y hx hy w
theorem L6 (w:World) (a b:Nat) (ha:a<=MS) (hb:b<=MS):Calls prog 249 #[ι a,ι b] w fun e w'=>e= .returned (ι (bC a b))/\w'=w:=by
 unfold MS at ha hb;have w1:IntKind.i64.wrap (4611686018427387904 - (b:Int))=4611686018427387904 - (b:Int):=afU _ coo;by_cases h:4611686018427387904 - b < a
 ·have e:bC a b=4611686018427387904:=by unfold bC MS;rw [afE h]
  have h2:((4611686018427387904:Int) - b < a)=True:=by simp;omega
  rw [e];clear e h;go_enter func249,ntmps249;go_wp2_with fail;exact agJ
 ·have e:bC a b=a+b:=by unfold bC MS;rw [abH h]
  have h2:((4611686018427387904:Int) - b < a)=False:=by simp;omega
  have w2:IntKind.i64.wrap ((a:Int)+(b:Int))=((a+b:Nat):Int):=by rw [afU _ coo];omega
  rw [e];clear e h;go_enter func249,ntmps249;go_wp2_with fail;go_ret;exact ⟨smm,rfl⟩
theorem acL {p:Prop} (h:p:=by
 go_enter func250,ntmps250;go_wp2_with fail;refine HM.o.mono ?_;rintro e w' ⟨rfl,rfl⟩;go_wp2_with fail;go_ret;exact ⟨rfl,rfl⟩):p:=h
theorem PF (w:World) (a b:Nat) (ha:a<=MS) (hb:b<=MS):Calls prog 250 #[ι a,ι b] w fun e w'=>e= .returned (ι (dV a b))/\w'=w:=by
 unfold MS at ha hb;have HM:=ae (aeJ a b omm omm w);have w1:IntKind.u64.wrap (a:Int)=a:=by rw [IntKind.wrap_u64];omega
 have w2:IntKind.u64.wrap (b:Int)=b:=by rw [IntKind.wrap_u64];omega
 generalize hx:a*b=x at*;have ht:dV a b=if x<=4611686018427387904 then x else 4611686018427387904:=by unfold dV MS;rw [hx]
 rw [ht];clear ht hx;by_cases h1:x / 18446744073709551616=0
 ·have e2:x % 18446744073709551616=x:=Nat.mod_eq_of_lt omm;rw [h1,e2] at HM;by_cases h:x<=4611686018427387904
  ·rw [afE h];have w3:IntKind.i64.wrap (x:Int)=x:=afU _ coo;have h3:((x:Int)<=4611686018427387904)=True:=by simp;omega
   clear h1 e2 h;exact acL
  ·rw [abH h];have h3:((x:Int)<=4611686018427387904)=False:=by simp;omega
   clear h1 e2 h;exact acL
 ·have h:¬x<=4611686018427387904:=omm;rw [abH h];generalize x / 18446744073709551616=hi at*;clear h;exact acL
end Go.Proofs.YtblkblclmbhjiaaGreat.Vf
namespace Go.Proofs.YtblkblclmbhjiaaGreat.Vf
open Go.RowKit ak.Vm
open ak hiding aL an aj
open Ma (dx bQ aU vb)
def bU (th:Bool) (s:Std) (mv:Value):Array Value:=
 #[.bool th,.string (fH s.ty),ι (bE s.lo 0),ι (bE s.lo 1),ι (bE s.lo 2),ι (bE s.lo 3),ι (bE s.lo 4),ι (bE s.lo 5),ι (bE s.lo 6),ι (bE s.lo 7),ι s.lo.length,ι s.ha,mv]
def cT (th:Bool) (s:Std) (mv:Value):Value:= .agg (bU th s mv)
def cZ (w:World) (mv:Value) (lo:List Nat):Prop:=aV w 1 mv (lo.length - 8) (fun i=> ι (bE lo (8+i)))
theorem cZ.aB {w w':World} {mv:Value} {lo:List Nat} (h:cZ w mv lo) (f:da [] w w'):cZ w' mv lo:=aV.aB h f
def ov (lo:List Nat):Int:=match lo with|[]=> -1|t::_=>(t:Int)
theorem II {lo:List Nat} (h:0 < lo.length):ov lo=(bE lo (lo.length - 1):Nat):=by
 cases lo with
 |nil=>simp at h
 |cons t l=>show (t:Int)=_;rw [show (t::l).length - 1=l.length by simp,K_]
theorem acM {p:Prop} (h:p:=by
 go_enter func300,ntmps300;go_wp2_with fail;go_ret;exact ⟨rfl,hB _ _⟩):p:=h
theorem Gv (w:World) {mv:Value} (th:Bool) {s:Std} (h:cZ w mv s.lo) (hl:s.lo.length<=4611686018427387904):Calls prog 300 #[cT th s mv] w (fun e w'=>e= .returned (ι (ov s.lo))/\Below w.heap.size w w'):=by
 obtain ⟨ty,lo,ha⟩:=s;dsimp only at h hl;obtain ⟨ma,mc,rfl,m1,m2⟩:=aV.val h;unfold cT bU;dsimp only;have hB:=ag6 w;by_cases h0:lo.length=0
 ·have hi:ov lo= -1:=by have:=List.length_eq_zero_iff.1 h0;subst this;rfl
  rw [hi];generalize fH ty=tb;generalize bE lo=lc;clear h hi m1 m2;have h1:(lo.length=0)=True:=by simp [h0]
  exact acM
 ·have hi:=II (lo:=lo) omm;rw [hi];by_cases h8:lo.length<=8
  ·have e:lo.length=1\/lo.length=2\/lo.length=3\/lo.length=4\/lo.length=5\/lo.length=6\/lo.length=7\/lo.length=8:=omm;generalize fH ty=tb;clear h hi m1 m2;generalize bE lo=lc;generalize lo.length=n at*;clear lo;rcases e with rfl|rfl|rfl|rfl|rfl|rfl|rfl|rfl
   all_goals
    exact acM
  ·obtain ⟨b,off,cap,hv,q1,q2,hb,hc⟩:=aV.some h omm omm;simp only [afH] at hv;obtain ⟨rfl,-,rfl⟩:=hv;have c0:w.cell? (π b (off+(lo.length - 8 - 1)))=some (ι (bE lo (lo.length - 1))):=by rw [hc (lo.length - 8 - 1) omm];congr 3;congr 1;omega
   have w1:IntKind.i64.wrap (((lo.length - 8:Nat):Int) - 1)=((lo.length - 8 - 1:Nat):Int):=by rw [afU _ (by unfold maxLen at q2;constructor<;>omega)];omega
   have a8:lo.length - 8 - 1 < lo.length - 8:=omm;generalize fH ty=tb;clear h hi hc;generalize bE lo=lc at*;generalize zZ:lo.length - 8=n8 at*;exact acM
def ow (w:World) (sv:Value) (th:Bool) (s:Std) (e:Ending) (w':World):Prop:=∃mv,e= .returned (cT th s mv)/\cZ w' mv s.lo/\Below w.heap.size w w'/\∀b,mv.ownBlock=some b->sv.ownBlock=some b\/w.heap.size<=b
theorem aV.take {w:World} {n m:Nat} {a:Option Addr} {c:Nat} {g:Nat->Value} (h:aV w 1 (.slice a n c) n g) (hm:m<=n) (ha:∃x,a=Option.some x):aV w 1 (.slice a m c) m g:=by
 obtain ⟨x,rfl⟩:=ha;rcases h with ⟨h,-⟩|⟨a',cap,hv,h1,h2,h3⟩
 ·simp at h
 ·simp only [afH,af5] at hv;obtain ⟨rfl,-,rfl⟩:=hv;exact .inr ⟨_,c,rfl,omm,h2,fun o ho=>h3 o omm⟩
theorem aV.zero {w:World} {v:Value} {g g':Nat->Value} (h:aV w 1 v 0 g):aV w 1 v 0 g':=by
 rcases h with h|⟨a,cap,h,h1,h2,h3⟩
 ·exact .inl h
 ·exact .inr ⟨a,cap,h,h1,h2,fun o ho=>absurd ho omm⟩
theorem aV.congr {w:World} {v:Value} {n:Nat} {g g':Nat->Value} (h:aV w 1 v n g) (e:∀o,o < n->g o=g' o):aV w 1 v n g':=by
 rcases h with h|⟨a,cap,h,h1,h2,h3⟩
 ·exact .inl h
 ·exact .inr ⟨a,cap,h,h1,h2,fun o ho=>⟨(h3 o ho).1,by rw [(h3 o ho).2,e o omm]⟩⟩
theorem yy (w:World) {mv:Value} (th:Bool) {s:Std} (h:cZ w mv s.lo) (h0:0 < s.lo.length) (hl:s.lo.length<=4611686018427387904):Calls prog 301 #[cT th s mv] w (ow w mv th {s with lo:=s.lo.tail}):=by
 obtain ⟨ty,lo,ha⟩:=s;dsimp only at h hl h0;obtain ⟨ma,mc,rfl,m1,m2⟩:=aV.val h;have H:=ae h;have a8:lo.tail.length=lo.length - 1:=by simp
 have L7:=La lo;by_cases h8:lo.length<=8
 ·have hm:cZ w (.slice ma (lo.length - 8) mc) lo.tail:=by have e:lo.length - 8=0:=omm;have e2:lo.tail.length - 8=0:=omm;unfold cZ at h ⊢;rw [e] at h;rw [e2,e];exact aV.zero h
  have HM:=ae hm;unfold cT bU ow;dsimp only;unfold cT bU;dsimp only;have e:lo.length=1\/lo.length=2\/lo.length=3\/lo.length=4\/lo.length=5\/lo.length=6\/lo.length=7\/lo.length=8:=omm;have hB:=ag6 w;generalize fH ty=tb;rw [a8];clear h hm m1 m2 H;simp only [L7];generalize bE lo=lc at*;rcases e with e|e|e|e|e|e|e|e
  all_goals
   simp only [e] at HM ⊢;clear L7 a8 h0 hl h8;go_enter func301,ntmps301;go_wp2_with fail;refine afI ?_ rfl ⟨.slice ma 0 mc,rfl,HM.o.aB (da.ah ((hB _ _).alloc (by simp only [aE];omega) _)),(hB _ _).alloc (by simp only [aE];omega) _,fun _ hb=> .inl (by simpa [Value.ownBlock] using hb)⟩;simp [results,results301,go_sem]
 ·obtain ⟨b,off,cap,hv,q1,q2,hb,hc⟩:=aV.some h omm omm;simp only [afH] at hv;obtain ⟨rfl,-,rfl⟩:=hv;have hm:cZ w (.slice (some (π b off)) (lo.length - 8 - 1) mc) lo.tail:=by have h1:=aV.take h (m:=lo.length - 8 - 1) omm ⟨_,rfl⟩;unfold cZ;rw [show lo.tail.length - 8=lo.length - 8 - 1 by omega];refine h1.congr fun o ho=>?_;rw [L7,abH omm]
  have HM:=ae hm;unfold cT bU ow;dsimp only;unfold cT bU;dsimp only;have hB:=ag6 w;have w1:IntKind.i64.wrap (((lo.length - 8:Nat):Int) - 1)=((lo.length - 8 - 1:Nat):Int):=by rw [afU _ (by unfold maxLen at q2;constructor<;>omega)];omega
  have w2:IntKind.i64.wrap ((lo.length:Int) - 1)=((lo.length - 1:Nat):Int):=by rw [afU _ coo];omega
  have h9:((lo.length - 1:Nat) < 8)=False:=by simp;omega
  have h7:lo.length - 8 - 1<=mc:=omm;generalize fH ty=tb;simp only [L7,a8];have hn:∀k,k < 8->(k+1=lo.length)=False:=fun k hk=>by simp;omega
  rw [abH omm,abH omm,abH omm,abH omm,abH omm,abH omm,abH omm,abH omm];clear h hm hc H L7 a8 hn;generalize bE lo=lc at*;generalize lo.length - 8 - 1=n9 at*;generalize zZ:lo.length - 8=n8 at*;generalize uG:lo.length - 1=n1 at*;generalize Ov:lo.length=n0 at*;go_enter func301,ntmps301;go_wp2_with fail;refine afI ?_ rfl ⟨.slice (some (π b off)) n9 mc,rfl,HM.o.aB (da.ah ((hB _ _).alloc (by simp only [aE];omega) _)),(hB _ _).alloc (by simp only [aE];omega) _,fun _ hb=> .inl hb⟩;simp [results,results301,go_sem]
def FrE (v v2:Value) (n i:Nat) (a:Act):Prop:=∃J:Nat->Value,a={tmps:=#[v,v2,J 2,J 3,J 4,J 5,J 6,J 7,J 8,J 9,J 10,J 11,ι n,ι i,J 14,J 15,J 16,J 17,J 18,J 19,J 20,J 21,J 22,J 23,J 24,J 25],defers:=[]}
def Gw (f:Nat->Int) (i:Nat):Value:=ι (f i)
def JD (n n':Nat) (f f':Nat->Int):Bool:=decide (n=n'/\∀i,i < n->f i=f' i)
def X6 (w:World) (v v2:Value) (n:Nat) (f f':Nat->Int) (m:Nat) (a:Act) (W:World):Prop:=
 ∃i,i<=n/\m+i=n+1/\FrE v v2 n i a/\Hid (Below w.heap.size w W)/\Hid (∀j,j < i->f j=f' j)
theorem IJ {w:World} {v v2:Value} {n n':Nat} {f f':Nat->Int} (h:aV w 1 v n (Gw f)) (h2:aV w 1 v2 n' (Gw f')):
 Calls prog 303 #[v,v2] w (fun e w'=>e= .returned (.bool (JD n n' f f'))/\Below w.heap.size w w'):=by
 obtain ⟨a,c,rfl,q1,q2⟩:=h.val;obtain ⟨a2,c2,rfl,p1,p2⟩:=h2.val;have H:=ae h;have H2:=ae h2;by_cases hn:n=n'
 case neg=>have HF:=ae (show JD n n' f f'=false by simp [JD,hn]);clear h h2;go_enter func303,ntmps303;go_wp2_with fail;go_ret;exact ⟨by rw [HF.o];rfl,afL _ _⟩
 case pos=>
  subst hn;have hm:n<=9223372036854775807:=by unfold maxLen at q2;omega
  clear h h2;go_enter func303,ntmps303;go_wp2_with fail;refine Mk.aP (X6 w (.slice a n c) (.slice a2 n c2) n f f') (n+1) ?start ?zero ?round
  case start=>exact ⟨0,afO _,omm,pC rfl,ae (afL _ _),ae (fun j hj=>absurd hj omm)⟩
  case zero=>exact fun a W hh=>by obtain ⟨q,h1,h2,_⟩:=hh;omega
  case round=>
   rintro m a0 W ⟨i,hi,qV,⟨J,rfl⟩,HB,HA⟩;by_cases a8:i < n
   ·obtain ⟨b,off,cap,hv,-,-,hb,hc⟩:=(H.o.aB (da.ah HB.o)).some omm omm;simp only [afH] at hv;obtain ⟨rfl,-,rfl⟩:=hv;obtain ⟨b2,EJ,z_,hv,-,-,dn,lF⟩:=(H2.o.aB (da.ah HB.o)).some omm omm;simp only [afH] at hv;obtain ⟨rfl,-,rfl⟩:=hv;have c0:W.cell? (π b (off+i))=some (ι (f i)):=hc i omm;have c1:W.cell? (π b2 (EJ+i))=some (ι (f' i)):=lF i omm;clear hc lF;by_cases he:f i=f' i
    ·have HE:=ae he;rw [he] at c0;clear he;generalize f' i=y at c0 c1;go_wp2_with fail;go_quiet (fail);go_wp2_with fail;refine ⟨i+1,omm,omm,pC rfl,ae (HB.o.trans (au _ _ _)),ae fun j hj=>?_⟩;by_cases e:j=i
     ·subst e;exact HE.o
     ·exact HA.o j omm
    ·have HF:=ae (show JD n n f f'=false by
      unfold JD;rw [agc];rintro ⟨-,h⟩;exact he (h i a8))
     generalize f i=x at c0 he;generalize f' i=y at c1 he;go_wp2_with fail;go_quiet (fail);go_wp2_with fail;go_ret;exact ⟨by rw [HF.o];rfl,HB.o.trans (au _ _ _)⟩
   ·obtain rfl:i=n:=omm;have HF:=ae (show JD i i f f'=true by simp [JD];exact HA.o);exact agp
theorem eq8 (a0 a1 a2 a3 a4 a5 a6 a7 b0 b1 b2 b3 b4 b5 b6 b7:Int) (w:World):(Op.equalIn 10000 231 (.agg #[ι a0,ι a1,ι a2,ι a3,ι a4,ι a5,ι a6,ι a7]) (.agg #[ι b0,ι b1,ι b2,ι b3,ι b4,ι b5,ι b6,ι b7])).run prog w= .ok (a0==b0&&a1==b1&&a2==b2&&a3==b3&&a4==b4&&a5==b5&&a6==b6&&a7==b7) w:=by
 have u3:=underlying3;have q3:=isAgg3;have z3:=sizeOf3;rw [show (10000:Nat)=9999+1 from rfl,Op.equalIn];simp only [Sem.run_bind,run_underlying underlying231,Result.andThen_ok];simp only [Std.Legacy.Range.forIn_eq_forIn_range',Std.Legacy.Range.size,Nat.sub_zero,Nat.add_sub_cancel,Nat.div_one,List.range'_succ,List.range'_zero,List.forIn_cons,List.forIn_nil];go_simp;by_cases h0:a0=b0
 case neg=>simp [h0]
 by_cases h1:a1=b1
 case neg=>simp [h1]
 by_cases h2:a2=b2
 case neg=>simp [h2]
 by_cases h3:a3=b3
 case neg=>simp [h3]
 by_cases h4:a4=b4
 case neg=>simp [h4]
 by_cases h5:a5=b5
 case neg=>simp [h5]
 by_cases h6:a6=b6
 case neg=>simp [h6]
 by_cases h7:a7=b7
 case neg=>simp [h7]
 simp [h0,h1,h2,h3,h4,h5,h6,h7]
theorem L_ {a b:List Nat} (ha:eI a) (hb:eI b):((fH a).toList=(fH b).toList)=(a=b):=propext ⟨fun h=>O3 ha hb (by
 rw [ByteArray.toList_eq,ByteArray.toList_eq] at h;exact ByteArray.ext (Array.toList_inj.1 h)),fun h=>by rw [h]⟩
theorem ack {p:Prop} (h:p:=by
 go_enter func248,ntmps248;go_wp2_with fail;go_ret;exact ⟨by rw [HF.o];rfl,hB _ _ _ _⟩):p:=h
theorem EK {w:World} {mv TC:Value} (th th2:Bool) {s s2:Std} (h:cZ w mv s.lo) (h2:cZ w TC s2.lo) (t1:eI s.ty) (t2:eI s2.ty) (l1:s.lo.length<=1000000000) (l2:s2.lo.length<=1000000000):
 Calls prog 248 #[cT th s mv,cT th2 s2 TC] w (fun e w'=>e= .returned (.bool (decide (s=s2)))/\Below w.heap.size w w'):=by
 obtain ⟨ty,lo,ha⟩:=s;obtain ⟨SX,nP,Gx⟩:=s2;dsimp only at h h2 t1 t2 l1 l2;obtain ⟨ma,mc,rfl,m1,m2⟩:=aV.val h;obtain ⟨ma2,mc2,rfl,m3,m4⟩:=aV.val h2;unfold cT bU;dsimp only;have hB:=ag7 w;have TD:=ae (fun cs T mV T2=>IJ (w:=(w.alloc (.cells cs T)).alloc (.cells mV T2)) (aV.aB h (da.ah (hB cs T mV T2))) (aV.aB h2 (da.ah (hB cs T mV T2))));by_cases e1:ty=SX
 case neg=>
  have HF:=ae (show decide ((⟨ty,lo,ha⟩:Std)=⟨SX,nP,Gx⟩)=false by simp [e1]);have e3:((fH ty).toList=(fH SX).toList)=False:=by rw [L_ t1 t2];simp [e1]
  clear TD h h2 t1 t2 e1;generalize fH ty=tb at*;generalize fH SX=tb2 at*;exact ack
 subst e1;generalize fH ty=tb at*;have hE:=fun V=>eq8 (bE lo 0) (bE lo 1) (bE lo 2) (bE lo 3) (bE lo 4) (bE lo 5) (bE lo 6) (bE lo 7) (bE nP 0) (bE nP 1) (bE nP 2) (bE nP 3) (bE nP 4) (bE nP 5) (bE nP 6) (bE nP 7) V;have hsp:decide ((⟨ty,lo,ha⟩:Std)=⟨ty,nP,Gx⟩)=decide (lo=nP/\ha=Gx):=by simp
 rw [hsp];clear hsp t1 t2 h h2;have iF:lo=nP↔(((((bE lo 0:Nat):Int)==((bE nP 0:Nat):Int)&&((bE lo 1:Nat):Int)==((bE nP 1:Nat):Int)&&((bE lo 2:Nat):Int)==((bE nP 2:Nat):Int)&&((bE lo 3:Nat):Int)==((bE nP 3:Nat):Int)&&((bE lo 4:Nat):Int)==((bE nP 4:Nat):Int)&&((bE lo 5:Nat):Int)==((bE nP 5:Nat):Int)&&((bE lo 6:Nat):Int)==((bE nP 6:Nat):Int)&&((bE lo 7:Nat):Int)==((bE nP 7:Nat):Int))=true)/\lo.length=nP.length/\JD (lo.length - 8) (nP.length - 8) (fun i=>((bE lo (8+i):Nat):Int)) (fun i=>((bE nP (8+i):Nat):Int))=true):=by
  constructor
  ·rintro rfl;refine ⟨smm,rfl,by simp [JD]⟩
  ·rintro ⟨h1,h2,h3⟩;simp only [afW,beq_iff_eq] at h1;obtain ⟨⟨⟨⟨⟨⟨⟨x0,x1⟩,x2⟩,x3⟩,x4⟩,x5⟩,x6⟩,x7⟩:=h1;unfold JD at h3;have h4:=(agi h3).2;refine O5 h2 fun i hi=>?_;by_cases h8:i < 8
   ·have e:i=0\/i=1\/i=2\/i=3\/i=4\/i=5\/i=6\/i=7:=omm;rcases e with rfl|rfl|rfl|rfl|rfl|rfl|rfl|rfl<;>omega
   ·have:=h4 (i - 8) omm;dsimp only at this;rw [show 8+(i - 8)=i by omega] at this;omega
 have sL:=ae iF;clear iF;generalize qq:(((bE lo 0:Nat):Int)==((bE nP 0:Nat):Int)&&((bE lo 1:Nat):Int)==((bE nP 1:Nat):Int)&&((bE lo 2:Nat):Int)==((bE nP 2:Nat):Int)&&((bE lo 3:Nat):Int)==((bE nP 3:Nat):Int)&&((bE lo 4:Nat):Int)==((bE nP 4:Nat):Int)&&((bE lo 5:Nat):Int)==((bE nP 5:Nat):Int)&&((bE lo 6:Nat):Int)==((bE nP 6:Nat):Int)&&((bE lo 7:Nat):Int)==((bE nP 7:Nat):Int))=bb at*;clear qq;generalize uG:lo.length=n1 at*;generalize ot:nP.length=n2 at*;clear uG ot;cases bb with
 |false=>have HF:=ae (show decide (lo=nP/\ha=Gx)=false by rw [agc];rintro ⟨h,-⟩;exact absurd (sL.o.1 h).1 dee);clear sL TD;exact ack
 |true=>
  by_cases e3:n1=n2
  case neg=>
   have HF:=ae (show decide (lo=nP/\ha=Gx)=false by rw [agc];rintro ⟨h,-⟩;exact e3 (sL.o.1 h).2.1);have e3':((n1:Int)=n2)=False:=by simp;omega
   clear sL TD;exact ack
  by_cases e4:ha=Gx
  case neg=>
   have HF:=ae (show decide (lo=nP/\ha=Gx)=false by rw [agc];rintro ⟨-,h⟩;exact e4 h);have e4':((ha:Int)=Gx)=False:=by simp;omega
   clear sL TD;subst e3;exact ack
  subst e3 e4;have HF:=ae (show decide (lo=nP/\ha=ha)=JD (n1 - 8) (n1 - 8) (fun i=>((bE lo (8+i):Nat):Int)) (fun i=>((bE nP (8+i):Nat):Int)) by
   rw [af7,decide_eq_true_iff];constructor
   ·rintro ⟨h,-⟩;exact (sL.o.1 h).2.2
   ·intro h;exact ⟨sL.o.2 ⟨rfl,rfl,h⟩,rfl⟩)
  clear sL;generalize JD (n1 - 8) (n1 - 8) (fun i=>((bE lo (8+i):Nat):Int)) (fun i=>((bE nP (8+i):Nat):Int))=r at*;go_enter func248,ntmps248;go_wp2_with fail;refine (TD.o _ _ _ _).mono ?_;rintro e w' ⟨rfl,hb⟩;have HB:=ae (hb.mono (show w.heap.size<=_ by simp only [aE];omega));clear hb;cases r with
  |false=>go_wp2_with fail;go_ret;exact ⟨by rw [HF.o];rfl,(hB _ _ _ _).trans HB.o⟩
  |true=>go_wp2_with fail;go_ret;exact ⟨by rw [HF.o];rfl,(hB _ _ _ _).trans HB.o⟩
theorem eP {P:Program} {fn:Func} {R:Ending->World->Prop} {A:Array Value} {w:World} {t:Tmp} (h:fn.results=#[.tmp t]) (hR:R (.returned (A.getD t undef)) w):bodyPost P fn R .ret {tmps:=A,defers:=[]} w:=afI (results_tmp h _ _ _) rfl hR
theorem PG {P:Program} {fn:Func} {R:Ending->World->Prop} {A:Array Value} {w:World} {t u:Tmp} (h:fn.results=#[.tmp t,.tmp u]) (hR:R (.returned (.tuple #[A.getD t undef,A.getD u undef])) w):bodyPost P fn R .ret {tmps:=A,defers:=[]} w:=afI (results_tmp2 h _ _ _) rfl hR
def FrI (v:Value) (x:Int) (n i:Nat) (a:Act):Prop:=∃J:Nat->Value,a={tmps:=#[v,ι x,J 2,J 3,J 4,J 5,v,ι n,ι i,J 9,J 10,J 11,J 12,J 13,J 14,J 15,J 16,J 17,J 18],defers:=[]}
def Aa (n:Nat) (f:Nat->Int) (x:Int):Bool:= !decide (∀i,i < n->f i≠x)
def IK (w:World) (n:Nat) (f:Nat->Int) (x:Int) (e:Ending) (w':World):Prop:=∃r:Int,e= .returned (ι r)/\w'=w/\decide (0<=r)=Aa n f x
def X8 (w:World) (v:Value) (n:Nat) (f:Nat->Int) (x:Int) (m:Nat) (a:Act) (W:World):Prop:=
 ∃i,i<=n/\m+i=n+1/\FrI v x n i a/\W=w/\Hid (∀j,j < i->f j≠x)
theorem aen {w:World} {v:Value} {n:Nat} {f:Nat->Int} (h:aV w 1 v n (Gw f)) (x:Int):Calls prog 320 #[v,ι x] w (IK w n f x):=by
 obtain ⟨a,c,rfl,q1,q2⟩:=h.val;have H:=ae h;have hm:n<=9223372036854775807:=by unfold maxLen at q2;omega
 clear h;go_enter func320,ntmps320;go_wp2_with fail;refine Mk.aP (X8 w (.slice a n c) n f x) (n+1) ?start ?zero ?round
 case start=>exact ⟨0,afO _,omm,pC rfl,rfl,ae (fun j hj=>absurd hj omm)⟩
 case zero=>exact fun a W hh=>by obtain ⟨q,h1,h2,_⟩:=hh;omega
 case round=>
  rintro m a0 W ⟨i,hi,qV,⟨J,rfl⟩,rfl,HA⟩;by_cases a8:i < n
  ·obtain ⟨b,off,cap,hv,-,-,hb,hc⟩:=H.o.some omm omm;simp only [afH] at hv;obtain ⟨rfl,-,rfl⟩:=hv;have c0:W.cell? (π b (off+i))=some (ι (f i)):=hc i omm;clear hc;by_cases he:f i=x
   ·have HF:=ae (show Aa n f x=true by unfold Aa;simp;exact ⟨i,a8,he⟩);rw [he] at c0;clear he;go_wp2_with fail;go_ret;exact ⟨i,rfl,rfl,by rw [HF.o];simp⟩
   ·have HE:=ae he;generalize f i=y at c0 he;have Jw:¬x=y:=fun e=>he e.symm;go_wp2_with fail;refine ⟨i+1,omm,omm,pC rfl,rfl,ae fun j hj=>?_⟩;by_cases e:j=i
    ·subst e;exact HE.o
    ·exact HA.o j omm
  ·obtain rfl:i=n:=omm;have HF:=ae (show Aa i f x=false by unfold Aa;simp;exact HA.o);go_wp2_with fail;go_ret;exact ⟨-1,rfl,rfl,by rw [HF.o];rfl⟩
theorem Ab {w:World} {v:Value} {n:Nat} {f:Nat->Int} (h:aV w 1 v n (Gw f)) (x:Int):Calls prog 299 #[v,ι x] w (fun e w'=>e= .returned (.bool (Aa n f x))/\w'=w):=by
 have HI:=ae (aen h x);clear h;go_enter func299,ntmps299;go_wp2_with fail;refine HI.o.mono ?_;rintro e w' ⟨r,rfl,rfl,hr⟩;have HR:=ae hr;clear hr;by_cases h0:0<=r
 ·go_wp2_with fail;go_ret;exact ⟨by rw [<-HR.o];simp [h0],rfl⟩
 ·go_wp2_with fail;go_ret;exact ⟨by rw [<-HR.o];simp [h0],rfl⟩
theorem adG {p:Prop} (h:p:=by
 go_enter func321,ntmps321;go_wp2;exact afI (results_tmp rfl _ _ _) rfl ⟨rfl,rfl⟩):p:=h
theorem Me (w:World) (ao:Option Addr) {n cap:Nat} (h:n<=cap) (h0:ao=none->n=0/\cap=0):Calls prog 321 #[.slice ao n cap] w (fun e w'=>e= .returned (.slice ao n n)/\w'=w):=by
 cases ao with
 |none=>obtain ⟨rfl,rfl⟩:=h0 rfl;exact adG
 |some a=>obtain ⟨b,off,sp⟩:=a;exact adG
theorem qS {P:Program} {w:World} {ops:Array Oper} {rest:List Oper} {o:Oper} {a:Act} {Q:Exit->Act->World->Prop} (Ie:o.guard=none) (s x:Operand) (t:TypeId)
 (ho:o.op= .call {callee:= .builtin .append,args:=#[s,x],argTypes:=#[t,t]})
 (e:TypeId) {bytes:Nat} {z:Value} (ht:P.underlying t=some (.slice e)) (hi:(P.info? e).map (fun i=>(i.zero,i.size,i.bytes))=some (some z,1,bytes)) (O7:z.cells.size=1)
 (ao:Option Addr) (n:Nat) (g:Nat->Value) (hs:a.eval s= .slice ao n n) (bq:aV w 1 (.slice ao n n) n g)
 (ad:Addr) (c:Nat) (y:Value) (hx:a.eval x= .slice (some ad) 1 c) (oZ:w.cell? ad=some y) (h1:y.oneCell'=true)
 (O_:n+1<=maxLen) (og:(n+1)*bytes<=140737488355328)
 (h:∀v' w',Row w' e 1 v' (n+1) (gU n g fun _=>y)->da [] w w'->(∀b,v'.ownBlock=some b->w.heap.size<=b)->wpList P ops Q rest (a.put o.dst v') w'):wpList P ops Q (o::rest) a w:=by
 obtain ⟨i,NT,AH,NU,NV⟩:=aga hi;refine wpList_append_grows w Ie s x t ho e i z 1 bytes ht NT AH NU NV O7 dee ao n n (eE n g) hs ?_ (by rw [eM,Nat.mul_one]) ?_ ad 1 c [y] hx rfl ?_ ?_ omm O_ og ?_
 ·rintro rfl;rcases bq with ⟨h,h'⟩|⟨_,_,h,_⟩
  ·simp at h;exact ⟨h,h⟩
  ·simp at h
 ·rintro b rfl j u hu;have hj:j < n:=by
   rcases Nat.lt_or_ge j n with a8|uR
   ·exact a8
   ·rw [List.getElem?_eq_none (by rw [eM];exact uR)] at hu;cases hu
  rw [lR g hj] at hu;cases hu;rcases bq with ⟨h,-⟩|⟨a',cap,hv,q1,q2,q3⟩
  ·simp at h
  ·simp only [afH,af5] at hv;obtain ⟨rfl,-,rfl⟩:=hv;obtain ⟨e1,e2⟩:=q3 j omm;obtain ⟨c_,off,sp⟩:=b;dsimp only at e1;subst e1;rw [Addr.add_lit];exact e2
 ·intro j u hu;cases j with
  |zero=>
   simp at hu;subst hu;have:ad.add 0=ad:=by unfold Addr.add;split<;>simp_all
   rw [this];exact oZ
  |succ j=>simp at hu
 ·intro u hu;simp at hu;subst hu;exact h1
 ·intro v' w' hr hg;refine h v' w' ?_ (eJ hg) (fun b hb=>(af3 hr b hb).1);unfold Row;have e1:eE ((n+1)*1) (gU n g fun _=>y)=eE n g++[y]:=by rw [Nat.mul_one,vF n 1 g (fun _=>y)];rfl
  rw [e1];exact hr.mono (afO _)
theorem TL (w:World) {mv:Value} (th:Bool) {s:Std} (oh:Nat) (h:cZ w mv s.lo) (hl:s.lo.length<=1000000000):Calls prog 302 #[cT th s mv,ι oh] w (ow w mv th {s with lo:=oh::s.lo}):=by
 obtain ⟨ty,lo,ha⟩:=s;dsimp only at h hl;obtain ⟨ma,mc,rfl,m1,m2⟩:=aV.val h;have H:=ae h;have a8:(oh::lo).length=lo.length+1:=rfl;have L7:=vC oh lo;by_cases h8:lo.length < 8
 ·have hm:cZ w (.slice ma (lo.length - 8) mc) (oh::lo):=by have e:lo.length - 8=0:=omm;have e2:(oh::lo).length - 8=0:=omm;unfold cZ at h ⊢;rw [e] at h;rw [e2,e];exact aV.zero h
  have HM:=ae hm;unfold cT bU ow;dsimp only;unfold cT bU;dsimp only;have e:lo.length=0\/lo.length=1\/lo.length=2\/lo.length=3\/lo.length=4\/lo.length=5\/lo.length=6\/lo.length=7:=omm;have hB:=ag6 w;generalize fH ty=tb;rw [a8];clear h hm m1 m2 H;simp only [L7];generalize bE lo=lc at*;generalize hLL:oh::lo=LL at*;clear hLL;rcases e with e|e|e|e|e|e|e|e
  all_goals
   simp only [e] at HM ⊢;clear L7 a8 hl h8;go_enter func302,ntmps302;go_wp2_with fail;refine afI ?_ rfl ⟨.slice ma 0 mc,rfl,HM.o.aB (da.ah ((hB _ _).alloc (by simp only [aE];omega) _)),(hB _ _).alloc (by simp only [aE];omega) _,fun _ hb=> .inl (by simpa [Value.ownBlock] using hb)⟩;simp [results,results302,go_sem]
 ·have GY:ma=none->lo.length - 8=0/\mc=0:=by
   rintro rfl;rcases H.o with ⟨h,h'⟩|⟨_,_,h,_⟩
   ·simp at h;omega
   ·simp at h
  have BQ:aV w 1 (.slice ma (lo.length - 8) (lo.length - 8)) (lo.length - 8) (fun i=> ι (bE lo (8+i))):=by
   rcases H.o with ⟨h,h'⟩|⟨a',cap,h,q1,q2,q3⟩
   ·simp only [afH] at h;obtain ⟨rfl,h1,h2⟩:=h;rw [h1];exact .inl ⟨rfl,rfl⟩
   ·simp only [afH] at h;obtain ⟨rfl,-,rfl⟩:=h;exact .inr ⟨a',_,rfl,afF _,omm,q3⟩
  have JE:=ae BQ;have ug:=ae (fun V=>Me V ma m1 GY);have HCT:=ae L7;have HL:=ae hl;unfold cT bU ow;dsimp only;unfold cT bU;dsimp only;have hB:=ag6 w;rw [a8];simp only [L7];rw [abH omm,abH omm,abH omm,abH omm,abH omm,abH omm,abH omm,abH omm];generalize fH ty=tb;have w1:IntKind.i64.wrap ((lo.length:Int)+1)=((lo.length+1:Nat):Int):=by rw [afU _ coo];omega
  clear h BQ L7 GY H;generalize zZ:lo.length - 8=n8 at*;have Oa:=ae zZ;clear zZ;generalize Cm:bE lo=lc at*;have uy:=ae Cm;clear Cm;generalize Ov:lo.length=n0 at*;have HN0:=ae Ov;clear Ov;have h9:¬n0 < 8:=h8;clear h8 a8;go_enter func302,ntmps302;go_wp2_with fail;refine (ug.o _).mono ?_;rintro e w' ⟨rfl,rfl⟩;go_wp2_with (at_builtin;refine qS rfl _ _ 24 rfl 3 underlying24 b_ rfl ma n8 (fun i=> ι (lc (8+i))) rfl (JE.o.aB ((((da.refl [] w).alloc _).alloc _).alloc _)) (π (w.heap.size+1+1) 0) 1 (ι oh) rfl ?zT rfl ?ED ?EE ?_)
  case zT=>exact (ay.a_ smm).cell 0
  case ED=>have:=Oa.o;have:=HL.o;unfold maxLen;omega
  case EE=>have:=Oa.o;have:=HL.o;omega
  intro v' w1 r1 f1 i1;obtain ⟨va,vc,rfl,-,-⟩:=(aV.D9 r1).val;have k1:ay w1 w.heap.size 233 #[.bool th,.string tb,ι (lc 0),ι (lc 1),ι (lc 2),ι (lc 3),ι (lc 4),ι (lc 5),ι (lc 6),ι (lc 7),ι n0,ι ha,.slice ma n8 mc]:=(((ay.new w _ _).alloc _).alloc _).aB f1 smm;have k2:ay w1 (w.heap.size+1) 233 #[.bool false,.string ⟨#[]⟩,ι 0,ι 0,ι 0,ι 0,ι 0,ι 0,ι 0,ι 0,ι 0,ι 0,ν]:=((ay.a_ smm).alloc _).aB f1 smm;have eN:Below w.heap.size w w1:=((((afL _ w).alloc (afF _) _).alloc (by simp only [aE];omega) _).alloc (by simp only [aE];omega) _).trans (f1.below (by simp only [aE];omega) smm);have HI1:=ae (fun b (hb:(Value.slice va (n8+1) vc).ownBlock=some b)=>show w.heap.size<=b by have:=i1 b hb;(try simp only [aE] at this);omega);have hmo:∀W',da [w.heap.size,w.heap.size+1] w1 W'->cZ W' (.slice va (n8+1) vc) (oh::lo):=by
   intro W' f;have r2:=r1.aB f (fun b hb hc=>by have:=i1 b hb;(try simp only [aE] at this);simp at hc;omega);have h1:=aV.D9 r2;unfold cZ;have EM:(oh::lo).length - 8=n8+1:=by have a1:=Oa.o;have a2:=HN0.o;show lo.length+1 - 8=n8+1;omega
   rw [EM];refine h1.congr fun o ho=>?_;unfold gU;rw [HCT.o];have a1:=Oa.o;by_cases zN:o < n8
   ·rw [afE zN,abH omm]
   ·rw [abH zN,afE omm]
  have HMO:=ae hmo;have dC:=ae eN;have kY:=ae k2;obtain ⟨p0,p1,p2,p3,p4,p5,p6,p7,p8,p9,θ,p11,p12⟩:=k1.nN;obtain ⟨z0,z1,z2,z3,z4,z5,z6,z7,z8,z9,TM,Ob,z12⟩:=k2.nN;have fz1:=k1.frozen;have fz2:=k2.frozen;have l1:=k1.lt;have l2:=k2.lt;clear r1 f1 i1 k1 k2 hmo eN JE ug hB;go_wp2_with fail;have kA:=kY.o.aB (w':=((w1.setCell (π w.heap.size 12) (.slice va (n8+1) vc)).setCell (π w.heap.size 10) (ι ((n0:Int)+1)))) (((da.refl [w.heap.size] w1).setCell smm _).setCell smm _) smm;have b9:=(((((((((((((kA.set 0 (.bool th)).set 1 (.string tb)).set 2 (ι (lc 0))).set 3 (ι (lc 1))).set 4 (ι (lc 2))).set 5 (ι (lc 3))).set 6 (ι (lc 4))).set 7 (ι (lc 5))).set 8 (ι (lc 6))).set 9 (ι (lc 7))).set 10 (ι ((n0:Int)+1))).set 11 (ι ha)).set 12 (.slice va (n8+1) vc));simp only [List.setIfInBounds_toArray,List.set_cons_zero,List.set_cons_succ] at b9;have f9:da [w.heap.size,w.heap.size+1] w1 _:=((((((((((((((((da.refl [w.heap.size,w.heap.size+1] w1).setCell (p:=(π w.heap.size 12)) smm (.slice va (n8+1) vc)).setCell (p:=(π w.heap.size 10)) smm (ι ((n0:Int)+1))).setCell (p:=(π (w.heap.size+1) 0)) smm (.bool th)).setCell (p:=(π (w.heap.size+1) 1)) smm (.string tb)).setCell (p:=(π (w.heap.size+1) 2)) smm (ι (lc 0))).setCell (p:=(π (w.heap.size+1) 3)) smm (ι (lc 1))).setCell (p:=(π (w.heap.size+1) 4)) smm (ι (lc 2))).setCell (p:=(π (w.heap.size+1) 5)) smm (ι (lc 3))).setCell (p:=(π (w.heap.size+1) 6)) smm (ι (lc 4))).setCell (p:=(π (w.heap.size+1) 7)) smm (ι (lc 5))).setCell (p:=(π (w.heap.size+1) 8)) smm (ι (lc 6))).setCell (p:=(π (w.heap.size+1) 9)) smm (ι (lc 7))).setCell (p:=(π (w.heap.size+1) 10)) smm (ι ((n0:Int)+1))).setCell (p:=(π (w.heap.size+1) 11)) smm (ι ha)).setCell (p:=(π (w.heap.size+1) 12)) smm (.slice va (n8+1) vc));have m9:=HMO.o _ f9;have Tw:=dC.o.trans (f9.below (B:=w.heap.size) dC.o.size smm);generalize (((((((((((((((w1.setCell (π w.heap.size 12) (.slice va (n8+1) vc)).setCell (π w.heap.size 10) (ι ((n0:Int)+1))).setCell (π (w.heap.size+1) 0) (.bool th)).setCell (π (w.heap.size+1) 1) (.string tb)).setCell (π (w.heap.size+1) 2) (ι (lc 0))).setCell (π (w.heap.size+1) 3) (ι (lc 1))).setCell (π (w.heap.size+1) 4) (ι (lc 2))).setCell (π (w.heap.size+1) 5) (ι (lc 3))).setCell (π (w.heap.size+1) 6) (ι (lc 4))).setCell (π (w.heap.size+1) 7) (ι (lc 5))).setCell (π (w.heap.size+1) 8) (ι (lc 6))).setCell (π (w.heap.size+1) 9) (ι (lc 7))).setCell (π (w.heap.size+1) 10) (ι ((n0:Int)+1))).setCell (π (w.heap.size+1) 11) (ι ha)).setCell (π (w.heap.size+1) 12) (.slice va (n8+1) vc))=W9 at*;obtain ⟨i0,i1,i2,i3,i4,i5,i6,i7,i8,i9,i10,i11,i12⟩:=b9.nN;clear b9 f9 kA p0 p1 p2 p3 p4 p5 p6 p7 p8 p9 θ p11 p12 z0 z1 z2 z3 z4 z5 z6 z7 z8 z9 TM Ob z12 fz1 fz2;refine afI ?_ rfl ⟨.slice va (n8+1) vc,rfl,m9,Tw,fun b hb=> .inr (HI1.o b hb)⟩;simp [results,results302,go_sem,i0,i1,i2,i3,i4,i5,i6,i7,i8,i9,i10,i11,i12]
end Go.Proofs.YtblkblclmbhjiaaGreat.Vf
namespace Go.Proofs.YtblkblclmbhjiaaGreat.Vf
open Go.RowKit ak.Vm
open ak hiding aL an aj
open Ma (dx bQ aU vb aA aQ)
def qR (K:Kp) (p:aO) (iz:Value):Array Value:=#[K.g,K.v,K.t,K.o,ι p.aJ,K.c,iz]
def qu (p:aO) (n:Int):Prop:=0<=n/\n < p.ap.length
theorem bw {w:World} {K:Kp} {p:aO} (h:fP w K p) {n:Int} (hq:qu p n):∃(m b off cap:Nat),n=m/\m < p.ap.length/\K.g= .slice (some (π b off)) p.ap.length cap/\b < w.heap.size/\w.cell? (π b (off+m))=some (.bool (bj p n)):=by
 obtain ⟨m,rfl⟩:=afN hq.1;have hm:m < p.ap.length:=by have:=hq.2;omega
 obtain ⟨b,off,cap,e,q1,q2,c⟩:=h.gh hm;exact ⟨m,b,off,cap,rfl,hm,e,aS c,by unfold bj;simpa using c⟩
section
variable {w:World} {K:Kp} {p:aO} {iz:Value} {vb:Nat} {x:Ins} {ha:Nat}
theorem adD {p:Prop} (h:p:=by
 go_wp2_with fail;go_ret;exact ⟨rfl,hB _ _⟩):p:=h
theorem acO {p:Prop} (h:p:=by
 go_wp2_with fail;go_quiet (fail);go_wp2_with fail;go_ret;exact ⟨rfl,hC _ _ _⟩):p:=h
theorem acN {p:Prop} (h:p:=by
 go_enter func246,ntmps246;go_wp2_with fail;go_ret;exact ⟨by simp [be],hB _ _⟩):p:=h
theorem TE (h:fP w K p) (hv:ay w vb 230 (qR K p iz)) (hq:x.op=34->qu p x.a):Calls prog 246 #[ρ vb,aQ x,ι ha] w (fun e w'=>e= .returned (ι (be p x ha))/\Below w.heap.size w w'):=by
 obtain ⟨op,xa,xb,xc,xd⟩:=x;unfold aQ aA;dsimp only;have hB:=ag6 w;have hC:∀cs T k,Below w.heap.size w ((w.alloc (.cells cs T)).drewN k):=fun cs T k=>(hB cs T).trans (au _ _ k);have lv:=hv.lt;dsimp only at hq;by_cases o1:op=36
 ·subst o1;exact acN
 by_cases o2:op=35
 ·subst o2;exact acN
 by_cases o3:op=37
 ·subst o3;exact acN
 by_cases o4:op=34
 ·subst o4;replace hq:=hq rfl;obtain ⟨m,gb,off,cap,rfl,hm,hk,rl,gc⟩:=bw h hq;have v0:=hv.c1;rw [hk] at v0;have hf:be p ⟨34,(m:Int),xb,xc,xd⟩ ha=if bj p m then 1 else 2:=by simp [be]
  rw [hf];clear hf hk h hv hq;cases hg:bj p m with
  |false=>rw [hg] at gc;clear hg;go_enter func246,ntmps246;exact acO
  |true=>rw [hg] at gc;clear hg;go_enter func246,ntmps246;exact acO
 ·have hf:be p ⟨op,xa,xb,xc,xd⟩ ha=ha:=by simp [be,o1,o2,o3,o4]
  rw [hf];clear hf;go_enter func246,ntmps246;exact adD
theorem acm {p:Prop} (h:p:=by
 rcases hh with rfl|rfl|rfl|rfl
 all_goals
  go_enter func242,ntmps242;go_wp2_with fail;go_ret;exact ⟨by simp [dU],hB _ _⟩):p:=h
theorem adE {p:Prop} (h:p:=by
 rcases hh with rfl|rfl|rfl|rfl
 all_goals
  go_enter func242,ntmps242;go_wp2_with fail;go_ret;exact ⟨by simp<;>omega,hB _ _⟩):p:=h
theorem adC {p:Prop} (h:p:=by
 rw [hg] at gc;clear hg;rcases hh with rfl|rfl|rfl|rfl
 all_goals
  go_enter func242,ntmps242;go_wp2_with fail;go_quiet (fail);go_wp2_with fail;go_ret;exact ⟨smm,hC _ _ _⟩):p:=h
theorem PH (h:fP w K p) (hv:ay w vb 230 (qR K p iz)) (hq:x.op=35->qu p x.a) (h3:ha<=3):Calls prog 242 #[ρ vb,aQ x,ι ha] w (fun e w'=>e= .returned (.bool (dU p x ha))/\Below w.heap.size w w'):=by
 obtain ⟨op,xa,xb,xc,xd⟩:=x;unfold aQ aA;dsimp only;have hB:=ag6 w;have hC:∀cs T k,Below w.heap.size w ((w.alloc (.cells cs T)).drewN k):=fun cs T k=>(hB cs T).trans (au _ _ k);have lv:=hv.lt;dsimp only at hq;have hh:ha=0\/ha=1\/ha=2\/ha=3:=omm;clear h3;by_cases o1:op=36
 ·subst o1;exact acm
 by_cases o2:op=37
 ·subst o2;exact acm
 by_cases o3:op=35
 ·subst o3;replace hq:=hq rfl;obtain ⟨m,gb,off,cap,rfl,hm,hk,rl,gc⟩:=bw h hq;have v0:=hv.c1;rw [hk] at v0;have hf:dU p ⟨35,(m:Int),xb,xc,xd⟩ ha=if bj p m then ha==1||ha==3 else ha==2:=by simp [dU]
  rw [hf];clear hf hk h hv hq;cases hg:bj p m with
  |false=>exact adC
  |true=>exact adC
 by_cases o4:op=28\/op=29\/op=30
 ·have hf:dU p ⟨op,xa,xb,xc,xd⟩ ha=true:=by unfold dU;rw [abH o1,abH o2,abH o3,afE o4]
  rw [hf];clear hf hh;rcases o4 with rfl|rfl|rfl
  all_goals
   go_enter func242,ntmps242;exact adD
 ·have hf:dU p ⟨op,xa,xb,xc,xd⟩ ha=((decide (1<=op)&&decide (op<=21))||ha==0):=by unfold dU;rw [abH o1,abH o2,abH o3,abH o4]
  rw [hf];have o5:¬op=28:=fun e=>o4 (.inl e);have o6:¬op=29:=fun e=>o4 (.inr (.inl e));have o7:¬op=30:=fun e=>o4 (.inr (.inr e));clear hf o4 hq;by_cases r1:1<=op
  ·by_cases r2:op<=21
   ·clear hh;go_enter func242,ntmps242;go_wp2_with fail;go_ret;exact ⟨by simp [r1,r2],hB _ _⟩
   ·exact adE
  ·exact adE
theorem acP {p:Prop} (h:p:=by
 obtain ⟨m,gb,off,cap,rfl,hm,hk,rl,gc⟩:=bw h hq;have v0:=hv.c1;rw [hk] at v0;rw [hf];clear hf hk h hv hq kO;generalize bj p m=g1 at*;cases g1
 all_goals
  go_enter func244,ntmps244;exact adD):p:=h
theorem PI (h:fP w K p) (hv:ay w vb 230 (qR K p iz)) (hq:x.op=32\/x.op=40\/x.op=41\/x.op=38\/x.op=39->qu p x.a) (kO:x.op=38\/x.op=39->qu p x.c):Calls prog 244 #[ρ vb,aQ x] w (fun e w'=>e= .returned (.bool (cJ p x))/\Below w.heap.size w w'):=by
 obtain ⟨op,xa,xb,xc,xd⟩:=x;unfold aQ aA;dsimp only;have hB:=ag6 w;have hC:∀cs T k,Below w.heap.size w ((w.alloc (.cells cs T)).drewN k):=fun cs T k=>(hB cs T).trans (au _ _ k);have lv:=hv.lt;dsimp only at hq kO;by_cases o1:op=32
 ·subst o1;have hf:∀n:Int,cJ p ⟨32,n,xb,xc,xd⟩= !bj p n:=fun n=>by simp [cJ]
  replace hq:=hq smm;exact acP
 by_cases o2:op=40
 ·subst o2;have hf:∀n:Int,cJ p ⟨40,n,xb,xc,xd⟩= !bj p n:=fun n=>by simp [cJ]
  replace hq:=hq smm;exact acP
 by_cases o3:op=41
 ·subst o3;have hf:∀n:Int,cJ p ⟨41,n,xb,xc,xd⟩=bj p n:=fun n=>by simp [cJ]
  replace hq:=hq smm;exact acP
 by_cases o4:op=38
 ·subst o4;have hf:∀n n2:Int,cJ p ⟨38,n,xb,n2,xd⟩=(bj p n==bj p n2):=fun n n2=>by simp [cJ]
  replace hq:=hq smm;replace kO:=kO smm;obtain ⟨m,gb,off,cap,rfl,hm,hk,rl,gc⟩:=bw h hq;obtain ⟨m2,gb2,EJ,z_,rfl,qV,jd,TF,gc2⟩:=bw h kO;have v0:=hv.c1;rw [hk] at v0 jd;simp only [afH,af5,Addr.mk.injEq] at jd;obtain ⟨⟨rfl,rfl,-⟩,-,rfl⟩:=jd;rw [hf];clear hf hk h hv hq kO;generalize bj p m=g1 at*;generalize bj p m2=g2 at*;cases g1
  all_goals
   cases g2
   all_goals
    go_enter func244,ntmps244;exact acO
 by_cases o5:op=39
 ·subst o5;have hf:∀n n2:Int,cJ p ⟨39,n,xb,n2,xd⟩=(!bj p n&&bj p n2):=fun n n2=>by simp [cJ]
  replace hq:=hq smm;replace kO:=kO smm;obtain ⟨m,gb,off,cap,rfl,hm,hk,rl,gc⟩:=bw h hq;obtain ⟨m2,gb2,EJ,z_,rfl,qV,jd,TF,gc2⟩:=bw h kO;have v0:=hv.c1;rw [hk] at v0 jd;simp only [afH,af5,Addr.mk.injEq] at jd;obtain ⟨⟨rfl,rfl,-⟩,-,rfl⟩:=jd;rw [hf];clear hf hk h hv hq kO;generalize bj p m=g1 at*;generalize bj p m2=g2 at*;cases g1
  all_goals
   cases g2
   all_goals
    go_enter func244,ntmps244;exact adD
 ·have hf:cJ p ⟨op,xa,xb,xc,xd⟩=true:=by simp [cJ,o1,o2,o3,o4,o5]
  obtain ⟨ga,gcp,hk,-,-⟩:=h.g.val;have v0:=hv.c1;rw [hk] at v0;rw [hf];clear hf hk h hv hq kO;go_enter func244,ntmps244;exact adD
end
end Go.Proofs.YtblkblclmbhjiaaGreat.Vf
