/- Of the proof that VmKeeps holds: a key keeps its node, what traps leaves no trace. No condition. -/
import Derived.Test.YtblkblclmbhjiaaGreatL0
import Derived.Test.YtblkblclmbhjiaaGreatL1
import Derived.Test.YtblkblclmbhjiaaGreatRows
import Derived.BigQuiet
import Derived.BigRegion
import Derived.Deep.QuietTactic
import Derived.Outline
import Derived.Shelf.Small.Bits
import Derived.Shelf.Strconv.Itoa0
import Derived.Test.YtblkblclmbhjiaaGreatProg
import Derived.Shelf.SlGeneric
import Derived.Shelf.SlSortCmp.WholeK
import Derived.Shelf.SlicesE.Clone
import Derived.Ground.SlsfProg
import Derived.Ground.SlgnProg
import Derived.Deep.LoopGhost
set_option linter.unusedVariables false
set_option linter.unusedSimpArgs false
set_option maxHeartbeats 40000000
set_option maxRecDepth 100000
namespace ak.Vm
open Go Go.RowKit
def ep (R:Raw) (o:Nat):Value:=
 if o % 8=0 then .int .u64 (R.val (o / 8)).key else if o % 8 < 5 then ι ((R.val (o / 8)).tg (o % 8 - 1)) else if o % 8=5 then ι (R.own (o / 8)) else ι (R.bK (o / 8) (o % 8 - 6))
def lW (R:Raw) (o:Nat):Value:=if o % 3 < 2 then ι (R.ends (o / 3) (o % 3)) else ι (R.cR (o / 3))
theorem xJ (R:Raw) (n:Nat):ep R (n*8)= .int .u64 (R.val n).key:=by unfold ep;rw [if_pos (by omega),show n*8 / 8=n by omega]
theorem iL (R:Raw) (n:Nat) {t:Nat} (ht:t < 4):ep R (n*8+(1+t))=ι ((R.val n).tg t):=by unfold ep;rw [if_neg (by omega),if_pos (by omega),show (n*8+(1+t)) / 8=n by omega,show (n*8+(1+t)) % 8 - 1=t by omega]
theorem sq (R:Raw) (n:Nat):ep R (n*8+5)=ι (R.own n):=by unfold ep;rw [if_neg (by omega),if_neg (by omega),if_pos (by omega),show (n*8+5) / 8=n by omega]
theorem xK (R:Raw) (n:Nat) {e:Nat} (he:e<=1):ep R (n*8+(6+e))=ι (R.bK n e):=by unfold ep;rw [if_neg (by omega),if_neg (by omega),if_neg (by omega),show (n*8+(6+e)) / 8=n by omega,show (n*8+(6+e)) % 8 - 6=e by omega]
theorem uL (R:Raw) (q:Nat) {e:Nat} (he:e<=1):lW R (q*3+e)=ι (R.ends q e):=by unfold lW;rw [if_pos (by omega),show (q*3+e) / 3=q by omega,show (q*3+e) % 3=e by omega]
theorem xL (R:Raw) (q:Nat):lW R (q*3+2)=ι (R.cR q):=by unfold lW;rw [if_neg (by omega),show (q*3+2) / 3=q by omega]
theorem yT (R:Raw) (n:Nat) {e:Nat} (he:e<=1) (v:Int):(fun o=>if o=n*8+(6+e) then ι v else ep R o)=ep {R with bK:=cM R.bK n e v}:=by
 funext o;unfold ep;by_cases h:o=n*8+(6+e)
 ·rw [if_pos h,h,if_neg (by omega),if_neg (by omega),if_neg (by omega),show (n*8+(6+e)) / 8=n by omega,show (n*8+(6+e)) % 8 - 6=e by omega];dsimp only;rw [xG]
 ·rw [if_neg h];by_cases h8:o % 8 < 6
  ·by_cases a:o % 8=0
   ·rw [if_pos a,if_pos a]
   ·rw [if_neg a,if_neg a];by_cases b:o % 8 < 5
    ·rw [if_pos b,if_pos b]
    ·rw [if_neg b,if_neg b,if_pos (by omega),if_pos (by omega)]
  ·rw [if_neg (by omega),if_neg (by omega),if_neg (by omega),if_neg (by omega),if_neg (by omega),if_neg (by omega)];dsimp only;rw [cN,if_neg (by omega)]
theorem yU (R:Raw) (n:Nat) (v:Int):(fun o=>if o=n*8+5 then ι v else ep R o)=ep {R with own:=aL R.own n v}:=by
 funext o;unfold ep;by_cases h:o=n*8+5
 ·rw [if_pos h,h,if_neg (by omega),if_neg (by omega),if_pos (by omega),show (n*8+5) / 8=n by omega];dsimp only;rw [an]
 ·rw [if_neg h];by_cases a:o % 8=0
  ·rw [if_pos a,if_pos a]
  ·rw [if_neg a,if_neg a];by_cases b:o % 8 < 5
   ·rw [if_pos b,if_pos b]
   ·rw [if_neg b,if_neg b];by_cases c:o % 8=5
    ·rw [if_pos c,if_pos c];dsimp only;rw [aj _ _ (by omega)]
    ·rw [if_neg c,if_neg c]
theorem wY (R:Raw) (q:Nat) {e:Nat} (he:e<=1) (v:Int):(fun o=>if o=q*3+e then ι v else lW R o)=lW {R with ends:=cM R.ends q e v}:=by
 funext o;unfold lW;by_cases h:o=q*3+e
 ·rw [if_pos h,h,if_pos (by omega),show (q*3+e) / 3=q by omega,show (q*3+e) % 3=e by omega];dsimp only;rw [xG]
 ·rw [if_neg h];by_cases a:o % 3 < 2
  ·rw [if_pos a,if_pos a];dsimp only;rw [cN,if_neg (by omega)]
  ·rw [if_neg a,if_neg a]
theorem yV (R:Raw) (q:Nat) (v:Nat):(fun o=>if o=q*3+2 then ι v else lW R o)=lW {R with cR:=aL R.cR q v}:=by
 funext o;unfold lW;by_cases h:o=q*3+2
 ·rw [if_pos h,h,if_neg (by omega),show (q*3+2) / 3=q by omega];dsimp only;rw [an]
 ·rw [if_neg h];by_cases a:o % 3 < 2
  ·rw [if_pos a,if_pos a]
  ·rw [if_neg a,if_neg a];dsimp only;rw [aj _ _ (by omega)]
structure qg (w:World) (ab:Nat) (V L:Value) (az nl:Nat) (R:Raw):Prop where
 head:ay w ab 191 #[ι az,V,L,ι R.cS,ι R.used]
 nodes:Row w 202 8 V R.made (ep R)
 lists:Row w 194 3 L nl (lW R)
def bp (ab:Nat) (V L:Value):List Nat:=ab::(V.ownBlock.toList++L.ownBlock.toList)
section
variable {w w':World} {ab az nl:Nat} {V L:Value} {R:Raw}
theorem qg.nb (h:qg w ab V L az nl R):V.ownBlock≠some ab:=h.nodes.eF h.head (by decide)
theorem qg.lb (h:qg w ab V L az nl R):L.ownBlock≠some ab:=h.lists.eF h.head (by decide)
theorem qg.vl (h:qg w ab V L az nl R):V.ownBlock=none\/V.ownBlock≠L.ownBlock:=h.nodes.ne h.lists (by decide)
theorem qg.drewN (h:qg w ab V L az nl R) (n:Nat):qg (w.drewN n) ab V L az nl R:=⟨h.head,h.nodes.drewN n,h.lists.drewN n⟩
theorem qg.aB {S:List Nat} (h:qg w ab V L az nl R) (f:ax S w w') (hs:∀b,b∈bp ab V L->b∉S):qg w' ab V L az nl R:=
 ⟨h.head.aB f (hs _ (by simp [bp])),h.nodes.aB f fun b hb=>hs b (by simp [bp,hb]),h.lists.aB f fun b hb=>hs b (by simp [bp,hb])⟩
end
theorem qg.later {w w':World} {ab az nl:Nat} {V L:Value} {R:Raw} (h:qg w ab V L az nl R) (b:Below w.heap.size w w'):qg w' ab V L az nl R:=
 h.aB (ax.ah (S:=[]) b) (fun _ _=>by simp)
structure dO (w:World) (ab nb cn lb cl:Nat) (az nl:Nat) (R:Raw):Prop where
 c:qg w ab (.slice (some (π nb 0)) R.made cn) (.slice (some (π lb 0)) nl cl) az nl R
 pos:0 < R.made
section
variable {w w':World} {ab nb cn lb cl az nl:Nat} {R:Raw}
theorem dO.ne (h:dO w ab nb cn lb cl az nl R):nb≠ab/\lb≠ab/\nb≠lb:=by have a:=h.c.nb;have b:=h.c.lb;have c:=h.c.vl;simp [Value.ownBlock] at a b c;exact ⟨a,b,c⟩
theorem acw {p:Prop} (h:p:=by
 exact ⟨⟨h.c.head.other (fun e=>a e.symm) _ _,h1,h.c.lists.other (by simp [Value.ownBlock];exact fun e=>c e.symm) _ _⟩,h.pos⟩):p:=h
theorem dO.ij (h:dO w ab nb cn lb cl az nl R) {n e:Nat} (hn:n < R.made) (he:e<=1) (v:Int):dO (w.setCell (π nb (n*8+(6+e))) (ι v)) ab nb cn lb cl az nl {R with bK:=cM R.bK n e v}:=by obtain ⟨a,b,c⟩:=h.ne;have h1:=h.c.nodes.set (o:=n*8+(6+e)) (by omega) (ι v);rw [yT R n he] at h1;exact acw
theorem dO.uM (h:dO w ab nb cn lb cl az nl R) {n:Nat} (hn:n < R.made) (v:Int):dO (w.setCell (π nb (n*8+5)) (ι v)) ab nb cn lb cl az nl {R with own:=aL R.own n v}:=by obtain ⟨a,b,c⟩:=h.ne;have h1:=h.c.nodes.set (o:=n*8+5) (by omega) (ι v);rw [yU R n] at h1;exact acw
theorem acx {p:Prop} (h:p:=by
 exact ⟨⟨h.c.head.other (fun e=>b e.symm) _ _,h.c.nodes.other (by simp [Value.ownBlock];exact c) _ _,h1⟩,h.pos⟩):p:=h
theorem dO.jE (h:dO w ab nb cn lb cl az nl R) {q e:Nat} (hq:q < nl) (he:e<=1) (v:Int):dO (w.setCell (π lb (q*3+e)) (ι v)) ab nb cn lb cl az nl {R with ends:=cM R.ends q e v}:=by obtain ⟨a,b,c⟩:=h.ne;have h1:=h.c.lists.set (o:=q*3+e) (by omega) (ι v);rw [wY R q he] at h1;exact acx
theorem dO.oJ (h:dO w ab nb cn lb cl az nl R) {q:Nat} (hq:q < nl) (v:Nat):dO (w.setCell (π lb (q*3+2)) (ι v)) ab nb cn lb cl az nl {R with cR:=aL R.cR q v}:=by obtain ⟨a,b,c⟩:=h.ne;have h1:=h.c.lists.set (o:=q*3+2) (by omega) (ι v);rw [yV R q] at h1;exact acx
theorem acy {p:Prop} (h:p:=by
 exact ⟨⟨h1,h.c.nodes.other (by simp [Value.ownBlock];exact a) _ _,h.c.lists.other (by simp [Value.ownBlock];exact b) _ _⟩,h.pos⟩):p:=h
theorem dO.Bf (h:dO w ab nb cn lb cl az nl R) (v:Int):dO (w.setCell (π ab 3) (ι v)) ab nb cn lb cl az nl {R with cS:=v}:=by obtain ⟨a,b,c⟩:=h.ne;have h1:=h.c.head.set 3 (ι v);exact acy
theorem dO.yW (h:dO w ab nb cn lb cl az nl R) (v:Nat):dO (w.setCell (π ab 4) (ι v)) ab nb cn lb cl az nl {R with used:=v}:=by obtain ⟨a,b,c⟩:=h.ne;have h1:=h.c.head.set 4 (ι v);exact acy
def dr (w:World) (b o:Nat) (x:eW):World:=
 ((((w.setCell (π b o) (.int .u64 x.key)).setCell (π b (o+1)) (ι (x.tg 0))).setCell (π b (o+2)) (ι (x.tg 1))).setCell (π b (o+3)) (ι (x.tg 2))).setCell (π b (o+4)) (ι (x.tg 3))
theorem yX (R:Raw) (n:Nat) (x:eW):(fun o=>if o=n*8+4 then ι (x.tg 3) else if o=n*8+3 then ι (x.tg 2) else if o=n*8+2 then ι (x.tg 1) else if o=n*8+1 then ι (x.tg 0) else if o=n*8 then .int .u64 x.key else ep R o)=ep {R with val:=aL R.val n x}:=by
 funext o;unfold ep;dsimp only;by_cases hn:o / 8=n
 ·have h8:o % 8=0\/o % 8=1\/o % 8=2\/o % 8=3\/o % 8=4\/5<=o % 8:=by omega
  rw [hn,an];rcases h8 with h|h|h|h|h|h
  ·rw [if_neg (by omega),if_neg (by omega),if_neg (by omega),if_neg (by omega),if_pos (by omega),if_pos h]
  ·rw [if_neg (by omega),if_neg (by omega),if_neg (by omega),if_pos (by omega),if_neg (by omega),if_pos (by omega),h]
  ·rw [if_neg (by omega),if_neg (by omega),if_pos (by omega),if_neg (by omega),if_pos (by omega),h]
  ·rw [if_neg (by omega),if_pos (by omega),if_neg (by omega),if_pos (by omega),h]
  ·rw [if_pos (by omega),if_neg (by omega),if_pos (by omega),h]
  ·have c0:¬o % 8=0:=by omega
   have c1:¬o % 8 < 5:=by omega
   rw [if_neg (by omega),if_neg (by omega),if_neg (by omega),if_neg (by omega),if_neg (by omega)];simp only [c0,c1,if_false]
 ·rw [if_neg (by omega),if_neg (by omega),if_neg (by omega),if_neg (by omega),if_neg (by omega),aj _ _ hn]
theorem dO.yY (h:dO w ab nb cn lb cl az nl R) {n:Nat} (hn:n < R.made) (x:eW):dO (dr w nb (n*8) x) ab nb cn lb cl az nl {R with val:=aL R.val n x}:=by
 obtain ⟨a,b,c⟩:=h.ne;have h1:=((((h.c.nodes.set (o:=n*8) (by omega) (.int .u64 x.key)).set (o:=n*8+1) (by omega) (ι (x.tg 0))).set (o:=n*8+2) (by omega) (ι (x.tg 1))).set (o:=n*8+3) (by omega) (ι (x.tg 2))).set (o:=n*8+4) (by omega) (ι (x.tg 3));rw [yX R n x] at h1;have ha:ab≠nb:=fun e=>a e.symm;have hl:(Value.slice (some (π lb 0)) nl cl).ownBlock≠some nb:=by simp [Value.ownBlock];exact fun e=>c e.symm
 exact ⟨⟨((((h.c.head.other ha _ _).other ha _ _).other ha _ _).other ha _ _).other ha _ _,h1,((((h.c.lists.other hl _ _).other hl _ _).other hl _ _).other hl _ _).other hl _ _⟩,h.pos⟩
theorem fD {S:List Nat} {a w:World} {b:Nat} (h:ax S a w) (hb:b∈S) (o:Nat) (x:eW):ax S a (dr w b o x):=
 ((((h.setCell hb _).setCell hb _).setCell hb _).setCell hb _).setCell hb _
theorem dO.aW (h:dO w ab nb cn lb cl az nl R) {n:Nat} (hn:n < R.made):w.cell? (π nb (n*8))=some (.int .u64 (R.val n).key)/\w.cell? (π nb (n*8+1))=some (ι ((R.val n).tg 0))/\
 w.cell? (π nb (n*8+2))=some (ι ((R.val n).tg 1))/\w.cell? (π nb (n*8+3))=some (ι ((R.val n).tg 2))/\w.cell? (π nb (n*8+4))=some (ι ((R.val n).tg 3)):=by
 refine ⟨?_,?_,?_,?_,?_⟩
 ·rw [h.c.nodes.cell (o:=n*8) (by omega),xJ]
 ·rw [h.c.nodes.cell (o:=n*8+1) (by omega),show ep R (n*8+1)=_ from iL R n (t:=0) (by omega)]
 ·rw [h.c.nodes.cell (o:=n*8+2) (by omega),show ep R (n*8+2)=_ from iL R n (t:=1) (by omega)]
 ·rw [h.c.nodes.cell (o:=n*8+3) (by omega),show ep R (n*8+3)=_ from iL R n (t:=2) (by omega)]
 ·rw [h.c.nodes.cell (o:=n*8+4) (by omega),show ep R (n*8+4)=_ from iL R n (t:=3) (by omega)]
theorem dO.h0 (h:dO w ab nb cn lb cl az nl R):w.cell? (π ab 0)=some (ι az):=h.c.head.cell 0
theorem dO.h1 (h:dO w ab nb cn lb cl az nl R):w.cell? (π ab 1)=some (.slice (some (π nb 0)) R.made cn):=h.c.head.cell 1
theorem dO.h2 (h:dO w ab nb cn lb cl az nl R):w.cell? (π ab 2)=some (.slice (some (π lb 0)) nl cl):=h.c.head.cell 2
theorem dO.h3 (h:dO w ab nb cn lb cl az nl R):w.cell? (π ab 3)=some (ι R.cS):=h.c.head.cell 3
theorem dO.h4 (h:dO w ab nb cn lb cl az nl R):w.cell? (π ab 4)=some (ι R.used):=h.c.head.cell 4
theorem dO.own (h:dO w ab nb cn lb cl az nl R) {n:Nat} (hn:n < R.made):w.cell? (π nb (n*8+5))=some (ι (R.own n)):=by rw [h.c.nodes.cell (o:=n*8+5) (by omega),sq]
theorem dO.bK (h:dO w ab nb cn lb cl az nl R) {n e:Nat} (hn:n < R.made) (he:e<=1):w.cell? (π nb (n*8+(6+e)))=some (ι (R.bK n e)):=by rw [h.c.nodes.cell (o:=n*8+(6+e)) (by omega),xK R n he]
theorem dO.ends (h:dO w ab nb cn lb cl az nl R) {q e:Nat} (hq:q < nl) (he:e<=1):w.cell? (π lb (q*3+e))=some (ι (R.ends q e)):=by rw [h.c.lists.cell (o:=q*3+e) (by omega),uL R q he]
theorem dO.cR (h:dO w ab nb cn lb cl az nl R) {q:Nat} (hq:q < nl):w.cell? (π lb (q*3+2))=some (ι (R.cR q)):=by rw [h.c.lists.cell (o:=q*3+2) (by omega),xL]
theorem dO.fa (h:dO w ab nb cn lb cl az nl R) (o:Nat):w.frozen? (π ab o)=false:=h.c.head.frozen o
theorem dO.fn (h:dO w ab nb cn lb cl az nl R) (o:Nat):w.frozen? (π nb o)=false:=h.c.nodes.frozen o
theorem dO.fl (h:dO w ab nb cn lb cl az nl R) (o:Nat):w.frozen? (π lb o)=false:=h.c.lists.frozen o
theorem dO.drewN (h:dO w ab nb cn lb cl az nl R) (n:Nat):dO (w.drewN n) ab nb cn lb cl az nl R:=⟨h.c.drewN n,h.pos⟩
theorem dO.later (h:dO w ab nb cn lb cl az nl R) (b:Below w.heap.size w w'):dO w' ab nb cn lb cl az nl R:=⟨h.c.later b,h.pos⟩
theorem dO.aB {S:List Nat} (h:dO w ab nb cn lb cl az nl R) (f:ax S w w') (hs:ab∉S/\nb∉S/\lb∉S):dO w' ab nb cn lb cl az nl R:=
 ⟨h.c.aB f (by intro b hb;simp [bp,Value.ownBlock] at hb;rcases hb with rfl|rfl|rfl;exact hs.1;exact hs.2.1;exact hs.2.2),h.pos⟩
theorem dO.apart (h:dO w ab nb cn lb cl az nl R) {b:Nat} {T:TypeId} {cs:Array Value} (k:ay w b T cs) (h1:191≠T:=by decide) (h2:202≠T:=by decide) (h3:194≠T:=by decide):b≠ab/\b≠nb/\b≠lb:=by have a:=h.c.head.ne k h1;have c:=h.c.nodes.eF k h2;have d:=h.c.lists.eF k h3;simp [Value.ownBlock] at c d;exact ⟨fun e=>a e.symm,fun e=>c e.symm,fun e=>d e.symm⟩
theorem dO.facts (h:dO w ab nb cn lb cl az nl R) {n:Nat} (hn:n < R.made):
 w.cell? (π ab 1)=some (.slice (some (π nb 0)) R.made cn)/\w.cell? (π ab 3)=some (ι R.cS)/\w.cell? (π ab 4)=some (ι R.used)/\
 w.cell? (π nb (n*8))=some (.int .u64 (R.val n).key)/\w.cell? (π nb (n*8+1))=some (ι ((R.val n).tg 0))/\
 w.cell? (π nb (n*8+2))=some (ι ((R.val n).tg 1))/\w.cell? (π nb (n*8+3))=some (ι ((R.val n).tg 2))/\w.cell? (π nb (n*8+4))=some (ι ((R.val n).tg 3))/\
 w.cell? (π nb (n*8+5))=some (ι (R.own n))/\w.cell? (π nb (n*8+6))=some (ι (R.bK n 0))/\w.cell? (π nb (n*8+7))=some (ι (R.bK n 1))/\
 (∀o,w.frozen? (π nb o)=false)/\(∀o,w.frozen? (π ab o)=false):=by
 obtain ⟨k0,k1,k2,k3,k4⟩:=h.aW hn;exact ⟨h.h1,h.h3,h.h4,k0,k1,k2,k3,k4,h.own hn,h.bK (e:=0) hn (by omega),h.bK (e:=1) hn (by omega),h.fn,h.fa⟩
theorem jc {b:Nat} {v0 v1 v2 v3 v4:Value} (h:ay w b 118 #[v0,v1,v2,v3,v4]):w.cell? (π b 0)=some v0/\w.cell? (π b 1)=some v1/\w.cell? (π b 2)=some v2/\w.cell? (π b 3)=some v3/\w.cell? (π b 4)=some v4/\∀o,w.frozen? (π b o)=false:=
 ⟨h.cell 0,h.cell 1,h.cell 2,h.cell 3,h.cell 4,h.frozen⟩
end
end ak.Vm
namespace Go.Proofs.YtblkblclmbhjiaaGreat.dT
open Go.RowKit ak.Vm
open ak hiding aL an aj
theorem OC {w:World} {ab nb cn lb cl az nl n l:Nat} {R:Raw} (h:dO w ab nb cn lb cl az nl R) (hn:n < R.made) (hl:l < nl) (kL:R.ends l 0 < 0) (hc:R.cR l<=4194304) (hm:R.made<=4194304) (iZ:nl<=256):
 Calls Tryz.prog 309 #[ρ ab,ι n,ι l,ι 0] w fun e w'=>e= .returned (.tuple #[])/\ax [ab,nb,lb] w w'/\dO w' ab nb cn lb cl az nl (e_ R n l 0):=by
 obtain ⟨d1,d2,d3⟩:=h.ne;have a1:=h.h1;have a2:=h.h2;have e0:w.cell? (π lb (l*3))=some (ι (R.ends l 0)):=h.ends (e:=0) hl (by omega);have e1:w.cell? (π lb (l*3+1))=some (ι (R.ends l 1)):=h.ends (e:=1) hl (by omega);have e2:=h.cR hl;have b5:=h.own hn;have b6:w.cell? (π nb (n*8+6))=some (ι (R.bK n 0)):=h.bK (e:=0) hn (by omega);have b7:w.cell? (π nb (n*8+7))=some (ι (R.bK n 1)):=h.bK (e:=1) hn (by omega);have fn:=h.fn;have fl:=h.fl;have HX:=ae h;clear h;generalize dA:R.ends l 0=last at*;generalize R.ends l 1=last1 at*;generalize iS:R.cR l=k at*;have HL:=ae dA;have HC:=ae iS;clear dA iS;go_enter Tryz.func309,Tryz.ntmps309;go_wp2;go_region;go_wp2;go_end0;have x1:=((((((HX.o.uM hn l).ij (e:=0) hn (by omega) (-1)).ij (e:=1) hn (by omega) last).jE (e:=1) hl (by omega) n).jE (e:=0) hl (by omega) n).oJ hl (k+1)).drewN 1;refine ⟨rfl,((((((((ax.refl _ w).setCell (by simp) _).setCell (by simp) _).setCell (by simp) _).setCell (by simp) _).setCell (by simp) _).setCell (by simp) _)).drew,?_⟩;have e:e_ R n l 0={R with own:=aL R.own n l,bK:=cM (cM R.bK n 0 (-1)) n 1 last,ends:=cM (cM R.ends l 1 n) l 0 n,cR:=aL R.cR l (k+1)}:=by unfold e_;rw [HL.o,HC.o];dsimp only;rw [if_neg (by omega),if_neg (by omega)]
 rw [e];exact x1
theorem acz {p:Prop} (h:p:=by
 unfold e_;rw [HL.o,HC.o];dsimp only;rw [if_pos (by omega),if_pos (by omega),Int.toNat_natCast]):p:=h
theorem OD {w:World} {ab nb cn lb cl az nl n l:Nat} {R:Raw} (h:dO w ab nb cn lb cl az nl R) (hn:n < R.made) (hl:l < nl) {m:Nat} (iR:R.ends l 0=(m:Int)) (yZ:m < R.made) (GY:m≠n) (hc:R.cR l<=4194304) (hm:R.made<=4194304) (iZ:nl<=256):
 Calls Tryz.prog 309 #[ρ ab,ι n,ι l,ι 0] w fun e w'=>e= .returned (.tuple #[])/\ax [ab,nb,lb] w w'/\dO w' ab nb cn lb cl az nl (e_ R n l 0):=by
 obtain ⟨d1,d2,d3⟩:=h.ne;have a1:=h.h1;have a2:=h.h2;have e0:w.cell? (π lb (l*3))=some (ι (R.ends l 0)):=h.ends (e:=0) hl (by omega);have e1:w.cell? (π lb (l*3+1))=some (ι (R.ends l 1)):=h.ends (e:=1) hl (by omega);have e2:=h.cR hl;have b5:=h.own hn;have b6:w.cell? (π nb (n*8+6))=some (ι (R.bK n 0)):=h.bK (e:=0) hn (by omega);have b7:w.cell? (π nb (n*8+7))=some (ι (R.bK n 1)):=h.bK (e:=1) hn (by omega);have m6:w.cell? (π nb (m*8+6))=some (ι (R.bK m 0)):=h.bK (e:=0) yZ (by omega);have m7:w.cell? (π nb (m*8+7))=some (ι (R.bK m 1)):=h.bK (e:=1) yZ (by omega);have fn:=h.fn;have fl:=h.fl;have HX:=ae h;clear h;rw [iR] at e0;have dA:=iR;generalize R.ends l 1=last1 at e1;clear iR;generalize iS:R.cR l=k at*;have HL:=ae dA;have HC:=ae iS;clear dA iS;go_enter Tryz.func309,Tryz.ntmps309;go_wp2;go_region;go_wp2;go_end0;have x1:=((((((HX.o.uM hn l).ij (e:=0) hn (by omega) (-1)).ij (e:=1) hn (by omega) (m:Int)).ij (e:=0) yZ (by omega) n).jE (e:=0) hl (by omega) n).oJ hl (k+1)).drewN 1;refine ⟨rfl,((((((((ax.refl _ w).setCell (by simp) _).setCell (by simp) _).setCell (by simp) _).setCell (by simp) _).setCell (by simp) _).setCell (by simp) _)).drew,?_⟩;have e:e_ R n l 0={R with own:=aL R.own n l,bK:=cM (cM (cM R.bK n 0 (-1)) n 1 (m:Int)) m 0 n,ends:=cM R.ends l 0 n,cR:=aL R.cR l (k+1)}:=by exact acz
 rw [e];exact x1
theorem OE {w:World} {ab nb cn lb cl az nl n l:Nat} {R:Raw} (h:dO w ab nb cn lb cl az nl R) (hn:n < R.made) (hl:l < nl) (kL:R.ends l 1 < 0) (hc:R.cR l<=4194304) (hm:R.made<=4194304) (iZ:nl<=256):
 Calls Tryz.prog 309 #[ρ ab,ι n,ι l,ι 1] w fun e w'=>e= .returned (.tuple #[])/\ax [ab,nb,lb] w w'/\dO w' ab nb cn lb cl az nl (e_ R n l 1):=by
 obtain ⟨d1,d2,d3⟩:=h.ne;have a1:=h.h1;have a2:=h.h2;have e0:w.cell? (π lb (l*3))=some (ι (R.ends l 0)):=h.ends (e:=0) hl (by omega);have e1:w.cell? (π lb (l*3+1))=some (ι (R.ends l 1)):=h.ends (e:=1) hl (by omega);have e2:=h.cR hl;have b5:=h.own hn;have b6:w.cell? (π nb (n*8+6))=some (ι (R.bK n 0)):=h.bK (e:=0) hn (by omega);have b7:w.cell? (π nb (n*8+7))=some (ι (R.bK n 1)):=h.bK (e:=1) hn (by omega);have fn:=h.fn;have fl:=h.fl;have HX:=ae h;clear h;generalize dA:R.ends l 1=last at*;generalize R.ends l 0=last1 at*;generalize iS:R.cR l=k at*;have HL:=ae dA;have HC:=ae iS;clear dA iS;go_enter Tryz.func309,Tryz.ntmps309;go_wp2;go_region;go_wp2;go_end0;have x1:=((((((HX.o.uM hn l).ij (e:=1) hn (by omega) (-1)).ij (e:=0) hn (by omega) last).jE (e:=0) hl (by omega) n).jE (e:=1) hl (by omega) n).oJ hl (k+1)).drewN 1;refine ⟨rfl,((((((((ax.refl _ w).setCell (by simp) _).setCell (by simp) _).setCell (by simp) _).setCell (by simp) _).setCell (by simp) _).setCell (by simp) _)).drew,?_⟩;have e:e_ R n l 1={R with own:=aL R.own n l,bK:=cM (cM R.bK n 1 (-1)) n 0 last,ends:=cM (cM R.ends l 0 n) l 1 n,cR:=aL R.cR l (k+1)}:=by unfold e_;rw [HL.o,HC.o];dsimp only;rw [if_neg (by omega),if_neg (by omega)]
 rw [e];exact x1
theorem OF {w:World} {ab nb cn lb cl az nl n l:Nat} {R:Raw} (h:dO w ab nb cn lb cl az nl R) (hn:n < R.made) (hl:l < nl) {m:Nat} (iR:R.ends l 1=(m:Int)) (yZ:m < R.made) (GY:m≠n) (hc:R.cR l<=4194304) (hm:R.made<=4194304) (iZ:nl<=256):
 Calls Tryz.prog 309 #[ρ ab,ι n,ι l,ι 1] w fun e w'=>e= .returned (.tuple #[])/\ax [ab,nb,lb] w w'/\dO w' ab nb cn lb cl az nl (e_ R n l 1):=by
 obtain ⟨d1,d2,d3⟩:=h.ne;have a1:=h.h1;have a2:=h.h2;have e0:w.cell? (π lb (l*3))=some (ι (R.ends l 0)):=h.ends (e:=0) hl (by omega);have e1:w.cell? (π lb (l*3+1))=some (ι (R.ends l 1)):=h.ends (e:=1) hl (by omega);have e2:=h.cR hl;have b5:=h.own hn;have b6:w.cell? (π nb (n*8+6))=some (ι (R.bK n 0)):=h.bK (e:=0) hn (by omega);have b7:w.cell? (π nb (n*8+7))=some (ι (R.bK n 1)):=h.bK (e:=1) hn (by omega);have m6:w.cell? (π nb (m*8+6))=some (ι (R.bK m 0)):=h.bK (e:=0) yZ (by omega);have m7:w.cell? (π nb (m*8+7))=some (ι (R.bK m 1)):=h.bK (e:=1) yZ (by omega);have fn:=h.fn;have fl:=h.fl;have HX:=ae h;clear h;rw [iR] at e1;have dA:=iR;generalize R.ends l 0=last1 at e0;clear iR;generalize iS:R.cR l=k at*;have HL:=ae dA;have HC:=ae iS;clear dA iS;go_enter Tryz.func309,Tryz.ntmps309;go_wp2;go_region;go_wp2;go_end0;have x1:=((((((HX.o.uM hn l).ij (e:=1) hn (by omega) (-1)).ij (e:=0) hn (by omega) (m:Int)).ij (e:=1) yZ (by omega) n).jE (e:=1) hl (by omega) n).oJ hl (k+1)).drewN 1;refine ⟨rfl,((((((((ax.refl _ w).setCell (by simp) _).setCell (by simp) _).setCell (by simp) _).setCell (by simp) _).setCell (by simp) _).setCell (by simp) _)).drew,?_⟩;have e:e_ R n l 1={R with own:=aL R.own n l,bK:=cM (cM (cM R.bK n 1 (-1)) n 0 (m:Int)) m 1 n,ends:=cM R.ends l 1 n,cR:=aL R.cR l (k+1)}:=by exact acz
 rw [e];exact x1
theorem DH {w:World} {ab nb cn lb cl az nl n l e:Nat} {R:Raw} (h:dO w ab nb cn lb cl az nl R) (hn:n < R.made) (hl:l < nl) (he:e<=1) (dA:R.ends l e < 0\/∃m:Nat,R.ends l e=(m:Int)/\m < R.made/\m≠n) (hc:R.cR l<=4194304) (hm:R.made<=4194304) (iZ:nl<=256):
 Calls Tryz.prog 309 #[ρ ab,ι n,ι l,ι e] w fun e' w'=>e'= .returned (.tuple #[])/\ax [ab,nb,lb] w w'/\dO w' ab nb cn lb cl az nl (e_ R n l e):=by
 have:e=0\/e=1:=by omega
 rcases this with rfl|rfl<;>rcases dA with Ba|⟨m,h1,h2,h3⟩
 ·exact OC h hn hl Ba hc hm iZ
 ·exact OD h hn hl h1 h2 h3 hc hm iZ
 ·exact OE h hn hl Ba hc hm iZ
 ·exact OF h hn hl h1 h2 h3 hc hm iZ
theorem OG (x y:Value) (w:World):(Instr.index 192 (.agg #[x,y]) (ι 0)).run Tryz.prog w= .ok x w:=by kernel_rfl
theorem OH (x y:Value) (w:World):(Instr.index 192 (.agg #[x,y]) (ι 1)).run Tryz.prog w= .ok y w:=by kernel_rfl
theorem acA {p:Prop} (h:p:=by
 unfold cP jm;simp only [a8,dQ,eN,OI,c0,c1,if_true,if_false,Nat.add_sub_cancel,Int.toNat_natCast,Nat.sub_zero,Nat.sub_self]):p:=h
theorem Sx {w:World} {ab nb cn lb cl az nl n l:Nat} {R:Raw} (h:dO w ab nb cn lb cl az nl R) (hn:n < R.made) (hl:l < nl) (ho:R.own n=(l:Int)) (h0:R.bK n 0 < 0) (h1:R.bK n 1 < 0) (hc:R.cR l<=4194304) (uN:0 < R.cR l) (hm:R.made<=4194304) (iZ:nl<=256):
 Calls Tryz.prog 230 #[ρ ab,ι n] w fun e w'=>e= .returned (.tuple #[])/\ax [ab,nb,lb] w w'/\dO w' ab nb cn lb cl az nl (cP R n):=by
 obtain ⟨d1,d2,d3⟩:=h.ne;have a1:=h.h1;have a2:=h.h2;have e0:w.cell? (π lb (l*3))=some (ι (R.ends l 0)):=h.ends (e:=0) hl (by omega);have e1:w.cell? (π lb (l*3+1))=some (ι (R.ends l 1)):=h.ends (e:=1) hl (by omega);have e2:=h.cR hl;have b5:=h.own hn;have b6:w.cell? (π nb (n*8+6))=some (ι (R.bK n 0)):=h.bK (e:=0) hn (by omega);have b7:w.cell? (π nb (n*8+7))=some (ι (R.bK n 1)):=h.bK (e:=1) hn (by omega);have fn:=h.fn;have fl:=h.fl;have HX:=ae h;rw [ho] at b5;have HO:=ae ho;clear h ho;generalize dQ:R.bK n 0=b0 at*;generalize eN:R.bK n 1=b1 at*;obtain ⟨k,iS⟩:∃k,R.cR l=k+1:=⟨R.cR l - 1,by omega⟩;rw [iS] at e2 hc uN;have H0:=ae dQ;have H1:=ae eN;have HC:=ae iS;clear dQ eN iS;have i0:=OG;have i1:=OH;go_enter Tryz.func230,Tryz.ntmps230;go_wp2;go_region;go_wp2;refine wp_loop_rounds 3 ?_;rw [rounds_succ];go_wp2;go_region;go_wp2;rw [rounds_succ];go_wp2;go_region;go_wp2;rw [rounds_succ];go_wp2;go_end0;refine ⟨rfl,(((((ax.refl [ab,nb,lb] w).setCell (by simp) _).setCell (by simp) _).setCell (by simp) _)).drew.drew.drew,?_⟩;have x1:=(((HX.o.jE (e:=0) hl (by omega) b1).jE (e:=1) hl (by omega) b0).oJ hl k).drewN 3;have e:cP R n={R with bK:=R.bK,ends:=cM (cM R.ends l 0 b1) l 1 b0,cR:=aL R.cR l k}:=by
  have a8:(R.own n).toNat=l:=by rw [HO.o];rfl
  have dQ:=H0.o;have eN:=H1.o;have OI:=HC.o;have c0:(b0 < 0)=True:=by simp [h0]
  have c1:(b1 < 0)=True:=by simp [h1]
  exact acA
 rw [e];exact x1
theorem Sy {w:World} {ab nb cn lb cl az nl n l:Nat} {R:Raw} (h:dO w ab nb cn lb cl az nl R) (hn:n < R.made) (hl:l < nl) (ho:R.own n=(l:Int)) (h0:R.bK n 0 < 0) {m1:Nat} (h1:R.bK n 1=(m1:Int)) (k1:m1 < R.made) (j1:m1≠n) (hc:R.cR l<=4194304) (uN:0 < R.cR l) (hm:R.made<=4194304) (iZ:nl<=256):
 Calls Tryz.prog 230 #[ρ ab,ι n] w fun e w'=>e= .returned (.tuple #[])/\ax [ab,nb,lb] w w'/\dO w' ab nb cn lb cl az nl (cP R n):=by
 obtain ⟨d1,d2,d3⟩:=h.ne;have a1:=h.h1;have a2:=h.h2;have e0:w.cell? (π lb (l*3))=some (ι (R.ends l 0)):=h.ends (e:=0) hl (by omega);have e1:w.cell? (π lb (l*3+1))=some (ι (R.ends l 1)):=h.ends (e:=1) hl (by omega);have e2:=h.cR hl;have b5:=h.own hn;have b6:w.cell? (π nb (n*8+6))=some (ι (R.bK n 0)):=h.bK (e:=0) hn (by omega);have b7:w.cell? (π nb (n*8+7))=some (ι (R.bK n 1)):=h.bK (e:=1) hn (by omega);have q6:w.cell? (π nb (m1*8+6))=some (ι (R.bK m1 0)):=h.bK (e:=0) k1 (by omega);have q7:w.cell? (π nb (m1*8+7))=some (ι (R.bK m1 1)):=h.bK (e:=1) k1 (by omega);have fn:=h.fn;have fl:=h.fl;have HX:=ae h;rw [ho] at b5;have HO:=ae ho;clear h ho;generalize dQ:R.bK n 0=b0 at*;rw [h1] at b7;have eN:=h1;clear h1;obtain ⟨k,iS⟩:∃k,R.cR l=k+1:=⟨R.cR l - 1,by omega⟩;rw [iS] at e2 hc uN;have H0:=ae dQ;have H1:=ae eN;have HC:=ae iS;clear dQ eN iS;have i0:=OG;have i1:=OH;go_enter Tryz.func230,Tryz.ntmps230;go_wp2;go_region;go_wp2;refine wp_loop_rounds 3 ?_;rw [rounds_succ];go_wp2;go_region;go_wp2;rw [rounds_succ];go_wp2;go_region;go_wp2;rw [rounds_succ];go_wp2;go_end0;refine ⟨rfl,(((((ax.refl [ab,nb,lb] w).setCell (by simp) _).setCell (by simp) _).setCell (by simp) _)).drew.drew.drew,?_⟩;have x1:=(((HX.o.jE (e:=0) hl (by omega) (m1:Int)).ij (e:=0) k1 (by omega) b0).oJ hl k).drewN 3;have e:cP R n={R with bK:=cM R.bK m1 0 b0,ends:=cM R.ends l 0 (m1:Int),cR:=aL R.cR l k}:=by
  have a8:(R.own n).toNat=l:=by rw [HO.o];rfl
  have dQ:=H0.o;have eN:=H1.o;have OI:=HC.o;have c0:(b0 < 0)=True:=by simp [h0]
  have c1:((m1:Int) < 0)=False:=by simp
  exact acA
 rw [e];exact x1
theorem acB {p:Prop} (h:p:=by
 unfold cP jm;simp only [a8,dQ,eN,OI,c0,c1,if_true,if_false,Nat.add_sub_cancel,Int.toNat_natCast,Nat.sub_zero,Nat.sub_self,hq]):p:=h
theorem Sz {w:World} {ab nb cn lb cl az nl n l:Nat} {R:Raw} (h:dO w ab nb cn lb cl az nl R) (hn:n < R.made) (hl:l < nl) (ho:R.own n=(l:Int)) {m0:Nat} (h0:R.bK n 0=(m0:Int)) (k0:m0 < R.made) (j0:m0≠n) (h1:R.bK n 1 < 0) (hc:R.cR l<=4194304) (uN:0 < R.cR l) (hm:R.made<=4194304) (iZ:nl<=256):
 Calls Tryz.prog 230 #[ρ ab,ι n] w fun e w'=>e= .returned (.tuple #[])/\ax [ab,nb,lb] w w'/\dO w' ab nb cn lb cl az nl (cP R n):=by
 obtain ⟨d1,d2,d3⟩:=h.ne;have a1:=h.h1;have a2:=h.h2;have e0:w.cell? (π lb (l*3))=some (ι (R.ends l 0)):=h.ends (e:=0) hl (by omega);have e1:w.cell? (π lb (l*3+1))=some (ι (R.ends l 1)):=h.ends (e:=1) hl (by omega);have e2:=h.cR hl;have b5:=h.own hn;have b6:w.cell? (π nb (n*8+6))=some (ι (R.bK n 0)):=h.bK (e:=0) hn (by omega);have b7:w.cell? (π nb (n*8+7))=some (ι (R.bK n 1)):=h.bK (e:=1) hn (by omega);have p6:w.cell? (π nb (m0*8+6))=some (ι (R.bK m0 0)):=h.bK (e:=0) k0 (by omega);have p7:w.cell? (π nb (m0*8+7))=some (ι (R.bK m0 1)):=h.bK (e:=1) k0 (by omega);have fn:=h.fn;have fl:=h.fl;have HX:=ae h;rw [ho] at b5;have HO:=ae ho;clear h ho;rw [h0] at b6;have dQ:=h0;clear h0;generalize eN:R.bK n 1=b1 at*;obtain ⟨k,iS⟩:∃k,R.cR l=k+1:=⟨R.cR l - 1,by omega⟩;rw [iS] at e2 hc uN;have H0:=ae dQ;have H1:=ae eN;have HC:=ae iS;clear dQ eN iS;have i0:=OG;have i1:=OH;go_enter Tryz.func230,Tryz.ntmps230;go_wp2;go_region;go_wp2;refine wp_loop_rounds 3 ?_;rw [rounds_succ];go_wp2;go_region;go_wp2;rw [rounds_succ];go_wp2;go_region;go_wp2;rw [rounds_succ];go_wp2;go_end0;refine ⟨rfl,(((((ax.refl [ab,nb,lb] w).setCell (by simp) _).setCell (by simp) _).setCell (by simp) _)).drew.drew.drew,?_⟩;have x1:=(((HX.o.ij (e:=1) k0 (by omega) b1).jE (e:=1) hl (by omega) (m0:Int)).oJ hl k).drewN 3;have e:cP R n={R with bK:=cM R.bK m0 1 b1,ends:=cM R.ends l 1 (m0:Int),cR:=aL R.cR l k}:=by
  have a8:(R.own n).toNat=l:=by rw [HO.o];rfl
  have dQ:=H0.o;have eN:=H1.o;have OI:=HC.o;have c0:((m0:Int) < 0)=False:=by simp
  have hq:cM R.bK m0 1 b1 n 0=(m0:Int):=by rw [cN,if_neg (by omega)];exact dQ
  have c1:(b1 < 0)=True:=by simp [h1]
  exact acB
 rw [e];exact x1
theorem SA {w:World} {ab nb cn lb cl az nl n l:Nat} {R:Raw} (h:dO w ab nb cn lb cl az nl R) (hn:n < R.made) (hl:l < nl) (ho:R.own n=(l:Int)) {m0:Nat} (h0:R.bK n 0=(m0:Int)) (k0:m0 < R.made) (j0:m0≠n) {m1:Nat} (h1:R.bK n 1=(m1:Int)) (k1:m1 < R.made) (j1:m1≠n) (hc:R.cR l<=4194304) (uN:0 < R.cR l) (hm:R.made<=4194304) (iZ:nl<=256):
 Calls Tryz.prog 230 #[ρ ab,ι n] w fun e w'=>e= .returned (.tuple #[])/\ax [ab,nb,lb] w w'/\dO w' ab nb cn lb cl az nl (cP R n):=by
 obtain ⟨d1,d2,d3⟩:=h.ne;have a1:=h.h1;have a2:=h.h2;have e0:w.cell? (π lb (l*3))=some (ι (R.ends l 0)):=h.ends (e:=0) hl (by omega);have e1:w.cell? (π lb (l*3+1))=some (ι (R.ends l 1)):=h.ends (e:=1) hl (by omega);have e2:=h.cR hl;have b5:=h.own hn;have b6:w.cell? (π nb (n*8+6))=some (ι (R.bK n 0)):=h.bK (e:=0) hn (by omega);have b7:w.cell? (π nb (n*8+7))=some (ι (R.bK n 1)):=h.bK (e:=1) hn (by omega);have p6:w.cell? (π nb (m0*8+6))=some (ι (R.bK m0 0)):=h.bK (e:=0) k0 (by omega);have p7:w.cell? (π nb (m0*8+7))=some (ι (R.bK m0 1)):=h.bK (e:=1) k0 (by omega);have q6:w.cell? (π nb (m1*8+6))=some (ι (R.bK m1 0)):=h.bK (e:=0) k1 (by omega);have q7:w.cell? (π nb (m1*8+7))=some (ι (R.bK m1 1)):=h.bK (e:=1) k1 (by omega);have fn:=h.fn;have fl:=h.fl;have HX:=ae h;rw [ho] at b5;have HO:=ae ho;clear h ho;rw [h0] at b6;have dQ:=h0;clear h0;rw [h1] at b7;have eN:=h1;clear h1;obtain ⟨k,iS⟩:∃k,R.cR l=k+1:=⟨R.cR l - 1,by omega⟩;rw [iS] at e2 hc uN;have H0:=ae dQ;have H1:=ae eN;have HC:=ae iS;clear dQ eN iS;have i0:=OG;have i1:=OH;go_enter Tryz.func230,Tryz.ntmps230;go_wp2;go_region;go_wp2;refine wp_loop_rounds 3 ?_;rw [rounds_succ];go_wp2;go_region;go_wp2;rw [rounds_succ];go_wp2;go_region;go_wp2;rw [rounds_succ];go_wp2;go_end0;refine ⟨rfl,(((((ax.refl [ab,nb,lb] w).setCell (by simp) _).setCell (by simp) _).setCell (by simp) _)).drew.drew.drew,?_⟩;have x1:=(((HX.o.ij (e:=1) k0 (by omega) (m1:Int)).ij (e:=0) k1 (by omega) (m0:Int)).oJ hl k).drewN 3;have e:cP R n={R with bK:=cM (cM R.bK m0 1 (m1:Int)) m1 0 (m0:Int),ends:=R.ends,cR:=aL R.cR l k}:=by
  have a8:(R.own n).toNat=l:=by rw [HO.o];rfl
  have dQ:=H0.o;have eN:=H1.o;have OI:=HC.o;have c0:((m0:Int) < 0)=False:=by simp
  have hq:cM R.bK m0 1 (m1:Int) n 0=(m0:Int):=by rw [cN,if_neg (by omega)];exact dQ
  have c1:((m1:Int) < 0)=False:=by simp
  exact acB
 rw [e];exact x1
def oK (R:Raw) (n e:Nat):Prop:=R.bK n e < 0\/∃m:Nat,R.bK n e=(m:Int)/\m < R.made/\m≠n
theorem Q4 {w:World} {ab nb cn lb cl az nl n l:Nat} {R:Raw} (h:dO w ab nb cn lb cl az nl R) (hn:n < R.made) (hl:l < nl) (ho:R.own n=(l:Int)) (h0:oK R n 0) (h1:oK R n 1) (hc:R.cR l<=4194304) (uN:0 < R.cR l) (hm:R.made<=4194304) (iZ:nl<=256):
 Calls Tryz.prog 230 #[ρ ab,ι n] w fun e w'=>e= .returned (.tuple #[])/\ax [ab,nb,lb] w w'/\dO w' ab nb cn lb cl az nl (cP R n):=by
 rcases h0 with a0|⟨m0,a0,b0,c0⟩<;>rcases h1 with a1|⟨m1,a1,b1,c1⟩
 ·exact Sx h hn hl ho a0 a1 hc uN hm iZ
 ·exact Sy h hn hl ho a0 a1 b1 c1 hc uN hm iZ
 ·exact Sz h hn hl ho a0 b0 c0 a1 hc uN hm iZ
 ·exact SA h hn hl ho a0 b0 c0 a1 b1 c1 hc uN hm iZ
def bG (x:eW):Value:= .agg #[.int .u64 x.key,ι (x.tg 0),ι (x.tg 1),ι (x.tg 2),ι (x.tg 3)]
section
variable {w:World} {ab az nl:Nat} {V L:Value} {R:Raw}
theorem oL (h:qg w ab V L az nl R) {q:Nat} (hq:q < nl):∃lb cl,L= .slice (some (π lb 0)) nl cl:=by obtain ⟨b,cap,hv,_⟩:=h.lists.some (by omega);exact ⟨b,cap,hv⟩
theorem oM (h:qg w ab V L az nl R) {n:Nat} (hn:n < R.made):∃nb cn,V= .slice (some (π nb 0)) R.made cn:=by obtain ⟨b,cap,hv,_⟩:=h.nodes.some (by omega);exact ⟨b,cap,hv⟩
theorem Fx {e:Nat} (he:e<=1) (w:World):Calls Tryz.prog 226 #[ι e] w fun r w'=>r= .returned (.bool true)/\w=w':=by
 have:e=0\/e=1:=by omega
 rcases this with rfl|rfl
 all_goals
  go_enter Tryz.func226,Tryz.ntmps226;go_wp2;go_ret;exact ⟨rfl,rfl⟩
theorem G_ (h:qg w ab V L az nl R) {q e:Nat} (hq:q < nl) (he:e<=1):Calls Tryz.prog 224 #[ρ ab,ι q,ι e] w fun r w'=>r= .returned (.bool true)/\w=w':=by
 obtain ⟨lb,cl,rfl⟩:=oL h hq;have h2:w.cell? (π ab 2)=some (.slice (some (π lb 0)) nl cl):=h.head.cell 2;have HE:=ae (Fx he);clear h he;have t1:decide ((0:Int)<=(q:Int))=true:=by simp
 have t2:decide ((q:Int) < (nl:Int))=true:=by simp;omega
 go_enter Tryz.func224,Tryz.ntmps224;go_wp2_with (go_at_call 226;refine (HE.o _).mono ?_;rintro r w' ⟨rfl,rfl⟩);go_ret;exact ⟨rfl,rfl⟩
theorem pF (h:qg w ab V L az nl R) {n:Nat} (hn:n < R.made) (ho:0<=R.own n) (hm:R.made<=az):Calls Tryz.prog 133 #[ρ ab,ι n] w fun r w'=>r= .returned (ι 0)/\w=w':=by
 obtain ⟨nb,cn,rfl⟩:=oM h hn;obtain ⟨h0,h1⟩:=h.head.c2;have h5:=h.nodes.cell (o:=n*8+5) (by omega);rw [sq] at h5;generalize R.own n=o at*;generalize R.made=k at*;have t1:decide ((n:Int) < 0)=false:=by simp
 have t2:decide ((az:Int)<=(n:Int))=false:=by simp;omega
 have t3:decide ((k:Int)<=(n:Int))=false:=by simp;omega
 have t4:decide (o < 0)=false:=by simp;omega
 clear h;go_enter Tryz.func133,Tryz.ntmps133;go_wp2;go_ret;exact ⟨rfl,rfl⟩
theorem OJ (n:Int) (h:0<=n) (w:World):Calls Tryz.prog 225 #[ι n] w fun r w'=>r= .returned (.tuple #[ι n,.bool true])/\w=w':=by
 have hm:max n 0=n:=by omega
 go_enter Tryz.func225,Tryz.ntmps225;go_wp2;go_ret2;exact ⟨rfl,rfl⟩
theorem OK (n:Int) (h:n < 0) (w:World):Calls Tryz.prog 225 #[ι n] w fun r w'=>r= .returned (.tuple #[ι 0,.bool false])/\w=w':=by
 have t1:decide (0<=n)=false:=by simp;omega
 have hm:max n 0=0:=by omega
 go_enter Tryz.func225,Tryz.ntmps225;go_wp2;go_ret2;exact ⟨rfl,rfl⟩
theorem SB (h:qg w ab V L az nl R) {n:Nat} (hn:n < R.made) (ho:0<=R.own n) (hm:R.made<=az):Calls Tryz.prog 60 #[ρ ab,ι n] w fun r w'=>r= .returned (.tuple #[ι (R.own n),.bool true])/\w=w':=by have HH:=ae (pF h hn ho hm);obtain ⟨nb,cn,rfl⟩:=oM h hn;have h1:w.cell? (π ab 1)=some (.slice (some (π nb 0)) R.made cn):=h.head.cell 1;have h5:=h.nodes.cell (o:=n*8+5) (by omega);rw [sq] at h5;generalize R.own n=o at*;generalize R.made=k at*;clear h;go_enter Tryz.func60,Tryz.ntmps60;go_wp2_with (go_at_call 133;refine HH.o.mono ?_;rintro r w' ⟨rfl,rfl⟩);go_ret2;exact ⟨rfl,rfl⟩
theorem xM (h:qg w ab V L az nl R) {n:Nat} (hn:n < R.made) (ho:0<=R.own n) (hm:R.made<=az):Calls Tryz.prog 208 #[ρ ab,ι n] w fun r w'=>r= .returned (.tuple #[bG (R.val n),ι 0])/\Below w.heap.size w w':=by have HH:=ae (pF (h.later ((Below.refl _ w).alloc (Nat.le_refl _) (.cells #[.int .u64 0,ι 0,ι 0,ι 0,ι 0] 118))) hn ho hm);obtain ⟨nb,cn,rfl⟩:=oM h hn;have h1:w.cell? (π ab 1)=some (.slice (some (π nb 0)) R.made cn):=h.head.cell 1;have k0:=h.nodes.cell (o:=n*8) (by omega);have k1:=h.nodes.cell (o:=n*8+1) (by omega);have k2:=h.nodes.cell (o:=n*8+2) (by omega);have k3:=h.nodes.cell (o:=n*8+3) (by omega);have k4:=h.nodes.cell (o:=n*8+4) (by omega);rw [xJ] at k0;rw [show ep R (n*8+1)=_ from iL R n (t:=0) (by omega)] at k1;rw [show ep R (n*8+2)=_ from iL R n (t:=1) (by omega)] at k2;rw [show ep R (n*8+3)=_ from iL R n (t:=2) (by omega)] at k3;rw [show ep R (n*8+4)=_ from iL R n (t:=3) (by omega)] at k4;have lab:=h.head.lt;have lnb:=aS k0;unfold bG;generalize R.val n=x at*;generalize R.made=k at*;clear h;go_enter Tryz.func208,Tryz.ntmps208;go_wp2_with (go_at_call 133;refine HH.o.mono ?_;rintro r w' ⟨rfl,rfl⟩);refine bodyPost_ret (v:= .tuple #[.agg #[.int .u64 x.key,ι (x.tg 0),ι (x.tg 1),ι (x.tg 2),ι (x.tg 3)],ι 0]) (by simp [results,Tryz.results208,go_sem]) rfl ⟨rfl,(Below.refl _ _).alloc (Nat.le_refl _) _⟩
theorem Kj {nb cn lb cl:Nat} (h:dO w ab nb cn lb cl az nl R) {n:Nat} (hn:n < R.made) (ho:0<=R.own n) (hm:R.made<=az) (x:eW):Calls Tryz.prog 268 #[ρ ab,ι n,bG x] w fun r w'=>r= .returned (ι 0)/\ax [ab,nb,lb] w w'/\dO w' ab nb cn lb cl az nl {R with val:=aL R.val n x}:=by
 have HH:=ae (pF (h.c.later ((Below.refl _ w).alloc (Nat.le_refl _) (.cells #[.int .u64 x.key,ι (x.tg 0),ι (x.tg 1),ι (x.tg 2),ι (x.tg 3)] 118))) hn ho hm);have HX:=ae h;have h1:=h.h1;obtain ⟨k0,k1,k2,k3,k4⟩:=h.aW hn;have lab:=h.c.head.lt;have lnb:=aS k0;have fn:=h.fn;unfold bG;generalize R.val n=y at*;clear h;go_enter Tryz.func268,Tryz.ntmps268;go_wp2_with (go_at_call 133;refine HH.o.mono ?_;rintro r w' ⟨rfl,rfl⟩);obtain ⟨w1,jo⟩:∃w1,w1=w.alloc (.cells #[.int .u64 x.key,ι (x.tg 0),ι (x.tg 1),ι (x.tg 2),ι (x.tg 3)] 118):=⟨_,rfl⟩;rw [<-jo];have hb:ay w1 w.heap.size 118 #[.int .u64 x.key,ι (x.tg 0),ι (x.tg 1),ι (x.tg 2),ι (x.tg 3)]:=by rw [jo];exact ay.new _ _ _
 have hB:Below w.heap.size w w1:=by rw [jo];exact (Below.refl _ w).alloc (Nat.le_refl _) _
 have Kk:Hid (dO w1 ab nb cn lb cl az nl R):=ae ⟨HX.o.c.later hB,HX.o.pos⟩;obtain ⟨g0,g1,g2,g3,g4⟩:=hb.c5;have h1':=Kk.o.h1;obtain ⟨j0,j1,j2,j3,j4⟩:=Kk.o.aW hn;have fn':=Kk.o.fn;have Vl:=ae (ax.ah (S:=[ab,nb,lb]) hB);clear jo hb hB h1 k0 k1 k2 k3 k4 fn HX HH;generalize w.heap.size=bx at*;generalize hy':R.val n=y' at*;clear hy';have bz:bx≠nb:=by omega
 go_region;go_wp2;go_ret;exact ⟨rfl,(fD Vl.o (by simp) (n*8) x).drew,(Kk.o.yY hn x).drewN 1⟩
theorem WI (h:qg w ab V L az nl R) {q:Nat} (hq:q < nl):Calls Tryz.prog 204 #[ρ ab,ι q] w fun r w'=>r= .returned (ι (R.cR q))/\w=w':=by have HI:=ae (G_ h hq (e:=0) (by omega));obtain ⟨lb,cl,rfl⟩:=oL h hq;have h2:w.cell? (π ab 2)=some (.slice (some (π lb 0)) nl cl):=h.head.cell 2;have h5:=h.lists.cell (o:=q*3+2) (by omega);rw [xL] at h5;generalize R.cR q=k at*;clear h;go_enter Tryz.func204,Tryz.ntmps204;go_wp2_with (go_at_call 224;refine HI.o.mono ?_;rintro r w' ⟨rfl,rfl⟩);go_ret;exact ⟨rfl,rfl⟩
def d_ (n:Int):Value:= .tuple #[ι (if 0<=n then n else 0),.bool (decide (0<=n))]
theorem xN (n:Int) (w:World):Calls Tryz.prog 225 #[ι n] w fun r w'=>r= .returned (.tuple #[ι (if 0<=n then n else 0),.bool (decide (0<=n))])/\w=w':=by
 by_cases h:0<=n
 ·rw [if_pos h,decide_eq_true h];exact OJ n h w
 ·rw [if_neg h,decide_eq_false h];exact OK n (by omega) w
theorem Kl (h:qg w ab V L az nl R) {q e:Nat} (hq:q < nl) (he:e<=1):Calls Tryz.prog 134 #[ρ ab,ι q,ι e] w fun r w'=>r= .returned (d_ (R.ends q e))/\w=w':=by
 have HI:=ae (G_ h hq he);obtain ⟨lb,cl,rfl⟩:=oL h hq;have h2:w.cell? (π ab 2)=some (.slice (some (π lb 0)) nl cl):=h.head.cell 2;have h5:=h.lists.cell (o:=q*3+e) (by omega);rw [uL R q he] at h5;have HT:=ae (xN (R.ends q e));unfold d_;generalize R.ends q e=k at*;clear h;have Fq:e=0\/e=1:=by omega
 rcases Fq with rfl|rfl
 all_goals
  try simp only [Nat.add_zero] at h5
  go_enter Tryz.func134,Tryz.ntmps134;go_wp2_with (first|(go_at_call 224;refine HI.o.mono ?_;rintro r w' ⟨rfl,rfl⟩)|(go_at_call 225;refine (HT.o _).mono ?_;rintro r w' ⟨rfl,rfl⟩))
  all_goals (go_ret2;exact ⟨rfl,rfl⟩)
theorem SC (h:qg w ab V L az nl R) {n e:Nat} (hn:n < R.made) (ho:0<=R.own n) (hm:R.made<=az) (he:e<=1):Calls Tryz.prog 135 #[ρ ab,ι n,ι e] w fun r w'=>r= .returned (d_ (R.bK n e))/\w=w':=by
 have HH:=ae (pF h hn ho hm);have HE:=ae (Fx he w);obtain ⟨nb,cn,rfl⟩:=oM h hn;have h1:w.cell? (π ab 1)=some (.slice (some (π nb 0)) R.made cn):=h.head.cell 1;have h5:=h.nodes.cell (o:=n*8+(6+e)) (by omega);rw [xK R n he] at h5;have HT:=ae (xN (R.bK n e));unfold d_;generalize R.bK n e=k at*;generalize R.made=m at*;clear h;have Fq:e=0\/e=1:=by omega
 rcases Fq with rfl|rfl
 all_goals
  try simp only [Nat.add_zero] at h5
  go_enter Tryz.func135,Tryz.ntmps135;go_wp2_with (first|(go_at_call 133;refine HH.o.mono ?_;rintro r w' ⟨rfl,rfl⟩)|(go_at_call 226;refine HE.o.mono ?_;rintro r w' ⟨rfl,rfl⟩)|(go_at_call 225;refine (HT.o _).mono ?_;rintro r w' ⟨rfl,rfl⟩))
  all_goals (go_ret2;exact ⟨rfl,rfl⟩)
theorem xO {k:Int} {m:Nat} (h:k=(m:Int)):d_ k= .tuple #[ι m,.bool true]:=by unfold d_;rw [if_pos (by omega),decide_eq_true (by omega),h]
theorem xP {k:Int} (h:k < 0):d_ k= .tuple #[ι 0,.bool false]:=by unfold d_;rw [if_neg (by omega),decide_eq_false (by omega)]
end
theorem jN (R:Raw) (n:Nat):(cP R n).own=R.own/\(cP R n).made=R.made/\(cP R n).val=R.val/\(cP R n).cS=R.cS/\(cP R n).used=R.used:=by obtain ⟨o1,o2,o3,o4,o5,o6⟩:=ri R n (R.own n).toNat 0 (R.bK n 0);obtain ⟨p1,p2,p3,p4,p5,p6⟩:=ri (jm R n (R.own n).toNat 0 (R.bK n 0)) n (R.own n).toNat 1 (R.bK n 1);exact ⟨p1.trans o1,p2.trans o2,p3.trans o3,p4.trans o4,p5.trans o5⟩
section
variable {w:World} {ab nb cn lb cl az nl:Nat} {R:Raw}
def Bg (w:World) (ab nb n:Nat) (Km:Int) (k:Nat):World:=
 (((((dr w nb (n*8) dI).setCell (π nb (n*8+5)) (ι (-1))).setCell (π nb (n*8+6)) (ι Km)).setCell (π nb (n*8+7)) (ι (-1))).setCell (π ab 3) (ι n)).setCell (π ab 4) (ι k)
theorem Kn (h:dO w ab nb cn lb cl az nl R) {n:Nat} (hn:n < R.made) (k:Nat):dO (Bg w ab nb n R.cS k) ab nb cn lb cl az nl
 {R with val:=aL R.val n dI,own:=aL R.own n (-1),bK:=cM (cM R.bK n 0 R.cS) n 1 (-1),cS:=n,used:=k}:=
 (((((h.yY hn dI).uM hn (-1)).ij (e:=0) hn (by omega) R.cS).ij (e:=1) hn (by omega) (-1)).Bf n).yW k
theorem xQ (w:World) (ab nb lb n:Nat) (Km:Int) (k:Nat):ax [ab,nb,lb] w (Bg w ab nb n Km k):=by unfold Bg;exact ((((((fD (ax.refl _ w) (by simp) _ _).setCell (by simp) _).setCell (by simp) _).setCell (by simp) _).setCell (by simp) _).setCell (by simp) _)
theorem jp {b:Nat} {v0 v1 v2 v3 v4:Value} (h:ay w b 118 #[v0,v1,v2,v3,v4]) (x:eW):ay (dr w b 0 x) b 118 #[.int .u64 x.key,ι (x.tg 0),ι (x.tg 1),ι (x.tg 2),ι (x.tg 3)]:=
 ((((h.set 0 _).set 1 _).set 2 _).set 3 _).set 4 _
theorem uO {S:List Nat} {a:World} {b:Nat} (h:ax S a w) (hb:a.heap.size<=b) (o:Nat) (x:eW):ax S a (dr w b o x):=
 ((((h.qz hb _).qz hb _).qz hb _).qz hb _).qz hb _
theorem SD (h:dO w ab nb cn lb cl az nl R) {n l:Nat} (hn:n < R.made) (hl:l < nl) (ho:R.own n=(l:Int)) (h0:oK R n 0) (h1:oK R n 1) (hc:R.cR l<=4194304) (uN:0 < R.cR l) (hm:R.made<=4194304) (iZ:nl<=256) (hu:0 < R.used) (uP:R.used<=4194304):
 Calls Tryz.prog 143 #[ρ ab,ι n] w fun r w'=>r= .returned (bG (R.val n))/\ax [ab,nb,lb] w w'/\dO w' ab nb cn lb cl az nl (jD R n):=by
 have ul:Below w.heap.size w (w.alloc (.cells #[.int .u64 0,ι 0,ι 0,ι 0,ι 0] 118)):=(Below.refl _ w).alloc (Nat.le_refl _) _;have AF:=ay.new w 118 #[.int .u64 0,ι 0,ι 0,ι 0,ι 0];have tw:dO _ ab nb cn lb cl az nl R:=⟨h.c.later ul,h.pos⟩;have HC:=ae (Q4 tw hn hl ho h0 h1 hc uN hm iZ);have gA:=tw.apart AF;have gp:=ae ul;have tz:=ae AF;clear ul AF tw;obtain ⟨f1,f2,f3,f4,f5⟩:=jN R n;have HF:=ae (show jD R n={cP R n with val:=aL (cP R n).val n dI,own:=aL (cP R n).own n (-1),bK:=cM (cM (cP R n).bK n 0 (cP R n).cS) n 1 (-1),cS:=n,used:=R.used - 1} by unfold jD JU;rw [f5]);have hv:R.val n=(cP R n).val n:=by rw [f3]
 rw [hv];rw [<-f2] at hn;have hU:R.used=(cP R n).used:=f5.symm;rw [hU] at hu uP HF;clear h0 h1 hc uN hm iZ ho hl hv f1 f2 f3 f4 f5 h hU;generalize cP R n=R1 at*;obtain ⟨k,hk⟩:∃k,R1.used=k+1:=⟨R1.used - 1,by omega⟩;unfold bG;generalize hy:R1.val n=y;have HY:=ae hy;clear hy;go_enter Tryz.func143,Tryz.ntmps143;have HK:=ae hk;rw [hk] at hu uP;clear hk;go_wp2_with fail;refine HC.o.mono ?_;rintro r w1 ⟨rfl,F1,X1⟩;have Sq:ay w1 w.heap.size 118 #[.int .u64 0,ι 0,ι 0,ι 0,ι 0]:=tz.o.aB F1 (by simp;omega);have hF0:ax [ab,nb,lb] w w1:=(ax.ah gp.o).trans F1;obtain ⟨d1,d2,d3⟩:=X1.ne;obtain ⟨a1,a3,a4,k0,k1,k2,k3,k4,b5,b6,b7,fn,fa⟩:=X1.facts hn;rw [HY.o] at k0 k1 k2 k3 k4;have HX:=ae X1;have xR:=ae Sq;have SE:=ae hF0;have hz:w.heap.size≠ab/\w.heap.size≠nb/\w.heap.size≠lb/\w.heap.size < w1.heap.size:=⟨by omega,by omega,by omega,Sq.lt⟩;have y_:Hid (w.heap.size<=w.heap.size):=ae (Nat.le_refl _);clear Sq hF0 tz gp HC X1 F1 gA;generalize eO:w.heap.size=bx at*;have jg:Hid (w.heap.size<=bx):=ae (by omega);clear eO y_;go_wp2;obtain ⟨w2,qD⟩:∃w2,w2=w1.alloc (.cells #[.int .u64 y.key,ι (y.tg 0),ι (y.tg 1),ι (y.tg 2),ι (y.tg 3)] 118):=⟨_,rfl⟩;rw [<-qD];have Ε:Below w1.heap.size w1 w2:=by rw [qD];exact (Below.refl _ w1).alloc (Nat.le_refl _) _
 have DI:ay w2 w1.heap.size 118 #[.int .u64 y.key,ι (y.tg 0),ι (y.tg 1),ι (y.tg 2),ι (y.tg 3)]:=by rw [qD];exact ay.new _ _ _
 have lN:=ae (HX.o.later Ε);have rj:=ae (xR.o.of (Ε.block _ hz.2.2.2));have tB:=ae (SE.o.trans (ax.ah Ε));have hv:w1.heap.size≠ab/\w1.heap.size≠nb/\w1.heap.size≠lb:=by have:=lN.o.apart DI;omega
 clear qD a1 a3 a4 k0 k1 k2 k3 k4 b5 b6 b7 fn fa HX xR SE Ε;obtain ⟨a1,a3,a4,k0,k1,k2,k3,k4,b5,b6,b7,fn,fa⟩:=lN.o.facts hn;rw [HY.o] at k0 k1 k2 k3 k4;rw [HK.o] at a4;obtain ⟨g0,g1,g2,g3,g4,gf⟩:=jc rj.o;obtain ⟨v0,v1,v2,v3,v4,vf⟩:=jc DI;generalize r8:R1.cS=Km at*;have nU:=ae r8;clear r8 DI;generalize w1.heap.size=vx at*;go_region;go_wp2;have x3:=Kn lN.o hn k;rw [nU.o] at x3;have r4:=jp (rj.o.aB (xQ w2 ab nb lb n Km k) (by simp;omega)) y;have x4:=(x3.aB (fD (b:=bx) (ax.refl [bx] _) (by simp) 0 y) ⟨by simp;omega,by simp;omega,by simp;omega⟩).drewN 1;have f4:=(uO (tB.o.trans (xQ w2 ab nb lb n Km k)) jg.o 0 y).drewN 1;have r5:=r4.drewN 1;change bodyPost _ _ _ _ _ ((dr (Bg w2 ab nb n Km k) bx 0 y).drewN 1);generalize (dr (Bg w2 ab nb n Km k) bx 0 y).drewN 1=w5 at*;obtain ⟨e0,e1,e2,e3,e4,_⟩:=jc r5;have hF:=HF.o;rw [HK.o] at hF;have hF':jD R n={R1 with val:=aL R1.val n dI,own:=aL R1.own n (-1),bK:=cM (cM R1.bK n 0 Km) n 1 (-1),cS:=n,used:=k}:=hF;exact bodyPost_ret (v:= .agg #[.int .u64 y.key,ι (y.tg 0),ι (y.tg 1),ι (y.tg 2),ι (y.tg 3)]) (by simp [results,Tryz.results143,go_sem,e0,e1,e2,e3,e4]) rfl ⟨rfl,f4,by rw [hF'];exact x4⟩
end
structure Rm (R:Raw) (nl n l:Nat):Prop where
 hn:n < R.made
 hl:l < nl
 ho:R.own n=(l:Int)
 h0:oK R n 0
 h1:oK R n 1
 hc:R.cR l<=4194304
 uN:0 < R.cR l
 hm:R.made<=4194304
 iZ:nl<=256
 hu:0 < R.used
 uP:R.used<=4194304
section
variable {w:World} {ab nb cn lb cl az nl:Nat} {R:Raw}
theorem Ko (h:dO w ab nb cn lb cl az nl R) {n l:Nat} (r:Rm R nl n l):Calls Tryz.prog 143 #[ρ ab,ι n] w fun e w'=>e= .returned (bG (R.val n))/\ax [ab,nb,lb] w w'/\dO w' ab nb cn lb cl az nl (jD R n):=
 SD h r.hn r.hl r.ho r.h0 r.h1 r.hc r.uN r.hm r.iZ r.hu r.uP
theorem Fy (w:World):Below w.heap.size w (w.alloc (.cells #[.int .u64 0,ι 0,ι 0,ι 0,ι 0] 118))/\ay (w.alloc (.cells #[.int .u64 0,ι 0,ι 0,ι 0,ι 0] 118)) w.heap.size 118 #[.int .u64 0,ι 0,ι 0,ι 0,ι 0]:=
 ⟨(Below.refl _ w).alloc (Nat.le_refl _) _,ay.new w _ _⟩
theorem Fz {w2:World} {R':Raw} {bx:Nat} {v0 v1 v2 v3 v4:Value} (X2:dO w2 ab nb cn lb cl az nl R') (F:ax [ab,nb,lb] w w2) (hb:w.heap.size<=bx) (hz:bx≠ab/\bx≠nb/\bx≠lb) (r:ay w2 bx 118 #[v0,v1,v2,v3,v4]) (y:eW):
 ax [ab,nb,lb] w (dr w2 bx 0 y)/\dO (dr w2 bx 0 y) ab nb cn lb cl az nl R'/\ay (dr w2 bx 0 y) bx 118 #[.int .u64 y.key,ι (y.tg 0),ι (y.tg 1),ι (y.tg 2),ι (y.tg 3)]:=
 ⟨uO F hb 0 y,X2.aB (fD (b:=bx) (ax.refl [bx] _) (by simp) 0 y) ⟨by simp;omega,by simp;omega,by simp;omega⟩,jp r y⟩
theorem Kq (h:dO w ab nb cn lb cl az nl R) {n l:Nat} (r:Rm R nl n l) (yZ:R.made<=az):
 Calls Tryz.prog 67 #[ρ ab,ι n] w fun e w'=>e= .returned (.tuple #[bG (R.val n),ι 0])/\ax [ab,nb,lb] w w'/\dO w' ab nb cn lb cl az nl (jD R n):=by
 obtain ⟨ul,AF⟩:=Fy w;have tw:=h.later ul;have HH:=ae (pF tw.c r.hn (by rw [r.ho];omega) yZ);have WJ:=ae (fun wx (hx:dO wx ab nb cn lb cl az nl R)=>Ko hx r);have DJ:=ae tw;have gp:=ae ul;have tz:=ae AF;have hz:=tw.apart AF;have eO:w.heap.size<=w.heap.size:=Nat.le_refl _;clear h r tw ul AF yZ;unfold bG at WJ ⊢;generalize R.val n=y at*;obtain ⟨w1,jo⟩:∃w1,w1=w.alloc (.cells #[.int .u64 0,ι 0,ι 0,ι 0,ι 0] 118):=⟨_,rfl⟩;rw [<-jo] at HH DJ gp tz;go_enter Tryz.func67,Tryz.ntmps67;go_wp2_with fail;rw [<-jo];clear jo;obtain ⟨bx,hb⟩:∃bx,bx=w.heap.size:=⟨_,rfl⟩;have jg:=ae hb;rw [<-hb] at tz hz ⊢;clear hb eO;go_wp2_with (first|(go_at_call 133;refine HH.o.mono ?_;rintro r w' ⟨rfl,rfl⟩)|(go_at_call 143;refine (WJ.o _ DJ.o).mono ?_;rintro r w2 ⟨rfl,F2,X2⟩;have lN:=ae X2;have tB:=ae (ax.trans (ax.ah gp.o) F2);have rj:=ae (ay.aB tz.o F2 (by simp;omega));obtain ⟨g0,g1,g2,g3,g4,gf⟩:=jc rj.o;clear X2 F2));obtain ⟨f5,x5,r5⟩:=Fz lN.o tB.o (Nat.le_of_eq jg.o.symm) hz rj.o y;change bodyPost _ _ _ _ _ (dr w2 bx 0 y);generalize dr w2 bx 0 y=w5 at*;obtain ⟨e0,e1,e2,e3,e4,_⟩:=jc r5;exact bodyPost_ret (v:= .tuple #[.agg #[.int .u64 y.key,ι (y.tg 0),ι (y.tg 1),ι (y.tg 2),ι (y.tg 3)],ι 0]) (by simp [results,Tryz.results67,go_sem,e0,e1,e2,e3,e4]) rfl ⟨rfl,f5,x5⟩
theorem uQ (h:dO w ab nb cn lb cl az nl R) {n q e:Nat} (r:Rm R nl n q) (he:e<=1) (hn:R.ends q e=(n:Int)):
 Calls Tryz.prog 308 #[ρ ab,ι q,ι e] w fun e w'=>e= .returned (.tuple #[bG (R.val n),ι 0])/\ax [ab,nb,lb] w w'/\dO w' ab nb cn lb cl az nl (jD R n):=by
 obtain ⟨ul,AF⟩:=Fy w;have tw:=h.later ul;have HI:=ae (G_ tw.c r.hl he);have WJ:=ae (fun wx (hx:dO wx ab nb cn lb cl az nl R)=>Ko hx r);have a2:=tw.h2;have h5:=tw.ends r.hl he;rw [hn] at h5;have DJ:=ae tw;have gp:=ae ul;have tz:=ae AF;have hz:=tw.apart AF;have hq:=r.hl;have iZ:=r.iZ;clear h r tw ul AF hn;unfold bG at WJ ⊢;generalize R.val n=y at*;obtain ⟨w1,jo⟩:∃w1,w1=w.alloc (.cells #[.int .u64 0,ι 0,ι 0,ι 0,ι 0] 118):=⟨_,rfl⟩;rw [<-jo] at HI DJ gp tz a2 h5;have Fq:e=0\/e=1:=by omega
 rcases Fq with rfl|rfl
 all_goals
  try simp only [Nat.add_zero] at h5
  go_enter Tryz.func308,Tryz.ntmps308;go_wp2_with fail;rw [<-jo];clear jo;obtain ⟨bx,hb⟩:∃bx,bx=w.heap.size:=⟨_,rfl⟩;have jg:=ae hb;rw [<-hb] at tz hz ⊢;clear hb;go_wp2_with (first|(go_at_call 224;refine HI.o.mono ?_;rintro r w' ⟨rfl,rfl⟩)|(go_at_call 143;refine (WJ.o _ DJ.o).mono ?_;rintro r w2 ⟨rfl,F2,X2⟩;have lN:=ae X2;have tB:=ae (ax.trans (ax.ah gp.o) F2);have rj:=ae (ay.aB tz.o F2 (by simp;omega));obtain ⟨g0,g1,g2,g3,g4,gf⟩:=jc rj.o;clear X2 F2));obtain ⟨f5,x5,r5⟩:=Fz lN.o tB.o (Nat.le_of_eq jg.o.symm) hz rj.o y;change bodyPost _ _ _ _ _ (dr w2 bx 0 y);generalize dr w2 bx 0 y=w5 at*;obtain ⟨e0,e1,e2,e3,e4,_⟩:=jc r5;exact bodyPost_ret (v:= .tuple #[.agg #[.int .u64 y.key,ι (y.tg 0),ι (y.tg 1),ι (y.tg 2),ι (y.tg 3)],ι 0]) (by simp [results,Tryz.results308,go_sem,e0,e1,e2,e3,e4]) rfl ⟨rfl,f5,x5⟩
theorem SF (h:dO w ab nb cn lb cl az nl R) {n l q e:Nat} (r:Rm R nl n l) (yZ:R.made<=az) (hq:q < nl) (he:e<=1) (dA:(cP R n).ends q e < 0\/∃m:Nat,(cP R n).ends q e=(m:Int)/\m < R.made/\m≠n) (hc:(cP R n).cR q<=4194304):
 Calls Tryz.prog 274 #[ρ ab,ι n,ι q,ι e] w fun r w'=>r= .returned (ι 0)/\ax [ab,nb,lb] w w'/\dO w' ab nb cn lb cl az nl (pE R n q e):=by
 have HH:=ae (pF h.c r.hn (by rw [r.ho];omega) yZ);have HI:=ae (G_ h.c hq he);have HC:=ae (Q4 h r.hn r.hl r.ho r.h0 r.h1 r.hc r.uN r.hm r.iZ);obtain ⟨f1,f2,f3,f4,f5⟩:=jN R n;have HL:=ae (fun wx (hx:dO wx ab nb cn lb cl az nl (cP R n))=>DH hx (by rw [f2];exact r.hn) hq he (by rw [f2];exact dA) hc (by rw [f2];exact r.hm) r.iZ);clear h r yZ dA hc f1 f2 f3 f4 f5;unfold pE;generalize cP R n=R1 at*;go_enter Tryz.func274,Tryz.ntmps274;go_wp2_with (first|(go_at_call 133;refine HH.o.mono ?_;rintro r w' ⟨rfl,rfl⟩)|(go_at_call 224;refine HI.o.mono ?_;rintro r w' ⟨rfl,rfl⟩)|(go_at_call 230;refine HC.o.mono ?_;rintro r w2 ⟨rfl,F2,X2⟩;have lN:=ae X2;have tB:=ae F2;clear X2 F2)|(go_at_call 309;refine (HL.o _ lN.o).mono ?_;rintro r w3 ⟨rfl,F3,X3⟩;have Jj:=ae X3;have DK:=ae F3;clear X3 F3));go_ret;exact ⟨rfl,tB.o.trans DK.o,Jj.o⟩
end
end Go.Proofs.YtblkblclmbhjiaaGreat.dT
namespace Go.Proofs
open Go.Shelf
def Tryz.Bh:Go.Shelf.Ren:=⟨fun|125=>228|128=>284|129=>285|n=>n,fun|46=>256|3=>3|51=>296|53=>46|4=>4|5=>5|9=>9|n=>n,fun|n=>n⟩
theorem Tryz.OL:Go.Proofs.Lays.n125 Tryz.prog Tryz.Bh:={
 mixed:=by kernel_rfl
 f125:=Tryz.func228.trans (congrArg some (by kernel_rfl))
 f128:=Tryz.func284.trans (congrArg some (by kernel_rfl))
 f129:=Tryz.func285.trans (congrArg some (by kernel_rfl))
 t3:=Tryz.underlying3
 a3:=Tryz.isAgg3
 z3:=Tryz.sizeOf3
 v3:=Tryz.zeroValue3
 t4:=Tryz.underlying4
 a4:=Tryz.isAgg4
 z4:=Tryz.sizeOf4
 v4:=Tryz.zeroValue4
 t5:=Tryz.underlying5
 a5:=Tryz.isAgg5
 z5:=Tryz.sizeOf5
 v5:=Tryz.zeroValue5
 t9:=Tryz.underlying9
 a9:=Tryz.isAgg9
 z9:=Tryz.sizeOf9
 v9:=Tryz.zeroValue9
 t46:=Tryz.underlying256
 a46:=Tryz.isAgg256
 z46:=Tryz.sizeOf256
 v46:=Tryz.zeroValue256
 t51:=Tryz.underlying296
 a51:=Tryz.isAgg296
 z51:=Tryz.sizeOf296
 v51:=Tryz.zeroValue296
 t53:=Tryz.underlying46
 a53:=Tryz.isAgg46
 z53:=Tryz.sizeOf46
 v53:=Tryz.zeroValue46}
theorem Tryz.bits_Len (x:Int) (w:World) (h0:0<=x) (h1:x<=18446744073709551615):
 Calls Tryz.prog 228 #[.int .u64 x] w fun e w'=>e= .returned (.int .i64 (Lib.bitLen x.toNat))/\w'=w:=Any.bits_Len Tryz.OL x w h0 h1
def Tryz.Ha:Go.Shelf.Ren:=⟨fun|6=>137|15=>228|14=>227|28=>284|29=>285|20=>276|21=>277|22=>278|23=>279|24=>280|25=>281|26=>282|27=>283|46=>310|47=>311|48=>312|49=>313|50=>314|57=>322|n=>n,fun|22=>195|24=>199|25=>210|3=>3|39=>256|0=>0|53=>296|55=>46|4=>4|46=>290|45=>289|50=>70|5=>5|9=>9|66=>329|70=>249|76=>337|77=>148|n=>n,fun|n=>n⟩
theorem Tryz.WK:Go.Proofs.SlLaysF0.n6 Tryz.prog Tryz.Ha:={
 mixed:=by kernel_rfl
 f6:=⟨Tryz.f137.name,by decide,Tryz.func137.trans (congrArg some (by kernel_rfl))⟩
 f14:=⟨Tryz.f227.name,by decide,Tryz.func227.trans (congrArg some (by kernel_rfl))⟩
 f15:=Tryz.func228.trans (congrArg some (by kernel_rfl))
 f20:=⟨Tryz.f276.name,by decide,Tryz.func276.trans (congrArg some (by kernel_rfl))⟩
 f21:=⟨Tryz.f277.name,by decide,Tryz.func277.trans (congrArg some (by kernel_rfl))⟩
 f22:=⟨Tryz.f278.name,by decide,Tryz.func278.trans (congrArg some (by kernel_rfl))⟩
 f23:=⟨Tryz.f279.name,by decide,Tryz.func279.trans (congrArg some (by kernel_rfl))⟩
 f24:=⟨Tryz.f280.name,by decide,Tryz.func280.trans (congrArg some (by kernel_rfl))⟩
 f25:=⟨Tryz.f281.name,by decide,Tryz.func281.trans (congrArg some (by kernel_rfl))⟩
 f26:=⟨Tryz.f282.name,by decide,Tryz.func282.trans (congrArg some (by kernel_rfl))⟩
 f27:=⟨Tryz.f283.name,by decide,Tryz.func283.trans (congrArg some (by kernel_rfl))⟩
 f28:=Tryz.func284.trans (congrArg some (by kernel_rfl))
 f29:=Tryz.func285.trans (congrArg some (by kernel_rfl))
 f46:=⟨Tryz.f310.name,by decide,Tryz.func310.trans (congrArg some (by kernel_rfl))⟩
 f47:=Tryz.func311.trans (congrArg some (by kernel_rfl))
 f48:=Tryz.func312.trans (congrArg some (by kernel_rfl))
 f49:=⟨Tryz.f313.name,by decide,Tryz.func313.trans (congrArg some (by kernel_rfl))⟩
 f50:=⟨Tryz.f314.name,by decide,Tryz.func314.trans (congrArg some (by kernel_rfl))⟩
 f57:=⟨Tryz.f322.name,by decide,Tryz.func322.trans (congrArg some (by kernel_rfl))⟩
 t0:=Tryz.underlying0
 a0:=Tryz.isAgg0
 z0:=Tryz.sizeOf0
 v0:=Tryz.zeroValue0
 t3:=Tryz.underlying3
 a3:=Tryz.isAgg3
 z3:=Tryz.sizeOf3
 v3:=Tryz.zeroValue3
 t4:=Tryz.underlying4
 a4:=Tryz.isAgg4
 z4:=Tryz.sizeOf4
 v4:=Tryz.zeroValue4
 t5:=Tryz.underlying5
 a5:=Tryz.isAgg5
 z5:=Tryz.sizeOf5
 v5:=Tryz.zeroValue5
 t9:=Tryz.underlying9
 a9:=Tryz.isAgg9
 z9:=Tryz.sizeOf9
 v9:=Tryz.zeroValue9
 t22:=Tryz.underlying195
 a22:=Tryz.isAgg195
 z22:=Tryz.sizeOf195
 v22:=Tryz.zeroValue195
 t25:=Tryz.underlying210
 a25:=Tryz.isAgg210
 z25:=Tryz.sizeOf210
 v25:=Tryz.zeroValue210
 t39:=Tryz.underlying256
 a39:=Tryz.isAgg256
 z39:=Tryz.sizeOf256
 v39:=Tryz.zeroValue256
 t45:=Tryz.underlying289
 a45:=Tryz.isAgg289
 z45:=Tryz.sizeOf289
 v45:=Tryz.zeroValue289
 t46:=Tryz.underlying290
 a46:=Tryz.isAgg290
 z46:=Tryz.sizeOf290
 v46:=Tryz.zeroValue290
 t50:=Tryz.underlying70
 a50:=Tryz.isAgg70
 z50:=Tryz.sizeOf70
 v50:=Tryz.zeroValue70
 t53:=Tryz.underlying296
 a53:=Tryz.isAgg296
 z53:=Tryz.sizeOf296
 v53:=Tryz.zeroValue296
 t55:=Tryz.underlying46
 a55:=Tryz.isAgg46
 z55:=Tryz.sizeOf46
 v55:=Tryz.zeroValue46
 t66:=Tryz.underlying329
 a66:=Tryz.isAgg329
 z66:=Tryz.sizeOf329
 v66:=Tryz.zeroValue329
 t70:=Tryz.underlying249
 a70:=Tryz.isAgg249
 z70:=Tryz.sizeOf249
 v70:=Tryz.zeroValue249
 t76:=Tryz.underlying337
 a76:=Tryz.isAgg337
 z76:=Tryz.sizeOf337
 v76:=Tryz.zeroValue337
 t77:=Tryz.underlying148
 a77:=Tryz.isAgg148
 z77:=Tryz.sizeOf148
 v77:=Tryz.zeroValue148}

end Go.Proofs
namespace Go.Proofs.YtblkblclmbhjiaaGreat.gP
open Go.RowKit ak
theorem OM {k:IntKind} {a b:Int} (h:a=b):Ending.returned (.int k a)= .returned (.int k b):=by rw [h]
theorem DL {n e:Nat} (g:xE n e) (w:World):Calls Tryz.prog 228 #[.int .u64 n] w fun r w'=>r= .returned (ι ((e:Int)+1))/\w=w':=by have hs:=g.small;refine (Tryz.bits_Len (n:Int) w (by omega) (by omega)).mono ?_;rintro r w' ⟨rfl,rfl⟩;refine ⟨?_,rfl⟩;rw [Int.toNat_natCast,g.n,DA e g.ge];rfl
theorem Kr {w:World} {b s n e cp:Nat} (h1:w.cell? (π b 2)=some (.slice (some (π s 0)) n cp)) (g:xE n e) (key:Nat):
 Calls Tryz.prog 142 #[ρ b,.int .u64 key] w fun r w'=>r= .returned (ι (home n key))/\w=w':=by
 have hs:=g.small;have hp:=g.pos;have uR:=g.ge;have hle:=g.le;have hh:=jB g.pos key;have hlen:=DL g w;have hsh:IntKind.u64.wrap ((key:Int)*11400714819323198485) / 2 ^ (64 - e)=((home n key:Nat):Int):=by rw [<-DB g,IntKind.wrap_u64,Int.natCast_ediv,Int.natCast_emod,Int.natCast_mul,Int.natCast_pow];rfl
 have HS:=ae hsh;have H:=ae hlen;generalize home n key=hm at HS hh ⊢;clear g hlen hsh;go_enter Tryz.func142,Tryz.ntmps142;go_wp2_with (go_at_call 228;refine H.o.mono ?_;rintro e w' ⟨rfl,rfl⟩);go_ret;refine ⟨OM ?_,rfl⟩;rw [HS.o];exact IntWalk.wrap64_in _ ⟨by omega,by omega⟩
theorem Bi {w:World} {b s n e cp:Nat} (h1:w.cell? (π b 2)=some (.slice (some (π s 0)) n cp)) (g:xE n e) {i:Nat} (hi:i < n):
 Calls Tryz.prog 141 #[ρ b,ι i] w fun r w'=>r= .returned (ι (nx n i))/\w=w':=by
 have hs:=g.small;have hp:=g.pos;have ha:=Sj g hi;generalize nx n i=q at ha ⊢;clear g;go_enter Tryz.func141,Tryz.ntmps141;go_wp2;go_ret;exact ⟨rfl,rfl⟩
def Bj (D:Nat->Bool×Nat×Value) (key a:Nat):Bool:= !(D a).1||(D a).2.1==key
theorem DM (z:Value) (S:Tb Value) (key a:Nat):Bj (dB z S) key a=fC S key a:=by
 unfold Bj dB fC;cases S a with
 |none=>rfl
 |some x=>simp
theorem ab4 {p:Prop} (h:p:=by
 go_wp2;go_quiet (fail);go_wp2;go_ret2;refine ⟨?_,_,rfl⟩;rw [ht];rfl):p:=h
theorem za {w:World} {b s az count n e:Nat} {z:Value} {S:Tb Value} (h:dH w b s az count n (dB z S)) (g:xE n e) {em:Nat} (oN:em < n) (il:S em=none) (key:Nat):
 Calls Tryz.prog 132 #[ρ b,.int .u64 key] w fun r w'=>r= .returned (.tuple #[ι (find n S key),.bool (dB z S (find n S key)).1])/\∃m,w'=w.drewN m:=by
 obtain ⟨cp,h1⟩:=h.c2;have hs:=g.small;have hp:=g.pos;have hh:=jB g.pos key;have Ks:=(pB oN il key).1;have hq:=iQ g.pos S key;have H1:=ae (Kr h1 g key);have H2:=ae (fun i (hi:i < n)=>Bi h1 g hi);have Hf:Hid (find n S key=fU n S key n (home n key)):=rfl;generalize find n S key=q at Ks hq Hf ⊢;have HQ:=ae Ks;clear Ks;generalize home n key=h0 at H1 Hf hh;go_enter Tryz.func132,Tryz.ntmps132;go_wp2_with (go_at_call 142;refine H1.o.mono ?_;rintro e w' ⟨rfl,rfl⟩);clear H1
 go_loopg [6] n (fun g s6 wr=>w=wr/\∃a:Nat,s6=ι a/\a < n/\Hid (q=fU n S key g a))
 case atStart=>exact ⟨rfl,h0,rfl,hh,Hf⟩
 case round=>
  clear Hf;obtain ⟨rfl,a,rfl,ha,hg⟩:=hrel;have d0:=h.k0 a ha;have d1:=h.k1 a ha;have e0:=h.k0 q hq;have fj:=DM z S key a;have HD:=ae h;have Bk:fC S key a=false->∃k,k < gk/\q=fU n S key k (nx n a):=by
   intro Bl;cases gk with
   |zero=>exfalso;have:=hg.o;simp only [fU] at this;have h':=HQ.o;rw [this,Bl] at h';exact absurd h' (by decide)
   |succ k=>exact ⟨k,by omega,by have:=hg.o;rw [xC Bl] at this;exact this⟩
  have tY:fC S key a=true->q=a:=fun Bl=>by have:=hg.o;rw [tu Bl] at this;exact this
  have G1:=ae Bk;have G2:=ae tY;have Vn:=ae fj;clear fj Bk tY h hg;cases ht:(dB z S a).1
  ·have Kt:q=a:=G2.o (by rw [<-Vn.o];simp [Bj,ht]);subst Kt;rw [ht] at d0 e0;clear G1 G2 Vn;exact ab4
  ·rw [ht] at d0;by_cases hk:(dB z S a).2.1=key
   ·have Kt:q=a:=G2.o (by rw [<-Vn.o];simp [Bj,ht,hk]);subst Kt;rw [ht] at e0;have uK:(((dB z S q).2.1:Int)!=(key:Int))=false:=by simp [hk]
    clear G1 G2 Vn hk;exact ab4
   ·have uK:(((dB z S a).2.1:Int)!=(key:Int))=true:=by simp;omega
    have hns:fC S key a=false:=by rw [<-Vn.o];simp [Bj,ht,hk]
    obtain ⟨k',fq,jd⟩:=G1.o hns;have HK:=ae jd;have HB:=ae (H2.o a ha);have yO:=jf ha;clear G1 G2 Vn hk hns jd H2 e0;go_wp2_with (go_at_call 141;refine HB.o.mono ?_;rintro e w' ⟨rfl,rfl⟩)
    go_roundg k'
    case measure=>exact fq
    case rel=>exact ⟨rfl,nx n a,rfl,yO,HK⟩
end Go.Proofs.YtblkblclmbhjiaaGreat.gP
