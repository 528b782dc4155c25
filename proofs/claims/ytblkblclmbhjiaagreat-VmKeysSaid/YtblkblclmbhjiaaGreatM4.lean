import Derived.Test.YtblkblclmbhjiaaGreatM3
import Derived.BigQuiet
import Derived.BigRegion
import Derived.Deep.QuietTactic
import Derived.Outline
import Derived.Shelf.Small.Bits
import Derived.Shelf.Strconv.Itoa0
import Derived.Test.YtblkblclmbhjiaaGreatProg
import Derived.Shelf.SlGeneric
import Derived.Shelf.SlSortCmp.WholeK
import Derived.Shelf.SlicesE.Clone
import Derived.Ground.SlsfProg
import Derived.Ground.SlgnProg
import Derived.Deep.LoopGhost
import Derived.RangeFuncBox
import Derived.Maps.AppendAt
import Derived.Lib.Bytes
set_option linter.unusedVariables false
set_option linter.unusedSimpArgs false
set_option maxHeartbeats 40000000
set_option maxRecDepth 100000
open Go.Proofs.Tryz
abbrev af9:=@Go.rounds_succ
abbrev afI:=@Go.bodyPost_ret
abbrev afK:=@congrArg
abbrev afT:=@Go.results_none
abbrev agf:=@List.getElem?_append_right
abbrev agh:=@List.getElem?_append_left
abbrev age:=@List.length_append
abbrev aga:=@Go.info_parts
namespace Go.Proofs.YtblkblclmbhjiaaGreat.dT
open Go.RowKit ak.Vm
open ak hiding aL an aj
theorem OC {w:World} {ab nb cn lb cl az nl n l:Nat} {R:Raw} (h:dO w ab nb cn lb cl az nl R) (hn:n < R.made) (hl:l < nl) (kL:R.ends l 0 < 0) (hc:R.cR l<=4194304) (hm:R.made<=4194304) (iZ:nl<=256):
 Calls prog 309 #[ρ ab,ι n,ι l,ι 0] w fun e w'=>e= .returned (.tuple #[])/\da [ab,nb,lb] w w'/\dO w' ab nb cn lb cl az nl (e_ R n l 0):=by
 obtain ⟨d1,d2,d3⟩:=h.ne;have a1:=h.h1;have a2:=h.h2;have e0:w.cell? (π lb (l*3))=some (ι (R.ends l 0)):=h.ends (e:=0) hl omm;have e1:w.cell? (π lb (l*3+1))=some (ι (R.ends l 1)):=h.ends (e:=1) hl omm;have e2:=h.cR hl;have b5:=h.own hn;have b6:w.cell? (π nb (n*8+6))=some (ι (R.bK n 0)):=h.bK (e:=0) hn omm;have b7:w.cell? (π nb (n*8+7))=some (ι (R.bK n 1)):=h.bK (e:=1) hn omm;have fn:=h.fn;have fl:=h.fl;have HX:=ae h;clear h;generalize dA:R.ends l 0=last at*;generalize R.ends l 1=last1 at*;generalize iS:R.cR l=k at*;have HL:=ae dA;have HC:=ae iS;clear dA iS;go_enter func309,ntmps309;go_wp2;go_region;go_wp2;go_end0;have x1:=((((((HX.o.uM hn l).ij (e:=0) hn omm (-1)).ij (e:=1) hn omm last).jE (e:=1) hl omm n).jE (e:=0) hl omm n).oJ hl (k+1)).drewN 1;refine ⟨rfl,((((((((da.refl _ w).setCell smm _).setCell smm _).setCell smm _).setCell smm _).setCell smm _).setCell smm _)).drew,?_⟩;have e:e_ R n l 0={R with own:=aL R.own n l,bK:=cM (cM R.bK n 0 (-1)) n 1 last,ends:=cM (cM R.ends l 1 n) l 0 n,cR:=aL R.cR l (k+1)}:=by unfold e_;rw [HL.o,HC.o];dsimp only;rw [abH omm,abH omm]
 rw [e];exact x1
theorem acz {p:Prop} (h:p:=by
 unfold e_;rw [HL.o,HC.o];dsimp only;rw [afE omm,afE omm,Int.toNat_natCast]):p:=h
theorem OD {w:World} {ab nb cn lb cl az nl n l:Nat} {R:Raw} (h:dO w ab nb cn lb cl az nl R) (hn:n < R.made) (hl:l < nl) {m:Nat} (iR:R.ends l 0=(m:Int)) (yZ:m < R.made) (GY:m≠n) (hc:R.cR l<=4194304) (hm:R.made<=4194304) (iZ:nl<=256):
 Calls prog 309 #[ρ ab,ι n,ι l,ι 0] w fun e w'=>e= .returned (.tuple #[])/\da [ab,nb,lb] w w'/\dO w' ab nb cn lb cl az nl (e_ R n l 0):=by
 obtain ⟨d1,d2,d3⟩:=h.ne;have a1:=h.h1;have a2:=h.h2;have e0:w.cell? (π lb (l*3))=some (ι (R.ends l 0)):=h.ends (e:=0) hl omm;have e1:w.cell? (π lb (l*3+1))=some (ι (R.ends l 1)):=h.ends (e:=1) hl omm;have e2:=h.cR hl;have b5:=h.own hn;have b6:w.cell? (π nb (n*8+6))=some (ι (R.bK n 0)):=h.bK (e:=0) hn omm;have b7:w.cell? (π nb (n*8+7))=some (ι (R.bK n 1)):=h.bK (e:=1) hn omm;have m6:w.cell? (π nb (m*8+6))=some (ι (R.bK m 0)):=h.bK (e:=0) yZ omm;have m7:w.cell? (π nb (m*8+7))=some (ι (R.bK m 1)):=h.bK (e:=1) yZ omm;have fn:=h.fn;have fl:=h.fl;have HX:=ae h;clear h;rw [iR] at e0;have dA:=iR;generalize R.ends l 1=last1 at e1;clear iR;generalize iS:R.cR l=k at*;have HL:=ae dA;have HC:=ae iS;clear dA iS;go_enter func309,ntmps309;go_wp2;go_region;go_wp2;go_end0;have x1:=((((((HX.o.uM hn l).ij (e:=0) hn omm (-1)).ij (e:=1) hn omm (m:Int)).ij (e:=0) yZ omm n).jE (e:=0) hl omm n).oJ hl (k+1)).drewN 1;refine ⟨rfl,((((((((da.refl _ w).setCell smm _).setCell smm _).setCell smm _).setCell smm _).setCell smm _).setCell smm _)).drew,?_⟩;have e:e_ R n l 0={R with own:=aL R.own n l,bK:=cM (cM (cM R.bK n 0 (-1)) n 1 (m:Int)) m 0 n,ends:=cM R.ends l 0 n,cR:=aL R.cR l (k+1)}:=by exact acz
 rw [e];exact x1
theorem OE {w:World} {ab nb cn lb cl az nl n l:Nat} {R:Raw} (h:dO w ab nb cn lb cl az nl R) (hn:n < R.made) (hl:l < nl) (kL:R.ends l 1 < 0) (hc:R.cR l<=4194304) (hm:R.made<=4194304) (iZ:nl<=256):
 Calls prog 309 #[ρ ab,ι n,ι l,ι 1] w fun e w'=>e= .returned (.tuple #[])/\da [ab,nb,lb] w w'/\dO w' ab nb cn lb cl az nl (e_ R n l 1):=by
 obtain ⟨d1,d2,d3⟩:=h.ne;have a1:=h.h1;have a2:=h.h2;have e0:w.cell? (π lb (l*3))=some (ι (R.ends l 0)):=h.ends (e:=0) hl omm;have e1:w.cell? (π lb (l*3+1))=some (ι (R.ends l 1)):=h.ends (e:=1) hl omm;have e2:=h.cR hl;have b5:=h.own hn;have b6:w.cell? (π nb (n*8+6))=some (ι (R.bK n 0)):=h.bK (e:=0) hn omm;have b7:w.cell? (π nb (n*8+7))=some (ι (R.bK n 1)):=h.bK (e:=1) hn omm;have fn:=h.fn;have fl:=h.fl;have HX:=ae h;clear h;generalize dA:R.ends l 1=last at*;generalize R.ends l 0=last1 at*;generalize iS:R.cR l=k at*;have HL:=ae dA;have HC:=ae iS;clear dA iS;go_enter func309,ntmps309;go_wp2;go_region;go_wp2;go_end0;have x1:=((((((HX.o.uM hn l).ij (e:=1) hn omm (-1)).ij (e:=0) hn omm last).jE (e:=0) hl omm n).jE (e:=1) hl omm n).oJ hl (k+1)).drewN 1;refine ⟨rfl,((((((((da.refl _ w).setCell smm _).setCell smm _).setCell smm _).setCell smm _).setCell smm _).setCell smm _)).drew,?_⟩;have e:e_ R n l 1={R with own:=aL R.own n l,bK:=cM (cM R.bK n 1 (-1)) n 0 last,ends:=cM (cM R.ends l 0 n) l 1 n,cR:=aL R.cR l (k+1)}:=by unfold e_;rw [HL.o,HC.o];dsimp only;rw [abH omm,abH omm]
 rw [e];exact x1
theorem OF {w:World} {ab nb cn lb cl az nl n l:Nat} {R:Raw} (h:dO w ab nb cn lb cl az nl R) (hn:n < R.made) (hl:l < nl) {m:Nat} (iR:R.ends l 1=(m:Int)) (yZ:m < R.made) (GY:m≠n) (hc:R.cR l<=4194304) (hm:R.made<=4194304) (iZ:nl<=256):
 Calls prog 309 #[ρ ab,ι n,ι l,ι 1] w fun e w'=>e= .returned (.tuple #[])/\da [ab,nb,lb] w w'/\dO w' ab nb cn lb cl az nl (e_ R n l 1):=by
 obtain ⟨d1,d2,d3⟩:=h.ne;have a1:=h.h1;have a2:=h.h2;have e0:w.cell? (π lb (l*3))=some (ι (R.ends l 0)):=h.ends (e:=0) hl omm;have e1:w.cell? (π lb (l*3+1))=some (ι (R.ends l 1)):=h.ends (e:=1) hl omm;have e2:=h.cR hl;have b5:=h.own hn;have b6:w.cell? (π nb (n*8+6))=some (ι (R.bK n 0)):=h.bK (e:=0) hn omm;have b7:w.cell? (π nb (n*8+7))=some (ι (R.bK n 1)):=h.bK (e:=1) hn omm;have m6:w.cell? (π nb (m*8+6))=some (ι (R.bK m 0)):=h.bK (e:=0) yZ omm;have m7:w.cell? (π nb (m*8+7))=some (ι (R.bK m 1)):=h.bK (e:=1) yZ omm;have fn:=h.fn;have fl:=h.fl;have HX:=ae h;clear h;rw [iR] at e1;have dA:=iR;generalize R.ends l 0=last1 at e0;clear iR;generalize iS:R.cR l=k at*;have HL:=ae dA;have HC:=ae iS;clear dA iS;go_enter func309,ntmps309;go_wp2;go_region;go_wp2;go_end0;have x1:=((((((HX.o.uM hn l).ij (e:=1) hn omm (-1)).ij (e:=0) hn omm (m:Int)).ij (e:=1) yZ omm n).jE (e:=1) hl omm n).oJ hl (k+1)).drewN 1;refine ⟨rfl,((((((((da.refl _ w).setCell smm _).setCell smm _).setCell smm _).setCell smm _).setCell smm _).setCell smm _)).drew,?_⟩;have e:e_ R n l 1={R with own:=aL R.own n l,bK:=cM (cM (cM R.bK n 1 (-1)) n 0 (m:Int)) m 1 n,ends:=cM R.ends l 1 n,cR:=aL R.cR l (k+1)}:=by exact acz
 rw [e];exact x1
theorem DH {w:World} {ab nb cn lb cl az nl n l e:Nat} {R:Raw} (h:dO w ab nb cn lb cl az nl R) (hn:n < R.made) (hl:l < nl) (he:e<=1) (dA:R.ends l e < 0\/∃m:Nat,R.ends l e=(m:Int)/\m < R.made/\m≠n) (hc:R.cR l<=4194304) (hm:R.made<=4194304) (iZ:nl<=256):
 Calls prog 309 #[ρ ab,ι n,ι l,ι e] w fun e' w'=>e'= .returned (.tuple #[])/\da [ab,nb,lb] w w'/\dO w' ab nb cn lb cl az nl (e_ R n l e):=by
 have:e=0\/e=1:=omm;rcases this with rfl|rfl<;>rcases dA with Ba|⟨m,h1,h2,h3⟩
 ·exact OC h hn hl Ba hc hm iZ
 ·exact OD h hn hl h1 h2 h3 hc hm iZ
 ·exact OE h hn hl Ba hc hm iZ
 ·exact OF h hn hl h1 h2 h3 hc hm iZ
theorem OG (x y:Value) (w:World):(Instr.index 192 (.agg #[x,y]) (ι 0)).run prog w= .ok x w:=by kernel_rfl
theorem OH (x y:Value) (w:World):(Instr.index 192 (.agg #[x,y]) (ι 1)).run prog w= .ok y w:=by kernel_rfl
theorem acA {p:Prop} (h:p:=by
 unfold cP jm;simp only [a8,dQ,eN,OI,c0,c1,if_true,if_false,Nat.add_sub_cancel,Int.toNat_natCast,Nat.sub_zero,Nat.sub_self]):p:=h
theorem Sx {w:World} {ab nb cn lb cl az nl n l:Nat} {R:Raw} (h:dO w ab nb cn lb cl az nl R) (hn:n < R.made) (hl:l < nl) (ho:R.own n=(l:Int)) (h0:R.bK n 0 < 0) (h1:R.bK n 1 < 0) (hc:R.cR l<=4194304) (uN:0 < R.cR l) (hm:R.made<=4194304) (iZ:nl<=256):
 Calls prog 230 #[ρ ab,ι n] w fun e w'=>e= .returned (.tuple #[])/\da [ab,nb,lb] w w'/\dO w' ab nb cn lb cl az nl (cP R n):=by
 obtain ⟨d1,d2,d3⟩:=h.ne;have a1:=h.h1;have a2:=h.h2;have e0:w.cell? (π lb (l*3))=some (ι (R.ends l 0)):=h.ends (e:=0) hl omm;have e1:w.cell? (π lb (l*3+1))=some (ι (R.ends l 1)):=h.ends (e:=1) hl omm;have e2:=h.cR hl;have b5:=h.own hn;have b6:w.cell? (π nb (n*8+6))=some (ι (R.bK n 0)):=h.bK (e:=0) hn omm;have b7:w.cell? (π nb (n*8+7))=some (ι (R.bK n 1)):=h.bK (e:=1) hn omm;have fn:=h.fn;have fl:=h.fl;have HX:=ae h;rw [ho] at b5;have HO:=ae ho;clear h ho;generalize dQ:R.bK n 0=b0 at*;generalize eN:R.bK n 1=b1 at*;obtain ⟨k,iS⟩:∃k,R.cR l=k+1:=⟨R.cR l - 1,omm⟩;rw [iS] at e2 hc uN;have H0:=ae dQ;have H1:=ae eN;have HC:=ae iS;clear dQ eN iS;have i0:=OG;have i1:=OH;go_enter func230,ntmps230;go_wp2;go_region;go_wp2;refine wp_loop_rounds 3 ?_;rw [af9];go_wp2;go_region;go_wp2;rw [af9];go_wp2;go_region;go_wp2;rw [af9];go_wp2;go_end0;refine ⟨rfl,(((((da.refl [ab,nb,lb] w).setCell smm _).setCell smm _).setCell smm _)).drew.drew.drew,?_⟩;have x1:=(((HX.o.jE (e:=0) hl omm b1).jE (e:=1) hl omm b0).oJ hl k).drewN 3;have e:cP R n={R with bK:=R.bK,ends:=cM (cM R.ends l 0 b1) l 1 b0,cR:=aL R.cR l k}:=by
  have a8:(R.own n).toNat=l:=by rw [HO.o];rfl
  have dQ:=H0.o;have eN:=H1.o;have OI:=HC.o;have c0:(b0 < 0)=True:=by simp [h0]
  have c1:(b1 < 0)=True:=by simp [h1]
  exact acA
 rw [e];exact x1
theorem Sy {w:World} {ab nb cn lb cl az nl n l:Nat} {R:Raw} (h:dO w ab nb cn lb cl az nl R) (hn:n < R.made) (hl:l < nl) (ho:R.own n=(l:Int)) (h0:R.bK n 0 < 0) {m1:Nat} (h1:R.bK n 1=(m1:Int)) (k1:m1 < R.made) (j1:m1≠n) (hc:R.cR l<=4194304) (uN:0 < R.cR l) (hm:R.made<=4194304) (iZ:nl<=256):
 Calls prog 230 #[ρ ab,ι n] w fun e w'=>e= .returned (.tuple #[])/\da [ab,nb,lb] w w'/\dO w' ab nb cn lb cl az nl (cP R n):=by
 obtain ⟨d1,d2,d3⟩:=h.ne;have a1:=h.h1;have a2:=h.h2;have e0:w.cell? (π lb (l*3))=some (ι (R.ends l 0)):=h.ends (e:=0) hl omm;have e1:w.cell? (π lb (l*3+1))=some (ι (R.ends l 1)):=h.ends (e:=1) hl omm;have e2:=h.cR hl;have b5:=h.own hn;have b6:w.cell? (π nb (n*8+6))=some (ι (R.bK n 0)):=h.bK (e:=0) hn omm;have b7:w.cell? (π nb (n*8+7))=some (ι (R.bK n 1)):=h.bK (e:=1) hn omm;have q6:w.cell? (π nb (m1*8+6))=some (ι (R.bK m1 0)):=h.bK (e:=0) k1 omm;have q7:w.cell? (π nb (m1*8+7))=some (ι (R.bK m1 1)):=h.bK (e:=1) k1 omm;have fn:=h.fn;have fl:=h.fl;have HX:=ae h;rw [ho] at b5;have HO:=ae ho;clear h ho;generalize dQ:R.bK n 0=b0 at*;rw [h1] at b7;have eN:=h1;clear h1;obtain ⟨k,iS⟩:∃k,R.cR l=k+1:=⟨R.cR l - 1,omm⟩;rw [iS] at e2 hc uN;have H0:=ae dQ;have H1:=ae eN;have HC:=ae iS;clear dQ eN iS;have i0:=OG;have i1:=OH;go_enter func230,ntmps230;go_wp2;go_region;go_wp2;refine wp_loop_rounds 3 ?_;rw [af9];go_wp2;go_region;go_wp2;rw [af9];go_wp2;go_region;go_wp2;rw [af9];go_wp2;go_end0;refine ⟨rfl,(((((da.refl [ab,nb,lb] w).setCell smm _).setCell smm _).setCell smm _)).drew.drew.drew,?_⟩;have x1:=(((HX.o.jE (e:=0) hl omm (m1:Int)).ij (e:=0) k1 omm b0).oJ hl k).drewN 3;have e:cP R n={R with bK:=cM R.bK m1 0 b0,ends:=cM R.ends l 0 (m1:Int),cR:=aL R.cR l k}:=by
  have a8:(R.own n).toNat=l:=by rw [HO.o];rfl
  have dQ:=H0.o;have eN:=H1.o;have OI:=HC.o;have c0:(b0 < 0)=True:=by simp [h0]
  have c1:((m1:Int) < 0)=False:=by simp
  exact acA
 rw [e];exact x1
theorem acB {p:Prop} (h:p:=by
 unfold cP jm;simp only [a8,dQ,eN,OI,c0,c1,if_true,if_false,Nat.add_sub_cancel,Int.toNat_natCast,Nat.sub_zero,Nat.sub_self,hq]):p:=h
theorem Sz {w:World} {ab nb cn lb cl az nl n l:Nat} {R:Raw} (h:dO w ab nb cn lb cl az nl R) (hn:n < R.made) (hl:l < nl) (ho:R.own n=(l:Int)) {m0:Nat} (h0:R.bK n 0=(m0:Int)) (k0:m0 < R.made) (j0:m0≠n) (h1:R.bK n 1 < 0) (hc:R.cR l<=4194304) (uN:0 < R.cR l) (hm:R.made<=4194304) (iZ:nl<=256):
 Calls prog 230 #[ρ ab,ι n] w fun e w'=>e= .returned (.tuple #[])/\da [ab,nb,lb] w w'/\dO w' ab nb cn lb cl az nl (cP R n):=by
 obtain ⟨d1,d2,d3⟩:=h.ne;have a1:=h.h1;have a2:=h.h2;have e0:w.cell? (π lb (l*3))=some (ι (R.ends l 0)):=h.ends (e:=0) hl omm;have e1:w.cell? (π lb (l*3+1))=some (ι (R.ends l 1)):=h.ends (e:=1) hl omm;have e2:=h.cR hl;have b5:=h.own hn;have b6:w.cell? (π nb (n*8+6))=some (ι (R.bK n 0)):=h.bK (e:=0) hn omm;have b7:w.cell? (π nb (n*8+7))=some (ι (R.bK n 1)):=h.bK (e:=1) hn omm;have p6:w.cell? (π nb (m0*8+6))=some (ι (R.bK m0 0)):=h.bK (e:=0) k0 omm;have p7:w.cell? (π nb (m0*8+7))=some (ι (R.bK m0 1)):=h.bK (e:=1) k0 omm;have fn:=h.fn;have fl:=h.fl;have HX:=ae h;rw [ho] at b5;have HO:=ae ho;clear h ho;rw [h0] at b6;have dQ:=h0;clear h0;generalize eN:R.bK n 1=b1 at*;obtain ⟨k,iS⟩:∃k,R.cR l=k+1:=⟨R.cR l - 1,omm⟩;rw [iS] at e2 hc uN;have H0:=ae dQ;have H1:=ae eN;have HC:=ae iS;clear dQ eN iS;have i0:=OG;have i1:=OH;go_enter func230,ntmps230;go_wp2;go_region;go_wp2;refine wp_loop_rounds 3 ?_;rw [af9];go_wp2;go_region;go_wp2;rw [af9];go_wp2;go_region;go_wp2;rw [af9];go_wp2;go_end0;refine ⟨rfl,(((((da.refl [ab,nb,lb] w).setCell smm _).setCell smm _).setCell smm _)).drew.drew.drew,?_⟩;have x1:=(((HX.o.ij (e:=1) k0 omm b1).jE (e:=1) hl omm (m0:Int)).oJ hl k).drewN 3;have e:cP R n={R with bK:=cM R.bK m0 1 b1,ends:=cM R.ends l 1 (m0:Int),cR:=aL R.cR l k}:=by
  have a8:(R.own n).toNat=l:=by rw [HO.o];rfl
  have dQ:=H0.o;have eN:=H1.o;have OI:=HC.o;have c0:((m0:Int) < 0)=False:=by simp
  have hq:cM R.bK m0 1 b1 n 0=(m0:Int):=by rw [cN,abH omm];exact dQ
  have c1:(b1 < 0)=True:=by simp [h1]
  exact acB
 rw [e];exact x1
theorem SA {w:World} {ab nb cn lb cl az nl n l:Nat} {R:Raw} (h:dO w ab nb cn lb cl az nl R) (hn:n < R.made) (hl:l < nl) (ho:R.own n=(l:Int)) {m0:Nat} (h0:R.bK n 0=(m0:Int)) (k0:m0 < R.made) (j0:m0≠n) {m1:Nat} (h1:R.bK n 1=(m1:Int)) (k1:m1 < R.made) (j1:m1≠n) (hc:R.cR l<=4194304) (uN:0 < R.cR l) (hm:R.made<=4194304) (iZ:nl<=256):
 Calls prog 230 #[ρ ab,ι n] w fun e w'=>e= .returned (.tuple #[])/\da [ab,nb,lb] w w'/\dO w' ab nb cn lb cl az nl (cP R n):=by
 obtain ⟨d1,d2,d3⟩:=h.ne;have a1:=h.h1;have a2:=h.h2;have e0:w.cell? (π lb (l*3))=some (ι (R.ends l 0)):=h.ends (e:=0) hl omm;have e1:w.cell? (π lb (l*3+1))=some (ι (R.ends l 1)):=h.ends (e:=1) hl omm;have e2:=h.cR hl;have b5:=h.own hn;have b6:w.cell? (π nb (n*8+6))=some (ι (R.bK n 0)):=h.bK (e:=0) hn omm;have b7:w.cell? (π nb (n*8+7))=some (ι (R.bK n 1)):=h.bK (e:=1) hn omm;have p6:w.cell? (π nb (m0*8+6))=some (ι (R.bK m0 0)):=h.bK (e:=0) k0 omm;have p7:w.cell? (π nb (m0*8+7))=some (ι (R.bK m0 1)):=h.bK (e:=1) k0 omm;have q6:w.cell? (π nb (m1*8+6))=some (ι (R.bK m1 0)):=h.bK (e:=0) k1 omm;have q7:w.cell? (π nb (m1*8+7))=some (ι (R.bK m1 1)):=h.bK (e:=1) k1 omm;have fn:=h.fn;have fl:=h.fl;have HX:=ae h;rw [ho] at b5;have HO:=ae ho;clear h ho;rw [h0] at b6;have dQ:=h0;clear h0;rw [h1] at b7;have eN:=h1;clear h1;obtain ⟨k,iS⟩:∃k,R.cR l=k+1:=⟨R.cR l - 1,omm⟩;rw [iS] at e2 hc uN;have H0:=ae dQ;have H1:=ae eN;have HC:=ae iS;clear dQ eN iS;have i0:=OG;have i1:=OH;go_enter func230,ntmps230;go_wp2;go_region;go_wp2;refine wp_loop_rounds 3 ?_;rw [af9];go_wp2;go_region;go_wp2;rw [af9];go_wp2;go_region;go_wp2;rw [af9];go_wp2;go_end0;refine ⟨rfl,(((((da.refl [ab,nb,lb] w).setCell smm _).setCell smm _).setCell smm _)).drew.drew.drew,?_⟩;have x1:=(((HX.o.ij (e:=1) k0 omm (m1:Int)).ij (e:=0) k1 omm (m0:Int)).oJ hl k).drewN 3;have e:cP R n={R with bK:=cM (cM R.bK m0 1 (m1:Int)) m1 0 (m0:Int),ends:=R.ends,cR:=aL R.cR l k}:=by
  have a8:(R.own n).toNat=l:=by rw [HO.o];rfl
  have dQ:=H0.o;have eN:=H1.o;have OI:=HC.o;have c0:((m0:Int) < 0)=False:=by simp
  have hq:cM R.bK m0 1 (m1:Int) n 0=(m0:Int):=by rw [cN,abH omm];exact dQ
  have c1:((m1:Int) < 0)=False:=by simp
  exact acB
 rw [e];exact x1
def oK (R:Raw) (n e:Nat):Prop:=R.bK n e < 0\/∃m:Nat,R.bK n e=(m:Int)/\m < R.made/\m≠n
theorem Q4 {w:World} {ab nb cn lb cl az nl n l:Nat} {R:Raw} (h:dO w ab nb cn lb cl az nl R) (hn:n < R.made) (hl:l < nl) (ho:R.own n=(l:Int)) (h0:oK R n 0) (h1:oK R n 1) (hc:R.cR l<=4194304) (uN:0 < R.cR l) (hm:R.made<=4194304) (iZ:nl<=256):
 Calls prog 230 #[ρ ab,ι n] w fun e w'=>e= .returned (.tuple #[])/\da [ab,nb,lb] w w'/\dO w' ab nb cn lb cl az nl (cP R n):=by
 rcases h0 with a0|⟨m0,a0,b0,c0⟩<;>rcases h1 with a1|⟨m1,a1,b1,c1⟩
 ·exact Sx h hn hl ho a0 a1 hc uN hm iZ
 ·exact Sy h hn hl ho a0 a1 b1 c1 hc uN hm iZ
 ·exact Sz h hn hl ho a0 b0 c0 a1 hc uN hm iZ
 ·exact SA h hn hl ho a0 b0 c0 a1 b1 c1 hc uN hm iZ
def bG (x:eW):Value:= .agg #[.int .u64 x.key,ι (x.tg 0),ι (x.tg 1),ι (x.tg 2),ι (x.tg 3)]
section
variable {w:World} {ab az nl:Nat} {V L:Value} {R:Raw}
theorem oL (h:qg w ab V L az nl R) {q:Nat} (hq:q < nl):∃lb cl,L= .slice (some (π lb 0)) nl cl:=by obtain ⟨b,cap,hv,_⟩:=h.lists.some omm;exact ⟨b,cap,hv⟩
theorem oM (h:qg w ab V L az nl R) {n:Nat} (hn:n < R.made):∃nb cn,V= .slice (some (π nb 0)) R.made cn:=by obtain ⟨b,cap,hv,_⟩:=h.nodes.some omm;exact ⟨b,cap,hv⟩
theorem Fx {e:Nat} (he:e<=1) (w:World):Calls prog 226 #[ι e] w fun r w'=>r= .returned (.bool true)/\w=w':=by
 have:e=0\/e=1:=omm;rcases this with rfl|rfl
 all_goals
  go_enter func226,ntmps226;go_wp2;exact agJ
theorem G_ (h:qg w ab V L az nl R) {q e:Nat} (hq:q < nl) (he:e<=1):Calls prog 224 #[ρ ab,ι q,ι e] w fun r w'=>r= .returned (.bool true)/\w=w':=by
 obtain ⟨lb,cl,rfl⟩:=oL h hq;have h2:w.cell? (π ab 2)=some (.slice (some (π lb 0)) nl cl):=h.head.cell 2;have HE:=ae (Fx he);clear h he;have t1:decide ((0:Int)<=(q:Int))=true:=by simp
 have t2:decide ((q:Int) < (nl:Int))=true:=by simp;omega
 go_enter func224,ntmps224;go_wp2_with (go_at_call 226;refine (HE.o _).mono ?_;rintro r w' ⟨rfl,rfl⟩);exact agJ
theorem pF (h:qg w ab V L az nl R) {n:Nat} (hn:n < R.made) (ho:0<=R.own n) (hm:R.made<=az):Calls prog 133 #[ρ ab,ι n] w fun r w'=>r= .returned (ι 0)/\w=w':=by
 obtain ⟨nb,cn,rfl⟩:=oM h hn;obtain ⟨h0,h1⟩:=h.head.c2;have h5:=h.nodes.cell (o:=n*8+5) omm;rw [sq] at h5;generalize R.own n=o at*;generalize R.made=k at*;have t1:decide ((n:Int) < 0)=false:=by simp
 have t2:decide ((az:Int)<=(n:Int))=false:=by simp;omega
 have t3:decide ((k:Int)<=(n:Int))=false:=by simp;omega
 have t4:decide (o < 0)=false:=by simp;omega
 clear h;go_enter func133,ntmps133;go_wp2;exact agJ
theorem OJ (n:Int) (h:0<=n) (w:World):Calls prog 225 #[ι n] w fun r w'=>r= .returned (.tuple #[ι n,.bool true])/\w=w':=by have hm:max n 0=n:=omm;go_enter func225,ntmps225;go_wp2;go_ret2;exact ⟨rfl,rfl⟩
theorem OK (n:Int) (h:n < 0) (w:World):Calls prog 225 #[ι n] w fun r w'=>r= .returned (.tuple #[ι 0,.bool false])/\w=w':=by
 have t1:decide (0<=n)=false:=by simp;omega
 have hm:max n 0=0:=omm;go_enter func225,ntmps225;go_wp2;go_ret2;exact ⟨rfl,rfl⟩
theorem SB (h:qg w ab V L az nl R) {n:Nat} (hn:n < R.made) (ho:0<=R.own n) (hm:R.made<=az):Calls prog 60 #[ρ ab,ι n] w fun r w'=>r= .returned (.tuple #[ι (R.own n),.bool true])/\w=w':=by have HH:=ae (pF h hn ho hm);obtain ⟨nb,cn,rfl⟩:=oM h hn;have h1:w.cell? (π ab 1)=some (.slice (some (π nb 0)) R.made cn):=h.head.cell 1;have h5:=h.nodes.cell (o:=n*8+5) omm;rw [sq] at h5;generalize R.own n=o at*;generalize R.made=k at*;clear h;go_enter func60,ntmps60;go_wp2_with (go_at_call 133;refine HH.o.mono ?_;rintro r w' ⟨rfl,rfl⟩);go_ret2;exact ⟨rfl,rfl⟩
theorem xM (h:qg w ab V L az nl R) {n:Nat} (hn:n < R.made) (ho:0<=R.own n) (hm:R.made<=az):Calls prog 208 #[ρ ab,ι n] w fun r w'=>r= .returned (.tuple #[bG (R.val n),ι 0])/\Below w.heap.size w w':=by have HH:=ae (pF (h.later ((afL _ w).alloc (afF _) (.cells #[.int .u64 0,ι 0,ι 0,ι 0,ι 0] 118))) hn ho hm);obtain ⟨nb,cn,rfl⟩:=oM h hn;have h1:w.cell? (π ab 1)=some (.slice (some (π nb 0)) R.made cn):=h.head.cell 1;have k0:=h.nodes.cell (o:=n*8) omm;have k1:=h.nodes.cell (o:=n*8+1) omm;have k2:=h.nodes.cell (o:=n*8+2) omm;have k3:=h.nodes.cell (o:=n*8+3) omm;have k4:=h.nodes.cell (o:=n*8+4) omm;rw [xJ] at k0;rw [show ep R (n*8+1)=_ from iL R n (t:=0) omm] at k1;rw [show ep R (n*8+2)=_ from iL R n (t:=1) omm] at k2;rw [show ep R (n*8+3)=_ from iL R n (t:=2) omm] at k3;rw [show ep R (n*8+4)=_ from iL R n (t:=3) omm] at k4;have lab:=h.head.lt;have lnb:=aS k0;unfold bG;generalize R.val n=x at*;generalize R.made=k at*;clear h;go_enter func208,ntmps208;go_wp2_with (go_at_call 133;refine HH.o.mono ?_;rintro r w' ⟨rfl,rfl⟩);refine afI (v:= .tuple #[.agg #[.int .u64 x.key,ι (x.tg 0),ι (x.tg 1),ι (x.tg 2),ι (x.tg 3)],ι 0]) (by simp [results,results208,go_sem]) rfl ⟨rfl,(afL _ _).alloc (afF _) _⟩
theorem Kj {nb cn lb cl:Nat} (h:dO w ab nb cn lb cl az nl R) {n:Nat} (hn:n < R.made) (ho:0<=R.own n) (hm:R.made<=az) (x:eW):Calls prog 268 #[ρ ab,ι n,bG x] w fun r w'=>r= .returned (ι 0)/\da [ab,nb,lb] w w'/\dO w' ab nb cn lb cl az nl {R with val:=aL R.val n x}:=by
 have HH:=ae (pF (h.c.later ((afL _ w).alloc (afF _) (.cells #[.int .u64 x.key,ι (x.tg 0),ι (x.tg 1),ι (x.tg 2),ι (x.tg 3)] 118))) hn ho hm);have HX:=ae h;have h1:=h.h1;obtain ⟨k0,k1,k2,k3,k4⟩:=h.aW hn;have lab:=h.c.head.lt;have lnb:=aS k0;have fn:=h.fn;unfold bG;generalize R.val n=y at*;clear h;go_enter func268,ntmps268;go_wp2_with (go_at_call 133;refine HH.o.mono ?_;rintro r w' ⟨rfl,rfl⟩);obtain ⟨w1,jo⟩:∃w1,w1=w.alloc (.cells #[.int .u64 x.key,ι (x.tg 0),ι (x.tg 1),ι (x.tg 2),ι (x.tg 3)] 118):=⟨_,rfl⟩;rw [<-jo];have hb:ay w1 w.heap.size 118 #[.int .u64 x.key,ι (x.tg 0),ι (x.tg 1),ι (x.tg 2),ι (x.tg 3)]:=by rw [jo];exact ay.new _ _ _
 have hB:Below w.heap.size w w1:=by rw [jo];exact (afL _ w).alloc (afF _) _
 have Kk:Hid (dO w1 ab nb cn lb cl az nl R):=ae ⟨HX.o.c.later hB,HX.o.pos⟩;obtain ⟨g0,g1,g2,g3,g4⟩:=hb.c5;have h1':=Kk.o.h1;obtain ⟨j0,j1,j2,j3,j4⟩:=Kk.o.aW hn;have fn':=Kk.o.fn;have Vl:=ae (da.ah (S:=[ab,nb,lb]) hB);clear jo hb hB h1 k0 k1 k2 k3 k4 fn HX HH;generalize w.heap.size=bx at*;generalize hy':R.val n=y' at*;clear hy';have bz:bx≠nb:=omm;go_region;go_wp2;go_ret;exact ⟨rfl,(fD Vl.o smm (n*8) x).drew,(Kk.o.yY hn x).drewN 1⟩
theorem WI (h:qg w ab V L az nl R) {q:Nat} (hq:q < nl):Calls prog 204 #[ρ ab,ι q] w fun r w'=>r= .returned (ι (R.cR q))/\w=w':=by have HI:=ae (G_ h hq (e:=0) omm);obtain ⟨lb,cl,rfl⟩:=oL h hq;have h2:w.cell? (π ab 2)=some (.slice (some (π lb 0)) nl cl):=h.head.cell 2;have h5:=h.lists.cell (o:=q*3+2) omm;rw [xL] at h5;generalize R.cR q=k at*;clear h;go_enter func204,ntmps204;go_wp2_with (go_at_call 224;refine HI.o.mono ?_;rintro r w' ⟨rfl,rfl⟩);exact agJ
def d_ (n:Int):Value:= .tuple #[ι (if 0<=n then n else 0),.bool (decide (0<=n))]
theorem xN (n:Int) (w:World):Calls prog 225 #[ι n] w fun r w'=>r= .returned (.tuple #[ι (if 0<=n then n else 0),.bool (decide (0<=n))])/\w=w':=by
 by_cases h:0<=n
 ·rw [afE h,decide_eq_true h];exact OJ n h w
 ·rw [abH h,decide_eq_false h];exact OK n omm w
theorem Kl (h:qg w ab V L az nl R) {q e:Nat} (hq:q < nl) (he:e<=1):Calls prog 134 #[ρ ab,ι q,ι e] w fun r w'=>r= .returned (d_ (R.ends q e))/\w=w':=by
 have HI:=ae (G_ h hq he);obtain ⟨lb,cl,rfl⟩:=oL h hq;have h2:w.cell? (π ab 2)=some (.slice (some (π lb 0)) nl cl):=h.head.cell 2;have h5:=h.lists.cell (o:=q*3+e) omm;rw [uL R q he] at h5;have HT:=ae (xN (R.ends q e));unfold d_;generalize R.ends q e=k at*;clear h;have Fq:e=0\/e=1:=omm;rcases Fq with rfl|rfl
 all_goals
  try simp only [Nat.add_zero] at h5
  go_enter func134,ntmps134;go_wp2_with (first|(go_at_call 224;refine HI.o.mono ?_;rintro r w' ⟨rfl,rfl⟩)|(go_at_call 225;refine (HT.o _).mono ?_;rintro r w' ⟨rfl,rfl⟩))
  all_goals (go_ret2;exact ⟨rfl,rfl⟩)
theorem SC (h:qg w ab V L az nl R) {n e:Nat} (hn:n < R.made) (ho:0<=R.own n) (hm:R.made<=az) (he:e<=1):Calls prog 135 #[ρ ab,ι n,ι e] w fun r w'=>r= .returned (d_ (R.bK n e))/\w=w':=by
 have HH:=ae (pF h hn ho hm);have HE:=ae (Fx he w);obtain ⟨nb,cn,rfl⟩:=oM h hn;have h1:w.cell? (π ab 1)=some (.slice (some (π nb 0)) R.made cn):=h.head.cell 1;have h5:=h.nodes.cell (o:=n*8+(6+e)) omm;rw [xK R n he] at h5;have HT:=ae (xN (R.bK n e));unfold d_;generalize R.bK n e=k at*;generalize R.made=m at*;clear h;have Fq:e=0\/e=1:=omm;rcases Fq with rfl|rfl
 all_goals
  try simp only [Nat.add_zero] at h5
  go_enter func135,ntmps135;go_wp2_with (first|(go_at_call 133;refine HH.o.mono ?_;rintro r w' ⟨rfl,rfl⟩)|(go_at_call 226;refine HE.o.mono ?_;rintro r w' ⟨rfl,rfl⟩)|(go_at_call 225;refine (HT.o _).mono ?_;rintro r w' ⟨rfl,rfl⟩))
  all_goals (go_ret2;exact ⟨rfl,rfl⟩)
theorem xO {k:Int} {m:Nat} (h:k=(m:Int)):d_ k= .tuple #[ι m,.bool true]:=by unfold d_;rw [afE omm,decide_eq_true omm,h]
theorem xP {k:Int} (h:k < 0):d_ k= .tuple #[ι 0,.bool false]:=by unfold d_;rw [abH omm,decide_eq_false omm]
theorem jN (R:Raw) (n:Nat):(cP R n).own=R.own/\(cP R n).made=R.made/\(cP R n).val=R.val/\(cP R n).cS=R.cS/\(cP R n).used=R.used:=by obtain ⟨o1,o2,o3,o4,o5,o6⟩:=ri R n (R.own n).toNat 0 (R.bK n 0);obtain ⟨p1,p2,p3,p4,p5,p6⟩:=ri (jm R n (R.own n).toNat 0 (R.bK n 0)) n (R.own n).toNat 1 (R.bK n 1);exact ⟨p1.trans o1,p2.trans o2,p3.trans o3,p4.trans o4,p5.trans o5⟩
variable {nb cn lb cl:Nat}
def Bg (w:World) (ab nb n:Nat) (Km:Int) (k:Nat):World:=
 (((((dr w nb (n*8) dI).setCell (π nb (n*8+5)) (ι (-1))).setCell (π nb (n*8+6)) (ι Km)).setCell (π nb (n*8+7)) (ι (-1))).setCell (π ab 3) (ι n)).setCell (π ab 4) (ι k)
theorem Kn (h:dO w ab nb cn lb cl az nl R) {n:Nat} (hn:n < R.made) (k:Nat):dO (Bg w ab nb n R.cS k) ab nb cn lb cl az nl
 {R with val:=aL R.val n dI,own:=aL R.own n (-1),bK:=cM (cM R.bK n 0 R.cS) n 1 (-1),cS:=n,used:=k}:=
 (((((h.yY hn dI).uM hn (-1)).ij (e:=0) hn omm R.cS).ij (e:=1) hn omm (-1)).Bf n).yW k
theorem xQ (w:World) (ab nb lb n:Nat) (Km:Int) (k:Nat):da [ab,nb,lb] w (Bg w ab nb n Km k):=by unfold Bg;exact ((((((fD (da.refl _ w) smm _ _).setCell smm _).setCell smm _).setCell smm _).setCell smm _).setCell smm _)
theorem jp {b:Nat} {v0 v1 v2 v3 v4:Value} (h:ay w b 118 #[v0,v1,v2,v3,v4]) (x:eW):ay (dr w b 0 x) b 118 #[.int .u64 x.key,ι (x.tg 0),ι (x.tg 1),ι (x.tg 2),ι (x.tg 3)]:=
 ((((h.set 0 _).set 1 _).set 2 _).set 3 _).set 4 _
theorem uO {S:List Nat} {a:World} {b:Nat} (h:da S a w) (hb:a.heap.size<=b) (o:Nat) (x:eW):da S a (dr w b o x):=
 ((((h.qz hb _).qz hb _).qz hb _).qz hb _).qz hb _
theorem SD (h:dO w ab nb cn lb cl az nl R) {n l:Nat} (hn:n < R.made) (hl:l < nl) (ho:R.own n=(l:Int)) (h0:oK R n 0) (h1:oK R n 1) (hc:R.cR l<=4194304) (uN:0 < R.cR l) (hm:R.made<=4194304) (iZ:nl<=256) (hu:0 < R.used) (uP:R.used<=4194304):
 Calls prog 143 #[ρ ab,ι n] w fun r w'=>r= .returned (bG (R.val n))/\da [ab,nb,lb] w w'/\dO w' ab nb cn lb cl az nl (jD R n):=by
 have ul:Below w.heap.size w (w.alloc (.cells #[.int .u64 0,ι 0,ι 0,ι 0,ι 0] 118)):=(afL _ w).alloc (afF _) _;have AF:=ay.new w 118 #[.int .u64 0,ι 0,ι 0,ι 0,ι 0];have Nk:dO _ ab nb cn lb cl az nl R:=⟨h.c.later ul,h.pos⟩;have HC:=ae (Q4 Nk hn hl ho h0 h1 hc uN hm iZ);have gA:=Nk.apart AF;have gp:=ae ul;have tz:=ae AF;clear ul AF Nk;obtain ⟨f1,f2,f3,f4,f5⟩:=jN R n;have HF:=ae (show jD R n={cP R n with val:=aL (cP R n).val n dI,own:=aL (cP R n).own n (-1),bK:=cM (cM (cP R n).bK n 0 (cP R n).cS) n 1 (-1),cS:=n,used:=R.used - 1} by unfold jD JU;rw [f5]);have hv:R.val n=(cP R n).val n:=by rw [f3]
 rw [hv];rw [<-f2] at hn;have hU:R.used=(cP R n).used:=f5.symm;rw [hU] at hu uP HF;clear h0 h1 hc uN hm iZ ho hl hv f1 f2 f3 f4 f5 h hU;generalize cP R n=R1 at*;obtain ⟨k,hk⟩:∃k,R1.used=k+1:=⟨R1.used - 1,omm⟩;unfold bG;generalize hy:R1.val n=y;have HY:=ae hy;clear hy;go_enter func143,ntmps143;have HK:=ae hk;rw [hk] at hu uP;clear hk;go_wp2_with fail;refine HC.o.mono ?_;rintro r w1 ⟨rfl,F1,X1⟩;have Sq:ay w1 w.heap.size 118 #[.int .u64 0,ι 0,ι 0,ι 0,ι 0]:=tz.o.aB F1 sso;have hF0:da [ab,nb,lb] w w1:=(da.ah gp.o).trans F1;obtain ⟨d1,d2,d3⟩:=X1.ne;obtain ⟨a1,a3,a4,k0,k1,k2,k3,k4,b5,b6,b7,fn,fa⟩:=X1.facts hn;rw [HY.o] at k0 k1 k2 k3 k4;have HX:=ae X1;have xR:=ae Sq;have SE:=ae hF0;have hz:w.heap.size≠ab/\w.heap.size≠nb/\w.heap.size≠lb/\w.heap.size < w1.heap.size:=⟨omm,omm,omm,Sq.lt⟩;have y_:Hid (w.heap.size<=w.heap.size):=ae (afF _);clear Sq hF0 tz gp HC X1 F1 gA;generalize eO:w.heap.size=bx at*;have jg:Hid (w.heap.size<=bx):=ae omm;clear eO y_;go_wp2;obtain ⟨w2,qD⟩:∃w2,w2=w1.alloc (.cells #[.int .u64 y.key,ι (y.tg 0),ι (y.tg 1),ι (y.tg 2),ι (y.tg 3)] 118):=⟨_,rfl⟩;rw [<-qD];have Ε:Below w1.heap.size w1 w2:=by rw [qD];exact (afL _ w1).alloc (afF _) _
 have DI:ay w2 w1.heap.size 118 #[.int .u64 y.key,ι (y.tg 0),ι (y.tg 1),ι (y.tg 2),ι (y.tg 3)]:=by rw [qD];exact ay.new _ _ _
 have lN:=ae (HX.o.later Ε);have rj:=ae (xR.o.of (Ε.block _ hz.2.2.2));have tB:=ae (SE.o.trans (da.ah Ε));have hv:w1.heap.size≠ab/\w1.heap.size≠nb/\w1.heap.size≠lb:=by have:=lN.o.apart DI;omega
 clear qD a1 a3 a4 k0 k1 k2 k3 k4 b5 b6 b7 fn fa HX xR SE Ε;obtain ⟨a1,a3,a4,k0,k1,k2,k3,k4,b5,b6,b7,fn,fa⟩:=lN.o.facts hn;rw [HY.o] at k0 k1 k2 k3 k4;rw [HK.o] at a4;obtain ⟨g0,g1,g2,g3,g4,gf⟩:=jc rj.o;obtain ⟨v0,v1,v2,v3,v4,vf⟩:=jc DI;generalize r8:R1.cS=Km at*;have nU:=ae r8;clear r8 DI;generalize w1.heap.size=vx at*;go_region;go_wp2;have x3:=Kn lN.o hn k;rw [nU.o] at x3;have r4:=jp (rj.o.aB (xQ w2 ab nb lb n Km k) sso) y;have x4:=(x3.aB (fD (b:=bx) (da.refl [bx] _) smm 0 y) ⟨by simp;omega,by simp;omega,by simp;omega⟩).drewN 1;have f4:=(uO (tB.o.trans (xQ w2 ab nb lb n Km k)) jg.o 0 y).drewN 1;have r5:=r4.drewN 1;change bodyPost _ _ _ _ _ ((dr (Bg w2 ab nb n Km k) bx 0 y).drewN 1);generalize (dr (Bg w2 ab nb n Km k) bx 0 y).drewN 1=w5 at*;obtain ⟨e0,e1,e2,e3,e4,_⟩:=jc r5;have hF:=HF.o;rw [HK.o] at hF;have hF':jD R n={R1 with val:=aL R1.val n dI,own:=aL R1.own n (-1),bK:=cM (cM R1.bK n 0 Km) n 1 (-1),cS:=n,used:=k}:=hF;exact afI (v:= .agg #[.int .u64 y.key,ι (y.tg 0),ι (y.tg 1),ι (y.tg 2),ι (y.tg 3)]) (by simp [results,results143,go_sem,e0,e1,e2,e3,e4]) rfl ⟨rfl,f4,by rw [hF'];exact x4⟩
structure Rm (R:Raw) (nl n l:Nat):Prop where
 hn:n < R.made
 hl:l < nl
 ho:R.own n=(l:Int)
 h0:oK R n 0
 h1:oK R n 1
 hc:R.cR l<=4194304
 uN:0 < R.cR l
 hm:R.made<=4194304
 iZ:nl<=256
 hu:0 < R.used
 uP:R.used<=4194304
theorem Ko (h:dO w ab nb cn lb cl az nl R) {n l:Nat} (r:Rm R nl n l):Calls prog 143 #[ρ ab,ι n] w fun e w'=>e= .returned (bG (R.val n))/\da [ab,nb,lb] w w'/\dO w' ab nb cn lb cl az nl (jD R n):=
 SD h r.hn r.hl r.ho r.h0 r.h1 r.hc r.uN r.hm r.iZ r.hu r.uP
theorem Fy (w:World):Below w.heap.size w (w.alloc (.cells #[.int .u64 0,ι 0,ι 0,ι 0,ι 0] 118))/\ay (w.alloc (.cells #[.int .u64 0,ι 0,ι 0,ι 0,ι 0] 118)) w.heap.size 118 #[.int .u64 0,ι 0,ι 0,ι 0,ι 0]:=
 ⟨(afL _ w).alloc (afF _) _,ay.new w _ _⟩
theorem Fz {w2:World} {R':Raw} {bx:Nat} {v0 v1 v2 v3 v4:Value} (X2:dO w2 ab nb cn lb cl az nl R') (F:da [ab,nb,lb] w w2) (hb:w.heap.size<=bx) (hz:bx≠ab/\bx≠nb/\bx≠lb) (r:ay w2 bx 118 #[v0,v1,v2,v3,v4]) (y:eW):
 da [ab,nb,lb] w (dr w2 bx 0 y)/\dO (dr w2 bx 0 y) ab nb cn lb cl az nl R'/\ay (dr w2 bx 0 y) bx 118 #[.int .u64 y.key,ι (y.tg 0),ι (y.tg 1),ι (y.tg 2),ι (y.tg 3)]:=
 ⟨uO F hb 0 y,X2.aB (fD (b:=bx) (da.refl [bx] _) smm 0 y) ⟨by simp;omega,by simp;omega,by simp;omega⟩,jp r y⟩
theorem Kq (h:dO w ab nb cn lb cl az nl R) {n l:Nat} (r:Rm R nl n l) (yZ:R.made<=az):
 Calls prog 67 #[ρ ab,ι n] w fun e w'=>e= .returned (.tuple #[bG (R.val n),ι 0])/\da [ab,nb,lb] w w'/\dO w' ab nb cn lb cl az nl (jD R n):=by
 obtain ⟨ul,AF⟩:=Fy w;have Nk:=h.later ul;have HH:=ae (pF Nk.c r.hn (by rw [r.ho];omega) yZ);have WJ:=ae (fun wx (hx:dO wx ab nb cn lb cl az nl R)=>Ko hx r);have DJ:=ae Nk;have gp:=ae ul;have tz:=ae AF;have hz:=Nk.apart AF;have eO:w.heap.size<=w.heap.size:=afF _;clear h r Nk ul AF yZ;unfold bG at WJ ⊢;generalize R.val n=y at*;obtain ⟨w1,jo⟩:∃w1,w1=w.alloc (.cells #[.int .u64 0,ι 0,ι 0,ι 0,ι 0] 118):=⟨_,rfl⟩;rw [<-jo] at HH DJ gp tz;go_enter func67,ntmps67;go_wp2_with fail;rw [<-jo];clear jo;obtain ⟨bx,hb⟩:∃bx,bx=w.heap.size:=⟨_,rfl⟩;have jg:=ae hb;rw [<-hb] at tz hz ⊢;clear hb eO;go_wp2_with (first|(go_at_call 133;refine HH.o.mono ?_;rintro r w' ⟨rfl,rfl⟩)|(go_at_call 143;refine (WJ.o _ DJ.o).mono ?_;rintro r w2 ⟨rfl,F2,X2⟩;have lN:=ae X2;have tB:=ae (da.trans (da.ah gp.o) F2);have rj:=ae (ay.aB tz.o F2 sso);obtain ⟨g0,g1,g2,g3,g4,gf⟩:=jc rj.o;clear X2 F2));obtain ⟨f5,x5,r5⟩:=Fz lN.o tB.o (Nat.le_of_eq jg.o.symm) hz rj.o y;change bodyPost _ _ _ _ _ (dr w2 bx 0 y);generalize dr w2 bx 0 y=w5 at*;obtain ⟨e0,e1,e2,e3,e4,_⟩:=jc r5;exact afI (v:= .tuple #[.agg #[.int .u64 y.key,ι (y.tg 0),ι (y.tg 1),ι (y.tg 2),ι (y.tg 3)],ι 0]) (by simp [results,results67,go_sem,e0,e1,e2,e3,e4]) rfl ⟨rfl,f5,x5⟩
theorem uQ (h:dO w ab nb cn lb cl az nl R) {n q e:Nat} (r:Rm R nl n q) (he:e<=1) (hn:R.ends q e=(n:Int)):
 Calls prog 308 #[ρ ab,ι q,ι e] w fun e w'=>e= .returned (.tuple #[bG (R.val n),ι 0])/\da [ab,nb,lb] w w'/\dO w' ab nb cn lb cl az nl (jD R n):=by
 obtain ⟨ul,AF⟩:=Fy w;have Nk:=h.later ul;have HI:=ae (G_ Nk.c r.hl he);have WJ:=ae (fun wx (hx:dO wx ab nb cn lb cl az nl R)=>Ko hx r);have a2:=Nk.h2;have h5:=Nk.ends r.hl he;rw [hn] at h5;have DJ:=ae Nk;have gp:=ae ul;have tz:=ae AF;have hz:=Nk.apart AF;have hq:=r.hl;have iZ:=r.iZ;clear h r Nk ul AF hn;unfold bG at WJ ⊢;generalize R.val n=y at*;obtain ⟨w1,jo⟩:∃w1,w1=w.alloc (.cells #[.int .u64 0,ι 0,ι 0,ι 0,ι 0] 118):=⟨_,rfl⟩;rw [<-jo] at HI DJ gp tz a2 h5;have Fq:e=0\/e=1:=omm;rcases Fq with rfl|rfl
 all_goals
  try simp only [Nat.add_zero] at h5
  go_enter func308,ntmps308;go_wp2_with fail;rw [<-jo];clear jo;obtain ⟨bx,hb⟩:∃bx,bx=w.heap.size:=⟨_,rfl⟩;have jg:=ae hb;rw [<-hb] at tz hz ⊢;clear hb;go_wp2_with (first|(go_at_call 224;refine HI.o.mono ?_;rintro r w' ⟨rfl,rfl⟩)|(go_at_call 143;refine (WJ.o _ DJ.o).mono ?_;rintro r w2 ⟨rfl,F2,X2⟩;have lN:=ae X2;have tB:=ae (da.trans (da.ah gp.o) F2);have rj:=ae (ay.aB tz.o F2 sso);obtain ⟨g0,g1,g2,g3,g4,gf⟩:=jc rj.o;clear X2 F2));obtain ⟨f5,x5,r5⟩:=Fz lN.o tB.o (Nat.le_of_eq jg.o.symm) hz rj.o y;change bodyPost _ _ _ _ _ (dr w2 bx 0 y);generalize dr w2 bx 0 y=w5 at*;obtain ⟨e0,e1,e2,e3,e4,_⟩:=jc r5;exact afI (v:= .tuple #[.agg #[.int .u64 y.key,ι (y.tg 0),ι (y.tg 1),ι (y.tg 2),ι (y.tg 3)],ι 0]) (by simp [results,results308,go_sem,e0,e1,e2,e3,e4]) rfl ⟨rfl,f5,x5⟩
theorem SF (h:dO w ab nb cn lb cl az nl R) {n l q e:Nat} (r:Rm R nl n l) (yZ:R.made<=az) (hq:q < nl) (he:e<=1) (dA:(cP R n).ends q e < 0\/∃m:Nat,(cP R n).ends q e=(m:Int)/\m < R.made/\m≠n) (hc:(cP R n).cR q<=4194304):
 Calls prog 274 #[ρ ab,ι n,ι q,ι e] w fun r w'=>r= .returned (ι 0)/\da [ab,nb,lb] w w'/\dO w' ab nb cn lb cl az nl (pE R n q e):=by
 have HH:=ae (pF h.c r.hn (by rw [r.ho];omega) yZ);have HI:=ae (G_ h.c hq he);have HC:=ae (Q4 h r.hn r.hl r.ho r.h0 r.h1 r.hc r.uN r.hm r.iZ);obtain ⟨f1,f2,f3,f4,f5⟩:=jN R n;have HL:=ae (fun wx (hx:dO wx ab nb cn lb cl az nl (cP R n))=>DH hx (by rw [f2];exact r.hn) hq he (by rw [f2];exact dA) hc (by rw [f2];exact r.hm) r.iZ);clear h r yZ dA hc f1 f2 f3 f4 f5;unfold pE;generalize cP R n=R1 at*;go_enter func274,ntmps274;go_wp2_with (first|(go_at_call 133;refine HH.o.mono ?_;rintro r w' ⟨rfl,rfl⟩)|(go_at_call 224;refine HI.o.mono ?_;rintro r w' ⟨rfl,rfl⟩)|(go_at_call 230;refine HC.o.mono ?_;rintro r w2 ⟨rfl,F2,X2⟩;have lN:=ae X2;have tB:=ae F2;clear X2 F2)|(go_at_call 309;refine (HL.o _ lN.o).mono ?_;rintro r w3 ⟨rfl,F3,X3⟩;have Jj:=ae X3;have DK:=ae F3;clear X3 F3));go_ret;exact ⟨rfl,tB.o.trans DK.o,Jj.o⟩
end
end Go.Proofs.YtblkblclmbhjiaaGreat.dT
namespace Go.Proofs
open Go.Shelf
def Tryz.Bh:Go.Shelf.Ren:=⟨fun|125=>228|128=>284|129=>285|n=>n,fun|46=>256|3=>3|51=>296|53=>46|4=>4|5=>5|9=>9|n=>n,fun|n=>n⟩
theorem Tryz.OL:Go.Proofs.Lays.n125 prog Tryz.Bh:={
 mixed:=by kernel_rfl
 f125:=func228.trans (congrArg some (by kernel_rfl))
 f128:=func284.trans (congrArg some (by kernel_rfl))
 f129:=func285.trans (congrArg some (by kernel_rfl))
 t3:=underlying3
 a3:=isAgg3
 z3:=sizeOf3
 v3:=zeroValue3
 t4:=underlying4
 a4:=isAgg4
 z4:=sizeOf4
 v4:=zeroValue4
 t5:=underlying5
 a5:=isAgg5
 z5:=sizeOf5
 v5:=zeroValue5
 t9:=underlying9
 a9:=isAgg9
 z9:=sizeOf9
 v9:=zeroValue9
 t46:=underlying256
 a46:=isAgg256
 z46:=sizeOf256
 v46:=zeroValue256
 t51:=underlying296
 a51:=isAgg296
 z51:=sizeOf296
 v51:=zeroValue296
 t53:=underlying46
 a53:=isAgg46
 z53:=sizeOf46
 v53:=zeroValue46}
theorem Tryz.bits_Len (x:Int) (w:World) (h0:0<=x) (h1:x<=18446744073709551615):
 Calls prog 228 #[.int .u64 x] w fun e w'=>e= .returned (.int .i64 (Lib.bitLen x.toNat))/\w'=w:=Any.bits_Len Tryz.OL x w h0 h1
def Tryz.Ha:Go.Shelf.Ren:=⟨fun|6=>137|15=>228|14=>227|28=>284|29=>285|20=>276|21=>277|22=>278|23=>279|24=>280|25=>281|26=>282|27=>283|46=>310|47=>311|48=>312|49=>313|50=>314|57=>322|n=>n,fun|22=>195|24=>199|25=>210|3=>3|39=>256|0=>0|53=>296|55=>46|4=>4|46=>290|45=>289|50=>70|5=>5|9=>9|66=>329|70=>249|76=>337|77=>148|n=>n,fun|n=>n⟩
theorem Tryz.WK:Go.Proofs.SlLaysF0.n6 prog Tryz.Ha:={
 mixed:=by kernel_rfl
 f6:=⟨Tryz.f137.name,dee,func137.trans (afK some (by kernel_rfl))⟩
 f14:=⟨Tryz.f227.name,dee,func227.trans (afK some (by kernel_rfl))⟩
 f15:=func228.trans (afK some (by kernel_rfl))
 f20:=⟨Tryz.f276.name,dee,func276.trans (afK some (by kernel_rfl))⟩
 f21:=⟨Tryz.f277.name,dee,func277.trans (afK some (by kernel_rfl))⟩
 f22:=⟨Tryz.f278.name,dee,func278.trans (afK some (by kernel_rfl))⟩
 f23:=⟨Tryz.f279.name,dee,func279.trans (afK some (by kernel_rfl))⟩
 f24:=⟨Tryz.f280.name,dee,func280.trans (afK some (by kernel_rfl))⟩
 f25:=⟨Tryz.f281.name,dee,func281.trans (afK some (by kernel_rfl))⟩
 f26:=⟨Tryz.f282.name,dee,func282.trans (afK some (by kernel_rfl))⟩
 f27:=⟨Tryz.f283.name,dee,func283.trans (afK some (by kernel_rfl))⟩
 f28:=func284.trans (afK some (by kernel_rfl))
 f29:=func285.trans (afK some (by kernel_rfl))
 f46:=⟨Tryz.f310.name,dee,func310.trans (afK some (by kernel_rfl))⟩
 f47:=func311.trans (afK some (by kernel_rfl))
 f48:=func312.trans (afK some (by kernel_rfl))
 f49:=⟨Tryz.f313.name,dee,func313.trans (afK some (by kernel_rfl))⟩
 f50:=⟨Tryz.f314.name,dee,func314.trans (afK some (by kernel_rfl))⟩
 f57:=⟨Tryz.f322.name,dee,func322.trans (afK some (by kernel_rfl))⟩
 t0:=underlying0
 a0:=isAgg0
 z0:=sizeOf0
 v0:=zeroValue0
 t3:=underlying3
 a3:=isAgg3
 z3:=sizeOf3
 v3:=zeroValue3
 t4:=underlying4
 a4:=isAgg4
 z4:=sizeOf4
 v4:=zeroValue4
 t5:=underlying5
 a5:=isAgg5
 z5:=sizeOf5
 v5:=zeroValue5
 t9:=underlying9
 a9:=isAgg9
 z9:=sizeOf9
 v9:=zeroValue9
 t22:=underlying195
 a22:=isAgg195
 z22:=sizeOf195
 v22:=zeroValue195
 t25:=underlying210
 a25:=isAgg210
 z25:=sizeOf210
 v25:=zeroValue210
 t39:=underlying256
 a39:=isAgg256
 z39:=sizeOf256
 v39:=zeroValue256
 t45:=underlying289
 a45:=isAgg289
 z45:=sizeOf289
 v45:=zeroValue289
 t46:=underlying290
 a46:=isAgg290
 z46:=sizeOf290
 v46:=zeroValue290
 t50:=underlying70
 a50:=isAgg70
 z50:=sizeOf70
 v50:=zeroValue70
 t53:=underlying296
 a53:=isAgg296
 z53:=sizeOf296
 v53:=zeroValue296
 t55:=underlying46
 a55:=isAgg46
 z55:=sizeOf46
 v55:=zeroValue46
 t66:=underlying329
 a66:=isAgg329
 z66:=sizeOf329
 v66:=zeroValue329
 t70:=underlying249
 a70:=isAgg249
 z70:=sizeOf249
 v70:=zeroValue249
 t76:=underlying337
 a76:=isAgg337
 z76:=sizeOf337
 v76:=zeroValue337
 t77:=underlying148
 a77:=isAgg148
 z77:=sizeOf148
 v77:=zeroValue148}
end Go.Proofs
namespace Go.Proofs.YtblkblclmbhjiaaGreat.gP
open Go.RowKit ak
theorem OM {k:IntKind} {a b:Int} (h:a=b):Ending.returned (.int k a)= .returned (.int k b):=by rw [h]
theorem DL {n e:Nat} (g:xE n e) (w:World):Calls prog 228 #[.int .u64 n] w fun r w'=>r= .returned (ι ((e:Int)+1))/\w=w':=by have hs:=g.small;refine (Tryz.bits_Len (n:Int) w omm omm).mono ?_;rintro r w' ⟨rfl,rfl⟩;refine ⟨?_,rfl⟩;rw [Int.toNat_natCast,g.n,DA e g.ge];rfl
theorem Kr {w:World} {b s n e cp:Nat} (h1:w.cell? (π b 2)=some (.slice (some (π s 0)) n cp)) (g:xE n e) (key:Nat):
 Calls prog 142 #[ρ b,.int .u64 key] w fun r w'=>r= .returned (ι (home n key))/\w=w':=by
 have hs:=g.small;have hp:=g.pos;have uR:=g.ge;have hle:=g.le;have hh:=jB g.pos key;have hlen:=DL g w;have hsh:IntKind.u64.wrap ((key:Int)*11400714819323198485) / 2 ^ (64 - e)=((home n key:Nat):Int):=by rw [<-DB g,IntKind.wrap_u64,Int.natCast_ediv,Int.natCast_emod,Int.natCast_mul,Int.natCast_pow];rfl
 have HS:=ae hsh;have H:=ae hlen;generalize home n key=hm at HS hh ⊢;clear g hlen hsh;go_enter func142,ntmps142;go_wp2_with (go_at_call 228;refine H.o.mono ?_;rintro e w' ⟨rfl,rfl⟩);go_ret;refine ⟨OM ?_,rfl⟩;rw [HS.o];exact IntWalk.wrap64_in _ ⟨omm,omm⟩
theorem Bi {w:World} {b s n e cp:Nat} (h1:w.cell? (π b 2)=some (.slice (some (π s 0)) n cp)) (g:xE n e) {i:Nat} (hi:i < n):
 Calls prog 141 #[ρ b,ι i] w fun r w'=>r= .returned (ι (nx n i))/\w=w':=by
 have hs:=g.small;have hp:=g.pos;have ha:=Sj g hi;generalize nx n i=q at ha ⊢;clear g;go_enter func141,ntmps141;go_wp2;exact agJ
def Bj (D:Nat->Bool×Nat×Value) (key a:Nat):Bool:= !(D a).1||(D a).2.1==key
theorem DM (z:Value) (S:Tb Value) (key a:Nat):Bj (dB z S) key a=fC S key a:=by
 unfold Bj dB fC;cases S a with
 |none=>rfl
 |some x=>simp
theorem ab4 {p:Prop} (h:p:=by
 go_wp2;go_quiet (fail);go_wp2;go_ret2;refine ⟨?_,_,rfl⟩;rw [ht];rfl):p:=h
theorem Zx {w:World} {b s az count n e:Nat} {z:Value} {S:Tb Value} (h:dH w b s az count n (dB z S)) (g:xE n e) {em:Nat} (oN:em < n) (il:S em=none) (key:Nat):
 Calls prog 132 #[ρ b,.int .u64 key] w fun r w'=>r= .returned (.tuple #[ι (find n S key),.bool (dB z S (find n S key)).1])/\∃m,w'=w.drewN m:=by
 obtain ⟨cp,h1⟩:=h.c2;have hs:=g.small;have hp:=g.pos;have hh:=jB g.pos key;have Ks:=(pB oN il key).1;have hq:=iQ g.pos S key;have H1:=ae (Kr h1 g key);have H2:=ae (fun i (hi:i < n)=>Bi h1 g hi);have Hf:Hid (find n S key=fU n S key n (home n key)):=rfl;generalize find n S key=q at Ks hq Hf ⊢;have HQ:=ae Ks;clear Ks;generalize home n key=h0 at H1 Hf hh;go_enter func132,ntmps132;go_wp2_with (go_at_call 142;refine H1.o.mono ?_;rintro e w' ⟨rfl,rfl⟩);clear H1
 go_loopg [6] n (fun g s6 wr=>w=wr/\∃a:Nat,s6=ι a/\a < n/\Hid (q=fU n S key g a))
 case atStart=>exact ⟨rfl,h0,rfl,hh,Hf⟩
 case round=>
  clear Hf;obtain ⟨rfl,a,rfl,ha,hg⟩:=hrel;have d0:=h.k0 a ha;have d1:=h.k1 a ha;have e0:=h.k0 q hq;have fj:=DM z S key a;have HD:=ae h;have Bk:fC S key a=false->∃k,k < gk/\q=fU n S key k (nx n a):=by
   intro Bl;cases gk with
   |zero=>exfalso;have:=hg.o;simp only [fU] at this;have h':=HQ.o;rw [this,Bl] at h';exact absurd h' dee
   |succ k=>exact ⟨k,omm,by have:=hg.o;rw [xC Bl] at this;exact this⟩
  have tY:fC S key a=true->q=a:=fun Bl=>by have:=hg.o;rw [tu Bl] at this;exact this
  have G1:=ae Bk;have G2:=ae tY;have Vn:=ae fj;clear fj Bk tY h hg;cases ht:(dB z S a).1
  ·have Kt:q=a:=G2.o (by rw [<-Vn.o];simp [Bj,ht]);subst Kt;rw [ht] at d0 e0;clear G1 G2 Vn;exact ab4
  ·rw [ht] at d0;by_cases hk:(dB z S a).2.1=key
   ·have Kt:q=a:=G2.o (by rw [<-Vn.o];simp [Bj,ht,hk]);subst Kt;rw [ht] at e0;have uK:(((dB z S q).2.1:Int)!=(key:Int))=false:=by simp [hk]
    clear G1 G2 Vn hk;exact ab4
   ·have uK:(((dB z S a).2.1:Int)!=(key:Int))=true:=by simp;omega
    have hns:fC S key a=false:=by rw [<-Vn.o];simp [Bj,ht,hk]
    obtain ⟨k',fq,jd⟩:=G1.o hns;have HK:=ae jd;have HB:=ae (H2.o a ha);have yO:=jf ha;clear G1 G2 Vn hk hns jd H2 e0;go_wp2_with (go_at_call 141;refine HB.o.mono ?_;rintro e w' ⟨rfl,rfl⟩)
    go_roundg k'
    case measure=>exact fq
    case rel=>exact ⟨rfl,nx n a,rfl,yO,HK⟩
theorem O6 {w:World} {b s az count n e:Nat} {z:Value} {S:Tb Value} (h:dH w b s az count n (dB z S)) (g:xE n e) {em:Nat} (oN:em < n) (il:S em=none) (key:Nat) (v:Int)
 (hm:count < az) (GY:az<=n) (ht:S (find n S key)=none):
 Calls prog 307 #[ρ b,.int .u64 key,ι v] w fun r w'=>r= .returned (ι 0)/\da [b,s] w w'/\dH w' b s az (count+1) n (dB z (putAt n S key (ι v))):=by
 have hs:=g.small;have hp:=g.pos;have hq:=iQ g.pos S key;have Be:∀m,da [b,s] w (((((w.drewN m).setCell (π b 1) (ι ((count:Int)+1))).setCell (π s (find n S key*3)) (.bool true)).setCell (π s (find n S key*3+1)) (.int .u64 key)).setCell (π s (find n S key*3+2)) (ι v))/\
  dH (((((w.drewN m).setCell (π b 1) (ι ((count:Int)+1))).setCell (π s (find n S key*3)) (.bool true)).setCell (π s (find n S key*3+1)) (.int .u64 key)).setCell (π s (find n S key*3+2)) (ι v)) b s az (count+1) n (dB z (putAt n S key (ι v))):=by
  intro m;refine ⟨(((da.refl _ w).drewN m).setCell smm _).nQ smm _ _ _,?_⟩;unfold putAt;rw [JQ];exact ((h.drewN m).AQ (count+1)).nQ hq true key (ι v)
 have Hq:(dB z S (find n S key)).1=false:=by unfold dB;rw [ht]
 have H1:=ae (Zx h g oN il key);rw [Hq] at H1;have HR:=ae Be;clear Be Hq ht;generalize find n S key=q at hq H1 HR ⊢;generalize putAt n S key (ι v)=S' at HR ⊢;have d0:=h.k0 q hq;have d1:=h.k1 q hq;have d2:=h.k2 q hq;have h0:=h.c0;have h1:=h.c1;obtain ⟨cp,h2⟩:=h.c2;have bz:=h.ne;have fs:∀o,w.frozen? (π s o)=false:=h.fs;have fb:∀o,w.frozen? (π b o)=false:=h.fb;have iR:((az:Int)==0)=false:=by simp;omega
 have aa5:((count:Int)==(az:Int))=false:=by simp;omega
 clear h g il;go_enter func307,ntmps307;go_wp2_with (go_at_call 132;refine H1.o.mono ?_;rintro e w' ⟨rfl,m,rfl⟩);go_quiet (fail);go_wp2;go_ret;exact ⟨rfl,HR.o _⟩
theorem xM {w:World} {b s az count n e:Nat} {z:Value} {S:Tb Value} (h:dH w b s az count n (dB z S)) (g:xE n e) {em:Nat} (oN:em < n) (il:S em=none) (key:Nat):
 Calls prog 59 #[ρ b,.int .u64 key] w fun r w'=>
  r= .returned (.tuple #[(dB z S (find n S key)).2.2,.bool (dB z S (find n S key)).1])/\∃m,w'=w.drewN m:=by
 obtain ⟨cp,h1⟩:=h.c2;have hs:=g.small;have hp:=g.pos;have hq:=iQ g.pos S key;have H1:=ae (Zx h g oN il key);generalize find n S key=q at hq H1 ⊢;have d2:=h.k2 q hq;generalize dB z S q=cq at*;clear h g;go_enter func59,ntmps59;go_wp2_with (go_at_call 132;refine H1.o.mono ?_;rintro e w' ⟨rfl,m,rfl⟩);go_ret2;exact ⟨rfl,_,rfl⟩
def DR (w0:World) (b s az count n:Nat) (z:Value) (F:Tb Value) (em:Nat) (f:Nat) (s6 s7:Value) (wr:World):Prop:=
 ∃(i k:Nat) (S:Tb Value) (st:Bool×Nat×Value) (sv:Int),s6=ι i/\s7=ι k/\i < n/\k < n/\xD n S i k em/\cA n k em<=f/\fV n f S i k=F/\st.2.2=ι sv/\(∀j k u,S j=some (k,u)->∃x,u=ι x)/\
  dH wr b s az count n (aL (dB z S) i st)/\da [b,s] w0 wr
theorem DR.move {w0:World} {b s az count n:Nat} {z:Value} {F S:Tb Value} {em f:Nat} {i k y:Nat} {v:Int} {st:Bool×Nat×Value} {wr:World} (D:xD n S i k em) (hd:cA n k em<=f+1) (hF:fV n (f+1) S i k=F)
 (hi:∀j k u,S j=some (k,u)->∃x,u=ι x) (hI:dH wr b s az count n (aL (dB z S) i st)) (hR:da [b,s] w0 wr) (hk:S k=some (y,ι v)) (hh:cA n i k<=cA n (home n y) k) (m:Nat):
 DR w0 b s az count n z F em f (ι k) (ι (nx n k)) ((((wr.drewN m).setCell ⟨s,i*3,none⟩ (.bool true)).setCell ⟨s,i*3+1,none⟩ (.int .u64 y)).setCell ⟨s,i*3+2,none⟩ (ι v)):=by
 have AC:k≠em:=fun h=>by rw [h,D.wU] at hk;simp at hk
 refine ⟨k,nx n k,aL (aL S i (S k)) k none,(true,y,ι v),v,rfl,rfl,D.lk,jf D.lk,D.move hk hh,?_,?_,rfl,?_,?_,(hR.drewN m).nQ smm _ _ _⟩
 ·rw [iA D.lk D.le AC] at hd;omega
 ·rw [<-hF];conv=>rhs;unfold fV
  rw [hk];simp only [hh,if_true]
 ·intro j x u hj;unfold aL at hj;split at hj
  ·simp at hj
  ·split at hj
   ·exact hi k x u hj
   ·exact hi j x u hj
 ·have h1:=(hI.drewN m).nQ D.li true y (ι v);have e:aL (dB z (aL (aL S i (S k)) k none)) k (true,y,ι v)=aL (aL (dB z S) i st) i (true,y,ι v):=by
   funext j;by_cases hj:j=k
   ·subst hj;rw [an,aj _ _ (fun e=>D.ik e.symm),aj _ _ (fun e=>D.ik e.symm)];unfold dB;rw [hk]
   ·rw [aj _ _ hj];by_cases hi:j=i
    ·subst hi;rw [an];unfold dB;rw [aj _ _ hj,an,hk]
    ·rw [aj _ _ hi,aj _ _ hi];unfold dB;rw [aj _ _ hj,aj _ _ hi]
  rw [e];exact h1
theorem DR.stay {w0:World} {b s az count n:Nat} {z:Value} {F S:Tb Value} {em f:Nat} {i k y:Nat} {v:Value} {st:Bool×Nat×Value} {sv:Int} {wr:World} (D:xD n S i k em) (hd:cA n k em<=f+1) (hF:fV n (f+1) S i k=F)
 (fj:st.2.2=ι sv) (hi:∀j k u,S j=some (k,u)->∃x,u=ι x) (hI:dH wr b s az count n (aL (dB z S) i st)) (hR:da [b,s] w0 wr) (hk:S k=some (y,v)) (hh:¬cA n i k<=cA n (home n y) k) (m:Nat):
 DR w0 b s az count n z F em f (ι i) (ι (nx n k)) (wr.drewN m):=by
 have AC:k≠em:=fun h=>by rw [h,D.wU] at hk;simp at hk
 refine ⟨i,nx n k,S,st,sv,rfl,rfl,D.li,jf D.lk,D.stay hk hh,?_,?_,fj,hi,hI.drewN m,hR.drewN m⟩
 ·rw [iA D.lk D.le AC] at hd;omega
 ·rw [<-hF];conv=>rhs;unfold fV
  rw [hk];simp only [hh,if_false]
theorem Ia {w:World} {b s az count n e:Nat} {z:Value} {S:Tb Value} (h:dH w b s az count n (dB z S)) (g:xE n e) {em:Nat} (oN:em < n) (il:S em=none) (key:Nat) (ht:S (find n S key)=none):
 Calls prog 66 #[ρ b,.int .u64 key] w fun r w'=>r= .returned (.tuple #[ι 0,.bool false])/\∃m,w'=w.drewN m:=by
 have hs:=g.small;have hp:=g.pos;have hq:=iQ g.pos S key;have Hq:(dB z S (find n S key)).1=false:=by unfold dB;rw [ht]
 have H1:=ae (Zx h g oN il key);rw [Hq] at H1;clear Hq ht;generalize find n S key=q at hq H1 ⊢;clear h g il;go_enter func66,ntmps66;go_wp2_with (go_at_call 132;refine H1.o.mono ?_;rintro e w' ⟨rfl,m,rfl⟩);go_ret2;exact ⟨rfl,_,rfl⟩
theorem ab5 {p:Prop} (h:p:=by
 go_wp2_with (go_at_call 141;refine (Μ.o _ k Ν (by go_simp) hk).mono ?_;rintro e w' ⟨rfl,rfl⟩)
 go_roundg f
 case measure=>omega
 case rel=>exact HM.o _):p:=h
theorem Ib {w:World} {b s az count n e:Nat} {S:Tb Value} (h:dH w b s az (count+1) n (dB (ι 0) S)) (g:xE n e) (I:Inv n S) (hc:count < n) {em:Nat} (oN:em < n) (il:S em=none) (key:Nat)
 {v:Int} (ht:S (find n S key)=some (key,ι v)) (hint:∀i k u,S i=some (k,u)->∃x,u=ι x):
 Calls prog 66 #[ρ b,.int .u64 key] w fun r w'=>r= .returned (.tuple #[ι v,.bool true])/\
  da [b,s] w w'/\dH w' b s az count n (dB (ι 0) (ke n S (find n S key))):=by
 have hs:=g.small;have hp:=g.pos;have hq:=iQ g.pos S key;have Hq:dB (ι 0) S (find n S key)=(true,key,ι v):=by unfold dB;rw [ht]
 have H1:=ae (Zx h g oN il key);rw [Hq] at H1;have hqe:find n S key≠em:=fun e'=>by rw [e',il] at ht;simp at ht
 have hD:=xD.start I hq oN il hqe;generalize find n S key=q at*;have d2:=h.k2 q hq;rw [Hq] at d2;have h1:=h.c1;obtain ⟨cp,h2⟩:=h.c2;have fb:∀o,w.frozen? ⟨b,o,none⟩=false:=h.fb;have hDR:∀m,DR w b s az count n (ι 0) (ke n S q) em n (ι q) (ι (nx n q)) ((w.drewN m).setCell ⟨b,1,none⟩ (ι count)):=by
  intro m;refine ⟨q,nx n q,aL S q none,(true,key,ι v),v,rfl,rfl,hq,jf hq,hD,Nat.le_of_lt (qZ (jf hq) oN),rfl,rfl,?_,?_,((da.refl _ w).drewN m).setCell smm _⟩
  ·intro j x u hj;unfold aL at hj;split at hj
   ·simp at hj
   ·exact hint j x u hj
  have h':=(h.drewN m).AQ count;have e:dB (ι 0) S=aL (dB (ι 0) (aL S q none)) q (true,key,ι v):=by
   funext j;by_cases hj:j=q
   ·rw [hj,an,Hq]
   ·rw [aj _ _ hj];unfold dB;rw [aj _ _ hj]
  rw [<-e];exact h'
 have Λ:=ae hDR;have Μ:=ae (fun (wx:World) (i:Nat) (cp:Nat) (hx:wx.cell? ⟨b,2,none⟩=some (.slice (some ⟨s,0,none⟩) n cp)) (hi:i < n)=>Bi hx g hi);have Xl:=ae (fun (wx:World) (y:Nat) (cp:Nat) (hx:wx.cell? ⟨b,2,none⟩=some (.slice (some ⟨s,0,none⟩) n cp))=>Kr hx g y);clear hDR hD h I ht Hq hqe;go_enter func66,ntmps66;go_wp2_with (first|(go_at_call 132;refine H1.o.mono ?_;rintro e w' ⟨rfl,m,rfl⟩)|(go_at_call 141;refine (Μ.o _ q cp (by go_simp) hq).mono ?_;rintro e w' ⟨rfl,rfl⟩));clear H1
 go_loopg [6,7] n (fun f s6 s7 wr=>DR w b s az count n (ι 0) (ke n S q) em f s6 s7 wr)
 case atStart=>exact Λ.o m
 case round=>
  clear Λ h1 h2 d2;obtain ⟨i,k,S',st,sv,rfl,rfl,hi,hk,D,hd,hF,fj,dK,hI,hR⟩:=hrel;have Ww:=D.ik;have bz:=hI.ne;obtain ⟨Ν,c2⟩:=hI.c2;have k0:=hI.k0 k hk;have k1:=hI.k1 k hk;have i0:=hI.k0 i hi;have i1:=hI.k1 i hi;have i2:=hI.k2 i hi;have fs:∀o,wr.frozen? ⟨s,o,none⟩=false:=hI.fs;have k2:=hI.k2 k hk;rw [aj _ _ (fun e=>Ww e.symm)] at k0 k1 k2;rw [an] at i0 i1 i2;rw [fj] at i2;cases hS:S' k with
  |none=>
   have qJ:dB (ι 0) S' k=(false,0,ι 0):=by unfold dB;rw [hS]
   rw [qJ] at k0;have Xm:da [b,s] w (((wr.setCell ⟨s,i*3,none⟩ (.bool false)).setCell ⟨s,i*3+1,none⟩ (.int .u64 0)).setCell ⟨s,i*3+2,none⟩ (ι 0))/\
    dH (((wr.setCell ⟨s,i*3,none⟩ (.bool false)).setCell ⟨s,i*3+1,none⟩ (.int .u64 0)).setCell ⟨s,i*3+2,none⟩ (ι 0)) b s az count n (dB (ι 0) (ke n S q)):=by
    refine ⟨hR.nQ smm _ _ _,?_⟩;have h':=hI.nQ hi false 0 (ι 0);have e:aL (aL (dB (ι 0) S') i st) i (false,0,ι 0)=dB (ι 0) (ke n S q):=by
     have:fV n gk S' i k=S':=by cases gk<;>simp [fV,hS]
     rw [<-hF,this];funext j;by_cases hj:j=i
     ·rw [hj,an];unfold dB;rw [D.tV]
     ·rw [aj _ _ hj,aj _ _ hj]
    rw [e] at h';exact h'
   have HF:=ae Xm;clear Xm hI hR hF D hd dK hS qJ k1 k2 fj Μ Xl hint;go_wp2;go_ret2;exact ⟨rfl,HF.o⟩
  |some x=>
   obtain ⟨y,u⟩:=x;obtain ⟨x,rfl⟩:=dK k y u hS;have qJ:dB (ι 0) S' k=(true,y,ι x):=by unfold dB;rw [hS]
   rw [qJ] at k0 k1 k2;obtain ⟨f,rfl⟩:∃f,gk=f+1:=by
    cases gk with
    |zero=>exfalso;have:=D.le;have:k=em:=by have:=dc n k em;omega
           rw [this,D.wU] at hS;simp at hS
    |succ f=>exact ⟨f,rfl⟩
   have hhl:=jB g.pos y;have a1:=AS g hhl hk;have a2:=AS g hi hk;by_cases hh:cA n i k<=cA n (home n y) k
   ·have HM:=ae (fun m=>DR.move D hd hF dK hI hR hS hh m);clear hI hR hF D hd dK hS qJ fj hint;generalize cA n (home n y) k=dy at*;generalize cA n i k=di at*;have HH:=ae (Xl.o wr y Ν c2);clear Xl;generalize home n y=hy at*;go_wp2_with (first|(go_at_call 142;refine HH.o.mono ?_;rintro e w' ⟨rfl,rfl⟩));go_quiet (fail);go_wp2;go_region;exact ab5
   ·have HM:=ae (fun m=>DR.stay D hd hF fj dK hI hR hS hh m);clear hI hR hF D hd dK hS qJ fj hint;generalize cA n (home n y) k=dy at*;generalize cA n i k=di at*;have HH:=ae (Xl.o wr y Ν c2);clear Xl;generalize home n y=hy at*;go_wp2_with (first|(go_at_call 142;refine HH.o.mono ?_;rintro e w' ⟨rfl,rfl⟩));go_quiet (fail);exact ab5
theorem Ic:(prog.info? 199).map (fun i=>(i.zero,i.size,i.bytes))=some (some (.agg #[.bool false,.int .u64 0,ι 0]),3,24):=by kernel_rfl
def Made (w:World) (az:Nat) (z:Value) (r:Ending) (w':World):Prop:=
 r= .returned (.tuple #[ρ (w.heap.size+1),ι 0])/\∃n e,Fit az n e/\dH w' (w.heap.size+1) w.heap.size az 0 n (dB z fun _=>none)/\da [] w w'/\w'.heap.size=w.heap.size+2
theorem Bs (az:Nat) (w:World) (hn:az<=4194304):
 Calls prog 57 #[ι az] w (Made w az (ι 0)):=by
 obtain ⟨i0,hi,gA,jF,r_⟩:=info_parts Ic;have WU:∀(n:Nat) (wx:World),n<=16777216->(Instr.makeSlice 195 (ι n) (ι n)).run prog wx= .ok (.slice (some (π wx.heap.size 0)) n n) (wx.alloc (.cells (madeCells #[.bool false,.int .u64 0,ι 0] (n*3)) 199)):=by intro n wx hn;have:=run_make (P:=prog) wx 195 199 i0 _ underlying195 hi gA .i64 .i64 n n omm omm (by rw [r_];omega) omm;rw [jF] at this;exact this
 have HMK:=ae WU;clear WU hi gA jF r_;go_enter func57,ntmps57;go_wp2
 go_loopg [4] 30 (fun f s4 wr=>w=wr/\∃e n:Nat,s4=ι n/\xE n e/\e+f=31/\n<=16777216/\(n=2\/n < 4*az))
 case atStart=>exact ⟨rfl,1,2,rfl,⟨rfl,omm,omm⟩,rfl,omm,.inl rfl⟩
 case round=>
  obtain ⟨rfl,e,n,rfl,g,hf,hs,hl⟩:=hrel;by_cases h:n < 2*az
  ·have h1:=g.n;have h2:=g.ge;have h3:=g.le;have hg':gk≠0->xE (n*2) (e+1):=fun _=>⟨by rw [g.n,Nat.pow_succ],omm,omm⟩;have hb:gk≠0:=by intro h0;have:e=31:=omm;rw [this] at h1;omega
   have HG:=ae (hg' hb);have HB:=ae hb;clear hg' hb g h1 HMK hl;go_wp2
   go_roundg (gk - 1)
   case measure=>have:=HB.o;omega
   case rel=>exact ⟨rfl,e+1,n*2,by go_num,HG.o,by have:=HB.o;omega,omm,omm⟩
  ·have Xn:Fit az n e:=⟨g,omm,hl⟩;have hp:=g.pos;have HF:=ae Xn;have h':=HMK.o n w hs;clear HMK g hl hf hs Xn;go_wp2;go_ret2;refine ⟨rfl,n,e,HF.o,dH.made (t:=197) (u:=199) omm hp ?_ ?_,((da.refl _ _).alloc _).alloc _,smm⟩
   ·have:=q_ (w.alloc (.cells (madeCells #[.bool false,.int .u64 0,ι 0] (n*3)) 199)) (.cells #[ι az,ι 0,.slice (some (π w.heap.size 0)) n n] 197);rwa [aE] at this
   ·rw [Below.heap_alloc _ _ _ smm];exact q_ _ _
end Go.Proofs.YtblkblclmbhjiaaGreat.gP
namespace Go.Proofs.YtblkblclmbhjiaaGreat.gP
open Go.RowKit ak Go.Sort Go.Lib
theorem gr (W:World) (xs:List Value) (t:TypeId) (N:Nat) (hN:N=W.heap.size):∀j u,xs[j]? =some u->(W.alloc (.cells xs.toArray t)).cell? (((π N 0):Addr).add j)=some u:=by
 intro j u hj;subst hN;have e:((π W.heap.size 0):Addr).add j=(π W.heap.size j):=by
  unfold Addr.add;split
  ·next h=>rw [h]
  ·simp
 rw [e,dR (q_ W _)];simpa using hj
def cH (S:Tb Value):Nat->List (Nat×Int)
 |0=>[]
 |i+1=>cH S i++(match S i with|some (k,.int _ v)=>[(k,v)]|_=>[])
def kM (x:Nat×Int):List Value:=[.bool true,.int .u64 x.1,ι x.2]
def qh (l:List (Nat×Int)):List Value:=l.flatMap kM
theorem Zy (a b:List (Nat×Int)):qh (a++b)=qh a++qh b:=by simp [qh]
theorem xS (S:Tb Value):∀i,(cH S i).length<=i:=by
 intro i
 induction i with
 |zero=>simp [cH]
 |succ i ih=>unfold cH;split<;>simp<;>omega
theorem Hb (L:List (Nat×Int)):∀i (hi:i < L.length) c,c < 3->(qh L)[i*3+c]? =(kM L[i])[c]? :=by
 induction L with
 |nil=>intro i hi;simp at hi
 |cons x L ih=>
  intro i hi c hc;have hx:qh (x::L)=kM x++qh L:=by simp [qh]
  rw [hx];cases i with
  |zero=>rw [agh (by simp [kM];omega)];simp
  |succ i=>rw [agf (by simp [kM];omega)];have:=ih i (by simpa using hi) c hc;rw [show (i+1)*3+c - (kM x).length=i*3+c from by simp [kM];omega];simpa using this
theorem Hc {w:World} {g:Nat} {e:TypeId} {yQ:Array Value} {L:List (Nat×Int)} (uS:w.heap[g]? =some (.cells yQ e (0,0))) (FA:yQ.toList.take (L.length*3)=qh L):HoldsK kM 3 w g 0 L.toArray:=by
 intro j hj;rw [size_flatK] at hj;simp only [List.size_toArray] at hj;have hi:j / 3 < L.length:=omm;refine ⟨?_,iC uS _⟩;rw [dR uS,get_flatK _ _ _ _ (by simpa using hj)];have h1:=Hb L (j / 3) hi (j % 3) (Nat.mod_lt _ dee);rw [<-FA,show j / 3*3+j % 3=j from by omega,List.getElem?_take,if_pos hj] at h1;rw [Nat.zero_add,<-Array.getElem?_toList,h1];have h2:L.toArray[j / 3]! =L[j / 3]:=by simp [hi]
 rw [h2];have h3:j % 3 < (kM L[j / 3]).length:=by simp [kM];omega
 simp [h3]
def ZE (w:World) (base:Nat) (lv:Value) (L:List (Nat×Int)):Prop:=
 (L=[]/\lv=ν)\/∃g cap,lv= .slice (some (π g 0)) L.length cap/\base<=g/\g < w.heap.size/\L≠[]/\
   ∀i (hi:i < L.length),w.cell? (π g (i*3))=some (.bool true)/\w.cell? (π g (i*3+1))=some (.int .u64 L[i].1)/\w.cell? (π g (i*3+2))=some (ι L[i].2)
theorem wZ {w:World} {g cap base:Nat} {L:List (Nat×Int)} (h:HoldsK kM 3 w g 0 L.toArray) (hb:base<=g) (hg:g < w.heap.size) (bz:L≠[]):ZE w base (.slice (some (π g 0)) L.length cap) L:=by
 refine .inr ⟨g,cap,rfl,hb,hg,bz,fun i hi=>?_⟩;have key:∀c,c < 3->w.cell? (π g (i*3+c))=some ((kM L[i])[c]!):=by
  intro c hc;have:=(h (i*3+c) (by rw [size_flatK];simp;omega)).1;rw [get_flatK _ _ _ _ sso] at this;rw [Nat.zero_add,show (i*3+c) / 3=i from by omega,show (i*3+c) % 3=c from by omega] at this;have h2:L.toArray[i]! =L[i]:=by simp [hi]
  rw [h2] at this;exact this
 exact ⟨key 0 dee,key 1 dee,key 2 dee⟩
theorem oz {α:Type} [Inhabited α] (enc:α->List Value) (k:Nat) (w:World) (c_ off m:Nat) (dk:Array α) (os:Array Obj) (j:Nat) (hj:j < w.heap.size) (bz:j≠c_):(sortWorldK enc k w c_ off m dk os).heap[j]? =w.heap[j]? :=by simp only [sortWorldK,grow,putRowK,putRow,mapBlock,Go.Sort.ahead];rw [Array.getElem?_append_left (by simpa using hj),Array.getElem?_modify,if_neg (fun e=>bz e.symm)]
theorem Bm {d d':Array (Nat×Int)} (h:PermIn 0 d.size d d'):d'.toList.Perm d.toList:=by
 obtain ⟨h1,_,h3⟩:=h;have a:d'.extract 0 d.size=d':=by rw [<-h1];simp
 have b:d.extract 0 d.size=d:=by simp
 rw [a,b] at h3;exact h3
theorem FD (x y:Nat×Int):ltOf (fun x y:Nat×Int=>Lib.compareInt x.1 y.1) x y=decide (x.1 < y.1):=by
 unfold ltOf Lib.compareInt;by_cases h1:x.1 < y.1
 ·simp [h1]
 ·by_cases h2:y.1 < x.1<;>simp [h1,h2]
theorem SG:SWO (ltOf fun x y:Nat×Int=>Lib.compareInt x.1 y.1) where
 irrefl x:=by rw [FD];simp
 trans x y z h1 h2:=by rw [FD] at*;simp at*;omega
 ntrans x y z h1 h2:=by rw [FD] at*;simp at*;omega
theorem Bn {d:Array (Nat×Int)} {N:Nat} (hN:N=d.size) (h:SortedIn (ltOf fun x y:Nat×Int=>Lib.compareInt x.1 y.1) 0 N d):d.toList.Pairwise (fun a b=>a.1<=b.1):=by rw [List.pairwise_iff_getElem];intro i j hi hj Sv;have:=h i j (Nat.zero_le _) Sv (by rw [hN];simpa using hj);rw [FD] at this;simp only [Array.length_toList] at hi hj;rw [getElem!_pos d i hi,getElem!_pos d j hj] at this;simp at this;simpa using this
theorem abT {p:Prop} (h:p:=by
 go_enter func139,ntmps139;go_wp2;go_ret;exact ⟨rfl,rfl⟩):p:=h
theorem WL (x y:Nat) (w:World):Calls prog 139 #[.int .u64 x,.int .u64 y] w fun e w'=>e= .returned (ι (Lib.compareInt x y))/\w=w':=by
 unfold Lib.compareInt;rcases Nat.lt_trichotomy x y with h|h|h
 ·have h1:(x:Int) < y:=omm;rw [if_pos h1];clear h;exact abT
 ·subst h;rw [if_neg omm,if_neg omm];exact abT
 ·have h1:(y:Int) < x:=omm;rw [if_neg omm,if_pos h1];clear h;exact abT
theorem Hd (x y:Nat×Int) (W:World):Calls prog 138 #[.agg #[.bool true,.int .u64 x.1,ι x.2],.agg #[.bool true,.int .u64 y.1,ι y.2]] W fun e w'=>e= .returned (ι (Lib.compareInt x.1 y.1))/\∃q os',w'=grow (W.drewN q) os':=by have Ku:=ae (fun W'=>WL x.1 y.1 W');generalize Lib.compareInt x.1 y.1=r at Ku ⊢;go_enter func138,ntmps138;go_wp2_with (go_at_call 139;refine (Ku.o _).mono ?_;rintro e w' ⟨rfl,rfl⟩);go_ret;exact ⟨rfl,0,_,by rw [alloc_eq_grow,alloc_eq_grow,grow_grow];rfl⟩
theorem He (c_ off size:Nat) (w:World):CmpLays prog 138 #[] kM 3 (fun x y=>Lib.compareInt x.1 y.1) c_ off size w:=
 fun _ _ _ _ x y=>Hd x y _
theorem ON (fv:Value) (w:World):Calls prog 276 #[ν,ι 0,ι 0,fv] w fun e w'=>e= .returned (.tuple #[])/\w=w':=by go_enter func276,ntmps276;go_wp2;refine wp_loop_once ?_;go_wp2;go_end0;exact ⟨rfl,rfl⟩
theorem OO (fv:Value) (l:Int) (w:World):Calls prog 227 #[ν,ι 0,ι 0,ι l,fv] w fun e w'=>e= .returned (.tuple #[])/\w=w':=by have H:=ae (ON fv w);go_enter func227,ntmps227;go_wp2;refine wp_loop_once ?_;go_wp2_with (go_at_call 276;refine H.o.mono ?_;rintro e w' ⟨rfl,rfl⟩);refine bodyPost_ret (afT rfl _ _ _) rfl ?_;exact ⟨rfl,rfl⟩
theorem Kv (fv:Value) (w:World):Calls prog 137 #[ν,fv] w fun e w'=>e= .returned (.tuple #[])/\w=w':=by have H1:=ae (Tryz.bits_Len 0 w omm omm);have H2:=ae (fun l=>OO fv l w);go_enter func137,ntmps137;go_wp2_with fail;refine H1.o.mono ?_;rintro e w' ⟨rfl,rfl⟩;go_wp2_with fail;refine (H2.o _).mono ?_;rintro e w' ⟨rfl,rfl⟩;go_wp2;go_end0;exact ⟨rfl,rfl⟩
def Bo (w:World) (L:List (Nat×Int)) (w':World):Prop:=
 Below w.heap.size w w'/\w.heap.size < w'.heap.size/\∃lv,Boxed w' w.heap.size 195 lv/\ZE w' (w.heap.size+1) lv L
def zd (S:Tb Value) (n:Nat) (L:List (Nat×Int)):Prop:=L.Perm (cH S n)/\L.Pairwise (fun a b=>a.1<=b.1)
theorem WM {w:World} {b s az count n e:Nat} {S:Tb Value} (h:dH w b s az count n (dB (ι 0) S)) (g:xE n e) (hint:∀i k u,S i=some (k,u)->∃x,u=ι x):
 Calls prog 65 #[ρ b] w fun r w'=>r= .returned (.func (.func 140) #[] #[ρ w.heap.size])/\∃L,zd S n L/\Bo w L w':=by
 obtain ⟨i0,hi,gA,jF,r_⟩:=aga (show (prog.info? 199).map (fun i=>(i.zero,i.size,i.bytes))=some (some (.agg #[.bool false,.int .u64 0,ι 0]),3,24) by kernel_rfl);have hsm:n<=1099511627776:=g.small;obtain ⟨cp,c2⟩:=h.c2;have HI:=ae h;have Vo:=h.lb;have nT:=h.ls;have HN:=ae hint;clear h g hint;go_enter func65,ntmps65;go_wp2
 go_loopg [11] n (fun f FE wr=>∃(i:Nat) (lv:Value),FE=ι i/\i+f=n/\Boxed wr w.heap.size 195 lv/\wr.ownsRow w.heap.size 199 3 lv (cH S i).length (qh (cH S i))/\Below w.heap.size w wr/\(cH S i=[]->lv=ν))
 case atStart=>exact ⟨0,ν,rfl,omm,Boxed.new _ _ _,World.ownsRow_nil ..,(Below.refl _ w).alloc (Nat.le_refl _) _,fun _=>rfl⟩
 case round=>
  obtain ⟨i,lv,rfl,hif,pU,fo,hB,iZ⟩:=hrel;have SH:dH wr b s az count n (dB (ι 0) S):=HI.o.iK (hB.block b Vo) (hB.block s nT);by_cases a8:i < n
  ·have k0:=SH.k0 i a8;have k1:=SH.k1 i a8;have k2:=SH.k2 i a8;have bc:=pU.cell;have bf:=pU.frozen;have kN:=hB.size;have sr:=pU.lt;cases hS:S i with
   |none=>
    have hc:dB (ι 0) S i=(false,0,ι 0):=by unfold dB;rw [hS]
    rw [hc] at k0 k1 k2;have he:cH S (i+1)=cH S i:=by simp only [cH,hS,List.append_nil]
    have HW:=ae (And.intro pU (And.intro fo hB));have HE:=ae he;have HL:=ae iZ;clear pU fo hB SH hc hS he iZ;go_wp2_with fail
    go_roundg (gk - 1)
    case measure=>omega
    case rel=>exact ⟨i+1,lv,by go_num,omm,HW.o.1.alloc _,by rw [HE.o];exact HW.o.2.1.alloc _,HW.o.2.2.alloc kN _,by rw [HE.o];exact HL.o⟩
   |some x=>
    obtain ⟨k,u⟩:=x;obtain ⟨v,rfl⟩:=HN.o i k u hS;have hc:dB (ι 0) S i=(true,k,ι v):=by unfold dB;rw [hS]
    rw [hc] at k0 k1 k2;have he:cH S (i+1)=cH S i++[(k,v)]:=by simp only [cH,hS]
    have hle:=xS S i;have HE:=ae he;have HB:=ae hB;have HX:=ae pU;have HO:=ae fo;have C3:=ae (show (cH S i).length+1<=maxLen by unfold maxLen;omega);have C4:=ae (show ((cH S i).length+1)*24<=140737488355328 by omega);have C2:=ae (show ∀u∈kM (k,v),u.oneCell'=true by intro u hu;simp [kM] at hu;rcases hu with rfl|rfl|rfl<;>rfl);clear pU fo hB SH hc hS he iZ;go_wp2_with ((at_builtin;refine wpList_append_own _ rfl _ _ 195 rfl w.heap.size 199 i0 (.agg #[.bool false,.int .u64 0,ι 0]) 3 24 underlying195 hi gA jF r_ rfl dee lv _ _ rfl ((HO.o.alloc _).alloc _) (π (wr.heap.size+1) 0) 1 1 (kM (k,v)) rfl rfl (gr _ (kM (k,v)) _ _ smm) C2.o C3.o C4.o sso ?_;intro v' w1 Kw fe DN;obtain ⟨fN,NK,Q5,jd,dn⟩:=(HX.o.alloc _).appended dee (HO.o.alloc _) sso (Nat.le_refl _) Kw fe;have nO:=fN.cell;have Jk:=fN.frozen;have OP:=ae NK;have rj:=ae Q5;have fg:=ae dn;obtain ⟨g',mI,rfl⟩:=ownsRow_succ Kw;clear fN NK Q5 jd dn Kw fe DN))
    go_roundg (gk - 1)
    case measure=>omega
    case rel=>refine ⟨i+1,_,by go_num,omm,OP.o,?_,HB.o.trans (((Below.refl _ _).alloc kN _).trans fg.o),fun h=>by rw [HE.o] at h;simp at h⟩;rw [HE.o,Zy,age];exact rj.o
  ·obtain rfl:i=n:=omm;have hlen:=xS S i;rcases fo.2 with ⟨rfl,h0⟩|⟨gb,cap,yQ,rfl,rl,uS,Bp,aac,aad,FA⟩
   ·have DN:cH S i=[]:=List.eq_nil_of_length_eq_zero h0;have bc:=pU.cell;have HF:Hid (∃L,zd S i L/\Bo w L wr):=ae ⟨[],⟨by rw [DN],.nil⟩,hB,pU.lt,_,pU,.inl ⟨rfl,rfl⟩⟩;have H2:=ae (Kv (.func (.func 138) #[] #[]) wr);clear DN pU fo hB SH h0 iZ;go_wp2_with (go_at_call 137;refine H2.o.mono ?_;rintro e w' ⟨rfl,rfl⟩);go_ret;exact ⟨rfl,HF.o⟩
   ·have bz:gb≠w.heap.size:=by intro e';have:=pU;unfold Boxed at this;rw [<-e',uS] at this;simp at this
    have hgs:gb < wr.heap.size:=(Array.getElem?_eq_some_iff.1 uS).1;have bc:=pU.cell;have sr:=pU.lt;have kN:=hB.size;by_cases hz:cH S i=[]
    ·have:=iZ hz;simp at this
    ·clear iZ;have eg:∀args w,(callFunc 138 args).run prog w= .ok (.enter 138 args) w:=enters_of func138 krr rfl;have hH:=Hc uS FA;have Ku:=AnyQ.slices_SortFunc Tryz.WK 3 isAgg199 sizeOf199 kM (fun _=>rfl) (fun x v hv=>by simp [kM] at hv;rcases hv with rfl|rfl|rfl<;>rfl) (fun x y=>Lib.compareInt x.1 y.1) SG 138 #[] gb 0 cap (cH S i).toArray wr eg (He gb 0 _ wr) hH hgs sso;have Q6:∀(d':Array (Nat×Int)) (m:Nat) (os:Array Obj),PermIn 0 (cH S i).toArray.size (cH S i).toArray d'->SortedIn (ltOf fun x y:Nat×Int=>Lib.compareInt x.1 y.1) 0 (cH S i).toArray.size d'->
      ∃L,zd S i L/\Bo w L (sortWorldK kM 3 wr gb 0 m d' os):=by
      intro d' m os hp hs;have hpl:=Bm hp;have hds:d'.size=(cH S i).toArray.size:=hp.1;have Q7:d'.toList.length=(cH S i).length:=by simpa using hds
      have aae:=size_sortWorldK_c kM 3 wr gb 0 m d' os;refine ⟨d'.toList,⟨by simpa using hpl,Bn hds.symm hs⟩,?_,omm,.slice (some (π gb 0)) (cH S i).length cap,?_,?_⟩
      ·exact hB.trans ⟨rfl,rfl,rfl,aae,fun k hk=>oz kM 3 wr gb 0 m d' os k omm omm⟩
      ·unfold Boxed;rw [oz kM 3 wr gb 0 m d' os _ sr (fun e=>bz e.symm)];exact pU
      ·rw [<-Q7];refine wZ ?_ omm omm (fun e'=>hz (List.eq_nil_of_length_eq_zero (by rw [<-Q7,e'];rfl)));exact holdsK_sortWorldK_c kM 3 wr gb 0 (cH S i).toArray d' m os hH hgs hds
     have HP:=ae Q6;have HC:=ae Ku;simp only [List.size_toArray] at HC HP;clear Q6 Ku hH eg pU fo hB SH uS Bp aac aad FA hz;generalize cH S i=L0 at*;go_wp2_with fail;refine HC.o.mono ?_;rintro e w' ⟨rfl,d',m,os,hp,hs,rfl⟩;have HF:=ae (HP.o d' m os hp hs);go_wp2;go_ret;exact ⟨rfl,HF.o⟩
end Go.Proofs.YtblkblclmbhjiaaGreat.gP
