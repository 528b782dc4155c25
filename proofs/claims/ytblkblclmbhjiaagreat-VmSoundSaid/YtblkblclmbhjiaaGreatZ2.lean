import Derived.Test.YtblkblclmbhjiaaGreatZ1
import Derived.Shelf.Small.Bits
import Derived.Shelf.Strconv.Itoa0
import Derived.Test.YtblkblclmbhjiaaGreatProg
import Derived.Shelf.SlGeneric
import Derived.Shelf.SlSortCmp.WholeK
import Derived.Shelf.SlicesE.Clone
import Derived.Ground.SlsfProg
import Derived.Ground.SlgnProg
import Derived.Deep.LoopGhost
import Derived.RangeFuncBox
import Derived.Maps.AppendAt
import Derived.Lib.Bytes
import Derived.Deep.AppendLies
import Derived.StillTailTactics
import Derived.Deep.RegionLaw
import Derived.RangeFuncNested
import Derived.RangeFuncBound
import Derived.RangeFuncCalls
import Derived.RangeFuncLeaves
import Derived.Shelf.Abstract
import Derived.OwnWalkIn
import Derived.TacticsInMore
import Derived.LoopNIn
import Derived.LoopIn
import Derived.Deep.RegionHeld3
set_option linter.all false
set_option maxHeartbeats 40000000
set_option maxRecDepth 100000
open Go.Proofs.Tryz
open Option renaming some->O,none->Xb
open Go renaming Value->to,World->ek
open Go.Value renaming slice->H
open Go.Obj renaming cells->Xe
open Go.Ending renaming returned->Xc
open Go.World renaming cell?->Xf
abbrev bo:=@congrArg
abbrev ei:=@Go.results_none
abbrev mT:=@List.length_append
abbrev uP:=@List.getElem?_append_right
abbrev uQ:=@List.getElem?_append_left
abbrev rN:=@Go.info_parts
abbrev eS:=@Int.eq_ofNat_of_zero_le
abbrev BZ:=@Go.step_append_lies
abbrev Kz:=@List.take_succ_eq_append_getElem
abbrev dM:=@Go.wpAnyH_ready
abbrev iY:=@Go.wpAnyH_take
abbrev fE:=@List.mem_append
abbrev ep:=@List.mem_cons
namespace Go.eO
open Go.RowKit al.Vm
open al hiding aS aw an
structure Rm(R:Raw)(nl n l:Nat):Prop where
 hn:n<R.made
 hl:l<nl
 ho:R.own n=(l:Int)
 h0:rJ R n 0
 h1:rJ R n 1
 hc:R.dz l<=4194304
 zd:0<R.dz l
 hm:R.made<=4194304
 kQ:nl<=256
 hu:0<R.used
 zg:R.used<=4194304
section
variable {w:ek}{ab nb cn lb cl aI nl:Nat}{R:Raw}
def Pv(h:eK w ab nb cn lb cl aI nl R){n l:Nat}(r:Rm R nl n l):Calls prog 143 #[Oi ab,Y n] w λe w'=>e=Xc (bP (R.val n))/\aC [ab,nb,lb] w w'/\eK w' ab nb cn lb cl aI nl (lT R n):=
 ZK h r.hn r.hl r.ho r.h0 r.h1 r.hc r.zd r.hm r.kQ r.hu r.zg
def Ks(w:ek):Below w.heap.size w (w.alloc (Xe #[.int .u64 0,Y 0,Y 0,Y 0,Y 0] 118))/\aH (w.alloc (Xe #[.int .u64 0,Y 0,Y 0,Y 0,Y 0] 118)) w.heap.size 118 #[.int .u64 0,Y 0,Y 0,Y 0,Y 0]:=
 ⟨(aZ _ w).alloc (aL _) _,aH.new w _ _⟩
def Kt{w2:ek}{R':Raw}{bx:Nat}{v0 v1 v2 v3 v4:to}(X2:eK w2 ab nb cn lb cl aI nl R')(F:aC [ab,nb,lb] w w2)(X:w.heap.size<=bx)(hz:bx≠ab/\bx≠nb/\bx≠lb)(r:aH w2 bx 118 #[v0,v1,v2,v3,v4])(y:eW):
 aC [ab,nb,lb] w (dT w2 bx 0 y)/\eK (dT w2 bx 0 y) ab nb cn lb cl aI nl R'/\aH (dT w2 bx 0 y) bx 118 #[.int .u64 y.key,Y (y.tg 0),Y (y.tg 1),Y (y.tg 2),Y (y.tg 3)]:=
 ⟨ze F X 0 y,X2.aG (gH (b:=bx) (aC.refl [bx] _) az 0 y) ⟨by simp;omega,by simp;omega,by simp;omega⟩,lK r y⟩
def Pw(h:eK w ab nb cn lb cl aI nl R){n l:Nat}(r:Rm R nl n l)(xN:R.made<=aI):
 Calls prog 67 #[Oi ab,Y n] w λe w'=>e=Xc (.tuple #[bP (R.val n),Y 0])/\aC [ab,nb,lb] w w'/\eK w' ab nb cn lb cl aI nl (lT R n):=by
 obtain⟨yi,El⟩:=Ks w;have xf:=h.later yi;have HH:=Z (sD xf.c r.hn (by rw[r.ho];omega) xN);have HFr:=Z (λwx (hx:eK wx ab nb cn lb cl aI nl R)=>Pv hx r);have Iv:=Z xf;have fM:=Z yi;have xh:=Z El;have hz:=xf.apart El;have gP:w.heap.size<=w.heap.size:=aL _;clear h r xf yi El xN;unfold bP at HFr ⊢;generalize R.val n=y at*;obtain⟨w1,kI⟩:∃w1,w1=w.alloc (Xe #[.int .u64 0,Y 0,Y 0,Y 0,Y 0] 118):=⟨_,rfl⟩;rw[<-kI]at HH Iv fM xh;go_enter func67,ntmps67;go_wp2_with fail;rw[<-kI];clear kI;obtain⟨bx,X⟩:∃bx,bx=w.heap.size:=⟨_,rfl⟩;have lL:=Z X;rw[<-X]at xh hz ⊢;clear X gP;go_wp2_with (first|(go_at_call 133;refine HH.o.mono ?_;rintro r w' ⟨rfl,rfl⟩)|(go_at_call 143;refine(HFr.o _ Iv.o).mono ?_;rintro r w2 ⟨rfl,F2,X2⟩;have nN:=Z X2;have E6:=Z (aC.trans (aC.ai fM.o) F2);have um:=Z (aH.aG xh.o F2 kZ);obtain⟨g0,g1,g2,g3,g4,gf⟩:=kV um.o;clear X2 F2));obtain⟨f5,x5,r5⟩:=Kt nN.o E6.o (Nat.le_of_eq lL.o.symm) hz um.o y;change bodyPost _ _ _ _ _ (dT w2 bx 0 y);generalize dT w2 bx 0 y=w5 at*;obtain⟨e0,e1,e2,e3,e4,_⟩:=kV r5;exact bR (v:= .tuple #[.agg #[.int .u64 y.key,Y (y.tg 0),Y (y.tg 1),Y (y.tg 2),Y (y.tg 3)],Y 0]) (by simp[results,results67,go_sem,e0,e1,e2,e3,e4]) rfl ⟨rfl,f5,x5⟩
def zh(h:eK w ab nb cn lb cl aI nl R){n q e:Nat}(r:Rm R nl n q)(he:e<=1)(hn:R.ends q e=(n:Int)):
 Calls prog 308 #[Oi ab,Y q,Y e] w λe w'=>e=Xc (.tuple #[bP (R.val n),Y 0])/\aC [ab,nb,lb] w w'/\eK w' ab nb cn lb cl aI nl (lT R n):=by
 obtain⟨yi,El⟩:=Ks w;have xf:=h.later yi;have HI:=Z (Ml xf.c r.hl he);have HFr:=Z (λwx (hx:eK wx ab nb cn lb cl aI nl R)=>Pv hx r);have a2:=xf.h2;have h5:=xf.ends r.hl he;rw[hn]at h5;have Iv:=Z xf;have fM:=Z yi;have xh:=Z El;have hz:=xf.apart El;have hq:=r.hl;have kQ:=r.kQ;clear h r xf yi El hn;unfold bP at HFr ⊢;generalize R.val n=y at*;obtain⟨w1,kI⟩:∃w1,w1=w.alloc (Xe #[.int .u64 0,Y 0,Y 0,Y 0,Y 0] 118):=⟨_,rfl⟩;rw[<-kI]at HI Iv fM xh a2 h5;have Kd:e=0\/e=1:=G;rcases Kd with rfl|rfl
 all_goals
  try simp only[Nat.add_zero]at h5
  go_enter func308,ntmps308;go_wp2_with fail;rw[<-kI];clear kI;obtain⟨bx,X⟩:∃bx,bx=w.heap.size:=⟨_,rfl⟩;have lL:=Z X;rw[<-X]at xh hz ⊢;clear X;go_wp2_with (first|(go_at_call 224;refine HI.o.mono ?_;rintro r w' ⟨rfl,rfl⟩)|(go_at_call 143;refine(HFr.o _ Iv.o).mono ?_;rintro r w2 ⟨rfl,F2,X2⟩;have nN:=Z X2;have E6:=Z (aC.trans (aC.ai fM.o) F2);have um:=Z (aH.aG xh.o F2 kZ);obtain⟨g0,g1,g2,g3,g4,gf⟩:=kV um.o;clear X2 F2));obtain⟨f5,x5,r5⟩:=Kt nN.o E6.o (Nat.le_of_eq lL.o.symm) hz um.o y;change bodyPost _ _ _ _ _ (dT w2 bx 0 y);generalize dT w2 bx 0 y=w5 at*;obtain⟨e0,e1,e2,e3,e4,_⟩:=kV r5;exact bR (v:= .tuple #[.agg #[.int .u64 y.key,Y (y.tg 0),Y (y.tg 1),Y (y.tg 2),Y (y.tg 3)],Y 0]) (by simp[results,results308,go_sem,e0,e1,e2,e3,e4]) rfl ⟨rfl,f5,x5⟩
def ZM(h:eK w ab nb cn lb cl aI nl R){n l q e:Nat}(r:Rm R nl n l)(xN:R.made<=aI)(hq:q<nl)(he:e<=1)(ed:(dB R n).ends q e<0\/∃m:Nat,(dB R n).ends q e=(m:Int)/\m<R.made/\m≠n)(hc:(dB R n).dz q<=4194304):
 Calls prog 274 #[Oi ab,Y n,Y q,Y e] w λr w'=>r=Xc (Y 0)/\aC [ab,nb,lb] w w'/\eK w' ab nb cn lb cl aI nl (su R n q e):=by
 have HH:=Z (sD h.c r.hn (by rw[r.ho];omega) xN);have HI:=Z (Ml h.c hq he);have HC:=Z (Xu h r.hn r.hl r.ho r.h0 r.h1 r.hc r.zd r.hm r.kQ);obtain⟨f1,f2,f3,f4,f5⟩:=mu R n;have HL:=Z (λwx (hx:eK wx ab nb cn lb cl aI nl (dB R n))=>Iu hx (by rw[f2];exact r.hn) hq he (by rw[f2];exact ed) hc (by rw[f2];exact r.hm) r.kQ);clear h r xN ed hc f1 f2 f3 f4 f5;unfold su;generalize dB R n=R1 at*;go_enter func274,ntmps274;go_wp2_with (first|(go_at_call 133;refine HH.o.mono ?_;rintro r w' ⟨rfl,rfl⟩)|(go_at_call 224;refine HI.o.mono ?_;rintro r w' ⟨rfl,rfl⟩)|(go_at_call 230;refine HC.o.mono ?_;rintro r w2 ⟨rfl,F2,X2⟩;have nN:=Z X2;have E6:=Z F2;clear X2 F2)|(go_at_call 309;refine(HL.o _ nN.o).mono ?_;rintro r w3 ⟨rfl,F3,X3⟩;have Ku:=Z X3;have Iw:=Z F3;clear X3 F3));go_ret;exact⟨rfl,E6.o.trans Iw.o,Ku.o⟩
end
end Go.eO
namespace Go.Proofs
open Go.Shelf
def Tryz.E7:Go.Shelf.Ren:=⟨λ|125=>228|128=>284|129=>285|n=>n,λ|46=>256|3=>3|51=>296|53=>46|4=>4|5=>5|9=>9|n=>n,λ|n=>n⟩
def Tryz.TV:Go.Proofs.Lays.n125 prog Tryz.E7:={
 mixed:=by kernel_rfl
 f125:=func228.trans (congrArg some (by kernel_rfl))
 f128:=func284.trans (congrArg some (by kernel_rfl))
 f129:=func285.trans (congrArg some (by kernel_rfl))
 t3:=underlying3
 a3:=isAgg3
 z3:=sizeOf3
 v3:=zeroValue3
 t4:=underlying4
 a4:=isAgg4
 z4:=sizeOf4
 v4:=zeroValue4
 t5:=underlying5
 a5:=isAgg5
 z5:=sizeOf5
 v5:=zeroValue5
 t9:=underlying9
 a9:=isAgg9
 z9:=sizeOf9
 v9:=zeroValue9
 t46:=underlying256
 a46:=isAgg256
 z46:=sizeOf256
 v46:=zeroValue256
 t51:=underlying296
 a51:=isAgg296
 z51:=sizeOf296
 v51:=zeroValue296
 t53:=underlying46
 a53:=isAgg46
 z53:=sizeOf46
 v53:=zeroValue46}
def Tryz.bits_Len(x:Int)(w:World)(h0:0<=x)(h1:x<=18446744073709551615):
 Calls prog 228 #[.int .u64 x] w λe w'=>e= .returned (.int .i64 (Lib.bitLen x.toNat))/\w'=w:=Any.bits_Len Tryz.TV x w h0 h1
def Tryz.Mm:Go.Shelf.Ren:=⟨λ|6=>137|15=>228|14=>227|28=>284|29=>285|20=>276|21=>277|22=>278|23=>279|24=>280|25=>281|26=>282|27=>283|46=>310|47=>311|48=>312|49=>313|50=>314|57=>322|n=>n,λ|22=>195|24=>199|25=>210|3=>3|39=>256|0=>0|53=>296|55=>46|4=>4|46=>290|45=>289|50=>70|5=>5|9=>9|66=>329|70=>249|76=>337|77=>148|n=>n,λ|n=>n⟩
def Tryz.QJ:Go.Proofs.SlLaysF0.n6 prog Tryz.Mm:={
 mixed:=by kernel_rfl
 f6:=⟨Tryz.f137.name,bz,func137.trans (bo some (by kernel_rfl))⟩
 f14:=⟨Tryz.f227.name,bz,func227.trans (bo some (by kernel_rfl))⟩
 f15:=func228.trans (bo some (by kernel_rfl))
 f20:=⟨Tryz.f276.name,bz,func276.trans (bo some (by kernel_rfl))⟩
 f21:=⟨Tryz.f277.name,bz,func277.trans (bo some (by kernel_rfl))⟩
 f22:=⟨Tryz.f278.name,bz,func278.trans (bo some (by kernel_rfl))⟩
 f23:=⟨Tryz.f279.name,bz,func279.trans (bo some (by kernel_rfl))⟩
 f24:=⟨Tryz.f280.name,bz,func280.trans (bo some (by kernel_rfl))⟩
 f25:=⟨Tryz.f281.name,bz,func281.trans (bo some (by kernel_rfl))⟩
 f26:=⟨Tryz.f282.name,bz,func282.trans (bo some (by kernel_rfl))⟩
 f27:=⟨Tryz.f283.name,bz,func283.trans (bo some (by kernel_rfl))⟩
 f28:=func284.trans (bo some (by kernel_rfl))
 f29:=func285.trans (bo some (by kernel_rfl))
 f46:=⟨Tryz.f310.name,bz,func310.trans (bo some (by kernel_rfl))⟩
 f47:=func311.trans (bo some (by kernel_rfl))
 f48:=func312.trans (bo some (by kernel_rfl))
 f49:=⟨Tryz.f313.name,bz,func313.trans (bo some (by kernel_rfl))⟩
 f50:=⟨Tryz.f314.name,bz,func314.trans (bo some (by kernel_rfl))⟩
 f57:=⟨Tryz.f322.name,bz,func322.trans (bo some (by kernel_rfl))⟩
 t0:=underlying0
 a0:=isAgg0
 z0:=sizeOf0
 v0:=zeroValue0
 t3:=underlying3
 a3:=isAgg3
 z3:=sizeOf3
 v3:=zeroValue3
 t4:=underlying4
 a4:=isAgg4
 z4:=sizeOf4
 v4:=zeroValue4
 t5:=underlying5
 a5:=isAgg5
 z5:=sizeOf5
 v5:=zeroValue5
 t9:=underlying9
 a9:=isAgg9
 z9:=sizeOf9
 v9:=zeroValue9
 t22:=underlying195
 a22:=isAgg195
 z22:=sizeOf195
 v22:=zeroValue195
 t25:=underlying210
 a25:=isAgg210
 z25:=sizeOf210
 v25:=zeroValue210
 t39:=underlying256
 a39:=isAgg256
 z39:=sizeOf256
 v39:=zeroValue256
 t45:=underlying289
 a45:=isAgg289
 z45:=sizeOf289
 v45:=zeroValue289
 t46:=underlying290
 a46:=isAgg290
 z46:=sizeOf290
 v46:=zeroValue290
 t50:=underlying70
 a50:=isAgg70
 z50:=sizeOf70
 v50:=zeroValue70
 t53:=underlying296
 a53:=isAgg296
 z53:=sizeOf296
 v53:=zeroValue296
 t55:=underlying46
 a55:=isAgg46
 z55:=sizeOf46
 v55:=zeroValue46
 t66:=underlying329
 a66:=isAgg329
 z66:=sizeOf329
 v66:=zeroValue329
 t70:=underlying249
 a70:=isAgg249
 z70:=sizeOf249
 v70:=zeroValue249
 t76:=underlying337
 a76:=isAgg337
 z76:=sizeOf337
 v76:=zeroValue337
 t77:=underlying148
 a77:=isAgg148
 z77:=sizeOf148
 v77:=zeroValue148}
end Go.Proofs
namespace Go.jf
open Go.RowKit al
def TW{k:IntKind}{a b:Int}(h:a=b):Ending.returned (.int k a)=Xc (.int k b):=by rw[h]
def Iy{n e:Nat}(g:BK n e)(w:ek):Calls prog 228 #[.int .u64 n] w λr w'=>r=Xc (Y ((e:Int)+1))/\w=w':=by have hs:=g.small;refine(Proofs.Tryz.bits_Len (n:Int) w G G).mono ?_;rintro r w' ⟨rfl,rfl⟩;refine⟨?_,rfl⟩;rw[Int.toNat_natCast,g.n,Ir e g.ge];rfl
def Px{w:ek}{b s n e cp:Nat}(h1:Xf w (I b 2)=O (H (O (I s 0)) n cp))(g:BK n e)(key:Nat):
 Calls prog 142 #[Oi b,.int .u64 key] w λr w'=>r=Xc (Y (home n key))/\w=w':=by
 have hs:=g.small;have hp:=g.pos;have E8:=g.ge;have hle:=g.le;have hh:=lV g.pos key;have hlen:=Iy g w;have hsh:IntKind.u64.wrap ((key:Int)*11400714819323198485) / 2 ^ (64-e)=((home n key:Nat):Int):=by rw[<-Is g,IntKind.wrap_u64,Int.natCast_ediv,Int.natCast_emod,Int.natCast_mul,Int.natCast_pow];rfl
 have HS:=Z hsh;have a0g:=Z hlen;generalize home n key=hm at HS hh ⊢;clear g hlen hsh;go_enter func142,ntmps142;go_wp2_with (go_at_call 228;refine a0g.o.mono ?_;rintro e w' ⟨rfl,rfl⟩);go_ret;refine⟨TW ?_,rfl⟩;rw[HS.o];exact IntWalk.wrap64_in _ ⟨G,G⟩
def E_{w:ek}{b s n e cp:Nat}(h1:Xf w (I b 2)=O (H (O (I s 0)) n cp))(g:BK n e){i:Nat}(hi:i<n):
 Calls prog 141 #[Oi b,Y i] w λr w'=>r=Xc (Y (nx n i))/\w=w':=by
 have hs:=g.small;have hp:=g.pos;have ha:=ZC g hi;generalize nx n i=q at ha ⊢;clear g;go_enter func141,ntmps141;go_wp2;exact G7
def Fa(D:Nat->Bool×Nat×to)(key a:Nat):Bool:= !(D a).1||(D a).2.1==key
def Iz(z:to)(S:Tb to)(key a:Nat):Fa (eh z S) key a=gG S key a:=by
 unfold Fa eh gG;cases S a with
 |none=>rfl
 |some x=>simp
def Py{p:Prop}(h:p:=by
 go_wp2;go_quiet (fail);go_wp2;go_ret2;refine⟨?_,_,rfl⟩;rw[ht];rfl):p:=h
def Db{w:ek}{b s aI count n e:Nat}{z:to}{S:Tb to}(h:eD w b s aI count n (eh z S))(g:BK n e){em:Nat}(rM:em<n)(jA:S em=Xb)(key:Nat):
 Calls prog 132 #[Oi b,.int .u64 key] w λr w'=>r=Xc (.tuple #[Y (find n S key),.bool (eh z S (find n S key)).1])/\∃m,w'=w.drewN m:=by
 obtain⟨cp,h1⟩:=h.c2;have hs:=g.small;have hp:=g.pos;have hh:=lV g.pos key;have Pz:=(sA rM jA key).1;have hq:=kG g.pos S key;have H1:=Z (Px h1 g key);have H2:=Z (λi (hi:i<n)=>E_ h1 g hi);have Hf:Hid (find n S key=iA n S key n (home n key)):=rfl;generalize find n S key=q at Pz hq Hf ⊢;have HQ:=Z Pz;clear Pz;generalize home n key=h0 at H1 Hf hh;go_enter func132,ntmps132;go_wp2_with (go_at_call 142;refine H1.o.mono ?_;rintro e w' ⟨rfl,rfl⟩);clear H1
 go_loopg [6] n (λg s6 wr=>w=wr/\∃a:Nat,s6=Y a/\a<n/\Hid (q=iA n S key g a))
 case atStart=>exact⟨rfl,h0,rfl,hh,Hf⟩
 case round=>
  clear Hf;obtain⟨rfl,a,rfl,ha,hg⟩:=hrel;have d0:=h.k0 a ha;have d1:=h.k1 a ha;have e0:=h.k0 q hq;have fY:=Iz z S key a;have HD:=Z h;have Fb:gG S key a=false->∃k,k<gk/\q=iA n S key k (nx n a):=by
   intro EN;cases gk with
   |zero=>exfalso;have:=hg.o;simp only[iA]at this;have h':=HQ.o;rw[this,EN]at h';exact absurd h' bz
   |succ k=>exact⟨k,G,by have:=hg.o;rw[BI EN]at this;exact this⟩
  have TX:gG S key a=true->q=a:=λEN=>by have:=hg.o;rw[wY EN]at this;exact this
  have G1:=Z Fb;have G2:=Z TX;have Hst:=Z fY;clear fY Fb TX h hg;cases ht:(eh z S a).1
  ·have hqa:q=a:=G2.o (by rw[<-Hst.o];simp[Fa,ht]);subst hqa;rw[ht]at d0 e0;clear G1 G2 Hst;exact Py
  ·rw[ht]at d0;by_cases hk:(eh z S a).2.1=key
   ·have hqa:q=a:=G2.o (by rw[<-Hst.o];simp[Fa,ht,hk]);subst hqa;rw[ht]at e0;have qW:(((eh z S q).2.1:Int)!=(key:Int))=false:=by simp[hk]
    clear G1 G2 Hst hk;exact Py
   ·have qW:(((eh z S a).2.1:Int)!=(key:Int))=true:=by simp;omega
    have Xv:gG S key a=false:=by rw[<-Hst.o];simp[Fa,ht,hk]
    obtain⟨k',im,mL⟩:=G1.o Xv;have HK:=Z mL;have HB:=Z (H2.o a ha);have AM:=lB ha;clear G1 G2 Hst hk Xv mL H2 e0;go_wp2_with (go_at_call 141;refine HB.o.mono ?_;rintro e w' ⟨rfl,rfl⟩)
    go_roundg k'
    case measure=>exact im
    case rel=>exact⟨rfl,nx n a,rfl,AM,HK⟩
def Ui{w:ek}{b s aI count n e:Nat}{z:to}{S:Tb to}(h:eD w b s aI count n (eh z S))(g:BK n e){em:Nat}(rM:em<n)(jA:S em=Xb)(key:Nat)(v:Int)
 (hm:count<aI) (LU:aI<=n) (ht:S (find n S key)=Xb):
 Calls prog 307 #[Oi b,.int .u64 key,Y v] w λr w'=>r=Xc (Y 0)/\aC [b,s] w w'/\eD w' b s aI (count+1) n (eh z (putAt n S key (Y v))):=by
 have hs:=g.small;have hp:=g.pos;have hq:=kG g.pos S key;have EL:∀m,aC [b,s] w (((((w.drewN m).setCell (I b 1) (Y ((count:Int)+1))).setCell (I s (find n S key*3)) (.bool true)).setCell (I s (find n S key*3+1)) (.int .u64 key)).setCell (I s (find n S key*3+2)) (Y v))/\
  eD (((((w.drewN m).setCell (I b 1) (Y ((count:Int)+1))).setCell (I s (find n S key*3)) (.bool true)).setCell (I s (find n S key*3+1)) (.int .u64 key)).setCell (I s (find n S key*3+2)) (Y v)) b s aI (count+1) n (eh z (putAt n S key (Y v))):=by
  intro m;refine⟨(((aC.refl _ w).drewN m).setCell az _).qz az _ _ _,?_⟩;unfold putAt;rw[Pq];exact((h.drewN m).E0 (count+1)).qz hq true key (Y v)
 have Ha:(eh z S (find n S key)).1=false:=by unfold eh;rw[ht]
 have H1:=Z (Db h g rM jA key);rw[Ha]at H1;have HR:=Z EL;clear EL Ha ht;generalize find n S key=q at hq H1 HR ⊢;generalize putAt n S key (Y v)=S' at HR ⊢;have d0:=h.k0 q hq;have d1:=h.k1 q hq;have d2:=h.k2 q hq;have h0:=h.c0;have h1:=h.c1;obtain⟨cp,h2⟩:=h.c2;have bt:=h.ne;have fs:∀o,w.frozen? (I s o)=false:=h.fs;have fb:∀o,w.frozen? (I b o)=false:=h.fb;have jw:((aI:Int)==0)=false:=by simp;omega
 have af9:((count:Int)==(aI:Int))=false:=by simp;omega
 clear h g jA;go_enter func307,ntmps307;go_wp2_with (go_at_call 132;refine H1.o.mono ?_;rintro e w' ⟨rfl,m,rfl⟩);go_quiet (fail);go_wp2;go_ret;exact⟨rfl,HR.o _⟩
def BP{w:ek}{b s aI count n e:Nat}{z:to}{S:Tb to}(h:eD w b s aI count n (eh z S))(g:BK n e){em:Nat}(rM:em<n)(jA:S em=Xb)(key:Nat):
 Calls prog 59 #[Oi b,.int .u64 key] w λr w'=>
  r=Xc (.tuple #[(eh z S (find n S key)).2.2,.bool (eh z S (find n S key)).1])/\∃m,w'=w.drewN m:=by
 obtain⟨cp,h1⟩:=h.c2;have hs:=g.small;have hp:=g.pos;have hq:=kG g.pos S key;have H1:=Z (Db h g rM jA key);generalize find n S key=q at hq H1 ⊢;have d2:=h.k2 q hq;generalize eh z S q=cq at*;clear h g;go_enter func59,ntmps59;go_wp2_with (go_at_call 132;refine H1.o.mono ?_;rintro e w' ⟨rfl,m,rfl⟩);go_ret2;exact⟨rfl,_,rfl⟩
def DR(w0:ek)(b s aI count n:Nat)(z:to)(F:Tb to)(em:Nat)(f:Nat)(s6 s7:to)(wr:ek):Prop:=
 ∃(i k:Nat) (S:Tb to) (st:Bool×Nat×to) (sv:Int),s6=Y i/\s7=Y k/\i<n/\k<n/\BJ n S i k em/\c_ n k em<=f/\iB n f S i k=F/\st.2.2=Y sv/\(∀j k u,S j=O (k,u)->∃x,u=Y x)/\
  eD wr b s aI count n (aS (eh z S) i st)/\aC [b,s] w0 wr
def DR.move{w0:ek}{b s aI count n:Nat}{z:to}{F S:Tb to}{em f:Nat}{i k y:Nat}{v:Int}{st:Bool×Nat×to}{wr:ek}(D:BJ n S i k em)(hd:c_ n k em<=f+1)(hF:iB n (f+1) S i k=F)
 (hi:∀j k u,S j=O (k,u)->∃x,u=Y x) (hI:eD wr b s aI count n (aS (eh z S) i st)) (hR:aC [b,s] w0 wr) (hk:S k=O (y,Y v)) (hh:c_ n i k<=c_ n (home n y) k) (m:Nat):
 DR w0 b s aI count n z F em f (Y k) (Y (nx n k)) ((((wr.drewN m).setCell ⟨s,i*3,Xb⟩ (.bool true)).setCell ⟨s,i*3+1,Xb⟩ (.int .u64 y)).setCell ⟨s,i*3+2,Xb⟩ (Y v)):=by
 have Ek:k≠em:=λh=>by rw[h,D.AX]at hk;simp at hk
 refine⟨k,nx n k,aS (aS S i (S k)) k Xb,(true,y,Y v),v,rfl,rfl,D.lk,lB D.lk,D.move hk hh,?_,?_,rfl,?_,?_,(hR.drewN m).qz az _ _ _⟩
 ·rw[jR D.lk D.le Ek]at hd;omega
 ·rw[<-hF];conv=>rhs;unfold iB
  rw[hk];simp only[hh,if_true]
 ·intro j x u hj;unfold aS at hj;split at hj
  ·simp at hj
  ·split at hj
   ·exact hi k x u hj
   ·exact hi j x u hj
 ·have h1:=(hI.drewN m).qz D.li true y (Y v);have e:aS (eh z (aS (aS S i (S k)) k Xb)) k (true,y,Y v)=aS (aS (eh z S) i st) i (true,y,Y v):=by
   funext j;by_cases hj:j=k
   ·subst hj;rw[aw,an _ _ (λe=>D.ik e.symm),an _ _ (λe=>D.ik e.symm)];unfold eh;rw[hk]
   ·rw[an _ _ hj];by_cases hi:j=i
    ·subst hi;rw[aw];unfold eh;rw[an _ _ hj,aw,hk]
    ·rw[an _ _ hi,an _ _ hi];unfold eh;rw[an _ _ hj,an _ _ hi]
  rw[e];exact h1
def DR.stay{w0:ek}{b s aI count n:Nat}{z:to}{F S:Tb to}{em f:Nat}{i k y:Nat}{v:to}{st:Bool×Nat×to}{sv:Int}{wr:ek}(D:BJ n S i k em)(hd:c_ n k em<=f+1)(hF:iB n (f+1) S i k=F)
 (fY:st.2.2=Y sv) (hi:∀j k u,S j=O (k,u)->∃x,u=Y x) (hI:eD wr b s aI count n (aS (eh z S) i st)) (hR:aC [b,s] w0 wr) (hk:S k=O (y,v)) (hh:¬c_ n i k<=c_ n (home n y) k) (m:Nat):
 DR w0 b s aI count n z F em f (Y i) (Y (nx n k)) (wr.drewN m):=by
 have Ek:k≠em:=λh=>by rw[h,D.AX]at hk;simp at hk
 refine⟨i,nx n k,S,st,sv,rfl,rfl,D.li,lB D.lk,D.stay hk hh,?_,?_,fY,hi,hI.drewN m,hR.drewN m⟩
 ·rw[jR D.lk D.le Ek]at hd;omega
 ·rw[<-hF];conv=>rhs;unfold iB
  rw[hk];simp only[hh,if_false]
def ML{w:ek}{b s aI count n e:Nat}{z:to}{S:Tb to}(h:eD w b s aI count n (eh z S))(g:BK n e){em:Nat}(rM:em<n)(jA:S em=Xb)(key:Nat)(ht:S (find n S key)=Xb):
 Calls prog 66 #[Oi b,.int .u64 key] w λr w'=>r=Xc (.tuple #[Y 0,.bool false])/\∃m,w'=w.drewN m:=by
 have hs:=g.small;have hp:=g.pos;have hq:=kG g.pos S key;have Ha:(eh z S (find n S key)).1=false:=by unfold eh;rw[ht]
 have H1:=Z (Db h g rM jA key);rw[Ha]at H1;clear Ha ht;generalize find n S key=q at hq H1 ⊢;clear h g jA;go_enter func66,ntmps66;go_wp2_with (go_at_call 132;refine H1.o.mono ?_;rintro e w' ⟨rfl,m,rfl⟩);go_ret2;exact⟨rfl,_,rfl⟩
def P0{p:Prop}(h:p:=by
 go_wp2_with (go_at_call 141;refine(Hbe.o _ k cp' (by go_simp) hk).mono ?_;rintro e w' ⟨rfl,rfl⟩)
 go_roundg f
 case measure=>omega
 case rel=>exact HM.o _):p:=h
def MM{w:ek}{b s aI count n e:Nat}{S:Tb to}(h:eD w b s aI (count+1) n (eh (Y 0) S))(g:BK n e)(a0d:Inv n S)(hc:count<n){em:Nat}(rM:em<n)(jA:S em=Xb)(key:Nat)
 {v:Int} (ht:S (find n S key)=O (key,Y v)) (hint:∀i k u,S i=O (k,u)->∃x,u=Y x):
 Calls prog 66 #[Oi b,.int .u64 key] w λr w'=>r=Xc (.tuple #[Y v,.bool true])/\
  aC [b,s] w w'/\eD w' b s aI count n (eh (Y 0) (mK n S (find n S key))):=by
 have hs:=g.small;have hp:=g.pos;have hq:=kG g.pos S key;have Ha:eh (Y 0) S (find n S key)=(true,key,Y v):=by unfold eh;rw[ht]
 have H1:=Z (Db h g rM jA key);rw[Ha]at H1;have hqe:find n S key≠em:=λe'=>by rw[e',jA]at ht;simp at ht
 have hD:=BJ.start a0d hq rM jA hqe;generalize find n S key=q at*;have d2:=h.k2 q hq;rw[Ha]at d2;have h1:=h.c1;obtain⟨cp,h2⟩:=h.c2;have fb:∀o,w.frozen? ⟨b,o,Xb⟩=false:=h.fb;have hDR:∀m,DR w b s aI count n (Y 0) (mK n S q) em n (Y q) (Y (nx n q)) ((w.drewN m).setCell ⟨b,1,Xb⟩ (Y count)):=by
  intro m;refine⟨q,nx n q,aS S q Xb,(true,key,Y v),v,rfl,rfl,hq,lB hq,hD,Nat.le_of_lt (uM (lB hq) rM),rfl,rfl,?_,?_,((aC.refl _ w).drewN m).setCell az _⟩
  ·intro j x u hj;unfold aS at hj;split at hj
   ·simp at hj
   ·exact hint j x u hj
  have h':=(h.drewN m).E0 count;have e:eh (Y 0) S=aS (eh (Y 0) (aS S q Xb)) q (true,key,Y v):=by
   funext j;by_cases hj:j=q
   ·rw[hj,aw,Ha]
   ·rw[an _ _ hj];unfold eh;rw[an _ _ hj]
  rw[<-e];exact h'
 have HDR:=Z hDR;have Hbe:=Z (λ(wx:ek) (i:Nat) (cp:Nat) (hx:Xf wx ⟨b,2,Xb⟩=O (H (O ⟨s,0,Xb⟩) n cp)) (hi:i<n)=>E_ hx g hi);have Hho:=Z (λ(wx:ek) (y:Nat) (cp:Nat) (hx:Xf wx ⟨b,2,Xb⟩=O (H (O ⟨s,0,Xb⟩) n cp))=>Px hx g y);clear hDR hD h a0d ht Ha hqe;go_enter func66,ntmps66;go_wp2_with (first|(go_at_call 132;refine H1.o.mono ?_;rintro e w' ⟨rfl,m,rfl⟩)|(go_at_call 141;refine(Hbe.o _ q cp (by go_simp) hq).mono ?_;rintro e w' ⟨rfl,rfl⟩));clear H1
 go_loopg [6,7] n (λf s6 s7 wr=>DR w b s aI count n (Y 0) (mK n S q) em f s6 s7 wr)
 case atStart=>exact HDR.o m
 case round=>
  clear HDR h1 h2 d2;obtain⟨i,k,S',st,sv,rfl,rfl,hi,hk,D,hd,hF,fY,fi,hI,hR⟩:=hrel;have hik:=D.ik;have bt:=hI.ne;obtain⟨cp',c2⟩:=hI.c2;have k0:=hI.k0 k hk;have k1:=hI.k1 k hk;have i0:=hI.k0 i hi;have i1:=hI.k1 i hi;have i2:=hI.k2 i hi;have fs:∀o,wr.frozen? ⟨s,o,Xb⟩=false:=hI.fs;have k2:=hI.k2 k hk;rw[an _ _ (λe=>hik e.symm)]at k0 k1 k2;rw[aw]at i0 i1 i2;rw[fY]at i2;cases hS:S' k with
  |none=>
   have tV:eh (Y 0) S' k=(false,0,Y 0):=by unfold eh;rw[hS]
   rw[tV]at k0;have P4:aC [b,s] w (((wr.setCell ⟨s,i*3,Xb⟩ (.bool false)).setCell ⟨s,i*3+1,Xb⟩ (.int .u64 0)).setCell ⟨s,i*3+2,Xb⟩ (Y 0))/\
    eD (((wr.setCell ⟨s,i*3,Xb⟩ (.bool false)).setCell ⟨s,i*3+1,Xb⟩ (.int .u64 0)).setCell ⟨s,i*3+2,Xb⟩ (Y 0)) b s aI count n (eh (Y 0) (mK n S q)):=by
    refine⟨hR.qz az _ _ _,?_⟩;have h':=hI.qz hi false 0 (Y 0);have e:aS (aS (eh (Y 0) S') i st) i (false,0,Y 0)=eh (Y 0) (mK n S q):=by
     have:iB n gk S' i k=S':=by cases gk<;>simp[iB,hS]
     rw[<-hF,this];funext j;by_cases hj:j=i
     ·rw[hj,aw];unfold eh;rw[D.xL]
     ·rw[an _ _ hj,an _ _ hj]
    rw[e]at h';exact h'
   have HF:=Z P4;clear P4 hI hR hF D hd fi hS tV k1 k2 fY Hbe Hho hint;go_wp2;go_ret2;exact⟨rfl,HF.o⟩
  |some x=>
   obtain⟨y,u⟩:=x;obtain⟨x,rfl⟩:=fi k y u hS;have tV:eh (Y 0) S' k=(true,y,Y x):=by unfold eh;rw[hS]
   rw[tV]at k0 k1 k2;obtain⟨f,rfl⟩:∃f,gk=f+1:=by
    cases gk with
    |zero=>exfalso;have:=D.le;have:k=em:=by have:=dc n k em;omega
           rw[this,D.AX]at hS;simp at hS
    |succ f=>exact⟨f,rfl⟩
   have hhl:=lV g.pos y;have a1:=E1 g hhl hk;have a2:=E1 g hi hk;by_cases hh:c_ n i k<=c_ n (home n y) k
   ·have HM:=Z (λm=>DR.move D hd hF fi hI hR hS hh m);clear hI hR hF D hd fi hS tV fY hint;generalize c_ n (home n y) k=dy at*;generalize c_ n i k=di at*;have HH:=Z (Hho.o wr y cp' c2);clear Hho;generalize home n y=hy at*;go_wp2_with (first|(go_at_call 142;refine HH.o.mono ?_;rintro e w' ⟨rfl,rfl⟩));go_quiet (fail);go_wp2;go_region;exact P0
   ·have HM:=Z (λm=>DR.stay D hd hF fY fi hI hR hS hh m);clear hI hR hF D hd fi hS tV fY hint;generalize c_ n (home n y) k=dy at*;generalize c_ n i k=di at*;have HH:=Z (Hho.o wr y cp' c2);clear Hho;generalize home n y=hy at*;go_wp2_with (first|(go_at_call 142;refine HH.o.mono ?_;rintro e w' ⟨rfl,rfl⟩));go_quiet (fail);exact P0
def MN:(prog.info? 199).map (λi=>(i.zero,i.size,i.bytes))=O (O (.agg #[.bool false,.int .u64 0,Y 0]),3,24):=by kernel_rfl
def Made(w:ek)(aI:Nat)(z:to)(r:Ending)(w':ek):Prop:=
 r=Xc (.tuple #[Oi (w.heap.size+1),Y 0])/\∃n e,Fit aI n e/\eD w' (w.heap.size+1) w.heap.size aI 0 n (eh z λ_=>Xb)/\aC [] w w'/\w'.heap.size=w.heap.size+2
def Fi(aI:Nat)(w:ek)(hn:aI<=4194304):
 Calls prog 57 #[Y aI] w (Made w aI (Y 0)):=by
 obtain⟨i0,hi,je,mU,sT⟩:=info_parts MN;have hmk:∀(n:Nat) (wx:ek),n<=16777216->(Instr.makeSlice 195 (Y n) (Y n)).run prog wx= .ok (H (O (I wx.heap.size 0)) n n) (wx.alloc (Xe (madeCells #[.bool false,.int .u64 0,Y 0] (n*3)) 199)):=by intro n wx hn;have:=run_make (P:=prog) wx 195 199 i0 _ underlying195 hi je .i64 .i64 n n G G (by rw[sT];omega) G;rw[mU]at this;exact this
 have HMK:=Z hmk;clear hmk hi je mU sT;go_enter func57,ntmps57;go_wp2
 go_loopg [4] 30 (λf s4 wr=>w=wr/\∃e n:Nat,s4=Y n/\BK n e/\e+f=31/\n<=16777216/\(n=2\/n<4*aI))
 case atStart=>exact⟨rfl,1,2,rfl,⟨rfl,G,G⟩,rfl,G,.inl rfl⟩
 case round=>
  obtain⟨rfl,e,n,rfl,g,hf,hs,hl⟩:=hrel;by_cases h:n<2*aI
  ·have h1:=g.n;have h2:=g.ge;have h3:=g.le;have Z5:gk≠0->BK (n*2) (e+1):=λ_=>⟨by rw[g.n,Nat.pow_succ],G,G⟩;have X:gk≠0:=by intro h0;have:e=31:=G;rw[this]at h1;omega
   have HG:=Z (Z5 X);have HB:=Z X;clear Z5 X g h1 HMK hl;go_wp2
   go_roundg (gk-1)
   case measure=>have:=HB.o;omega
   case rel=>exact⟨rfl,e+1,n*2,by go_num,HG.o,by have:=HB.o;omega,G,G⟩
  ·have se:Fit aI n e:=⟨g,G,hl⟩;have hp:=g.pos;have HF:=Z se;have h':=HMK.o n w hs;clear HMK g hl hf hs se;go_wp2;go_ret2;refine⟨rfl,n,e,HF.o,eD.made (t:=197) (u:=199) G hp ?_ ?_,((aC.refl _ _).alloc _).alloc _,az⟩
   ·have:=uO (w.alloc (Xe (madeCells #[.bool false,.int .u64 0,Y 0] (n*3)) 199)) (Xe #[Y aI,Y 0,H (O (I w.heap.size 0)) n n] 197);rwa[aO]at this
   ·rw[Below.heap_alloc _ _ _ az];exact uO _ _
open Go.Sort Go.Lib
def ji(W:ek)(xs:List to)(t:TypeId)(N:Nat)(hN:N=W.heap.size):∀j u,xs[j]? =O u->(W.alloc (Xe xs.toArray t)).cell? (((I N 0):Addr).add j)=O u:=by
 intro j u hj;subst hN;have e:((I W.heap.size 0):Addr).add j=(I W.heap.size j):=by
  unfold Addr.add;split
  ·next h=>rw[h]
  ·simp
 rw[e,eV (uO W _)];simpa using hj
def dn(S:Tb to):Nat->List (Nat×Int)
 |0=>[]
 |i+1=>dn S i++(match S i with|some (k,.int _ v)=>[(k,v)]|_=>[])
def nz(x:Nat×Int):List to:=[.bool true,.int .u64 x.1,Y x.2]
def sZ(l:List (Nat×Int)):List to:=l.flatMap nz
def Dc(a b:List (Nat×Int)):sZ (a++b)=sZ a++sZ b:=by simp[sZ]
def BU(S:Tb to):∀i,(dn S i).length<=i:=by
 intro i
 induction i with
 |zero=>simp[dn]
 |succ i ih=>unfold dn;split<;>simp<;>omega
def Mn(L:List (Nat×Int)):∀i (hi:i<L.length) c,c<3->(sZ L)[i*3+c]? =(nz L[i])[c]? :=by
 induction L with
 |nil=>intro i hi;simp at hi
 |cons x L ih=>
  intro i hi c hc;have hx:sZ (x::L)=nz x++sZ L:=by simp[sZ]
  rw[hx];cases i with
  |zero=>rw[uQ (by simp[nz];omega)];simp
  |succ i=>rw[uP (by simp[nz];omega)];have:=ih i (by simpa using hi) c hc;rw[show(i+1)*3+c - (nz x).length=i*3+c from by simp[nz];omega];simpa using this
def Mo{w:ek}{g:Nat}{e:TypeId}{BL:Array to}{L:List (Nat×Int)}(zk:w.heap[g]? =O (Xe BL e (0,0)))(Kv:BL.toList.take (L.length*3)=sZ L):HoldsK nz 3 w g 0 L.toArray:=by
 intro j hj;rw[size_flatK]at hj;simp only[List.size_toArray]at hj;have hi:j / 3<L.length:=G;refine⟨?_,jT zk _⟩;rw[eV zk,get_flatK _ _ _ _ (by simpa using hj)];have h1:=Mn L (j / 3) hi (j % 3) (Nat.mod_lt _ bz);rw[<-Kv,show j / 3*3+j % 3=j from by omega,List.getElem?_take,if_pos hj]at h1;rw[Nat.zero_add,<-Array.getElem?_toList,h1];have h2:L.toArray[j / 3]! =L[j / 3]:=by simp[hi]
 rw[h2];have h3:j % 3<(nz L[j / 3]).length:=by simp[nz];omega
 simp[h3]
def Dd(w:ek)(base:Nat)(lv:to)(L:List (Nat×Int)):Prop:=
 (L=[]/\lv=Xd)\/∃g cap,lv=H (O (I g 0)) L.length cap/\base<=g/\g<w.heap.size/\L≠[]/\
   ∀i (hi:i<L.length),Xf w (I g (i*3))=O (.bool true)/\Xf w (I g (i*3+1))=O (.int .u64 L[i].1)/\Xf w (I g (i*3+2))=O (Y L[i].2)
def Ba{w:ek}{g cap base:Nat}{L:List (Nat×Int)}(h:HoldsK nz 3 w g 0 L.toArray)(X:base<=g)(hg:g<w.heap.size)(bt:L≠[]):Dd w base (H (O (I g 0)) L.length cap) L:=by
 refine .inr ⟨g,cap,rfl,X,hg,bt,λi hi=>?_⟩;have key:∀c,c<3->Xf w (I g (i*3+c))=O ((nz L[i])[c]!):=by
  intro c hc;have:=(h (i*3+c) (by rw[size_flatK];simp;omega)).1;rw[get_flatK _ _ _ _ kZ]at this;rw[Nat.zero_add,show(i*3+c) / 3=i from by omega,show(i*3+c) % 3=c from by omega]at this;have h2:L.toArray[i]! =L[i]:=by simp[hi]
  rw[h2]at this;exact this
 exact⟨key 0 bz,key 1 bz,key 2 bz⟩
def qT{α:Type}[Inhabited α](enc:α->List to)(k:Nat)(w:ek)(dY off m:Nat)(dk:Array α)(os:Array Obj)(j:Nat)(hj:j<w.heap.size)(bt:j≠dY):(Proofs.sortWorldK enc k w dY off m dk os).heap[j]? =w.heap[j]? :=by simp only[Proofs.sortWorldK,grow,putRowK,putRow,mapBlock,Go.Sort.ahead];rw[Array.getElem?_append_left (by simpa using hj),Array.getElem?_modify,if_neg (λe=>bt e.symm)]
def Fc{d d':Array (Nat×Int)}(h:PermIn 0 d.size d d'):d'.toList.Perm d.toList:=by
 obtain⟨h1,_,h3⟩:=h;have a:d'.extract 0 d.size=d':=by rw[<-h1];simp
 have b:d.extract 0 d.size=d:=by simp
 rw[a,b]at h3;exact h3
def Kw(x y:Nat×Int):Proofs.ltOf (λx y:Nat×Int=>Lib.compareInt x.1 y.1) x y=decide (x.1<y.1):=by
 unfold Proofs.ltOf Lib.compareInt;by_cases h1:x.1<y.1
 ·simp[h1]
 ·by_cases h2:y.1<x.1<;>simp[h1,h2]
def ZN:SWO (Proofs.ltOf λx y:Nat×Int=>Lib.compareInt x.1 y.1) where
 irrefl x:=by rw[Kw];simp
 trans x y z h1 h2:=by rw[Kw]at*;simp at*;omega
 ntrans x y z h1 h2:=by rw[Kw]at*;simp at*;omega
def Fe{d:Array (Nat×Int)}{N:Nat}(hN:N=d.size)(h:SortedIn (Proofs.ltOf λx y:Nat×Int=>Lib.compareInt x.1 y.1) 0 N d):d.toList.Pairwise (λa b=>a.1<=b.1):=by rw[List.pairwise_iff_getElem];intro i j hi hj Zk;have:=h i j (Nat.zero_le _) Zk (by rw[hN];simpa using hj);rw[Kw]at this;simp only[Array.length_toList]at hi hj;rw[getElem!_pos d i hi,getElem!_pos d j hj]at this;simp at this;simpa using this
def IA{p:Prop}(h:p:=by
 go_enter func139,ntmps139;go_wp2;go_ret;exact⟨rfl,rfl⟩):p:=h
def Nk(x y:Nat)(w:ek):Calls prog 139 #[.int .u64 x,.int .u64 y] w λe w'=>e=Xc (Y (Lib.compareInt x y))/\w=w':=by
 unfold Lib.compareInt;rcases Nat.lt_trichotomy x y with h|h|h
 ·have h1:(x:Int)<y:=G;rw[if_pos h1];clear h;exact IA
 ·subst h;rw[if_neg G,if_neg G];exact IA
 ·have h1:(y:Int)<x:=G;rw[if_neg G,if_pos h1];clear h;exact IA
def Mp(x y:Nat×Int)(W:ek):Calls prog 138 #[.agg #[.bool true,.int .u64 x.1,Y x.2],.agg #[.bool true,.int .u64 y.1,Y y.2]] W λe w'=>e=Xc (Y (Lib.compareInt x.1 y.1))/\∃q os',w'=grow (W.drewN q) os':=by have PA:=Z (λW'=>Nk x.1 y.1 W');generalize Lib.compareInt x.1 y.1=r at PA ⊢;go_enter func138,ntmps138;go_wp2_with (go_at_call 139;refine(PA.o _).mono ?_;rintro e w' ⟨rfl,rfl⟩);go_ret;exact⟨rfl,0,_,by rw[alloc_eq_grow,alloc_eq_grow,grow_grow];rfl⟩
def Mq(dY off size:Nat)(w:ek):Proofs.CmpLays prog 138 #[] nz 3 (λx y=>Lib.compareInt x.1 y.1) dY off size w:=
 λ_ _ _ _ x y=>Mp x y _
def TY(fv:to)(w:ek):Calls prog 276 #[Xd,Y 0,Y 0,fv] w λe w'=>e=Xc (.tuple #[])/\w=w':=by go_enter func276,ntmps276;go_wp2;refine wp_loop_once ?_;go_wp2;go_end0;exact⟨rfl,rfl⟩
def TZ(fv:to)(l:Int)(w:ek):Calls prog 227 #[Xd,Y 0,Y 0,Y l,fv] w λe w'=>e=Xc (.tuple #[])/\w=w':=by have a0g:=Z (TY fv w);go_enter func227,ntmps227;go_wp2;refine wp_loop_once ?_;go_wp2_with (go_at_call 276;refine a0g.o.mono ?_;rintro e w' ⟨rfl,rfl⟩);refine bodyPost_ret (ei rfl _ _ _) rfl ?_;exact⟨rfl,rfl⟩
def PB(fv:to)(w:ek):Calls prog 137 #[Xd,fv] w λe w'=>e=Xc (.tuple #[])/\w=w':=by have H1:=Z (Proofs.Tryz.bits_Len 0 w G G);have H2:=Z (λl=>TZ fv l w);go_enter func137,ntmps137;go_wp2_with fail;refine H1.o.mono ?_;rintro e w' ⟨rfl,rfl⟩;go_wp2_with fail;refine(H2.o _).mono ?_;rintro e w' ⟨rfl,rfl⟩;go_wp2;go_end0;exact⟨rfl,rfl⟩
def Ff(w:ek)(L:List (Nat×Int))(w':ek):Prop:=
 Below w.heap.size w w'/\w.heap.size<w'.heap.size/\∃lv,Boxed w' w.heap.size 195 lv/\Dd w' (w.heap.size+1) lv L
def De(S:Tb to)(n:Nat)(L:List (Nat×Int)):Prop:=L.Perm (dn S n)/\L.Pairwise (λa b=>a.1<=b.1)
def U0{w:ek}{b s aI count n e:Nat}{S:Tb to}(h:eD w b s aI count n (eh (Y 0) S))(g:BK n e)(hint:∀i k u,S i=O (k,u)->∃x,u=Y x):
 Calls prog 65 #[Oi b] w λr w'=>r=Xc (.func (.func 140) #[] #[Oi w.heap.size])/\∃L,De S n L/\Ff w L w':=by
 obtain⟨i0,hi,je,mU,sT⟩:=rN (show(prog.info? 199).map (λi=>(i.zero,i.size,i.bytes))=O (O (.agg #[.bool false,.int .u64 0,Y 0]),3,24)by kernel_rfl);have En:n<=1099511627776:=g.small;obtain⟨cp,c2⟩:=h.c2;have HI:=Z h;have SZ:=h.lb;have pE:=h.ls;have HN:=Z hint;clear h g hint;go_enter func65,ntmps65;go_wp2
 go_loopg [11] n (λf Om wr=>∃(i:Nat) (lv:to),Om=Y i/\i+f=n/\Boxed wr w.heap.size 195 lv/\wr.ownsRow w.heap.size 199 3 lv (dn S i).length (sZ (dn S i))/\Below w.heap.size w wr/\(dn S i=[]->lv=Xd))
 case atStart=>exact⟨0,Xd,rfl,G,Boxed.new _ _ _,World.ownsRow_nil ..,(Below.refl _ w).alloc (Nat.le_refl _) _,λ_=>rfl⟩
 case round=>
  obtain⟨i,lv,rfl,hif,rO,gT,hB,kQ⟩:=hrel;have ZO:eD wr b s aI count n (eh (Y 0) S):=HI.o.kj (hB.block b SZ) (hB.block s pE);by_cases be:i<n
  ·have k0:=ZO.k0 i be;have k1:=ZO.k1 i be;have k2:=ZO.k2 i be;have bc:=rO.cell;have bf:=rO.frozen;have nO:=hB.size;have xO:=rO.lt;cases hS:S i with
   |none=>
    have hc:eh (Y 0) S i=(false,0,Y 0):=by unfold eh;rw[hS]
    rw[hc]at k0 k1 k2;have he:dn S (i+1)=dn S i:=by simp only[dn,hS,List.append_nil]
    have HW:=Z (And.intro rO (And.intro gT hB));have HE:=Z he;have HL:=Z kQ;clear rO gT hB ZO hc hS he kQ;go_wp2_with fail
    go_roundg (gk-1)
    case measure=>omega
    case rel=>exact⟨i+1,lv,by go_num,G,HW.o.1.alloc _,by rw[HE.o];exact HW.o.2.1.alloc _,HW.o.2.2.alloc nO _,by rw[HE.o];exact HL.o⟩
   |some x=>
    obtain⟨k,u⟩:=x;obtain⟨v,rfl⟩:=HN.o i k u hS;have hc:eh (Y 0) S i=(true,k,Y v):=by unfold eh;rw[hS]
    rw[hc]at k0 k1 k2;have he:dn S (i+1)=dn S i++[(k,v)]:=by simp only[dn,hS]
    have hle:=BU S i;have HE:=Z he;have HB:=Z hB;have HX:=Z rO;have HO:=Z gT;have C3:=Z (show(dn S i).length+1<=maxLen by unfold maxLen;omega);have C4:=Z (show((dn S i).length+1)*24<=140737488355328 by omega);have C2:=Z (show∀u∈nz (k,v),u.oneCell'=true by intro u hu;simp[nz]at hu;rcases hu with rfl|rfl|rfl<;>rfl);clear rO gT hB ZO hc hS he kQ;go_wp2_with ((at_builtin;refine wpList_append_own _ rfl _ _ 195 rfl w.heap.size 199 i0 (.agg #[.bool false,.int .u64 0,Y 0]) 3 24 underlying195 hi je mU sT rfl bz lv _ _ rfl ((HO.o.alloc _).alloc _) (I (wr.heap.size+1) 0) 1 1 (nz (k,v)) rfl rfl (ji _ (nz (k,v)) _ _ az) C2.o C3.o C4.o kZ ?_;intro v' w1 PC gX IB;obtain⟨gz,SU,Xw,mL,dR⟩:=(HX.o.alloc _).appended bz (HO.o.alloc _) kZ (Nat.le_refl _) PC gX;have qC:=gz.cell;have Oj:=gz.frozen;have On:=Z SU;have um:=Z Xw;have fR:=Z dR;obtain⟨g',pq,rfl⟩:=ownsRow_succ PC;clear gz SU Xw mL dR PC gX IB))
    go_roundg (gk-1)
    case measure=>omega
    case rel=>refine⟨i+1,_,by go_num,G,On.o,?_,HB.o.trans (((Below.refl _ _).alloc nO _).trans fR.o),λh=>by rw[HE.o]at h;simp at h⟩;rw[HE.o,Dc,mT];exact um.o
  ·obtain rfl:i=n:=G;have hlen:=BU S i;rcases gT.2 with⟨rfl,h0⟩|⟨gb,cap,BL,rfl,zm,zk,vW,C0,zY,Kv⟩
   ·have IB:dn S i=[]:=List.eq_nil_of_length_eq_zero h0;have bc:=rO.cell;have HF:Hid (∃L,De S i L/\Ff w L wr):=Z ⟨[],⟨by rw[IB],.nil⟩,hB,rO.lt,_,rO,.inl ⟨rfl,rfl⟩⟩;have H2:=Z (PB (.func (.func 138) #[] #[]) wr);clear IB rO gT hB ZO h0 kQ;go_wp2_with (go_at_call 137;refine H2.o.mono ?_;rintro e w' ⟨rfl,rfl⟩);go_ret;exact⟨rfl,HF.o⟩
   ·have bt:gb≠w.heap.size:=by intro e';have:=rO;unfold Boxed at this;rw[<-e',zk]at this;simp at this
    have hgs:gb<wr.heap.size:=(Array.getElem?_eq_some_iff.1 zk).1;have bc:=rO.cell;have xO:=rO.lt;have nO:=hB.size;by_cases hz:dn S i=[]
    ·have:=kQ hz;simp at this
    ·clear kQ;have eg:∀args w,(callFunc 138 args).run prog w= .ok (.enter 138 args) w:=Proofs.enters_of func138 bj rfl;have hH:=Mo zk Kv;have PA:=Proofs.AnyQ.slices_SortFunc Proofs.Tryz.QJ 3 isAgg199 sizeOf199 nz (λ_=>rfl) (λx v hv=>by simp[nz]at hv;rcases hv with rfl|rfl|rfl<;>rfl) (λx y=>Lib.compareInt x.1 y.1) ZN 138 #[] gb 0 cap (dn S i).toArray wr eg (Mq gb 0 _ wr) hH hgs kZ;have Xx:∀(d':Array (Nat×Int)) (m:Nat) (os:Array Obj),PermIn 0 (dn S i).toArray.size (dn S i).toArray d'->SortedIn (Proofs.ltOf λx y:Nat×Int=>Lib.compareInt x.1 y.1) 0 (dn S i).toArray.size d'->
      ∃L,De S i L/\Ff w L (Proofs.sortWorldK nz 3 wr gb 0 m d' os):=by
      intro d' m os hp hs;have hpl:=Fc hp;have hds:d'.size=(dn S i).toArray.size:=hp.1;have Xy:d'.toList.length=(dn S i).length:=by simpa using hds
      have QF:=Proofs.size_sortWorldK_c nz 3 wr gb 0 m d' os;refine⟨d'.toList,⟨by simpa using hpl,Fe hds.symm hs⟩,?_,G,H (O (I gb 0)) (dn S i).length cap,?_,?_⟩
      ·exact hB.trans ⟨rfl,rfl,rfl,QF,λk hk=>qT nz 3 wr gb 0 m d' os k G G⟩
      ·unfold Boxed;rw[qT nz 3 wr gb 0 m d' os _ xO (λe=>bt e.symm)];exact rO
      ·rw[<-Xy];refine Ba ?_ G G (λe'=>hz (List.eq_nil_of_length_eq_zero (by rw[<-Xy,e'];rfl)));exact Proofs.holdsK_sortWorldK_c nz 3 wr gb 0 (dn S i).toArray d' m os hH hgs hds
     have HP:=Z Xx;have HC:=Z PA;simp only[List.size_toArray]at HC HP;clear Xx PA hH eg rO gT hB ZO zk vW C0 zY Kv hz;generalize dn S i=L0 at*;go_wp2_with fail;refine HC.o.mono ?_;rintro e w' ⟨rfl,d',m,os,hp,hs,rfl⟩;have HF:=Z (HP.o d' m os hp hs);go_wp2;go_ret;exact⟨rfl,HF.o⟩
end Go.jf
namespace Go.eO
open Go.RowKit al.Vm
open al hiding aS aw an
def ZP(w:ek)(ab:Nat)(V L:to)(aI nl:Nat)(R':Raw)(n:Nat)(r:Ending)(w':ek):Prop:=
 r=Xc (.tuple #[Y n,Y 0])/\∃V',sY w' ab V' L aI nl R'/\aC (bL ab V L) w w'/\∀b,V'.ownBlock=O b->V.ownBlock=O b\/w.heap.size<=b
def Mr:(prog.info? 202).map (λi=>(i.zero,i.size,i.bytes))=O (O (.agg #[.int .u64 0,Y 0,Y 0,Y 0,Y 0,Y 0,Y 0,Y 0]),8,64):=by kernel_rfl
def tS:List to:=[.int .u64 0,Y 0,Y 0,Y 0,Y 0,Y 0,Y 0,Y 0]
def T0{w:ek}{V:to}{R:Raw}(h:w.ownsRow 0 202 8 V (R.made+1) (fw (R.made*8) (fp R)++tS)):Row w 202 8 V (R.made+1) (fp (sR R eB)):=by
 unfold Row;have e:fw ((R.made+1)*8) (fp (sR R eB))=fw (R.made*8) (fp R)++tS:=by
  rw[show(R.made+1)*8=R.made*8+8 by omega,sC];congr 1
  ·refine qB λo ho=>?_;unfold fp sR;dsimp only;have:o / 8≠R.made:=G;rw[an _ _ this,an _ _ this,an _ _ this]
  ·have hk:∀i,i<8->(R.made*8+i) / 8=R.made/\(R.made*8+i) % 8=i:=λi hi=>G;unfold tS;simp only[show List.range 8=[0,1,2,3,4,5,6,7]from rfl,List.map_cons,List.map_nil];unfold fp sR;dsimp only;simp only[(hk 0 G).1,(hk 0 G).2,(hk 1 G).1,(hk 1 G).2,(hk 2 G).1,(hk 2 G).2,(hk 3 G).1,(hk 3 G).2,(hk 4 G).1,(hk 4 G).2,(hk 5 G).1,(hk 5 G).2,(hk 6 G).1,(hk 6 G).2,(hk 7 G).1,(hk 7 G).2,aw];rfl
 rw[e];exact h
def PD{w:ek}{ab nb cn lb cl aI nl q e:Nat}{R:Raw}(h:eK w ab nb cn lb cl aI nl R)(v:eW)(hq:q<nl)(he:e<=1){m:Nat}(uA:R.dA=(m:Int))(hm:m<R.made)(hu:R.used<aI)(ed:R.ends q e<0\/∃k:Nat,R.ends q e=(k:Int)/\k<R.made/\k≠m)(hc:R.dz q<=4194304)(xN:R.made<=aI)(ul:aI<=4194304)(kQ:nl<=256):
 Calls prog 306 #[Oi ab,Y q,Y e,bP v] w λr w'=>r=Xc (.tuple #[Y m,Y 0])/\aC [ab,nb,lb] w w'/\eK w' ab nb cn lb cl aI nl (iT R q e v):=by
 have yi:Below w.heap.size w (w.alloc (Xe #[.int .u64 v.key,Y (v.tg 0),Y (v.tg 1),Y (v.tg 2),Y (v.tg 3)] 118)):=(aZ _ w).alloc (aL _) _;have El:=aH.new w 118 #[.int .u64 v.key,Y (v.tg 0),Y (v.tg 1),Y (v.tg 2),Y (v.tg 3)];have xf:=h.later yi;have HI:=Z (Ml xf.c hq he);have Iv:=Z xf;have fM:=Z yi;have xh:=Z El;have hz:=xf.apart El;have HL:=Z (λwx (hx:eK wx ab nb cn lb cl aI nl (kT (xM R) m v))=>Iu hx (n:=m) (by show m<R.made;exact hm) hq he ed (by show R.dz q<=_;exact hc) (by show R.made<=_;omega) kQ);have HP:=Z (show iT R q e v={gd (kT (xM R) m v) m q e with used:=R.used+1}by unfold iT;rw[uA,ax G,ax G];rfl);have VV:=Z uA;have HUS:=Z (show(gd (kT (xM R) m v) m q e).used=R.used from rfl);have h0:=xf.h0;clear h xf yi El ed hc uA;unfold bP;obtain⟨w1,kI⟩:∃w1,w1=w.alloc (Xe #[.int .u64 v.key,Y (v.tg 0),Y (v.tg 1),Y (v.tg 2),Y (v.tg 3)] 118):=⟨_,rfl⟩;rw[<-kI]at HI Iv fM xh h0;obtain⟨d1,d2,d3⟩:=Iv.o.ne;obtain⟨a1,a3,a4,k0,k1,k2,k3,k4,b5,b6,b7,fn,fa⟩:=Iv.o.facts hm;obtain⟨g0,g1,g2,g3,g4,gf⟩:=kV xh.o;rw[VV.o]at a3;go_enter func306,ntmps306;go_wp2_with fail;rw[<-kI];clear kI;have ZL:Hid (aC [ab,nb,lb] w w1):=Z (aC.ai fM.o);clear fM;generalize w.heap.size=bx at xh hz g0 g1 g2 g3 g4 gf ⊢;have bt:((R.used:Int)==(aI:Int))=false:=by simp;omega
 refine HI.o.mono ?_;rintro r w' ⟨rfl,rfl⟩;go_wp2;go_region;go_wp2_with fail;obtain⟨w2,tQ⟩:∃w2,w2=(w1.setCell (I ab 3) (Y (R.bY m 0))).drew:=⟨_,rfl⟩;rw[<-tQ];have yP:xM R={R with dA:=R.bY m 0}:=by unfold xM;rw[VV.o];rfl
 have Xz:eK w2 ab nb cn lb cl aI nl (xM R):=by rw[tQ,yP];exact(Iv.o.E3 (R.bY m 0)).drewN 1
 have hR2:=xh.o.aG (show aC [ab] w1 w2 by rw[tQ];exact((aC.refl [ab] w1).setCell az _).drew) kZ;have hF2:aC [ab,nb,lb] w w2:=by rw[tQ];exact(ZL.o.setCell az _).drew
 have nN:=Z Xz;have um:=Z hR2;have E6:=Z hF2;clear tQ yP Xz hR2 hF2 a1 a3 a4 k0 k1 k2 k3 k4 b5 b6 b7 fn fa g0 g1 g2 g3 g4 gf h0 ZL Iv xh HI;obtain⟨a1,a3,a4,k0,k1,k2,k3,k4,b5,b6,b7,fn,fa⟩:=nN.o.facts (n:=m) hm;obtain⟨g0,g1,g2,g3,g4,gf⟩:=kV um.o;have Fg:(xM R).made=R.made:=rfl;rw[Fg]at a1;clear Fg a3 a4;go_region;go_wp2_with fail;have IC:eK ((dT w2 nb (m*8) v).drewN 1) ab nb cn lb cl aI nl (kT (xM R) m v):=(nN.o.C_ (n:=m) hm v).drewN 1;have HF:=Z ((gH (b:=nb) E6.o az (m*8) v).drewN 1);have HC:=Z (HL.o _ IC);clear IC;refine HC.o.mono ?_;rintro r w3 ⟨rfl,F3,X3⟩;have c4:=X3.h4;rw[HUS.o]at c4;have c4f:=X3.fa;have Ku:=Z X3;have Iw:=Z F3;clear X3 F3 HL HC;go_wp2;go_ret2;refine⟨rfl,(HF.o.trans Iw.o).setCell az _,?_⟩;rw[HP.o];exact Ku.o.CZ (R.used+1)
def appended{w w4:ek}{ab aI nl g cap:Nat}{V L:to}{R:Raw}{o:Obj}(a0c:sY w ab V L aI nl R)(gT:w4.ownsRow 0 202 8 (H (O (I g 0)) (R.made+1) cap) (R.made+1) (fw (R.made*8) (fp R)++tS))
 (hg:(w.alloc o).grownBy w4 V.ownBlock) (rP:V.ownBlock=O g\/g=w.heap.size+1):
 Xf w4 (I ab 1)=O V/\(∀o,w4.frozen? (I ab o)=false)/\aC (bL ab V L) w (w4.setCell (I ab 1) (H (O (I g 0)) (R.made+1) cap))/\
 sY (w4.setCell (I ab 1) (H (O (I g 0)) (R.made+1) cap)) ab (H (O (I g 0)) (R.made+1) cap) L aI nl (sR R eB)/\(V.ownBlock=O g\/w.heap.size<=g)/\aC (V.ownBlock.toList) w w4:=by
 have h4:aH w4 ab 191 #[Y aI,V,L,Y R.dA,Y R.used]:=(a0c.head.alloc o).grown hg (λe=>a0c.nb e.symm);have hn:=T0 gT;have hga:g≠ab:=by have:=hn.fx h4 bz;simpa[Value.ownBlock]using this
 have hl:Row w4 194 3 L nl (oX R):=(a0c.lists.alloc o).grown hg (by
  rcases a0c.lists.ne a0c.nodes bz with h|h
  ·exact .inl h
  ·exact .inr h)
 have AO:aC (V.ownBlock.toList) w w4:=by refine((aC.refl _ w).alloc o).trans ⟨hg.os,hg.tape,hg.output,hg.size,λk hk hs=>hg.block k hk ?_⟩;intro e;exact hs (by rw[<-e];simp)
 refine⟨h4.cell 1,h4.frozen,((AO.mono (T:=bL ab V L) (by intro k hk;simp[bL]at hk ⊢;exact .inr (.inl hk))).setCell (by simp[bL]) _),⟨h4.set 1 _,hn.other (by simp[Value.ownBlock];exact hga) _ _,hl.other a0c.lb _ _⟩,?_,AO⟩;rcases rP with h|h
 ·exact .inl h
 ·exact .inr G
def ID{w:ek}{V:to}{n:Nat}(h:(V=Xd/\n=0)\/∃b cap,V=H (O (I b 0)) n cap/\n<=cap/\cap<=maxLen/\b<w.heap.size)(wx:ek):
 (Builtin.len_ #[189] 3 #[V]).run prog wx= .ok (Y n) wx:=by
 rcases h with⟨rfl,rfl⟩|⟨b,cap,rfl,_⟩
 ·exact run_len_slice (P:=prog) wx 189 3 Xb 0 0 bj
 ·exact run_len_slice (P:=prog) wx 189 3 (O (I b 0)) n cap bj
def PF{w:ek}{ab lb cl aI nl q e:Nat}{V:to}{R:Raw}(h:sY w ab V (H (O (I lb 0)) nl cl) aI nl R)(v:eW)(hq:q<nl)(he:e<=1)(uA:R.dA<0)(hu:R.used<aI)(ed:R.ends q e<0\/∃k:Nat,R.ends q e=(k:Int)/\k<R.made/\k≠R.made)(hc:R.dz q<=4194304)(Kx:R.made<4194304)(ul:aI<=4194304)(kQ:nl<=256):
 Calls prog 306 #[Oi ab,Y q,Y e,bP v] w (ZP w ab V (H (O (I lb 0)) nl cl) aI nl (iT R q e v) R.made):=by
 obtain⟨i0,hi,je,mU,sT⟩:=rN Mr;have yi:Below w.heap.size w (w.alloc (Xe #[.int .u64 v.key,Y (v.tg 0),Y (v.tg 1),Y (v.tg 2),Y (v.tg 3)] 118)):=(aZ _ w).alloc (aL _) _;have El:=aH.new w 118 #[.int .u64 v.key,Y (v.tg 0),Y (v.tg 1),Y (v.tg 2),Y (v.tg 3)];have xf:=h.later yi;have HI:=Z (Ml xf hq he);have Iv:=Z xf;have fM:=Z yi;have xh:=Z El;have HL:=Z (λ(wx:ek) (nb cn:Nat) (hx:eK wx ab nb cn lb cl aI nl (kT (sR R eB) R.made v))=>Iu hx (n:=R.made) (by show R.made<R.made+1;omega) hq he (by rcases ed with h1|⟨k,h1,h2,h3⟩;exact .inl h1;exact .inr ⟨k,h1,by show k<R.made+1;omega,h3⟩) (by show R.dz q<=_;exact hc) (by show R.made+1<=_;omega) kQ);have HP:=Z (show iT R q e v={gd (kT (sR R eB) R.made v) R.made q e with used:=R.used+1}by unfold iT;rw[aE uA,aE uA]);have HUS:=Z (show(gd (kT (sR R eB) R.made v) R.made q e).used=R.used from rfl);obtain⟨a0,a1,-,a3,a4⟩:=xf.head.c5;have ia:=h.nodes.val;have fS:V.ownBlock≠O ab:=h.nb;have dR:∀b,V.ownBlock=O b->b<w.heap.size:=λb X=>(gW h.nodes b X).2;have s_:=h.vl;have SZ:=h.lb;have C2:∀u∈tS,u.oneCell'=true:=by decide
 have C3:R.made+1<=maxLen:=by unfold maxLen;omega
 have C4:(R.made+1)*64<=140737488355328:=G;have HC2:=Z C2;have HC3:=Z C3;have HC4:=Z C4;clear h xf yi El ed hc C2 C3 C4;unfold bP;obtain⟨w1,kI⟩:∃w1,w1=w.alloc (Xe #[.int .u64 v.key,Y (v.tg 0),Y (v.tg 1),Y (v.tg 2),Y (v.tg 3)] 118):=⟨_,rfl⟩;rw[<-kI]at HI Iv fM xh a0 a1 a3 a4;generalize T4:R.dA=Pt at*;have HFD:=Z T4;clear T4;have bt:((R.used:Int)==(aI:Int))=false:=by simp;omega
 have PG:=Z ia;have dS:=Z fS;have fR:=Z dR;have mM:=Z s_;have HLB:=Z SZ;clear ia fS dR s_ SZ;have hlen:=ID PG.o;go_enter func306,ntmps306;go_wp2_with fail;rw[<-kI];clear kI;generalize gP:w.heap.size=bx at xh ⊢;refine HI.o.mono ?_;rintro r w' ⟨rfl,rfl⟩;go_wp2;go_region;obtain⟨w2,tQ⟩:∃w2,w2=w1.drew:=⟨_,rfl⟩;rw[<-tQ];have nN:Hid (sY w2 ab V (H (O (I lb 0)) nl cl) aI nl R):=by rw[tQ];exact Z (Iv.o.drewN 1)
 have E6:Hid (aC [] w w2):=by rw[tQ];exact Z ((aC.ai fM.o).drew)
 have um:Hid (aH w2 bx 118 #[.int .u64 v.key,Y (v.tg 0),Y (v.tg 1),Y (v.tg 2),Y (v.tg 3)]):=by rw[tQ];exact xh.o
 have yj:Hid (w1.heap.size=w2.heap.size):=by rw[tQ];exact Z rfl
 have b1:Xf w2 (I ab 1)=O V:=nN.o.head.cell 1;have b3:Xf w2 (I ab 3)=O (Y Pt):=by rw[<-HFD.o];exact nN.o.head.cell 3
 have lab:=nN.o.head.lt;clear a0 a1 a3 a4 tQ Iv fM xh HI;have NS:(w2.alloc (Xe #[.int .u64 0,Y 0,Y 0,Y 0,Y 0,Y 0,Y 0,Y 0] 202)).heap.size=w2.heap.size+1:=by simp
 have sE:=Z NS;clear NS;go_wp2_with ((at_builtin;refine wpList_append_lies _ rfl _ _ 189 rfl 0 202 i0 (.agg #[.int .u64 0,Y 0,Y 0,Y 0,Y 0,Y 0,Y 0,Y 0]) 8 64 underlying189 hi je mU sT rfl bz V _ _ rfl ((nN.o.nodes).alloc _) (I w2.heap.size 0) 1 1 tS rfl rfl (jf.ji _ tS _ _ rfl) HC2.o bz HC3.o HC4.o (ck _) _ sE.o ?_;intro g cap w4 gT gX rP BV;obtain⟨j1,j2,j3,j4,j5,j6⟩:=appended nN.o gT gX rP;have J3:=Z j3;have J4:=Z j4;have J5:=Z j5;have J6:=Z j6;clear gT gX rP j3 j4 j5 j6));obtain⟨w5,hw5⟩:∃w5,w5=w4.setCell (I ab 1) (H (O (I g 0)) (R.made+1) cap):=⟨_,rfl⟩;rw[<-hw5]at J3 J4 ⊢;have hX5:eK w5 ab g cap lb cl aI nl (sR R eB):=⟨J4.o,Nat.succ_pos _⟩;have T5:bx∉bL ab V (H (O (I lb 0)) nl cl):=by have e1:=nN.o.head.ne um.o bz;have e2:=nN.o.nodes.fx um.o bz;have e3:=nN.o.lists.fx um.o bz;simp[bL,Value.ownBlock]at e2 e3 ⊢;refine⟨λe=>e1 e.symm,e2,λe=>e3 e.symm⟩
 have hR5:=um.o.aG J3.o T5;have PH:=Z ((E6.o.mono (T:=bL ab V (H (O (I lb 0)) nl cl)) az).trans J3.o);have HG:Hid (V.ownBlock=O g\/w.heap.size<=g):=Z (by rcases J5.o with h1|h1;exact .inl h1;exact .inr (by have:=E6.o.size;omega));have HX5:=Z hX5;obtain⟨d1,d2,d3⟩:=hX5.ne;have hn5:R.made<(sR R eB).made:=Nat.lt_succ_self _;obtain⟨a1,a3,a4,k0,k1,k2,k3,k4,b5,b6,b7,fn,fa⟩:=hX5.facts hn5;obtain⟨g0,g1,g2,g3,g4,gf⟩:=kV hR5;have Oo:bx≠ab/\bx≠g/\bx≠lb:=hX5.apart hR5;have Fg:(sR R eB).made=R.made+1:=rfl;rw[Fg]at a1;clear Fg a3 a4 hw5 hX5 T5 hR5 hn5 j1 j2 b1 b3 J3 J4 J5 J6 nN E6 um yj sE PG dS fR mM HLB hlen lab;go_region;go_wp2_with fail;have hx6:eK ((dT w5 g (R.made*8) v).drewN 1) ab g cap lb cl aI nl (kT (sR R eB) R.made v):=(HX5.o.C_ (n:=R.made) (Nat.lt_succ_self _) v).drewN 1;have Oq:Hid (aC [g] w5 ((dT w5 g (R.made*8) v).drewN 1)):=Z ((gH (b:=g) (aC.refl [g] w5) az (R.made*8) v).drewN 1);have HC:=Z (HL.o _ _ _ hx6);clear hx6;refine HC.o.mono ?_;rintro r w7 ⟨rfl,F7,X7⟩;have c4:=X7.h4;rw[HUS.o]at c4;have c4f:=X7.fa;have HX7:=Z X7;have S2:=Z F7;clear X7 F7 HL HC;go_wp2;go_ret2;refine⟨rfl,H (O (I g 0)) (R.made+1) cap,?_,?_,?_⟩
 ·rw[HP.o];exact(HX7.o.CZ (R.used+1)).c
 ·have f1:aC (g::bL ab V (H (O (I lb 0)) nl cl)) w _:=(((PH.o.mono (by intro k hk;simp[hk])).trans (Oq.o.mono (by intro k hk;simp at hk;simp[hk]))).trans (S2.o.mono (by intro k hk;simp[bL,Value.ownBlock]at hk ⊢;rcases hk with rfl|rfl|rfl<;>simp))).setCell (p:=(I ab 4)) (by simp[bL]) (Y (R.used+1));refine f1.Pp λk hk=>?_;rcases List.mem_cons.1 hk with rfl|hk
  ·rcases HG.o with h1|h1
   ·left;simp[bL,h1]
   ·exact .inr h1
  ·exact .inl hk
 ·intro b X;have:g=b:=by simpa[Value.ownBlock]using X
  subst this;exact HG.o
def cw(w:ek)(ab:Nat)(V L:to)(aI nl:Nat)(a:Nd):Prop:=∃R A,sY w ab V L aI nl R/\uv nl R A Xb/\abs A=a/\R.made<=aI
def ZQ{l:List Nat}{n m:Nat}(sQ:l.Nodup)(h:nw l n=(m:Int)):m≠n:=by
 induction l with
 |nil=>simp[nw]at h
 |cons a t ih=>
  have h2:=List.nodup_cons.1 sQ;unfold nw at h;split at h
  ·next e=>
   subst e;cases t with
   |nil=>simp[hd]at h
   |cons b t=>simp[hd]at h;intro e;subst e;have:b=m:=G;subst this;exact h2.1 az
  ·exact ih h2.2 h
section
variable {nl:Nat}{R:Raw}{A:Ar}
def BW(h:uv nl R A Xb){q n e:Nat}(hq:q<nl)(hn:n∈A.ls q)(he:e<=1):rJ R n e:=by
 unfold rJ;rw[h.bY q n e hq hn he];rcases Zd (dir e (A.ls q)) n with h1|h1
 ·left;omega
 ·right;obtain⟨m,hm⟩:=eS h1;have gg:=Ke hm;rw[jP]at gg;exact⟨m,hm,by rw[h.made];exact h.AU q m hq gg,ZQ (nK.2 (h.nd q hq)) hm⟩
def IE(h:uv nl R A Xb){q:Nat}(hq:q<nl):(A.ls q).length<=R.used:=by rw[h.used];exact ED (f:=λq=>(A.ls q).length) hq
def Df(h:uv nl R A Xb):R.used+A.fr.length=R.made:=by have:=h.Zc;simp at this;rw[h.made];exact this
def PI(h:uv nl R A Xb)(hm:R.made<=4194304)(kQ:nl<=256){q n:Nat}(hq:q<nl)(hn:n∈A.ls q):Rm R nl n q:=by have h1:=IE h hq;have h2:=Df h;have h3:=EI hn;have h4:=h.dz q hq;exact⟨by rw[h.made];exact h.AU q n hq hn,hq,h.own q n hq hn,BW h hq hn G,BW h hq hn G,G,G,hm,kQ,G,G⟩
def yk(h:uv nl R A Xb){q e:Nat}(hq:q<nl)(he:e<=1):R.ends q e<0/\A.ls q=[]\/∃k:Nat,R.ends q e=(k:Int)/\k∈A.ls q/\k=cS (abs A) q e:=by
 rw[h.ends q e hq he];unfold cS;show _\/∃k:Nat,_/\_/\k=(hd (dir (1-e) (A.ls q))).toNat;cases hh:dir (1-e) (A.ls q)with
 |nil=>
  left;refine⟨by simp[hd],?_⟩;cases hl:A.ls q with
  |nil=>rfl
  |cons x t=>
   have:x∈dir (1-e) (A.ls q):=by rw[jP,hl];simp
   rw[hh]at this;simp at this
 |cons x t=>right;refine⟨x,rfl,?_,by simp[hd]⟩;rw[<-jP (1-e),hh];simp
variable {w:ek}{ab aI:Nat}{V L:to}{a:Nd}
def cw.aG{S:List Nat}{w':ek}(h:cw w ab V L aI nl a)(f:aC S w w')(hs:∀b,b∈bL ab V L->b∉S):cw w' ab V L aI nl a:=by obtain⟨R,A,hC,hR,hA,hm⟩:=h;exact⟨R,A,hC.aG f hs,hR,hA,hm⟩
def cw.later{w':ek}(h:cw w ab V L aI nl a)(b:Below w.heap.size w w'):cw w' ab V L aI nl a:=by obtain⟨R,A,hC,hR,hA,hm⟩:=h;exact⟨R,A,hC.later b,hR,hA,hm⟩
def cw.drewN(h:cw w ab V L aI nl a)(n:Nat):cw (w.drewN n) ab V L aI nl a:=by obtain⟨R,A,hC,hR,hA,hm⟩:=h;exact⟨R,A,hC.drewN n,hR,hA,hm⟩
def cw.lt(h:cw w ab V L aI nl a):∀b,b∈bL ab V L->b<w.heap.size:=by
 obtain⟨R,A,hC,hR,hA,hm⟩:=h;intro b X;simp[bL]at X;rcases X with rfl|X|X
 ·exact hC.head.lt
 ·exact(gW hC.nodes b X).2
 ·exact(gW hC.lists b X).2
def zn(h:cw w ab V L aI nl a){q:Nat}(hq:q<nl):Calls prog 204 #[Oi ab,Y q] w λr w'=>r=Xc (Y (a.ls q).length)/\w=w':=by obtain⟨R,A,hC,hR,rfl,hm⟩:=h;have:=mf hC hq;rw[hR.dz q hq]at this;exact this
def BX(h:cw w ab V L aI nl a){q e:Nat}(hq:q<nl)(he:e<=1)(bt:a.ls q≠[]):Calls prog 134 #[Oi ab,Y q,Y e] w λr w'=>r=Xc (.tuple #[Y (cS a q e),.bool true])/\w=w':=by
 obtain⟨R,A,hC,hR,rfl,hm⟩:=h;have:=Ps hC hq he;rcases yk hR hq he with⟨_,h1⟩|⟨k,h1,h2,h3⟩
 ·exact absurd h1 bt
 ·rw[BR h1,h3]at this;exact this
def BY(h:cw w ab V L aI nl a){q e:Nat}(hq:q<nl)(he:e<=1)(bt:a.ls q=[]):Calls prog 134 #[Oi ab,Y q,Y e] w λr w'=>r=Xc (.tuple #[Y 0,.bool false])/\w=w':=by
 obtain⟨R,A,hC,hR,rfl,hm⟩:=h;have:=Ps hC hq he;rcases yk hR hq he with⟨h1,_⟩|⟨k,h1,h2,h3⟩
 ·rw[BS h1]at this;exact this
 ·exfalso;have bt:A.ls q=[]:=bt;rw[bt]at h2;simp at h2
def IF(h:cw w ab V L aI nl a){q n e:Nat}(hq:q<nl)(hn:n∈a.ls q)(he:e<=1):Calls prog 135 #[Oi ab,Y n,Y e] w λr w'=>r=Xc (eY (nw (dir e (a.ls q)) n))/\w=w':=by obtain⟨R,A,hC,hR,rfl,hm⟩:=h;have h1:n∈A.ls q:=hn;have:=ZJ hC (n:=n) (by rw[hR.made];exact hR.AU q n hq h1) (by rw[hR.own q n hq h1];omega) hm he;rw[hR.bY q n e hq h1 he]at this;exact this
def PJ(h:cw w ab V L aI nl a){q n:Nat}(hq:q<nl)(hn:n∈a.ls q):Calls prog 208 #[Oi ab,Y n] w λr w'=>r=Xc (.tuple #[bP (a.val n),Y 0])/\Below w.heap.size w w':=by obtain⟨R,A,hC,hR,rfl,hm⟩:=h;have h1:n∈A.ls q:=hn;have:=BP hC (n:=n) (by rw[hR.made];exact hR.AU q n hq h1) (by rw[hR.own q n hq h1];omega) hm;rw[hR.val]at this;exact this
def Dg(h:cw w ab V L aI nl a){q n:Nat}(hq:q<nl)(hn:n∈a.ls q):Calls prog 60 #[Oi ab,Y n] w λr w'=>r=Xc (.tuple #[Y q,.bool true])/\w=w':=by obtain⟨R,A,hC,hR,rfl,hm⟩:=h;have h1:n∈A.ls q:=hn;have:=ZI hC (n:=n) (by rw[hR.made];exact hR.AU q n hq h1) (by rw[hR.own q n hq h1];omega) hm;rw[hR.own q n hq h1]at this;exact this
def vX{R:Raw}(h:sY w ab V L aI nl R){n q:Nat}(hn:n<R.made)(hq:q<nl):∃nb cn lb cl,V=H (O (I nb 0)) R.made cn/\L=H (O (I lb 0)) nl cl/\eK w ab nb cn lb cl aI nl R:=by obtain⟨nb,cn,rfl⟩:=rL h hn;obtain⟨lb,cl,rfl⟩:=rK h hq;exact⟨nb,cn,lb,cl,rfl,rfl,h,G⟩
def XA(h:cw w ab V L aI nl a){q n:Nat}(hq:q<nl)(hn:n∈a.ls q)(x:eW):Calls prog 268 #[Oi ab,Y n,bP x] w λr w'=>r=Xc (Y 0)/\aC (bL ab V L) w w'/\cw w' ab V L aI nl (LV a n x):=by
 obtain⟨R,A,hC,hR,rfl,hm⟩:=h;have h1:n∈A.ls q:=hn;have be:n<R.made:=by rw[hR.made];exact hR.AU q n hq h1
 obtain⟨nb,cn,lb,cl,rfl,rfl,hX⟩:=vX hC be hq;refine(Pr hX be (by rw[hR.own q n hq h1];omega) hm x).mono ?_;rintro r w' ⟨rfl,f,x'⟩;exact⟨rfl,f,_,_,x'.c,CH hR n x,rfl,hm⟩
def XB{p:Prop}(h:p:=by
 refine⟨by rw[hR.val];rfl,f,_,A',?_,ZR,Ms,by rw[O3];exact hm⟩;have:=x'.c;rw[O3]at this;exact this):p:=h
def QE(h:cw w ab V L aI nl a)(pS:aI<=4194304)(kQ:nl<=256){q e:Nat}(hq:q<nl)(he:e<=1)(bt:a.ls q≠[]):Calls prog 308 #[Oi ab,Y q,Y e] w λr w'=>r=Xc (.tuple #[bP (a.val (cS a q e)),Y 0])/\aC (bL ab V L) w w'/\cw w' ab V L aI nl (takeN a q (cS a q e)):=by
 obtain⟨R,A,hC,hR,rfl,hm⟩:=h;rcases yk hR hq he with⟨_,h1⟩|⟨k,h1,h2,h3⟩
 ·exact absurd h1 bt
 ·rw[<-h3];have r:=PI hR G kQ hq h2;obtain⟨nb,cn,lb,cl,rfl,rfl,hX⟩:=vX hC r.hn hq;obtain⟨A',ZR,Ms⟩:=EG hR hq h2;refine(zh hX r he h1).mono ?_;rintro r' w' ⟨rfl,f,x'⟩;have O3:(lT R k).made=R.made:=(mu R k).2.1;exact XB
def Fh(h:cw w ab V L aI nl a)(pS:aI<=4194304)(kQ:nl<=256){q n:Nat}(hq:q<nl)(hn:n∈a.ls q):Calls prog 67 #[Oi ab,Y n] w λr w'=>r=Xc (.tuple #[bP (a.val n),Y 0])/\aC (bL ab V L) w w'/\cw w' ab V L aI nl (takeN a q n):=by obtain⟨R,A,hC,hR,rfl,hm⟩:=h;have h2:n∈A.ls q:=hn;have r:=PI hR G kQ hq h2;obtain⟨nb,cn,lb,cl,rfl,rfl,hX⟩:=vX hC r.hn hq;obtain⟨A',ZR,Ms⟩:=EG hR hq h2;refine(Pw hX r hm).mono ?_;rintro r' w' ⟨rfl,f,x'⟩;have O3:(lT R n).made=R.made:=(mu R n).2.1;exact XB
def ZS(h:cw w ab V L aI nl a)(pS:aI<=4194304)(kQ:nl<=256){q n e:Nat}(hq:q<nl)(hn:n∈a.ls q)(he:e<=1):Calls prog 274 #[Oi ab,Y n,Y q,Y e] w λr w'=>r=Xc (Y 0)/\aC (bL ab V L) w w'/\cw w' ab V L aI nl (pJ a n q e):=by
 obtain⟨R,A,hC,hR,rfl,hm⟩:=h;have h2:n∈A.ls q:=hn;have r:=PI hR G kQ hq h2;obtain⟨nb,cn,lb,cl,rfl,rfl,hX⟩:=vX hC r.hn hq;obtain⟨A',ZR,Ms⟩:=O4 hR hq h2 he;obtain⟨hcut,_⟩:=CG hR hq h2;have pE:∀k,k∈(tJ A n q).ls q->k∈A.ls q/\k≠n:=by intro k hk;have hk:k∈aS A.ls q ((A.ls q).erase n) q:=hk;rw[aw]at hk;exact⟨List.mem_of_mem_erase hk,λe=>by subst e;exact(hR.nd q hq).not_mem_erase hk⟩
 have ed:(dB R n).ends q e<0\/∃m:Nat,(dB R n).ends q e=(m:Int)/\m<R.made/\m≠n:=by
  have:=hcut.ends q e hq he;have this:(dB R n).ends q e=_:=this;rw[this];cases hh:dir (1-e) ((tJ A n q).ls q)with
  |nil=>left;simp[hd]
  |cons x t=>
   right;have hx:x∈(tJ A n q).ls q:=by rw[<-jP (1-e),hh];simp
   obtain⟨h3,h4⟩:=pE x hx;exact⟨x,rfl,by rw[hR.made];exact hR.AU q x hq h3,h4⟩
 have hc:(dB R n).dz q<=4194304:=by
  have h5:(dB R n).dz q=_:=hcut.dz q hq;have h6:((tJ A n q).ls q).length=(A.ls q).length-1:=by show(aS A.ls q ((A.ls q).erase n) q).length=_;rw[aw,Bx h2]
  have:=r.hc;have:=hR.dz q hq;omega
 refine(ZM hX r hm hq he ed hc).mono ?_;rintro r' w' ⟨rfl,f,x'⟩;have O3:(su R n q e).made=R.made:=(mu R n).2.1;refine⟨rfl,f,_,A',?_,ZR,Ms,by rw[O3];exact hm⟩;have:=x'.c;rw[O3]at this;exact this
def T7(w:ek)(ab:Nat)(V L:to)(aI nl:Nat)(a':Nd)(n:Nat)(r:Ending)(w':ek):Prop:=
 r=Xc (.tuple #[Y n,Y 0])/\∃V',cw w' ab V' L aI nl a'/\aC (bL ab V L) w w'/\∀b,V'.ownBlock=O b->V.ownBlock=O b\/w.heap.size<=b
def ZT(h:cw w ab V L aI nl a)(pS:aI<=4194304)(kQ:nl<=256){q e:Nat}(hq:q<nl)(he:e<=1)(x:eW)(n_:(cR nl λq=>(a.ls q).length)<aI):
 Calls prog 306 #[Oi ab,Y q,Y e,bP x] w (T7 w ab V L aI nl (iF a q e x) (a.fs 0)):=by
 obtain⟨R,A,hC,hR,rfl,hm⟩:=h;have Xg:R.used<aI:=by rw[hR.used];exact n_
 have hul:=Df hR;obtain⟨A',ZR,Ms,Hb⟩:=O1 hR hq he x;have Mt:=IE hR hq;have SY:=hR.dz q hq;have ed:∀n,(n∈A.fr\/n=A.made)->R.ends q e<0\/∃k:Nat,R.ends q e=(k:Int)/\k<R.made/\k≠n:=by
  intro n hn;rcases yk hR hq he with⟨h1,_⟩|⟨k,h1,h2,_⟩
  ·exact .inl h1
  ·refine .inr ⟨k,h1,by rw[hR.made];exact hR.AU q k hq h2,?_⟩;intro e';subst e';rcases hn with hn|hn
   ·exact hR.uw hq h2 hn
   ·have:=hR.AU q k hq h2;omega
 cases hf:A.fr with
 |nil=>
  have ny:R.dA<0:=by rw[hR.AL,hf];decide
  rw[hf]at hul;simp at hul;rw[aE ny]at Hb;obtain⟨lb,cl,rfl⟩:=rK hC hq;refine(PF hC x hq he ny Xg (by have:=ed A.made (.inr rfl);rw[<-hR.made]at this;exact this) G G pS kQ).mono ?_;rintro r w' ⟨rfl,V',hV,f,X⟩;refine⟨by rw[Hb],V',⟨_,A',hV,ZR,Ms,?_⟩,f,X⟩;unfold iT;rw[aE ny,aE ny];show R.made+1<=aI;omega
 |cons m t=>
  have R5:R.dA=(m:Int):=by rw[hR.AL,hf];rfl
  have gg:m∈A.fr:=by rw[hf];simp
  have be:m<R.made:=by rw[hR.made];exact hR.OP m gg
  rw[ax G,R5,Int.toNat_natCast]at Hb;obtain⟨nb,cn,lb,cl,rfl,rfl,hX⟩:=vX hC be hq;refine(PD hX x hq he R5 be Xg (ed m (.inl gg)) G hm pS kQ).mono ?_;rintro r w' ⟨rfl,f,x'⟩;have O3:(iT R q e x).made=R.made:=by unfold iT;rw[ax G,ax G];rfl
  refine⟨by rw[Hb],_,⟨_,A',?_,ZR,Ms,by rw[O3];exact hm⟩,f,λb X=> .inl X⟩;have:=x'.c;rw[O3]at this;exact this
def Mu:(prog.info? 194).map (λi=>(i.zero,i.size,i.bytes))=O (O (.agg #[Y 0,Y 0,Y 0]),3,24):=by kernel_rfl
def gL(i o:Nat):to:=if o / 3<i/\o % 3<2 then Y (-1)else Y 0
def PK:Raw:={made:=0,dA:= -1,used:=0,val:=λ_=>eB,own:=λ_=>0,bY:=λ_ _=>0,ends:=λ_ _=> -1,dz:=λ_=>0}
def Dh:Nd:=⟨λ_=>[],λ_=>eB,λi=>i⟩
def zp(n:Nat):(cR n λ_=>0)=0:=by
 induction n with
 |zero=>rfl
 |succ n ih=>show cR n _+0=0;rw[ih]
def Mw(nl:Nat):uv nl PK {made:=0,fr:=[],ls:=λ_=>[],val:=λ_=>eB} Xb:=
 ⟨rfl,rfl,λ_ _=>List.Pairwise.nil,List.Pairwise.nil,λ_ _ _ h=>by simp at h,λ_ h=>by simp at h,λ_ _ _ h=>by simp at h,λ_ h=>by simp at h,λn h=>by simp at h,λ_ h=>by simp at h,
   λ_ _ _ _ h=>by simp at h,λq e _ he=>by show(-1:Int)=hd (dir (1-e) []);rw[Tv];rfl,λ_ _=>rfl,rfl,λ_ h=>by simp at h,(zp nl).symm,rfl⟩
def My:abs {made:=0,fr:=[],ls:=λ_=>[],val:=λ_=>eB}=Dh:=by refine Nd.ext rfl rfl ?_;funext i;show 0+i=i;omega
def T8(nl:Nat):∀o,o<nl*3->gL nl o=oX PK o:=by
 intro o ho;unfold gL oX;by_cases h:o % 3<2
 ·rw[aE ⟨G,h⟩,aE h];rfl
 ·rw[ax (λh'=>h h'.2),ax h];rfl
def T9(i:Nat):(λo=>if o=i*3+1 then Y (-1)else if o=i*3 then Y (-1)else gL i o)=gL (i+1):=by
 funext o;unfold gL;by_cases h1:o=i*3+1
 ·rw[aE h1,aE ⟨G,G⟩]
 ·rw[ax h1];by_cases h2:o=i*3
  ·rw[aE h2,aE ⟨G,G⟩]
  ·rw[ax h2];by_cases h3:o / 3<i/\o % 3<2
   ·rw[aE h3,aE ⟨G,h3.2⟩]
   ·rw[ax h3,ax G]
structure Mk(w wr:ek)(aI nl i:Nat):Prop where
 head:aH wr (w.heap.size+1) 191 #[Y aI,Xd,H (O (I w.heap.size 0)) nl nl,Y (-1),Y 0]
 row:Row wr 194 3 (H (O (I w.heap.size 0)) nl nl) nl (gL i)
 aG:aC [] w wr
def Mk.next{w wr:ek}{aI nl i:Nat}(h:Mk w wr aI nl i)(hi:i<nl):Mk w ((wr.setCell (I w.heap.size (i*3)) (Y (-1))).setCell (I w.heap.size (i*3+1)) (Y (-1))) aI nl (i+1):=by have h1:=(h.row.set (o:=i*3) G (Y (-1))).set (o:=i*3+1) G (Y (-1));rw[T9]at h1;exact⟨(h.head.other G _ _).other G _ _,h1,(h.aG.tP az _).tP az _⟩
def Fi(aI nl:Nat)(w:ek)(hm:aI<=4194304)(kQ:nl<=256):
 Calls prog 56 #[Y aI,Y nl] w λe w'=>e=Xc (.tuple #[Oi (w.heap.size+1),Y 0])/\aC [] w w'/\
  cw w' (w.heap.size+1) Xd (H (O (I w.heap.size 0)) nl nl) aI nl Dh:=by
 obtain⟨i0,hi,je,mU,sT⟩:=rN Mu;have hmk:∀(n:Nat) (wx:ek),n<=256->(Instr.makeSlice 188 (Y n) (Y n)).run prog wx= .ok (H (O (I wx.heap.size 0)) n n) (wx.alloc (Xe (madeCells #[Y 0,Y 0,Y 0] (n*3)) 194)):=by intro n wx hn;have:=run_make (P:=prog) wx 188 194 i0 _ underlying188 hi je .i64 .i64 n n G G (by rw[sT];omega) G;rw[mU]at this;exact this
 have Gm:=hmk nl w kQ;have HM0:Hid (Mk w ((w.alloc (Xe (madeCells #[Y 0,Y 0,Y 0] (nl*3)) 194)).alloc (Xe #[Y aI,Xd,H (O (I w.heap.size 0)) nl nl,Y (-1),Y 0] 191)) aI nl 0):=by
  have b1:=aH.new w 194 (madeCells #[Y 0,Y 0,Y 0] (nl*3));have b2:=aH.new (w.alloc (Xe (madeCells #[Y 0,Y 0,Y 0] (nl*3)) 194)) 191 #[Y aI,Xd,H (O (I w.heap.size 0)) nl nl,Y (-1),Y 0];rw[aO]at b2;refine⟨b2,Row.made (b1.alloc _) (by simp[madeCells]) (by unfold maxLen;omega) λo ho=>?_,((aC.refl [] w).alloc _).alloc _⟩;have hq:o=(o / 3)*3+o % 3:=G;obtain⟨m0,m1,m2⟩:=jS (Y 0) (Y 0) (Y 0) nl (o / 3) G;have h0:gL 0 o=Y 0:=by unfold gL;rw[ax G]
  rw[h0,hq];have hr:o % 3=0\/o % 3=1\/o % 3=2:=G;rcases hr with hr|hr|hr<;>rw[hr]
  ·exact m0
  ·exact m1
  ·exact m2
 clear hmk hi je mU sT;have t1:decide ((aI:Int)<0)=false:=by simp
 have t2:decide ((4194304:Int)<(aI:Int))=false:=by simp;omega
 have t3:decide ((nl:Int)<0)=false:=by simp
 have t4:decide ((256:Int)<(nl:Int))=false:=by simp;omega
 go_enter func56,ntmps56;go_wp2
 go_loopg [32] nl (λf s32 wr=>∃i:Nat,s32=Y i/\i+f=nl/\Hid (Mk w wr aI nl i))
 case atStart=>exact⟨0,rfl,G,HM0⟩
 case round=>
  clear HM0 Gm;obtain⟨i,rfl,hif,a0g⟩:=hrel;by_cases be:i<nl
  ·have c2:Xf wr (I (w.heap.size+1) 2)=O (H (O (I w.heap.size 0)) nl nl):=a0g.o.head.cell 2;have c0:=a0g.o.row.cell (o:=i*3) G;have c1:=a0g.o.row.cell (o:=i*3+1) G;have cf:=a0g.o.row.frozen;have HN:=Z (a0g.o.next be);have bt:w.heap.size+1≠w.heap.size:=G;clear a0g;generalize gL i (i*3)=x0 at*;generalize gL i (i*3+1)=x1 at*;go_wp2
   go_roundg (gk-1)
   case measure=>omega
   case rel=>exact⟨i+1,by go_num,G,HN⟩
  ·have hi:i=nl:=G;subst hi;clear be;go_wp2;go_ret2;refine⟨rfl,a0g.o.aG,_,_,⟨a0g.o.head,?_,a0g.o.row.congr (T8 i)⟩,Mw i,My,ck _⟩;exact Row.nil _ _ _ _
def xP(x:Nat×eW):List to:=[Y x.1,.int .u64 x.2.key,Y (x.2.tg 0),Y (x.2.tg 1),Y (x.2.tg 2),Y (x.2.tg 3)]
def tf(l:List (Nat×eW)):List to:=l.flatMap xP
def rowsOf(a:Nd)(l:List Nat):List (Nat×eW):=l.map λn=>(n,a.val n)
def Di(a b:List (Nat×eW)):tf (a++b)=tf a++tf b:=by simp[tf]
def Fj(a:Nd)(l:List Nat)(n:Nat):rowsOf a (l++[n])=rowsOf a l++[(n,a.val n)]:=by simp[rowsOf]
def lY(a:Nd)(l:List Nat):(rowsOf a l).length=l.length:=by simp[rowsOf]
def uR:(prog.info? 206).map (λi=>(i.zero,i.size,i.bytes))=O (O (.agg #[Y 0,.int .u64 0,Y 0,Y 0,Y 0,Y 0]),6,48):=by kernel_rfl
def cw.node(h:cw w ab V L aI nl a){q n:Nat}(hq:q<nl)(hn:n∈a.ls q):∃nb cn m,Xf w (I ab 1)=O (H (O (I nb 0)) m cn)/\n<m/\m<=aI/\
 Xf w (I nb (n*8))=O (.int .u64 (a.val n).key)/\Xf w (I nb (n*8+1))=O (Y ((a.val n).tg 0))/\Xf w (I nb (n*8+2))=O (Y ((a.val n).tg 1))/\
 Xf w (I nb (n*8+3))=O (Y ((a.val n).tg 2))/\Xf w (I nb (n*8+4))=O (Y ((a.val n).tg 3)):=by
 obtain⟨R,A,hC,hR,rfl,hm⟩:=h;have h2:n∈A.ls q:=hn;have be:n<R.made:=by rw[hR.made];exact hR.AU q n hq h2
 obtain⟨nb,cn,lb,cl,rfl,rfl,hX⟩:=vX hC be hq;obtain⟨k0,k1,k2,k3,k4⟩:=hX.aW be;rw[hR.val]at k0 k1 k2 k3 k4;exact⟨nb,cn,R.made,hX.h1,be,hm,k0,k1,k2,k3,k4⟩
def cw.uS(h:cw w ab V L aI nl a){q:Nat}(hq:q<nl):(a.ls q).length<=aI/\(a.ls q).Nodup:=by obtain⟨R,A,hC,hR,rfl,hm⟩:=h;have h1:=IE hR hq;have h2:=Df hR;have h3:(A.ls q).length<=aI:=G;exact⟨h3,hR.nd q hq⟩
structure Fk(w wr:ek)(a:Nd)(l pre:List Nat)(lv:to):Prop where
 box:Boxed wr w.heap.size 203 lv
 own:wr.ownsRow w.heap.size 206 6 lv pre.length (tf (rowsOf a pre))
 uo:Below w.heap.size w wr
 nil:pre=[]->lv=Xd
def XC(h:cw w ab V L aI nl a)(pS:aI<=4194304){q:Nat}(hq:q<nl):
 Calls prog 64 #[Oi ab,Y q,Y 0] w λr w'=>r=Xc (.func (.func 136) #[] #[Oi w.heap.size])/\∃lv,Fk w w' a (a.ls q) (a.ls q) lv:=by
 obtain⟨i0,hi,je,mU,sT⟩:=rN uR;obtain⟨hlen,iE⟩:=h.uS hq;have yi:Below w.heap.size w (w.alloc (Xe #[Xd] 203)):=(aZ _ w).alloc (aL _) _;have H0:=Z (h.later yi);have HA:=Z h;have af8:=h.lt ab (by simp[bL]);have fM:=Z yi;have Ot:=Z iE;have HS0:Hid (Fk w (w.alloc (Xe #[Xd] 203)) a (a.ls q) [] Xd):=Z ⟨Boxed.new _ _ _,World.ownsRow_nil ..,yi,λ_=>rfl⟩;have HPS:=Z (λ(bt:a.ls q≠[])=>BX H0.o hq (e:=0) G bt);have HPN:=Z (λ(bt:a.ls q=[])=>BY H0.o hq (e:=0) G bt);have zq:=Z (λ(wx:ek) (hx:cw wx ab V L aI nl a) (n:Nat) (hn:n∈a.ls q)=>IF hx hq hn (e:=1) G);clear h yi iE;have key:∀(n0:Nat) (ok0:Bool),(ok0=true->∃rest,a.ls q=n0::rest)->(ok0=false->a.ls q=[])->
  Calls prog 134 #[Oi ab,Y q,Y 0] (w.alloc (Xe #[Xd] 203)) (λr w'=>r=Xc (.tuple #[Y n0,.bool ok0])/\w.alloc (Xe #[Xd] 203)=w')->
  Calls prog 64 #[Oi ab,Y q,Y 0] w λr w'=>r=Xc (.func (.func 136) #[] #[Oi w.heap.size])/\∃lv,Fk w w' a (a.ls q) (a.ls q) lv:=by
  intro n0 ok0 h1 h2 ZA;have HPK:=Z ZA;have Ou:=Z h1;have IG:=Z h2;clear ZA h1 h2;go_enter func64,ntmps64;go_wp2_with (go_at_call 134;refine HPK.o.mono ?_;rintro r w' ⟨rfl,rfl⟩);clear HPK
  go_loopg [8,9] (a.ls q).length (λf s8 s9 wr=>∃(n:Nat) (ok:Bool) (pre:List Nat) (lv:to),s8=Y n/\s9= .bool ok/\Hid (pre.length+f=(a.ls q).length)/\Hid (ok=true->∃rest,a.ls q=pre++n::rest)/\Hid (ok=false->a.ls q=pre)/\Hid (Fk w wr a (a.ls q) pre lv))
  case atStart=>exact⟨n0,ok0,[],Xd,rfl,rfl,Z az,Ou,Z (λe=>IG.o e),HS0⟩
  case round=>
   clear HS0 Ou IG HPS HPN H0 fM;obtain⟨n,ok,pre,lv,rfl,rfl,HF,H1,H2,a0g⟩:=hrel;have bc:=a0g.o.box.cell;have bf:=a0g.o.box.frozen;cases ok
   ·have hl:=H2.o rfl;go_wp2;go_ret;have h':=a0g.o;rw[hl]at h';exact⟨rfl,lv,h'⟩
   ·obtain⟨rest,hl⟩:=H1.o rfl;have hn:n∈a.ls q:=by rw[hl];simp
    have hr:cw wr ab V L aI nl a:=HA.o.later a0g.o.uo;obtain⟨nb,cn,m,c1,hnm,xN,k0,k1,k2,k3,k4⟩:=hr.node hq hn;have AM:nw (dir 1 (a.ls q)) n=hd rest:=by show nw (a.ls q) n=_;rw[hl];refine lR ?_ _;intro hm;have:=Ot.o;rw[hl]at this;exact(List.nodup_append.1 this).2.2 n hm n az rfl
    have xO:=a0g.o.box.lt;have hpl:pre.length+1<=(a.ls q).length:=by rw[hl];simp
    have C3:=Z (show pre.length+1<=maxLen by unfold maxLen;omega);have C4:=Z (show(pre.length+1)*48<=140737488355328 by omega);have C2:=Z (show∀u∈xP (n,a.val n),u.oneCell'=true by intro u hu;simp[xP]at hu;rcases hu with rfl|rfl|rfl|rfl|rfl|rfl<;>rfl);obtain⟨n1,ok1,uy,hq1,og⟩:∃(n1:Nat) (ok1:Bool),eY (hd rest)= .tuple #[Y n1,.bool ok1]/\(ok1=true->∃r2,a.ls q=(pre++[n])++n1::r2)/\(ok1=false->a.ls q=pre++[n]):=by
     cases rest with
     |nil=>exact⟨0,false,BS bz,(λe=>by cases e),λ_=>hl⟩
     |cons m' r2=>exact⟨m',true,BR rfl,(λ_=>⟨r2,by rw[hl];simp⟩),(λe=>by cases e)⟩
    have Kg:=λ(wx:ek) (hx:cw wx ab V L aI nl a)=>zq.o wx hx n hn;rw[AM,uy]at Kg;have S3:=Z Kg;have S4:=Z hq1;have HQ2:=Z og;clear uy hq1 og Kg;have HN:=Z hn;have HL:=Z hl;have HX:=Z AM;clear hn hl AM hr H1 H2;have HXD:=Z (show Boxed wr.drew w.heap.size 203 lv from a0g.o.box);have XD:=Z (show wr.drew.ownsRow w.heap.size 206 6 lv pre.length (tf (rowsOf a pre))from a0g.o.own);have nO:w.heap.size<=wr.heap.size:=a0g.o.uo.size;generalize hv:a.val n=v at*;have HV:=Z hv;clear hv;go_wp2
    go_region_law ((refine BZ _ rfl (.tmp 26) (.tmp 37) 203 rfl w.heap.size 206 i0 (.agg #[Y 0,.int .u64 0,Y 0,Y 0,Y 0,Y 0]) 6 48 underlying203 hi je mU sT rfl bz lv _ _ (by simp[Act.eval,Act.put]) (XD.o.alloc _) (I wr.heap.size 0) 1 1 (xP (n,v)) (by simp[Act.eval,Act.put]) rfl (jf.ji _ (xP (n,v)) _ _ az) C2.o bz C3.o C4.o kZ _ rfl ?_;intro g cap w1 gT gX rP BV;obtain⟨gz,SU,Xw,mL,dR⟩:=HXD.o.appended bz XD.o nO (aL _) gT gX;have qC:=gz.cell;have Oj:=gz.frozen;have On:=Z SU;have um:=Z Xw;have fR:=Z dR;clear gz SU Xw mL dR gT gX rP))
    all_goals
     have Ky:=(a0g.o.uo.trans (aA w.heap.size wr 1)).trans fR.o;have dS:=Z Ky;clear Ky;go_wp2_with fail;refine(S3.o _ (HA.o.later dS.o)).mono ?_;rintro r w' ⟨rfl,rfl⟩;have sE:Hid (Fk w (w1.setCell (I w.heap.size 0) (H (O (I g 0)) (pre.length+1) cap)) a (a.ls q) (pre++[n]) (H (O (I g 0)) (pre.length+1) cap)):=Z ⟨On.o,by rw[mT,Fj,Di,HV.o];exact um.o,dS.o,λe=>by simp at e⟩;go_wp2_with fail
     go_roundg (gk-1)
     case measure=>have:=HF.o;omega
     case rel=>exact⟨n1,ok1,pre++[n],_,rfl,rfl,Z (by have:=HF.o;simp;omega),S4,HQ2,sE⟩
 by_cases bt:a.ls q=[]
 ·exact key 0 false (λe=>by cases e) (λ_=>bt) (HPN.o bt)
 ·cases hl:a.ls q with
  |nil=>exact absurd hl bt
  |cons x t=>
   have hx:cS a q 0=x:=by unfold cS;show(hd (dir 1 (a.ls q))).toNat=x;rw[hl];rfl
   have:=HPS.o bt;rw[hx]at this;rw[<-hl];exact key x true (λ_=>⟨t,hl⟩) (λe=>by cases e) this
end
end Go.eO
section
def qX0{p:Prop}(h:p:=by
 have BV:g<wr.heap.size:=ay c0
 gi_wp2
 refine hR.mono ?_;rintro e W3 (⟨rfl,hJ3,mV⟩|⟨rfl,VU⟩)
 ·have HK:=Z (mV g (by simp[dU]));have HJ:=Z hJ3;clear mV hJ3
  gi_wp2
  go_roundw
  case rel=>exact⟨k+1,G,az,by rw[<-HT.o];exact HJ.o,by rw[HK.o,Below.heap_alloc _ _ _ BV];exact HG.o⟩
  case measure=>simp[Proofs.intOf];omega
 ·have HJ:=Z VU;clear VU
  gi_wp2
  refine bodyPost_ret (ei rfl _ _ _) rfl ?_;exact⟨⟨_,rfl⟩,.inr ⟨_,by rw[HT.o];exact List.take_prefix _ _,HJ.o⟩⟩):p:=h
def qX3{p:Prop}(h:p:=by
 obtain rfl:k=L.length:=G;have HJ:=Z T_;clear T_
 gi_wp2
 go_end0;exact⟨⟨_,rfl⟩,.inl ⟨_,rfl,by have:=HJ.o;rwa[List.take_length]at this⟩⟩):p:=h
def qX9{p:Prop}(h:p:=by
 have ht:L.take k++[L[k]]=L.take (k+1):=by rw[Kz be]
 have HT:=Z ht;have HG:=Z zm;clear ht zm ZU T_;generalize L[k]=x at*;exact qX0):p:=h
def WG{p:Prop}(h:p:=by
 obtain⟨rfl,hj⟩:=hrel
 gi_wp2
 go_end0;exact⟨⟨_,rfl⟩,.inl ⟨_,rfl,hj⟩⟩):p:=h
namespace Go.jf
open Go.RowKit al Go.Shelf
attribute [local go_sem] Oper.semAt_some
def xQ(FB:List Nat)(W W':ek):Prop:=∀k,k∈FB->W'.heap[k]? =W.heap[k]?
def xQ.t{FB:List Nat}{A B C:ek}(h:xQ FB A B)(k:xQ FB B C):xQ FB A C:=λi hi=>(k i hi).trans (h i hi)
def xQ.b{FB:List Nat}{w:ek}(hl:∀k,k∈FB->k<w.heap.size)(W:ek)(l:Nat)(o o':Obj)(hle:w.heap.size<=l)(_:W.heap[l]? =O o)(_:o.isCells=false)(_:o.isWalk=false):xQ FB W (W.putObj l o'):=
 λk hk=>World.putObj_heap_other (by have:=hl k hk;omega)
def dU:to->List Nat
 | .slice (O a) _ _=>[a.block]
 |_=>[]
def Dd.kj{w w':ek}{base:Nat}{lv:to}{L:List (Nat×Int)}(h:Dd w base lv L)(X:∀k,k∈dU lv->w'.heap[k]? =w.heap[k]?)(hs:w.heap.size<=w'.heap.size):Dd w' base lv L:=by
 rcases h with h|⟨g,cap,rfl,h1,h2,h3,h4⟩
 ·exact .inl h
 ·have e:=X g (by simp[dU]);refine .inr ⟨g,cap,rfl,h1,G,h3,λi hi=>?_⟩;have c:∀o,Xf w' (I g o)=Xf w (I g o):=λo=>aR e;rw[c,c,c];exact h4 i hi
def Dj(F:Fence)(n:Nat)(hf:F.fn 140)(qU:F.round=Xb)(hn:1<=n)(l B base:Nat)(lv:to)(L:List (Nat×Int))(hlen:L.length<=1099511627776)(J Jx:List (Nat×Int)->ek->Prop)(PM:Nat)
 (hJ:AbidesFrom PM J)
 (hY:∀pre x W,J pre W->pre.length<L.length->YieldAt F (n-1) prog l #[.int .u64 x.1,Y x.2] W λe W'=>
   (e=Xc (.bool true)/\J (pre++[x]) W'/\xQ (B::dU lv) W W')\/(e=Xc (.bool false)/\Jx (pre++[x]) W'))
 (W:ek) (hB:Boxed W B 195 lv) (hL:Dd W base lv L) (h0:J [] W):
 CallsIn F n prog 140 #[.func (.yield l) #[] #[],Oi B] W λe W'=>(∃v,e=Xc v)/\
  ((∃ys,ys=L/\J ys W')\/(∃pre,pre <+:L/\Jx pre W')):=by
 refine callsIn_of_wp func140 rfl hf ?_ qU;simp only[ntmps140,List.size_toArray,List.length_cons,List.length_nil,Nat.reduceAdd,Nat.reduceSub,Array.replicate_succ,Array.replicate_zero,List.push_toArray,List.append_toArray,List.nil_append,List.cons_append];have vY:=hB.cell;rcases hL with⟨rfl,rfl⟩|⟨g,cap,rfl,Hc,PN,bt,hc⟩
 ·gi_wp2
  gi_loopw [7] (λi wr=>i=Y 0/\J [] wr) (λi _=>0)
  case atStart=>exact⟨rfl,h0⟩
  case round=>exact WG
 ·have HC:=Z hc;have HB:=Z hB;clear hc hB
  gi_wp2
  gi_loopw [7] (λi wr=>∃k:Nat,k<=L.length/\i=Y k/\J (L.take k) wr/\wr.heap[g]? =W.heap[g]?)
   (λi _=>L.length - (Proofs.intOf i).toNat)
  case atStart=>exact⟨0,Nat.zero_le _,rfl,by simpa using h0,rfl⟩
  case round=>
   obtain⟨k,hk,rfl,T_,zm⟩:=hrel;by_cases be:k<L.length
   ·have XE:∀o,Xf wr (I g o)=Xf W (I g o):=λo=>aR zm;obtain⟨c0,c1,c2⟩:=HC.o k be;rw[<-XE]at c0 c1 c2;clear XE;have ZU:J (L.take k) (wr.alloc (Xe #[.bool true,.int .u64 L[k].1,Y L[k].2] 199)):=hJ _ _ _ Xb T_ (World.grownBy_alloc wr _ Xb) (λr e=>by cases e);obtain⟨fn,tmps,assign,body,hy,hR⟩:=hY _ L[k] _ ZU (by rw[List.length_take];omega);exact qX9
   ·exact qX3
def tT(F:Fence)(n:Nat)(hf:F.fn 140)(qU:F.round=Xb)(hn:1<=n)(B base:Nat)(lv:to)(L:List (Nat×Int))(hlen:L.length<=1099511627776)
 (W:ek) (hB:Boxed W B 195 lv) (hL:Dd W base lv L) (xO:∀k,k∈dU lv->k<W.heap.size):
 SeqStopsK F n prog 140 #[Oi B] (λx:Nat×Int=>#[.int .u64 x.1,Y x.2]) (xQ (B::dU lv)) (· =L) (· <+:L) L.length W:=by
 intro l J Jx W1 hW hJ hJx hY h0;have Ky:Boxed W1 B 195 lv:=(hW.block B hB.lt).trans hB;have PO:Dd W1 base lv L:=hL.kj (λk hk=>hW.block k (xO k hk)) hW.size;exact Dj F n hf qU hn l B base lv L hlen J Jx _ hJ hY W1 Ky PO h0
end Go.jf
end
namespace Go.eO
open Go.RowKit al.Vm Go.Shelf
open al hiding aS aw an
open jf (xQ dU)
attribute [local go_sem] Oper.semAt_some
def xR(w:ek)(base:Nat)(lv:to)(L:List (Nat×eW)):Prop:=
 (L=[]/\lv=Xd)\/∃g cap,lv=H (O (I g 0)) L.length cap/\base<=g/\g<w.heap.size/\L≠[]/\
   ∀i (hi:i<L.length),Xf w (I g (i*6))=O (Y L[i].1)/\Xf w (I g (i*6+1))=O (.int .u64 L[i].2.key)/\Xf w (I g (i*6+2))=O (Y (L[i].2.tg 0))/\
    Xf w (I g (i*6+3))=O (Y (L[i].2.tg 1))/\Xf w (I g (i*6+4))=O (Y (L[i].2.tg 2))/\Xf w (I g (i*6+5))=O (Y (L[i].2.tg 3))
def xR.kj{w w':ek}{base:Nat}{lv:to}{L:List (Nat×eW)}(h:xR w base lv L)(X:∀k,k∈dU lv->w'.heap[k]? =w.heap[k]?)(hs:w.heap.size<=w'.heap.size):xR w' base lv L:=by
 rcases h with h|⟨g,cap,rfl,h1,h2,h3,h4⟩
 ·exact .inl h
 ·have e:=X g (by simp[dU]);refine .inr ⟨g,cap,rfl,h1,G,h3,λi hi=>?_⟩;have c:∀o,Xf w' (I g o)=Xf w (I g o):=λo=>aR e;rw[c,c,c,c,c,c];exact h4 i hi
def Mz(L:List (Nat×eW)):∀i (hi:i<L.length) c,c<6->(tf L)[i*6+c]? =(xP L[i])[c]? :=by
 induction L with
 |nil=>intro i hi;simp at hi
 |cons x L ih=>
  intro i hi c hc;have hx:tf (x::L)=xP x++tf L:=by simp[tf]
  rw[hx];cases i with
  |zero=>rw[uQ (by simp[xP];omega)];simp
  |succ i=>rw[uP (by simp[xP];omega)];have:=ih i (by simpa using hi) c hc;rw[show(i+1)*6+c - (xP x).length=i*6+c from by simp[xP];omega];simpa using this
def yl{w wr:ek}{a:Nd}{l pre:List Nat}{lv:to}(h:Fk w wr a l pre lv):xR wr w.heap.size lv (rowsOf a pre):=by
 by_cases hp:pre=[]
 ·subst hp;exact .inl ⟨rfl,h.nil rfl⟩
 ·have hl:0<pre.length:=by cases pre with|nil=>exact absurd rfl hp|cons x t=>simp
  rcases h.own.2 with⟨_,h0⟩|⟨g,cap,BL,hv,X,hg,_,_,_,_⟩
  ·omega
  ·subst hv;refine .inr ⟨g,cap,by rw[lY],X,(Array.getElem?_eq_some_iff.1 hg).1,by intro e;have:=bo List.length e;rw[lY]at this;simp at this;exact hp this,λi hi=>?_⟩;have key:∀c,c<6->∀u,(xP (rowsOf a pre)[i])[c]? =O u->Xf wr (I g (i*6+c))=O u:=by intro c hc u hu;have:=World.ownsRow.cells h.own (g:=g) rfl (i*6+c) u (by rw[Mz _ i hi c hc];exact hu);rwa[show((I g 0):Addr).add (i*6+c)=(I g (i*6+c))by unfold Addr.add;split<;>simp_all]at this
   exact⟨key 0 G _ rfl,key 1 G _ rfl,key 2 G _ rfl,key 3 G _ rfl,key 4 G _ rfl,key 5 G _ rfl⟩
def Dj(F:Fence)(n:Nat)(hf:F.fn 136)(qU:F.round=Xb)(hn:1<=n)(l B base:Nat)(lv:to)(L:List (Nat×eW))(hlen:L.length<=1099511627776)(J Jx:List (Nat×eW)->ek->Prop)(PM:Nat)
 (hJ:AbidesFrom PM J)
 (hY:∀pre x W,J pre W->pre.length<L.length->YieldAt F (n-1) prog l #[Y x.1,bP x.2] W λe W'=>
   (e=Xc (.bool true)/\J (pre++[x]) W'/\xQ (B::dU lv) W W')\/(e=Xc (.bool false)/\Jx (pre++[x]) W'))
 (W:ek) (hB:Boxed W B 203 lv) (hL:xR W base lv L) (h0:J [] W):
 CallsIn F n prog 136 #[.func (.yield l) #[] #[],Oi B] W λe W'=>(∃v,e=Xc v)/\
  ((∃ys,ys=L/\J ys W')\/(∃pre,pre <+:L/\Jx pre W')):=by
 refine callsIn_of_wp func136 rfl hf ?_ qU;simp only[ntmps136,List.size_toArray,List.length_cons,List.length_nil,Nat.reduceAdd,Nat.reduceSub,Array.replicate_succ,Array.replicate_zero,List.push_toArray,List.append_toArray,List.nil_append,List.cons_append];have vY:=hB.cell;rcases hL with⟨rfl,rfl⟩|⟨g,cap,rfl,Hc,PN,bt,hc⟩
 ·gi_wp2
  gi_loopw [7] (λi wr=>i=Y 0/\J [] wr) (λi _=>0)
  case atStart=>exact⟨rfl,h0⟩
  case round=>exact WG
 ·have HC:=Z hc;have HB:=Z hB;clear hc hB
  gi_wp2
  gi_loopw [7] (λi wr=>∃k:Nat,k<=L.length/\i=Y k/\J (L.take k) wr/\wr.heap[g]? =W.heap[g]?)
   (λi _=>L.length - (Proofs.intOf i).toNat)
  case atStart=>exact⟨0,ck _,rfl,by simpa using h0,rfl⟩
  case round=>
   obtain⟨k,hk,rfl,T_,zm⟩:=hrel;by_cases be:k<L.length
   ·have XE:∀o,Xf wr (I g o)=Xf W (I g o):=λo=>aR zm;obtain⟨c0,c1,c2,c3,c4,c5⟩:=HC.o k be;rw[<-XE]at c0 c1 c2 c3 c4 c5;clear XE;have ZU:J (L.take k) (wr.alloc (Xe #[Y L[k].1,.int .u64 L[k].2.key,Y (L[k].2.tg 0),Y (L[k].2.tg 1),Y (L[k].2.tg 2),Y (L[k].2.tg 3)] 206)):=hJ _ _ _ Xb T_ (World.grownBy_alloc wr _ Xb) (λr e=>by cases e);obtain⟨fn,tmps,assign,body,hy,hR⟩:=hY _ L[k] _ ZU (by rw[List.length_take];omega);unfold bP at hy;exact qX9
   ·exact qX3
def tT(F:Fence)(n:Nat)(hf:F.fn 136)(qU:F.round=Xb)(hn:1<=n)(B base:Nat)(lv:to)(L:List (Nat×eW))(hlen:L.length<=1099511627776)
 (W:ek) (hB:Boxed W B 203 lv) (hL:xR W base lv L) (xO:∀k,k∈dU lv->k<W.heap.size):
 SeqStopsK F n prog 136 #[Oi B] (λx:Nat×eW=>#[Y x.1,bP x.2]) (xQ (B::dU lv)) (· =L) (· <+:L) L.length W:=by
 intro l J Jx W1 hW hJ hJx hY h0;have Ky:Boxed W1 B 203 lv:=(hW.block B hB.lt).trans hB;have PO:xR W1 base lv L:=hL.kj (λk hk=>hW.block k (xO k hk)) hW.size;exact Dj F n hf qU hn l B base lv L hlen J Jx _ hJ hY W1 Ky PO h0
def aeN{α:Type}(va:α->Nat×eW)(F:Fence)(n:Nat)(hf:F.fn 136)(qU:F.round=Xb)(hn:1<=n)(l B base:Nat)(lv:to)(L:List α)(hlen:L.length<=1099511627776)(J Jx:List α->ek->Prop)(PM:Nat)
 (hJ:AbidesFrom PM J)
 (hY:∀pre x W,J pre W->pre.length<L.length->YieldAt F (n-1) prog l #[Y (va x).1,bP (va x).2] W λe W'=>
   (e=Xc (.bool true)/\J (pre++[x]) W'/\xQ (B::dU lv) W W')\/(e=Xc (.bool false)/\Jx (pre++[x]) W'))
 (W:ek) (hB:Boxed W B 203 lv) (hL:xR W base lv (L.map va)) (h0:J [] W):
 CallsIn F n prog 136 #[.func (.yield l) #[] #[],Oi B] W λe W'=>(∃v,e=Xc v)/\
  ((∃ys,ys=L/\J ys W')\/(∃pre,pre <+:L/\Jx pre W')):=by
 refine callsIn_of_wp func136 rfl hf ?_ qU;simp only[ntmps136,List.size_toArray,List.length_cons,List.length_nil,Nat.reduceAdd,Nat.reduceSub,Array.replicate_succ,Array.replicate_zero,List.push_toArray,List.append_toArray,List.nil_append,List.cons_append];have vY:=hB.cell;rcases hL with⟨IB,rfl⟩|⟨g,cap,rfl,Hc,PN,bt,hc⟩
 ·have ac2:L=[]:=List.map_eq_nil_iff.1 IB;clear IB;subst ac2
  gi_wp2
  gi_loopw [7] (λi wr=>i=Y 0/\J [] wr) (λi _=>0)
  case atStart=>exact⟨rfl,h0⟩
  case round=>exact WG
 ·have HC:=Z hc;have HB:=Z hB;clear hc hB;rw[List.length_map]at vY
  gi_wp2
  gi_loopw [7] (λi wr=>∃k:Nat,k<=L.length/\i=Y k/\J (L.take k) wr/\wr.heap[g]? =W.heap[g]?)
   (λi _=>L.length - (Proofs.intOf i).toNat)
  case atStart=>exact⟨0,ck _,rfl,by simpa using h0,rfl⟩
  case round=>
   obtain⟨k,hk,rfl,T_,zm⟩:=hrel;by_cases be:k<L.length
   ·have XE:∀o,Xf wr (I g o)=Xf W (I g o):=λo=>aR zm;obtain⟨c0,c1,c2,c3,c4,c5⟩:=HC.o k (by rw[List.length_map];exact be);rw[List.getElem_map]at c0 c1 c2 c3 c4 c5;rw[<-XE]at c0 c1 c2 c3 c4 c5;clear XE;have ZU:J (L.take k) (wr.alloc (Xe #[Y (va L[k]).1,.int .u64 (va L[k]).2.key,Y ((va L[k]).2.tg 0),Y ((va L[k]).2.tg 1),Y ((va L[k]).2.tg 2),Y ((va L[k]).2.tg 3)] 206)):=hJ _ _ _ Xb T_ (World.grownBy_alloc wr _ Xb) (λr e=>by cases e);obtain⟨fn,tmps,assign,body,hy,hR⟩:=hY _ L[k] _ ZU (by rw[List.length_take];omega);unfold bP at hy;have ht:L.take k++[L[k]]=L.take (k+1):=by rw[Kz be]
    have HT:=Z ht;have HG:=Z zm;clear ht zm ZU T_;generalize L[k]=x at*;generalize va x=y at*;exact qX0
   ·exact qX3
def abn{α:Type}(va:α->Nat×eW)(F:Fence)(n:Nat)(hf:F.fn 136)(qU:F.round=Xb)(hn:1<=n)(B base:Nat)(lv:to)(L:List α)(hlen:L.length<=1099511627776)
 (W:ek) (hB:Boxed W B 203 lv) (hL:xR W base lv (L.map va)) (xO:∀k,k∈dU lv->k<W.heap.size):
 SeqStopsK F n prog 136 #[Oi B] (λx:α=>#[Y (va x).1,bP (va x).2]) (xQ (B::dU lv)) (· =L) (· <+:L) L.length W:=by
 intro l J Jx W1 hW hJ hJx hY h0;have Ky:Boxed W1 B 203 lv:=(hW.block B hB.lt).trans hB;have PO:xR W1 base lv (L.map va):=hL.kj (λk hk=>hW.block k (xO k hk)) hW.size;exact aeN va F n hf qU hn l B base lv L hlen J Jx _ hJ hY W1 Ky PO h0
end Go.eO
section
namespace al.Vm
open Go Go.RowKit
def aH.B0{W:ek}{b:Nat}{T:TypeId}{cs:Array to}(h:aH W b T cs):∃o:Obj,W.heap[b]? =O o/\o.isCells=true:=⟨_,h,rfl⟩
def Row.B0{W:ek}{e:TypeId}{size n:Nat}{v:to}{g:Nat->to}(h:Row W e size v n g){b:Nat}(X:v.ownBlock= .some b):∃o:Obj,W.heap[b]? = .some o/\o.isCells=true:=by
 rcases h.2 with⟨rfl,_⟩|⟨g',cap,BL,rfl,_,hg,_⟩
 ·simp[Value.ownBlock]at X
 ·simp[Value.ownBlock]at X;subst X;exact⟨_,hg,rfl⟩
end al.Vm
namespace Go.Mk
open Go.RowKit al Go.Shelf al.Vm
open jf (xQ dU)
structure Marks(W:ek)(Ds:List Nat):Prop where
 nd:Ds.Nodup
 at_:∀D,D∈Ds->W.heap[D]? =O (.deferred (O []))
def marksOf(Ds:List Nat):List Deferred:=Ds.map λD=>{target:= .collected D,args:=#[]}
structure Shut(Ds:List Nat)(W W':ek):Prop where
 os:W'.os=W.os
 tape:W'.tape=W.tape
 output:W'.output=W.output
 size:W'.heap.size=W.heap.size
 block:∀k,k∉Ds->W'.heap[k]? =W.heap[k]?
def uT{F:Fence}{n:Nat}{P:Program}{fn:Func}{tmps:Array to}{R:Ending->ek->Prop}:∀(Ds:List Nat) (W:ek),Marks W Ds->
 (∀W',Shut Ds W W'->LeavesInM F n P fn tmps R [] .returning W')->LeavesInM F n P fn tmps R (marksOf Ds) .returning W:=by
 intro Ds
 induction Ds with
 |nil=>intro W _ h;exact h W ⟨rfl,rfl,rfl,rfl,λ_ _=>rfl⟩
 |cons D Ds ih=>
  intro W hM h;have hD:=hM.at_ D az;have iE:=List.nodup_cons.1 hM.nd;refine⟨az,.inl ⟨D,_,rfl,run_takeDeferred hD,?_⟩⟩;refine ih _ ⟨iE.2,λk hk=>?_⟩ λW' Fl=>?_
  ·exact(World.putObj_heap_other (by intro e;subst e;exact iE.1 hk)).trans (hM.at_ k (by simp[hk]))
  ·refine h W' ⟨Fl.os,Fl.tape,Fl.output,Fl.size.trans az,λk hk=>?_⟩;simp only[List.mem_cons,not_or]at hk;exact(Fl.block k hk.2).trans (World.putObj_heap_other (λe=>hk.1 e))
def Shut.cells{Ds:List Nat}{W W':ek}(h:Shut Ds W W')(M:Marks W Ds){k:Nat}(hk:∃o:Obj,W.heap[k]? =O o/\o.isCells=true):W'.heap[k]? =W.heap[k]? :=by refine h.block k λhm=>?_;obtain⟨o,h1,h2⟩:=hk;rw[M.at_ k hm]at h1;cases h1;simp[Obj.isCells]at h2
def Shut.below{Ds:List Nat}{W W':ek}(h:Shut Ds W W'){B:Nat}(hB:∀D,D∈Ds->B<=D):Below B W W':=
 ⟨h.os,h.tape,h.output,by rw[h.size];exact aL _,λk hk=>h.block k λhm=>by have:=hB k hm;omega⟩
def Shut.aG{Ds:List Nat}{W W':ek}(h:Shut Ds W W'):aC Ds W W':=⟨h.os,h.tape,h.output,by rw[h.size];exact aL _,λk _ hk=>h.block k hk⟩
def Marks.nil(W:ek):Marks W []:=⟨.nil,λ_ h=>by simp at h⟩
def Marks.cons{W:ek}{Ds:List Nat}{D:Nat}(M:Marks W Ds)(hD:W.heap[D]? =O (.deferred (O [])))(h:D∉Ds):Marks W (D::Ds):=
 ⟨List.nodup_cons.2 ⟨h,M.nd⟩,λk hk=>by rcases List.mem_cons.1 hk with rfl|hk;exact hD;exact M.at_ k hk⟩
def Marks.keeps{W W':ek}{Ds:List Nat}(M:Marks W Ds)(h:∀k,k∈Ds->W'.heap[k]? =W.heap[k]?):Marks W' Ds:=⟨M.nd,λk hk=>(h k hk).trans (M.at_ k hk)⟩
def Marks.lt{W:ek}{Ds:List Nat}(M:Marks W Ds){D:Nat}(h:D∈Ds):D<W.heap.size:=(Array.getElem?_eq_some_iff.1 (M.at_ D h)).1
def Marks.not{W:ek}{Ds:List Nat}(M:Marks W Ds){k:Nat}(hk:∃o:Obj,W.heap[k]? =O o/\o.isCells=true):k∉Ds:=by intro hm;obtain⟨o,h1,h2⟩:=hk;rw[M.at_ k hm]at h1;cases h1;simp[Obj.isCells]at h2
def aM{P:Program}{Q:Exit->Act->ek->Prop}{a:Act}{w:ek}{c:Code}(R:Nat->Act->ek->Prop)(m:Nat)(h0:R m a w)(hz:∀a w,¬R 0 a w)
 (h:∀m a w,R (m+1) a w->c.wp P (Exit.then (R m) Q) a w):(Code.loop c).wp P Q a w:=by
 refine wp_loop_rounds m ?_
 induction m generalizing a w with
 |zero=>exact absurd h0 (hz a w)
 |succ m ih=>
  rw[pR];refine wp_mono (h m a w h0) ?_;intro e a' w' hq;cases e with
  |normal=>exact ih hq
  |_=>exact hq
def PP(W:ek)(k:Nat):Prop:=∃o:Obj,W.heap[k]? =O o/\o.isCells=true
def PP.lt{W:ek}{k:Nat}(h:PP W k):k<W.heap.size:=by obtain⟨o,h,-⟩:=h;exact(Array.getElem?_eq_some_iff.1 h).1
def PP.grown{W W':ek}{row:Option Nat}{k:Nat}(hk:PP W k)(hg:W.grownBy W' row)(hr:∀r,row=O r->∃o:Obj,W.heap[r]? =O o/\o.isCells=false):W'.heap[k]? =W.heap[k]? :=by refine hg.block k hk.lt λe=>?_;obtain⟨o,h1,h2⟩:=hk;obtain⟨o',h3,h4⟩:=hr k e.symm;rw[h1]at h3;cases h3;rw[h2]at h4;simp at h4
def uU(ops:Array Oper):Bool:=ops.all λo=>match o.op with| .defer _=>false|_=>true
def IH{ops:Array Oper}(h:uU ops=true){i:Nat}{o:Oper}(ho:ops[i]? =O o)(c:Call):o.op≠.defer c:=by intro e;unfold uU at h;have hm:o∈ops:=Array.mem_of_getElem? ho;have:=Array.all_eq_true_iff_forall_mem.1 h o hm;rw[e]at this;simp at this
def MA{P:Program}{row:String}{args:Array to}{w:ek}{R:to->ek->Prop}{l n:Nat}(h:Rows P row args w R):RowsIn (Fence.wide.inRound l) n P row args w R:=
 λc cs _=>let⟨v,w',r,s⟩:=h c cs;⟨v,w',r,stepsIn_wide.2 s⟩
def II{P:Program}{o:Oper}{a:Act}{l n:Nat}{K:Act->ek->Prop}{Q:Exit->Act->ek->Prop}{r:Result Next}(h:o.upon P a K Q r):o.uponIn (Fence.wide.inRound l) n P a K Q r:=by
 cases r with
 |ok x w'=>
  cases x with
  |value v=>exact h
  |skip=>exact h
  |defer d=>exact h
  |enter f args=>exact⟨λhh=>by simp[Fence.wide]at hh,CallsIn.inRound l (callsIn_wide.2 h)⟩
  |row row args=>exact⟨λhh=>by simp[Fence.wide]at hh,MA h⟩
  |_=>exact absurd h (by simp[Oper.upon])
 |halt x w'=>cases x<;>exact h
def pT{P:Program}{md:Region.Mode}{ops:Array Oper}{Q:Exit->Act->ek->Prop}{l n:Nat}(hd:uU ops=true)(hQ:∀a w,¬Q .outgrown a w):∀(jj:Nat) (eE:Array Bool) (a:Act) (w:ek),
 wpAny P md ops Q jj eE a w->wpAnyIn (Fence.wide.inRound l) n P md ops Q jj eE a w
 |0,_,_,_,h=>h
 |jj+1,eE,a,w,h=>⟨h.1,λi hi=>by
   have h2:=h.2 i hi;unfold wpOp at h2;unfold wpOpIn;cases ho:ops[i]? with
   |none=>rw[ho]at h2;exact pT hd hQ jj _ _ _ h2
   |some o=>
    rw[ho]at h2;dsimp only at h2 ⊢;split
    ·next hw=>
     rw[aE hw]at h2;rcases h2 with h2|⟨-,a',w',h2⟩
     ·refine⟨λ_ _=>trivial,?_⟩;rw[Oper.semAt_eq _ _ _ (IH hd ho)];refine II ?_;exact Oper.wp_mono (λa' w' h'=>pT hd hQ jj _ _ _ h') h2
     ·exact absurd h2 (hQ a' w')
    ·next hw=>
     rw[ax hw]at h2;exact⟨λ_ _=>trivial,pT hd hQ jj _ _ _ h2⟩⟩
def iH(Q:Exit->Act->ek->Prop)(e:Exit)(a:Act)(w:ek):Prop:=e= .normal/\Q .normal a w
def kq{Q:Exit->Act->ek->Prop}{c:List PanicEntry}{a:Act}{w:ek}{a0c:Prop}(h:iH Q (.panic c) a w):a0c:=by cases h.1
def bq{P:Program}{id:Nat}{ops:Array Oper}{Q:Exit->Act->ek->Prop}{a:Act}{w:ek}{S:ek->Prop}(hm:P.follows .mixedOrders=true)(hS:S w.drew)
 (h:S w.drew->wpAnyH P .any ops (iH Q) S ops.size (Array.replicate ops.size false) a w.drew):(Code.region id ops true).wp P Q a w:=
 Code.wp_mono (λe a w hq=>by obtain⟨rfl,hq⟩:=hq;exact hq) (wp_region_held_drew hm hS h)
def qD{P:Program}{id:Nat}{ops:Array Oper}{Q:Exit->Act->ek->Prop}{a:Act}{w:ek}{l n:Nat}{S:ek->Prop}(hm:P.follows .mixedOrders=true)(hd:uU ops=true)(hS:S w.drew)
 (h:S w.drew->wpAnyH P .any ops (iH Q) S ops.size (Array.replicate ops.size false) a w.drew):(Code.region id ops true).wpIn (Fence.wide.inRound l) n P Q a w:=by
 refine wpIn_mono (Q:=iH Q) ?_ (λe a w hq=>by obtain⟨rfl,hq⟩:=hq;exact hq);exact wpIn_region_any hm (pT hd (λa w hq=>by cases hq.1) _ _ _ _ (wpAny_of_held _ _ _ _ (h hS)))
end Go.Mk
end
namespace Go.Mk
open Go.RowKit al Go.Shelf al.Vm
def qE:Code->List Code
 | .loop c=>[c]
 | .seq a b=>qE a++qE b
 | .block _ c=>qE c
 | .scope c=>qE c
 | .cond _ a b=>qE a++qE b
 |_=>[]
def gI(b:Option Code)(k:Nat):Code:=((qE (b.getD .skip))[k]?).getD .skip
section
variable {P:Program}{ops:Array Oper}{md:Region.Mode}{Q:Exit->Act->ek->Prop}{S:ek->Prop}{oi:Oper}{v:to}{jj:Nat}{eE:Array Bool}{a:Act}{w:ek}
def tk(i:Nat)(hi:ops[i]? =O oi)(hy:∀w,S w->(execOp a.eval oi).run P w= .ok (.value v) w)(hS:S w)(h:wpAnyH P md ops (iH Q) S jj (eE.setIfInBounds i true) (a.put oi.dst v) w)
 (hw:Region.wanted oi (yielded ops a.tmps)=true:=by rfl) (hs:Region.noSelect ops=true:=by kernel_rfl) (hf:Region.free md ops eE i=true:=by kernel_rfl) (hr:(Region.ready md ops eE).contains i=true:=by kernel_rfl):
 wpAnyH P md ops (iH Q) S (jj+1) eE a w:=
 iY hi hs hf hr (λ_ _ _ h=>kq h) (.inl ⟨hw,hy⟩) hS h
def sk(i:Nat)(hi:ops[i]? =O oi)(hS:S w)(h:wpAnyH P md ops (iH Q) S jj (eE.setIfInBounds i true) (a.put oi.dst undef) w)
 (hw:Region.wanted oi (yielded ops a.tmps)=false:=by rfl) (hs:Region.noSelect ops=true:=by kernel_rfl) (hf:Region.free md ops eE i=true:=by kernel_rfl) (hr:(Region.ready md ops eE).contains i=true:=by kernel_rfl):
 wpAnyH P md ops (iH Q) S (jj+1) eE a w:=
 iY hi hs hf hr (λ_ _ _ h=>kq h) (.inr ⟨hw,rfl⟩) hS h
def oH{rs:List Nat}(h:AllReadyH P md ops (iH Q) S jj eE a w rs)(hr:Region.ready md ops eE=rs:=by kernel_rfl)(bt:rs≠[]:=by simp):wpAnyH P md ops (iH Q) S (jj+1) eE a w:=dM hr bt h
end
end Go.Mk
namespace Go.Gd
open Go.RowKit al al.Vm
section
variable {P:Program}{ops:Array Oper}{Q:Exit->Act->ek->Prop}{md:Region.Mode}{D:List Nat}{S0 S1:ek->Prop}
def Not(D:List Nat)(l:Array Bool):Prop:=∀d,d∈D->l.getD d true=false
def S5(D:List Nat)(S0 S1:ek->Prop)(l:Array Bool)(w:ek):Prop:=S0 w/\(Not D l->S1 w)
def nA(P:Program)(md:Region.Mode)(ops:Array Oper)(Q:Exit->Act->ek->Prop)(D:List Nat)(S0 S1:ek->Prop):Nat->Array Bool->Act->ek->Prop
 |0,l,a,w=>Region.ready md ops l=[]/\Q .normal a w
 |f+1,l,a,w=>(Region.ready md ops l=[]->Q .normal a w)/\∀i,i∈Region.ready md ops l->wpOp P ops Q i (λa' w'=>S5 D S0 S1 (l.setIfInBounds i true) w'/\nA P md ops Q D S0 S1 f (l.setIfInBounds i true) a' w') a w
def nA.any:∀(f:Nat) (l:Array Bool) (a:Act) (w:ek),nA P md ops Q D S0 S1 f l a w->wpAny P md ops Q f l a w
 |0,_,_,_,h=>h
 |f+1,l,a,w,h=>⟨h.1,λi hi=>wpOp_mono (λa' w' k=>nA.any f _ a' w' k.2) (h.2 i hi)⟩
def kJ(md:Region.Mode)(ops:Array Oper)(i:Nat):List Nat:=((List.range ops.size).foldl (λN k=>match ops[k]? with|some o=>if o.after.any (λe=>Region.binds md e&&N.contains e.on)then k::N else N|none=>N) [i])
def XF(md:Region.Mode)(ops:Array Oper)(N:List Nat)(i:Nat):Prop:=∀n,n∈N->n=i\/∃o,ops[n]? =O o/\∃e,e∈o.after/\Region.binds md e=true/\e.on∈N
def zs(md:Region.Mode)(ops:Array Oper)(N:List Nat)(i:Nat):Bool:=N.contains i&&N.all λn=>n==i||(match ops[n]? with|some o=>o.after.any (λe=>Region.binds md e&&N.contains e.on)|none=>false)
def PQ{N:List Nat}{i:Nat}(h:zs md ops N i=true):i∈N/\XF md ops N i:=by
 unfold zs at h;rw[Bool.and_eq_true]at h;refine⟨by simpa using h.1,λn hn=>?_⟩;have:=List.all_eq_true.1 h.2 n hn;rw[Bool.or_eq_true]at this;rcases this with this|h2
 ·exact .inl (by simpa using this)
 right;cases ho:ops[n]? with
 |none=>rw[ho]at h2;simp at h2
 |some o=>rw[ho]at h2;dsimp only at h2;obtain⟨e,he,X⟩:=Array.any_eq_true'.1 h2;rw[Bool.and_eq_true]at X;exact⟨o,rfl,e,he,X.1,by simpa using X.2⟩
def KD{l:Array Bool}{j:Nat}(h:Not D l)(hj:j∉D):Not D (l.setIfInBounds j true):=λd hd=>by rw[getD_set_ne true (λe=>hj (by rw[e];exact hd))];exact h d hd
def MB{l:Array Bool}{j:Nat}(h:Not D (l.setIfInBounds j true)):Not D l:=λd hd=>by
 have h1:=h d hd;by_cases e:j=d
 ·subst e;by_cases hj:j<l.size
  ·simp[Array.getD,hj]at h1
  ·simp[Array.getD,hj]at h1
 ·rw[getD_set_ne true e]at h1;exact h1
def S5.XG{l:Array Bool}{j:Nat}{w:ek}(h:S5 D S0 S1 l w):S5 D S0 S1 (l.setIfInBounds j true) w:=⟨h.1,λhn=>h.2 (MB hn)⟩
def S5.set{l:Array Bool}{j:Nat}{w:ek}(h:S5 D S0 S1 (l.setIfInBounds j true) w)(hj:j∉D):S5 D S0 S1 l w:=⟨h.1,λhn=>h.2 (KD hn hj)⟩
def first{i:Nat}{oi:Oper}{v:to}{S:ek->Prop}{N:List Nat}(hi:ops[i]? =O oi)(VT:∀(j:Nat) (o:Oper) cs b,ops[j]? =O o->o.op≠.select cs b)
 (hQ:∀c a w,Q (.panic c) (a.put oi.dst v) w->Q (.panic c) a w) (hW:XF md ops N i) (hiD:i∉D) (hC:∀l w,Not N l->S5 D S0 S1 l w->S w):
 ∀(f:Nat) (l:Array Bool) (a:Act) (w:ek),
  (∀j oj,ops[j]? =O oj->j≠i->l.getD j true=false->(∀e∈oj.after,Region.binds md e=true->e.on≠i)->oi.apart ops oj=true)->
  i∈Region.ready md ops l->YieldsIf P ops S oi v a->S5 D S0 S1 l w->Not N l->
  nA P md ops Q D S0 S1 f (l.setIfInBounds i true) (a.put oi.dst v) w->nA P md ops Q D S0 S1 (f+1) l a w:=by
 intro f
 induction f with
 |zero=>
  intro l a w _ hr hy hS hN a0g;refine⟨λh=>(by rw[h]at hr;cases hr),λj hj=>?_⟩;by_cases S6:j=i
  ·subst S6;exact hy.wpOp hi (hC l w hN hS) ⟨hS.XG,a0g⟩
  ·have:=ready_mono hj S6;rw[a0g.1]at this;cases this
 |succ f ih=>
  intro l a w XH hr hy hS hN a0g;refine⟨λh=>(by rw[h]at hr;cases hr),λj hj=>?_⟩;by_cases S6:j=i
  ·subst S6;exact hy.wpOp hi (hC l w hN hS) ⟨hS.XG,a0g⟩
  ·have h1:=a0g.2 j (ready_mono hj S6);obtain⟨VR,oj,hoj,gJ⟩:=mem_ready.1 hj;have Gk:∀e∈oj.after,Region.binds md e=true->e.on∉N:=λe he X hm=>by
    have a1:=gJ e he X;have a0:=hN _ hm;rcases Nat.lt_or_ge e.on l.size with h'|h'
    ·simp[h']at a0 a1;rw[a0]at a1;cases a1
    ·simp[Array.getElem?_eq_none h']at a1
   have Gj:∀e∈oj.after,Region.binds md e=true->e.on≠i:=λe he X yT=>by
    have a1:=gJ e he X;have a0:=(mem_ready.1 hr).1;rw[yT]at a1;rcases Nat.lt_or_ge i l.size with h'|h'
    ·simp[h']at a0 a1;rw[a0]at a1;cases a1
    ·simp[Array.getElem?_eq_none h']at a1
   have hjN:j∉N:=λhm=>by
    rcases hW j hm with e|⟨o,ho,e,he,X,yT⟩
    ·exact S6 e
    ·rw[hoj]at ho;cases ho;exact Gk e he X yT
   have h2:=wpOp_putIf hoj (XH j oj hoj S6 VR Gj) (λcs b=>VT i oi cs b hi) (λcs b=>VT j oj cs b hoj) hQ hy h1;refine wpOp_mono (λa' w' h3=>?_) h2;obtain⟨y3,c3,H3⟩:=h3;rw[Array.setIfInBounds_comm _ _ (Ne.symm S6)]at c3;have c4:=c3.set hiD;refine⟨c4,ih (l.setIfInBounds j true) a' w' (λk ok hk hki hun Ua=>XH k ok hk hki ?_ Ua) (ready_mono hr (Ne.symm S6)) y3 c4 (KD hN hjN) ?_⟩
   ·by_cases hjk:j=k
    ·subst hjk;exact VR
    ·rw[getD_set_ne true hjk]at hun;exact hun
   ·rw[Array.setIfInBounds_comm _ _ S6];exact H3
def PR{N:List Nat}{l:Array Bool}(h:(N.all λd=> !(l.getD d true))=true):Not N l:=λd hd=>by simpa using List.all_eq_true.1 h d hd
def take{i:Nat}{oi:Oper}{v:to}{f:Nat}{l:Array Bool}{a:Act}{w:ek}(hi:ops[i]? =O oi)(hs:Region.noSelect ops=true)(hf:Region.free md ops l i=true)(hr:(Region.ready md ops l).contains i=true)
 (hW:(zs md ops (kJ md ops i) i&&D.all (λd=>d !=i&&(kJ md ops i).contains d))=true) (hN:((kJ md ops i).all λd=> !(l.getD d true))=true) (hQ:∀c a w,Q (.panic c) (a.put oi.dst v) w->Q (.panic c) a w) (hy:YieldsIf P ops (λw=>S0 w/\S1 w) oi v a) (hS:S0 w/\S1 w)
 (h:nA P md ops Q D S0 S1 f (l.setIfInBounds i true) (a.put oi.dst v) w):nA P md ops Q D S0 S1 (f+1) l a w:=by
 rw[Bool.and_eq_true]at hW;obtain⟨-,hw⟩:=PQ hW.1;have hD:∀d,d∈D->d≠i/\d∈kJ md ops i:=λd hd=>by have:=List.all_eq_true.1 hW.2 d hd;rw[Bool.and_eq_true]at this;exact⟨by simpa using this.1,by simpa using this.2⟩
 exact first (N:=kJ md ops i) hi (Region.noSelect_spec hs) hQ hw (λhm=>(hD i hm).1 rfl) (λl w hn hc=>⟨hc.1,hc.2 λd hd=>hn d (hD d hd).2⟩) f l a w (Region.free_spec hi hf) (by simpa using hr) hy ⟨hS.1,λ_=>hS.2⟩ (PR hN) h
def PT{i:Nat}{oi:Oper}{v:to}{f:Nat}{l:Array Bool}{a:Act}{w:ek}(hi:ops[i]? =O oi)(hs:Region.noSelect ops=true)(hf:Region.free md ops l i=true)(hr:(Region.ready md ops l).contains i=true)
 (hW:(D.all λd=>d !=i)=true) (hN:([i].all λd=> !(l.getD d true))=true) (hQ:∀c a w,Q (.panic c) (a.put oi.dst v) w->Q (.panic c) a w) (hy:YieldsIf P ops S0 oi v a) (hS:S0 w/\S1 w)
 (h:nA P md ops Q D S0 S1 f (l.setIfInBounds i true) (a.put oi.dst v) w):nA P md ops Q D S0 S1 (f+1) l a w:=
 first (N:=[i]) hi (Region.noSelect_spec hs) hQ (λn hn=> .inl (by simpa using hn)) (λhm=>by have:=List.all_eq_true.1 hW i hm;simp at this) (λl w _ hc=>hc.1) f l a w (Region.free_spec hi hf) (by simpa using hr) hy ⟨hS.1,λ_=>hS.2⟩ (PR hN) h
def eJ(P:Program)(md:Region.Mode)(ops:Array Oper)(Q:Exit->Act->ek->Prop)(D:List Nat)(S0 S1:ek->Prop)(f:Nat)(l:Array Bool)(a:Act)(w:ek)(rs:List Nat):Prop:=
 ∀i,i∈rs->wpOp P ops Q i (λa' w'=>S5 D S0 S1 (l.setIfInBounds i true) w'/\nA P md ops Q D S0 S1 f (l.setIfInBounds i true) a' w') a w
def eJ.nil{f:Nat}{l:Array Bool}{a:Act}{w:ek}:eJ P md ops Q D S0 S1 f l a w []:=λ_ h=>by cases h
def step{i:Nat}{o:Oper}{K:Act->ek->Prop}{a:Act}{w:ek}(ho:ops[i]? =O o)(h:if Region.wanted o (yielded ops a.tmps)=true then Oper.wp P o a w K Q else K (a.put o.dst undef) w):wpOp P ops Q i K a w:=by
 unfold wpOp;rw[ho];dsimp only;split
 ·next hw=>rw[aE hw]at h;exact .inl h
 ·next hw=>rw[ax hw]at h;exact h
def eJ.cons{f:Nat}{l:Array Bool}{a:Act}{w:ek}{i:Nat}{o:Oper}{rs:List Nat}(ho:ops[i]? =O o)
 (h:∀K:Act->ek->Prop,Shut (∀a w,S0 w/\S1 w->(S0 w/\S1 w->nA P md ops Q D S0 S1 f (l.setIfInBounds i true) a w)->K a w)->if Region.wanted o (yielded ops a.tmps)=true then Oper.wp P o a w K Q else K (a.put o.dst undef) w)
 (hs:eJ P md ops Q D S0 S1 f l a w rs):eJ P md ops Q D S0 S1 f l a w (i::rs):=λj hj=>by
 rcases List.mem_cons.1 hj with rfl|hj
 ·exact step ho (h _ (λa w hS hW=>⟨⟨hS.1,λ_=>hS.2⟩,hW hS⟩))
 ·exact hs j hj
def eJ.last{f:Nat}{l:Array Bool}{a:Act}{w:ek}{i:Nat}{o:Oper}{rs:List Nat}(ho:ops[i]? =O o)(hD:(D.any λd=>(l.setIfInBounds i true).getD d true)=true)
 (h:∀K:Act->ek->Prop,Shut (∀a w,S0 w->nA P md ops Q D S0 S1 f (l.setIfInBounds i true) a w->K a w)->if Region.wanted o (yielded ops a.tmps)=true then Oper.wp P o a w K Q else K (a.put o.dst undef) w)
 (hs:eJ P md ops Q D S0 S1 f l a w rs):eJ P md ops Q D S0 S1 f l a w (i::rs):=λj hj=>by
 rcases List.mem_cons.1 hj with rfl|hj
 ·refine step ho (h _ (λa w hS hW=>⟨⟨hS,λhN=>?_⟩,hW⟩));obtain⟨d,hd,X⟩:=List.any_eq_true.1 hD;rw[hN d hd]at X;cases X
 ·exact hs j hj
def ready{rs:List Nat}{f:Nat}{l:Array Bool}{a:Act}{w:ek}(hr:Region.ready md ops l=rs)(bt:rs≠[])(h:eJ P md ops Q D S0 S1 f l a w rs):nA P md ops Q D S0 S1 (f+1) l a w:=
 ⟨λh0=>absurd (hr▸h0) bt,hr▸h⟩
def done{l:Array Bool}{a:Act}{w:ek}(hr:Region.ready md ops l=[])(h:Q .normal a w):∀f,nA P md ops Q D S0 S1 f l a w
 |0=>⟨hr,h⟩
 |_+1=>⟨λ_=>h,by rw[hr];simp⟩
variable {id:Nat}{a:Act}{w:ek}{l n:Nat}
def region(D:List Nat)(S0 S1:ek->Prop)(hm:P.follows .mixedOrders=true)(hS:S0 w.drew/\S1 w.drew)(h:S0 w.drew/\S1 w.drew->nA P .any ops (Mk.iH Q) D S0 S1 ops.size (Array.replicate ops.size false) a w.drew):(Code.region id ops true).wp P Q a w:=
 Code.wp_mono (λe a w hq=>by obtain⟨rfl,hq⟩:=hq;exact hq) (wp_region_any hm (nA.any _ _ _ _ (h hS)))
def qD(D:List Nat)(S0 S1:ek->Prop)(hm:P.follows .mixedOrders=true)(hd:Mk.uU ops=true)(hS:S0 w.drew/\S1 w.drew)(h:S0 w.drew/\S1 w.drew->nA P .any ops (Mk.iH Q) D S0 S1 ops.size (Array.replicate ops.size false) a w.drew):(Code.region id ops true).wpIn (Fence.wide.inRound l) n P Q a w:=by refine wpIn_mono (Q:=Mk.iH Q) ?_ (λe a w hq=>by obtain⟨rfl,hq⟩:=hq;exact hq);exact wpIn_region_any hm (Mk.pT hd (λa w hq=>by cases hq.1) _ _ _ _ (nA.any _ _ _ _ (h hS)))
end
end Go.Gd
namespace Go.Mk
open Go.RowKit al Go.Shelf al.Vm
section
variable {P:Program}{ops:Array Oper}{md:Region.Mode}{Q:Exit->Act->ek->Prop}{S0 S1:ek->Prop}{D:List Nat}{oi:Oper}{v:to}{jj:Nat}{l:Array Bool}{a:Act}{w:ek}
def S7(i:Nat)(hi:ops[i]? =O oi)(hy:∀w,S0 w/\S1 w->(execOp a.eval oi).run P w= .ok (.value v) w)(hS:S0 w/\S1 w)(h:Gd.nA P md ops (iH Q) D S0 S1 jj (l.setIfInBounds i true) (a.put oi.dst v) w)
 (hw:Region.wanted oi (yielded ops a.tmps)=true:=by rfl) (hs:Region.noSelect ops=true:=by kernel_rfl) (hf:Region.free md ops l i=true:=by kernel_rfl) (hr:(Region.ready md ops l).contains i=true:=by kernel_rfl)
 (hW:(Gd.zs md ops (Gd.kJ md ops i) i&&D.all (λd=>d !=i&&(Gd.kJ md ops i).contains d))=true:=by kernel_rfl) (hN:((Gd.kJ md ops i).all λd=> !(l.getD d true))=true:=by kernel_rfl):Gd.nA P md ops (iH Q) D S0 S1 (jj+1) l a w:=
 Gd.take hi hs hf hr hW hN (λ_ _ _ h=>kq h) (.inl ⟨hw,hy⟩) hS h
def ZW{rs:List Nat}(h:Gd.eJ P md ops (iH Q) D S0 S1 jj l a w rs)(hr:Region.ready md ops l=rs:=by kernel_rfl)(bt:rs≠[]:=by simp):Gd.nA P md ops (iH Q) D S0 S1 (jj+1) l a w:=Gd.ready hr bt h
variable {S:ek->Prop}{eE:Array Bool}{a':Act}
def cD(i:Nat)(h:wpAnyH P md ops (iH Q) S jj (eE.setIfInBounds i true) a' w)
 (hS:S w:=by assumption)
 (hi:ops[i]? =O oi:=by rfl)
 (hy:∀w,S w->(execOp a.eval oi).run P w= .ok (.value v) w:=by
   intro wz fF
   (try dsimp only at fF)
   (try simp only[List.getElem_toArray,List.getElem_cons_zero,List.getElem_cons_succ])
   first|(go_simp;done)|(go_simp;with_reducible rfl))
 (ha:a'=a.put oi.dst v:=by
   (try simp only[Act.put,List.setIfInBounds_toArray,List.set_cons_zero,List.set_cons_succ,List.getElem_toArray,List.getElem_cons_zero,List.getElem_cons_succ])
   first|done|rfl)
 (hw:Region.wanted oi (yielded ops a.tmps)=true:=by rfl) (hs:Region.noSelect ops=true:=by kernel_rfl) (hf:Region.free md ops eE i=true:=by kernel_rfl) (hr:(Region.ready md ops eE).contains i=true:=by kernel_rfl):
 wpAnyH P md ops (iH Q) S (jj+1) eE a w:=tk i hi hy hS (ha▸h) hw hs hf hr
def tkL(i:Nat){W0:ek}{b o:Nat}{u:to}(c:Xf W0 (I b o)=O u)(h:wpAnyH P md ops (iH Q) S jj (eE.setIfInBounds i true) a' w)
 (hS:S w:=by assumption)
 (hi:ops[i]? =O oi:=by rfl)
 (hy:Xf W0 (I b o)=O u->∀w,S w->(execOp a.eval oi).run P w= .ok (.value v) w:=by
   intro c wz fF;have y0:=(aR (fF.block _ (ay c))).trans c
   (try simp only[List.getElem_toArray,List.getElem_cons_zero,List.getElem_cons_succ])
   first|(go_simp;done)|(go_simp;with_reducible rfl))
 (ha:a'=a.put oi.dst v:=by
   (try simp only[Act.put,List.setIfInBounds_toArray,List.set_cons_zero,List.set_cons_succ,List.getElem_toArray,List.getElem_cons_zero,List.getElem_cons_succ])
   first|done|rfl)
 (hw:Region.wanted oi (yielded ops a.tmps)=true:=by rfl) (hs:Region.noSelect ops=true:=by kernel_rfl) (hf:Region.free md ops eE i=true:=by kernel_rfl) (hr:(Region.ready md ops eE).contains i=true:=by kernel_rfl):
 wpAnyH P md ops (iH Q) S (jj+1) eE a w:=tk i hi (hy c) hS (ha▸h) hw hs hf hr
def Ub(i:Nat)(h:wpAnyH P md ops (iH Q) S jj (eE.setIfInBounds i true) a' w)
 (hS:S w:=by assumption)
 (hi:ops[i]? =O oi:=by rfl)
 (ha:a'=a.put oi.dst undef:=by
   (try simp only[Act.put,List.setIfInBounds_toArray,List.set_cons_zero,List.set_cons_succ,List.getElem_toArray,List.getElem_cons_zero,List.getElem_cons_succ])
   first|done|rfl)
 (hw:Region.wanted oi (yielded ops a.tmps)=false:=by rfl) (hs:Region.noSelect ops=true:=by kernel_rfl) (hf:Region.free md ops eE i=true:=by kernel_rfl) (hr:(Region.ready md ops eE).contains i=true:=by kernel_rfl):
 wpAnyH P md ops (iH Q) S (jj+1) eE a w:=sk i hi hS (ha▸h) hw hs hf hr
def pt{p q:Prop}(hq:q)(h:q->p:=by
 intro hq
 (try simp only[Act.put,List.setIfInBounds_toArray,List.set_cons_zero,List.set_cons_succ,List.getElem_toArray,List.getElem_cons_zero,List.getElem_cons_succ])
 exact hq):p:=h hq
def Eo(i:Nat)(h:Gd.nA P md ops (iH Q) D S0 S1 jj (l.setIfInBounds i true) a' w)
 (hS:S0 w/\S1 w:=by assumption)
 (hi:ops[i]? =O oi:=by rfl)
 (hy:∀w,S0 w/\S1 w->(execOp a.eval oi).run P w= .ok (.value v) w:=by
   intro wz fF
   (try dsimp only at fF)
   (try simp only[List.getElem_toArray,List.getElem_cons_zero,List.getElem_cons_succ])
   first|(go_simp;done)|(go_simp;with_reducible rfl))
 (ha:a'=a.put oi.dst v:=by
   (try simp only[Act.put,List.setIfInBounds_toArray,List.set_cons_zero,List.set_cons_succ,List.getElem_toArray,List.getElem_cons_zero,List.getElem_cons_succ])
   first|done|rfl)
 (hw:Region.wanted oi (yielded ops a.tmps)=true:=by rfl) (hs:Region.noSelect ops=true:=by kernel_rfl) (hf:Region.free md ops l i=true:=by kernel_rfl) (hr:(Region.ready md ops l).contains i=true:=by kernel_rfl)
 (hW:(Gd.zs md ops (Gd.kJ md ops i) i&&D.all (λd=>d !=i&&(Gd.kJ md ops i).contains d))=true:=by kernel_rfl) (hN:((Gd.kJ md ops i).all λd=> !(l.getD d true))=true:=by kernel_rfl):Gd.nA P md ops (iH Q) D S0 S1 (jj+1) l a w:=
 S7 i hi hy hS (ha▸h) hw hs hf hr hW hN
end
end Go.Mk
namespace Go.Z6
open Go Go.RowKit al
section
structure pW(n count aI e:Nat)(S:Tb to):Prop where
 inv:Inv n S
 dz:dz n S=count
 le:count<=aI
 fit:Fit aI n e
 int:∀i k u,S i=O (k,u)->∃x,u=Y x
variable {n count aI e:Nat}{S:Tb to}
def pW.pos(T:pW n count aI e S):0<n:=T.fit.ZD.pos
def pW.lt(T:pW n count aI e S):count<n:=by have:=T.le;have:=T.fit.ge;have:=T.pos;omega
def pW.AX(T:pW n count aI e S):∃em,em<n/\S em=Xb:=CU (by rw[T.dz];exact T.lt)
def zy{key:Nat}{v:Int}(h:∀i k u,S i=O (k,u)->∃x,u=Y x):∀i k u,putAt n S key (Y v) i=O (k,u)->∃x,u=Y x:=by
 intro i k u hi;unfold putAt at hi;by_cases e:i=find n S key
 ·subst e;rw[aw]at hi;simp at hi;exact⟨v,hi.2.symm⟩
 ·rw[an _ _ e]at hi;exact h i k u hi
def zz{p:Nat}{x:Option (Nat×to)}(h:∀i k u,S i=O (k,u)->∃x,u=Y x)(hx:∀k u,x=O (k,u)->∃x,u=Y x):∀i k u,aS S p x i=O (k,u)->∃x,u=Y x:=by
 intro i k u hi;by_cases e:i=p
 ·subst e;rw[aw]at hi;exact hx k u hi
 ·rw[an _ _ e]at hi;exact h i k u hi
def Fo:∀(f:Nat) (S:Tb to) (i k:Nat),(∀i k u,S i=O (k,u)->∃x,u=Y x)->∀j y u,iB n f S i k j=O (y,u)->∃x,u=Y x:=by
 intro f
 induction f with
 |zero=>intro S i k h;exact h
 |succ f ih=>
  intro S i k h;unfold iB;cases hs:S k with
  |none=>exact h
  |some p=>
   obtain⟨y,v⟩:=p;dsimp only;split
   ·exact ih _ _ _ (zz (zz h λk' u e=>h k k' u (hs.trans e)) λk u e=>by simp at e)
   ·exact ih _ _ _ h
def wb{p:Nat}(h:∀i k u,S i=O (k,u)->∃x,u=Y x):∀i k u,mK n S p i=O (k,u)->∃x,u=Y x:=
 Fo n _ _ _ (zz h λk u e=>by simp at e)
end
end Go.Z6
namespace Go.Ix
open Go.RowKit al
open Z6 (pW zy wb)
def dp(w:ek)(b s aI count:Nat)(f:Nat->Option Nat):Prop:=
 ∃(n e:Nat) (S:Tb to),eD w b s aI count n (eh (Y 0) S)/\pW n count aI e S/\(∀k v,f k=O v↔∃p,p<n/\S p=O (k,Y (v:Nat)))/\∀p k u,p<n->S p=O (k,u)->∃v:Nat,u=Y v
section
variable {w w':ek}{b s aI count:Nat}{f:Nat->Option Nat}
def dp.aG{T:List Nat}(h:dp w b s aI count f)(g:aC T w w')(hs:b∉T/\s∉T):dp w' b s aI count f:=by obtain⟨n,e,S,h1,h2⟩:=h;exact⟨n,e,S,h1.aG g hs.1 hs.2,h2⟩
def dp.later(h:dp w b s aI count f)(g:Below w.heap.size w w'):dp w' b s aI count f:=h.aG (aC.ai (S:=[]) g) az
def dp.drewN(h:dp w b s aI count f)(m:Nat):dp (w.drewN m) b s aI count f:=by obtain⟨n,e,S,h1,h2⟩:=h;exact⟨n,e,S,h1.drewN m,h2⟩
def P5{n count aI e:Nat}{S:Tb to}(T:pW n count aI e S){k k':Nat}{u:to}(h:S (find n S k)=O (k',u)):k'=k:=by obtain⟨em,rM,jA⟩:=T.AX;exact EW (sA rM jA k).1 h
def sF{n count aI e:Nat}{S:Tb to}(T:pW n count aI e S)(hf:∀k v,f k=O v↔∃p,p<n/\S p=O (k,Y (v:Nat))){k v:Nat}(h:f k=O v):S (find n S k)=O (k,Y v):=by obtain⟨em,rM,jA⟩:=T.AX;obtain⟨p,hp,hs⟩:=(hf k v).1 h;rw[T.inv.CS rM jA hp hs];exact hs
def pX{n count aI e:Nat}{S:Tb to}(T:pW n count aI e S)(hf:∀k v,f k=O v↔∃p,p<n/\S p=O (k,Y (v:Nat)))(hn:∀p k u,p<n->S p=O (k,u)->∃v:Nat,u=Y v){k:Nat}(h:f k=Xb):S (find n S k)=Xb:=by
 cases hs:S (find n S k)with
 |none=>rfl
 |some x=>obtain⟨k',u⟩:=x;have hk:=P5 T hs;subst hk;have be:=kG T.pos S k';obtain⟨v,rfl⟩:=hn _ _ _ be hs;have:=(hf k' v).2 ⟨_,be,hs⟩;rw[h]at this;simp at this
def sG(h:dp w b s aI count f){key v:Nat}(hk:f key=O v):Calls prog 59 #[Oi b,.int .u64 key] w λr w'=>r=Xc (.tuple #[Y v,.bool true])/\∃m,w'=w.drewN m:=by
 obtain⟨n,e,S,h1,T,hf,hn⟩:=h;obtain⟨em,rM,jA⟩:=T.AX;have:=jf.BP h1 T.fit.ZD rM jA key;have hc:eh (Y 0) S (find n S key)=(true,key,Y v):=by unfold eh;rw[sF T hf hk]
 rw[hc]at this;exact this
def Ca(h:dp w b s aI count f){key:Nat}(hk:f key=Xb):Calls prog 59 #[Oi b,.int .u64 key] w λr w'=>r=Xc (.tuple #[Y 0,.bool false])/\∃m,w'=w.drewN m:=by
 obtain⟨n,e,S,h1,T,hf,hn⟩:=h;obtain⟨em,rM,jA⟩:=T.AX;have:=jf.BP h1 T.fit.ZD rM jA key;have hc:eh (Y 0) S (find n S key)=(false,0,Y 0):=by unfold eh;rw[pX T hf hn hk]
 rw[hc]at this;exact this
def P6(h:dp w b s aI count f){key v:Nat}(hk:f key=Xb)(hc:count<aI):Calls prog 307 #[Oi b,.int .u64 key,Y v] w λr w'=>r=Xc (Y 0)/\aC [b,s] w w'/\dp w' b s aI (count+1) (Vm.aS f key (O v)):=by
 obtain⟨n,e,S,h1,T,hf,hn⟩:=h;obtain⟨em,rM,jA⟩:=T.AX;have ht:=pX T hf hn hk;have E8:=T.fit.ge;refine(jf.Ui h1 T.fit.ZD rM jA key v hc G ht).mono ?_;rintro r w' ⟨rfl,g,h2⟩;have be:=kG T.pos S key;have Ep:∀p,putAt n S key (Y (v:Nat)) p=if p=find n S key then O (key,Y (v:Nat))else S p:=λp=>rfl;refine⟨rfl,g,n,e,_,h2,⟨T.inv.put rM jA key _,by rw[AY T.pos ht,T.dz],G,T.fit,zy T.int⟩,λk x=>?_,λp k u hp hs=>?_⟩
 ·show(if k=key then O v else f k)=O x↔_;by_cases e1:k=key
  ·subst e1;rw[aE rfl];constructor
   ·intro h3;have:v=x:=fT h3;subst this;exact⟨_,be,by rw[Ep,aE rfl]⟩
   ·rintro⟨p,hp,h3⟩;rw[Ep]at h3;split at h3
    ·simp at h3;rw[show v=x by omega]
    ·have:=(hf k x).2 ⟨p,hp,h3⟩;rw[hk]at this;simp at this
  ·rw[ax e1,hf];constructor
   ·rintro⟨p,hp,h3⟩;refine⟨p,hp,?_⟩;rw[Ep,ax]
    ·exact h3
    ·intro e2;rw[e2,ht]at h3;simp at h3
   ·rintro⟨p,hp,h3⟩;rw[Ep]at h3;split at h3
    ·simp at h3;exact absurd h3.1.symm e1
    ·exact⟨p,hp,h3⟩
 ·rw[Ep]at hs;split at hs
  ·simp at hs;exact⟨v,hs.2.symm⟩
  ·exact hn p k u hp hs
def tW(h:dp w b s aI (count+1) f){key v:Nat}(hk:f key=O v):Calls prog 66 #[Oi b,.int .u64 key] w λr w'=>r=Xc (.tuple #[Y v,.bool true])/\aC [b,s] w w'/\dp w' b s aI count (Vm.aS f key Xb):=by
 obtain⟨n,e,S,h1,T,hf,hn⟩:=h;obtain⟨em,rM,jA⟩:=T.AX;have ht:=sF T hf hk;have be:=kG T.pos S key;have SY:=T.lt;refine(jf.MM h1 T.fit.ZD T.inv G rM jA key ht T.int).mono ?_;rintro r w' ⟨rfl,g,h2⟩;have bt:find n S key≠em:=λe'=>by rw[e',jA]at ht;simp at ht
 have hD:=BJ.start T.inv be rM jA bt;have gg:=Io n (al.aS S (find n S key) Xb) (find n S key) (nx n (find n S key)) em hD (Nat.le_of_lt (uM (lB be) rM));have kH:=Iq T.inv be rM jA (by rw[ht];simp);refine⟨rfl,g,n,e,_,h2,⟨(Im T.inv be rM jA bt).1,by rw[T.dz]at kH;omega,by have:=T.le;omega,T.fit,wb T.int⟩,λk x=>?_,λp k u hp hs=>?_⟩
 ·show(if k=key then Xb else f k)=O x↔∃p,p<n/\mK n S (find n S key) p=O (k,Y (x:Nat));rw[show(∃p,p<n/\mK n S (find n S key) p=O (k,Y (x:Nat)))↔_ from gg (k,Y (x:Nat))];have hu:∀p,al.aS S (find n S key) Xb p=if p=find n S key then Xb else S p:=λp=>rfl;by_cases e1:k=key
  ·subst e1;rw[aE rfl];constructor
   ·intro h3;simp at h3
   ·rintro⟨p,hp,h3⟩;rw[hu]at h3;split at h3
    ·simp at h3
    ·next hpn=>exact absurd (T.inv.CS rM jA hp h3).symm hpn
  ·rw[ax e1,hf];constructor
   ·rintro⟨p,hp,h3⟩;refine⟨p,hp,?_⟩;rw[hu,ax]
    ·exact h3
    ·intro e2;rw[e2,ht]at h3;simp at h3;exact e1 h3.1.symm
   ·rintro⟨p,hp,h3⟩;rw[hu]at h3;split at h3
    ·simp at h3
    ·exact⟨p,hp,h3⟩
 ·obtain⟨p',hp',h3⟩:=(gg (k,u)).1 ⟨p,hp,hs⟩;have hu:al.aS S (find n S key) Xb p'=if p'=find n S key then Xb else S p':=rfl;rw[hu]at h3;split at h3
  ·simp at h3
  ·exact hn p' k u hp' h3
def IQ(h:dp w b s aI count f){key:Nat}(hk:f key=Xb):Calls prog 66 #[Oi b,.int .u64 key] w λr w'=>r=Xc (.tuple #[Y 0,.bool false])/\∃m,w'=w.drewN m:=by obtain⟨n,e,S,h1,T,hf,hn⟩:=h;obtain⟨em,rM,jA⟩:=T.AX;exact jf.ML h1 T.fit.ZD rM jA key (pX T hf hn hk)
def Jc(aI:Nat)(w:ek)(hm:aI<=4194304):Calls prog 57 #[Y aI] w λr w'=>r=Xc (.tuple #[Oi (w.heap.size+1),Y 0])/\aC [] w w'/\dp w' (w.heap.size+1) w.heap.size aI 0 (λ_=>Xb)/\w'.heap.size=w.heap.size+2:=by
 refine(jf.Fi aI w hm).mono ?_;rintro r w' ⟨rfl,n,e,F,h1,g,hz⟩;refine⟨rfl,g,⟨n,e,_,h1,⟨Inv.empty _,Pn _,Nat.zero_le _,F,λi k u h=>by simp at h⟩,λk v=>?_,λp k u _ h=>by simp at h⟩,hz⟩;constructor
 ·intro h;simp at h
 ·rintro⟨p,_,h⟩;simp at h
end
end Go.Ix
namespace Go.Ma
open Go.RowKit al.Vm
open al hiding aS aw an
open eO (cw bP)
open Ix (dp)
def vb(v:to):List Nat:=v.ownBlock.toList
def aX{v:to}{b:Nat}:b∈vb v↔v.ownBlock=O b:=by unfold vb;simp
structure Co where
 mb:Nat
 ab:Nat
 xb:Nat
 xs:Nat
 V:to
 L:to
 vs:to
structure Ru where
 rb:Nat
 l8:to
 kW:to
 oh:to
 kR:to
def Co.l(C:Co):List Nat:=C.mb::C.xb::C.xs::(bL C.ab C.V C.L++vb C.vs)
def Ru.l(U:Ru):List Nat:=U.rb::(vb U.l8++vb U.kW++vb U.oh++vb U.kR)
structure Kc where
 g:to
 v:to
 t:to
 o:to
 c:to
 qs:to
 nd:Nat
 steps:Nat->to
def dW(p:aU)(o:Nat):to:=let x:=p.vars.getD (o / 3) ⟨0,0,0⟩;if o % 3=0 then Y x.init else if o % 3=1 then Y x.lo else Y x.hi
def cy(p:aU)(o:Nat):to:=
 let x:=codeAt0 p (o / 5)
 if o % 5=0 then Y x.op else if o % 5=1 then Y x.a else if o % 5=2 then Y x.b else if o % 5=3 then Y x.c else Y x.d
where codeAt0 (p:aU) (n:Nat):Ins:=p.code.getD n ⟨0,0,0,0,0⟩
def bd(l:List Int)(o:Nat):to:=Y (l.getD o 0)
structure fG where
 db:Int
 bm:Int
 fZ:Int
 gK:Int
def tp(K:Kc)(C:Co)(p:aU)(c:Cp)(total:Int)(t:fG)(used:Int)(rv:to):Array to:=
 #[K.g,K.v,K.t,K.o,Y p.aV,K.c,Y c.size,K.qs,Y K.nd,Oi C.ab,Oi C.xb,C.vs,Y total,
   Y t.db,Y t.bm,Y t.fZ,Y t.gK,Y used,
   K.steps 0,K.steps 1,K.steps 2,K.steps 3,K.steps 4,K.steps 5,K.steps 6,K.steps 7,K.steps 8,K.steps 9,K.steps 10,K.steps 11,K.steps 12,K.steps 13,K.steps 14,K.steps 15,K.steps 16,K.steps 17,K.steps 18,K.steps 19,K.steps 20,
   K.steps 21,K.steps 22,K.steps 23,K.steps 24,K.steps 25,K.steps 26,K.steps 27,K.steps 28,K.steps 29,K.steps 30,K.steps 31,K.steps 32,K.steps 33,K.steps 34,K.steps 35,K.steps 36,K.steps 37,K.steps 38,K.steps 39,K.steps 40,K.steps 41,rv]
section
variable {w:ek}{b:Nat}{T:TypeId}{K:Kc}{C:Co}{p:aU}{c:Cp}{n:Int}{t:fG}{u:Int}{rv:to}(h:aH w b T (tp K C p c n t u rv))
include h
def mc9:Xf w (I b 9)=O (Oi C.ab):=h.cell 9
def Uj:Xf w (I b 10)=O (Oi C.xb):=h.cell 10
def wj:Xf w (I b 60)=O rv:=h.cell 60
end
structure tX(w:ek)(K:Kc)(p:aU)(c:Cp)(RO:List Nat):Prop where
 g:Row w 4 1 K.g p.ap.length (λi=> .bool (p.ap.getD i false))
 v:Row w 122 3 K.v p.vars.length (dW p)
 t:Row w 3 1 K.t p.aW.length (bd p.aW)
 o:Row w 3 1 K.o p.on.length (bd p.on)
 cd:Row w 40 5 K.c p.code.length (cy p)
 qs:Row w 3 1 K.qs c.aF.length (bd c.aF)
 ro:∀b,(b∈vb K.g\/b∈vb K.v\/b∈vb K.t\/b∈vb K.o\/b∈vb K.c\/b∈vb K.qs)->b∈RO
def tX.aG{w w':ek}{K:Kc}{p:aU}{c:Cp}{RO S:List Nat}(h:tX w K p c RO)(f:aC S w w')(hs:∀b,b∈RO->b∉S):tX w' K p c RO:=
 ⟨h.g.aG f λb X=>hs b (h.ro b (.inl (aX.2 X))),h.v.aG f λb X=>hs b (h.ro b (.inr (.inl (aX.2 X)))),h.t.aG f λb X=>hs b (h.ro b (.inr (.inr (.inl (aX.2 X))))),
   h.o.aG f λb X=>hs b (h.ro b (.inr (.inr (.inr (.inl (aX.2 X)))))),h.cd.aG f λb X=>hs b (h.ro b (.inr (.inr (.inr (.inr (.inl (aX.2 X))))))),h.qs.aG f λb X=>hs b (h.ro b (.inr (.inr (.inr (.inr (.inr (aX.2 X))))))),h.ro⟩
def tX.more{w:ek}{K:Kc}{p:aU}{c:Cp}{RO RO':List Nat}(h:tX w K p c RO)(hs:∀b,b∈RO->b∈RO'):tX w K p c RO':=
 ⟨h.g,h.v,h.t,h.o,h.cd,h.qs,λb X=>hs b (h.ro b X)⟩
def fN(p:aU)(a:Nd):Nat:=cR p.ap.length λq=>(a.ls q).length
structure rR(w:ek)(C:Co)(RO:List Nat)(K:Kc)(p:aU)(c:Cp)(s:St)(t:fG)(used:Int)(rv:to):Prop where
 aT:aH w C.mb 113 (tp K C p c s.total t used rv)
 prog:tX w K p c RO
 ar:cw w C.ab C.V C.L K.nd p.ap.length s.a
 ix:dp w C.xb C.xs K.nd (fN p s.a) s.f
 vs:Row w 3 1 C.vs p.vars.length (λi=> Y (s.vars i))
def rR.aG{w w':ek}{C:Co}{RO S:List Nat}{K:Kc}{p:aU}{c:Cp}{s:St}{t:fG}{used:Int}{rv:to}(h:rR w C RO K p c s t used rv)(f:aC S w w')(hs:∀b,b∈C.l->b∉S)(hr:∀b,b∈RO->b∉S):rR w' C RO K p c s t used rv:=
 ⟨h.aT.aG f (hs _ (by simp[Co.l])),h.prog.aG f hr,h.ar.aG f (λb X=>hs b (by simp[Co.l,X])),h.ix.aG f ⟨hs _ (by simp[Co.l]),hs _ (by simp[Co.l])⟩,h.vs.aG f λb X=>hs b (by simp[Co.l,aX.2 X])⟩
def rR.more{w:ek}{C:Co}{RO RO':List Nat}{K:Kc}{p:aU}{c:Cp}{s:St}{t:fG}{used:Int}{rv:to}(h:rR w C RO K p c s t used rv)(hs:∀b,b∈RO->b∈RO'):rR w C RO' K p c s t used rv:=
 ⟨h.aT,h.prog.more hs,h.ar,h.ix,h.vs⟩
def aQ(x:eW):Array to:=#[.int .u64 x.key,Y (x.tg 0),Y (x.tg 1),Y (x.tg 2),Y (x.tg 3)]
def iD(w:ek)(mb:Nat)(RO:List Nat)(v:to):vM->Prop
 | .var i qX=>∃(x1 x2 x3:Nat) (op b c d:Int),v= .func (.func 215) #[] #[.pointer (O ⟨x1,0,Xb⟩),.pointer (O ⟨x2,0,Xb⟩),.pointer (O ⟨x3,0,Xb⟩)]/\
     aH w x1 3 #[Y qX]/\aH w x2 35 #[Oi mb]/\aH w x3 40 #[Y op,Y i,Y b,Y c,Y d]/\x1∈RO/\x2∈RO/\x3∈RO
 | .mark qX=>∃(x1 x2:Nat),v= .func (.func 269) #[] #[.pointer (O ⟨x1,0,Xb⟩),.pointer (O ⟨x2,0,Xb⟩)]/\
     aH w x1 35 #[Oi mb]/\aH w x2 118 (aQ qX)/\x1∈RO/\x2∈RO
 | .cut q e=>∃(x1 x2 x3:Nat),v= .func (.func 271) #[] #[.pointer (O ⟨x1,0,Xb⟩),.pointer (O ⟨x2,0,Xb⟩),.pointer (O ⟨x3,0,Xb⟩)]/\
     aH w x1 35 #[Oi mb]/\aH w x2 3 #[Y q]/\aH w x3 3 #[Y e]/\x1∈RO/\x2∈RO/\x3∈RO
 | .put q e x=>∃(x1 x2 x3 x4:Nat),v= .func (.func 275) #[] #[.pointer (O ⟨x1,0,Xb⟩),.pointer (O ⟨x2,0,Xb⟩),.pointer (O ⟨x3,0,Xb⟩),.pointer (O ⟨x4,0,Xb⟩)]/\
     aH w x1 35 #[Oi mb]/\aH w x2 3 #[Y q]/\aH w x3 3 #[Y e]/\aH w x4 118 (aQ x)/\x1∈RO/\x2∈RO/\x3∈RO/\x4∈RO
 | .out q x ahead=>∃(x1 x2 x3 x4:Nat) (av:to),v= .func (.func 273) #[] #[.pointer (O ⟨x1,0,Xb⟩),.pointer (O ⟨x2,0,Xb⟩),.pointer (O ⟨x3,0,Xb⟩),.pointer (O ⟨x4,0,Xb⟩)]/\
     aH w x1 35 #[Oi mb]/\aH w x2 3 #[Y q]/\aH w x3 118 (aQ x)/\aH w x4 24 #[av]/\Row w 3 1 av ahead.length (λi=> Y (ahead.getD i 0:Nat))/\
     x1∈RO/\x2∈RO/\x3∈RO/\x4∈RO/\∀b,b∈vb av->b∈RO
def iD.aG{w w':ek}{mb:Nat}{RO S:List Nat}{v:to}{u:vM}(h:iD w mb RO v u)(f:aC S w w')(hs:∀b,b∈RO->b∉S):iD w' mb RO v u:=by
 cases u with
 |var i qX=>obtain⟨x1,x2,x3,op,b,c,d,h0,h1,h2,h3,r1,r2,r3⟩:=h;exact⟨x1,x2,x3,op,b,c,d,h0,h1.aG f (hs _ r1),h2.aG f (hs _ r2),h3.aG f (hs _ r3),r1,r2,r3⟩
 |mark qX=>obtain⟨x1,x2,h0,h1,h2,r1,r2⟩:=h;exact⟨x1,x2,h0,h1.aG f (hs _ r1),h2.aG f (hs _ r2),r1,r2⟩
 |cut q e=>obtain⟨x1,x2,x3,h0,h1,h2,h3,r1,r2,r3⟩:=h;exact⟨x1,x2,x3,h0,h1.aG f (hs _ r1),h2.aG f (hs _ r2),h3.aG f (hs _ r3),r1,r2,r3⟩
 |put q e x=>obtain⟨x1,x2,x3,x4,h0,h1,h2,h3,h4,r1,r2,r3,r4⟩:=h;exact⟨x1,x2,x3,x4,h0,h1.aG f (hs _ r1),h2.aG f (hs _ r2),h3.aG f (hs _ r3),h4.aG f (hs _ r4),r1,r2,r3,r4⟩
 |out q x ahead=>obtain⟨x1,x2,x3,x4,av,h0,h1,h2,h3,h4,h5,r1,r2,r3,r4,r5⟩:=h;exact⟨x1,x2,x3,x4,av,h0,h1.aG f (hs _ r1),h2.aG f (hs _ r2),h3.aG f (hs _ r3),h4.aG f (hs _ r4),h5.aG f (λb X=>hs b (r5 b (aX.2 X))),r1,r2,r3,r4,r5⟩
def iD.more{w:ek}{mb:Nat}{RO RO':List Nat}{v:to}{u:vM}(h:iD w mb RO v u)(hs:∀b,b∈RO->b∈RO'):iD w mb RO' v u:=by
 cases u with
 |var i qX=>obtain⟨x1,x2,x3,op,b,c,d,h0,h1,h2,h3,r1,r2,r3⟩:=h;exact⟨x1,x2,x3,op,b,c,d,h0,h1,h2,h3,hs _ r1,hs _ r2,hs _ r3⟩
 |mark qX=>obtain⟨x1,x2,h0,h1,h2,r1,r2⟩:=h;exact⟨x1,x2,h0,h1,h2,hs _ r1,hs _ r2⟩
 |cut q e=>obtain⟨x1,x2,x3,h0,h1,h2,h3,r1,r2,r3⟩:=h;exact⟨x1,x2,x3,h0,h1,h2,h3,hs _ r1,hs _ r2,hs _ r3⟩
 |put q e x=>obtain⟨x1,x2,x3,x4,h0,h1,h2,h3,h4,r1,r2,r3,r4⟩:=h;exact⟨x1,x2,x3,x4,h0,h1,h2,h3,h4,hs _ r1,hs _ r2,hs _ r3,hs _ r4⟩
 |out q x ahead=>obtain⟨x1,x2,x3,x4,av,h0,h1,h2,h3,h4,h5,r1,r2,r3,r4,r5⟩:=h;exact⟨x1,x2,x3,x4,av,h0,h1,h2,h3,h4,h5,hs _ r1,hs _ r2,hs _ r3,hs _ r4,λb X=>hs b (r5 b X)⟩
def rS(w:ek)(RO:List Nat)(v:to):Option eW->Prop
 |none=>v=H Xb 0 0
 |some x=>∃b cap,v=H (O ⟨b,0,Xb⟩) 1 cap/\aH w b 118 (aQ x)/\b∈RO
def rS.aG{w w':ek}{RO S:List Nat}{v:to}{x:Option eW}(h:rS w RO v x)(f:aC S w w')(hs:∀b,b∈RO->b∉S):rS w' RO v x:=by
 cases x with
 |none=>exact h
 |some x=>obtain⟨b,cap,h0,h1,h2⟩:=h;exact⟨b,cap,h0,h1.aG f (hs _ h2),h2⟩
def rS.more{w:ek}{RO RO':List Nat}{v:to}{x:Option eW}(h:rS w RO v x)(hs:∀b,b∈RO->b∈RO'):rS w RO' v x:=by
 cases x with
 |none=>exact h
 |some x=>obtain⟨b,cap,h0,h1,h2⟩:=h;exact⟨b,cap,h0,h1,hs _ h2⟩
structure xr(w:ek)(U:Ru)(mb:Nat)(RO:List Nat)(hv:to)(jv:Nat->to)(r:Rn):Prop where
 dY:aH w U.rb 126 #[.int .u64 r.key,Y r.at_,U.l8,U.kW,hv,U.oh,Y r.bG,U.kR,.bool r.done]
 l8:Row w 3 1 U.l8 r.stack.length (λi=> Y (r.stack.reverse.getD i 0))
 kW:Row w 3 1 U.kW r.loops.length (λi=> Y (r.loops.reverse.getD i 0))
 oh:Row w 46 1 U.oh r.told.length (λi=> .int .u64 (r.told.getD i 0:Nat))
 kR:Row w 1 1 U.kR r.bI.length jv
 jat:∀i u,r.bI.reverse[i]? =O u->iD w mb RO (jv i) u
 iE:rS w RO hv r.hand
def xr.aG{w w':ek}{U:Ru}{mb:Nat}{RO S:List Nat}{hv:to}{jv:Nat->to}{r:Rn}(h:xr w U mb RO hv jv r)(f:aC S w w')(hs:∀b,b∈U.l->b∉S)(hr:∀b,b∈RO->b∉S):xr w' U mb RO hv jv r:=
 ⟨h.dY.aG f (hs _ (by simp[Ru.l])),h.l8.aG f (λb X=>hs b (by simp[Ru.l,aX.2 X])),h.kW.aG f (λb X=>hs b (by simp[Ru.l,aX.2 X])),h.oh.aG f (λb X=>hs b (by simp[Ru.l,aX.2 X])),h.kR.aG f (λb X=>hs b (by simp[Ru.l,aX.2 X])),
   λi u hu=>(h.jat i u hu).aG f hr,h.iE.aG f hr⟩
def xr.more{w:ek}{U:Ru}{mb:Nat}{RO RO':List Nat}{hv:to}{jv:Nat->to}{r:Rn}(h:xr w U mb RO hv jv r)(hs:∀b,b∈RO->b∈RO'):xr w U mb RO' hv jv r:=
 ⟨h.dY,h.l8,h.kW,h.oh,h.kR,λi u hu=>(h.jat i u hu).more hs,h.iE.more hs⟩
structure Sep(w:ek)(C:Co)(U:Ru)(RO:List Nat):Prop where
 nd:(C.l++U.l).Nodup
 lt:∀b,b∈C.l++U.l->b<w.heap.size
 ro:∀b,b∈C.l++U.l->b∉RO
 dZ:∀b,b∈RO->b<w.heap.size
def Sep.grow{w w':ek}{C:Co}{U:Ru}{RO:List Nat}(h:Sep w C U RO)(hs:w.heap.size<=w'.heap.size):Sep w' C U RO:=
 ⟨h.nd,λb X=>dC (h.lt b X) hs,h.ro,λb X=>dC (h.dZ b X) hs⟩
structure dh(w:ek)(C:Co)(U:Ru)(RO:List Nat)(K:Kc)(p:aU)(c:Cp)(t:fG)(used:Int)(hv:to)(jv:Nat->to)(s:St)(r:Rn):Prop where
 m:rR w C RO K p c s t used (Oi U.rb)
 r:xr w U C.mb RO hv jv r
 sep:Sep w C U RO
def dh.later{w w':ek}{C:Co}{U:Ru}{RO:List Nat}{K:Kc}{p:aU}{c:Cp}{t:fG}{used:Int}{hv:to}{jv:Nat->to}{s:St}{r:Rn}(h:dh w C U RO K p c t used hv jv s r)(b:Below w.heap.size w w'):dh w' C U RO K p c t used hv jv s r:=
 ⟨h.m.aG (aC.ai (S:=[]) b) az az,h.r.aG (aC.ai (S:=[]) b) az az,h.sep.grow b.size⟩
def dh.drewN{w:ek}{C:Co}{U:Ru}{RO:List Nat}{K:Kc}{p:aU}{c:Cp}{t:fG}{used:Int}{hv:to}{jv:Nat->to}{s:St}{r:Rn}(h:dh w C U RO K p c t used hv jv s r)(n:Nat):dh (w.drewN n) C U RO K p c t used hv jv s r:=
 h.later (aA _ _ n)
def Dk(v v':to):Prop:=∀b,b∈vb v->b∉vb v'
def Dk.symm{v v':to}(h:Dk v v'):Dk v' v:=λb X lJ=>h b lJ X
def Fp(v:to):vb v=[]\/∃b,vb v=[b]:=by unfold vb;cases v.ownBlock<;>simp
def ot{A B:List Nat}{v v':to}{n:Nat}(h:(A++(vb v++B)).Nodup)(hl:∀b,b∈A++(vb v++B)->b<n)(hs:∀b,b∈vb v'->b∈vb v\/n<=b):(A++(vb v'++B)).Nodup:=by
 rcases Fp v' with e|⟨b,e⟩
 ·rw[e];refine h.sublist ?_;exact List.Sublist.append_left (List.Sublist.append_right (List.nil_sublist _) B) A
 ·rcases hs b (by rw[e];simp)with X|X
  ·rcases Fp v with e'|⟨b',e'⟩
   ·rw[e']at X;simp at X
   ·rw[e']at X;simp at X;subst X;rw[e,<-e'];exact h
  ·have hA:b∉A:=λhx=>by have:=hl b (by simp[hx]);omega
   have hB:b∉B:=λhx=>by have:=hl b (by simp[hx]);omega
   have h':(A++B).Nodup:=h.sublist (List.Sublist.append_left (List.sublist_append_right _ _) A);rw[e];rw[wS]at h' ⊢;refine⟨h'.1,?_,?_⟩
   ·simp[hB,h'.2.1]
   ·intro x hx y hy;rcases List.mem_append.1 hy with hy|hy
    ·simp at hy;subst hy;intro e2;subst e2;exact hA hx
    ·exact h'.2.2 x hx y hy
structure NR(U:Ru):Prop where
 s:U.rb∉vb U.l8
 l:U.rb∉vb U.kW
 t:U.rb∉vb U.oh
 j:U.rb∉vb U.kR
 sl:Dk U.l8 U.kW
 st:Dk U.l8 U.oh
 sj:Dk U.l8 U.kR
 lt:Dk U.kW U.oh
 lj:Dk U.kW U.kR
 tj:Dk U.oh U.kR
def Ru.rel{U:Ru}(h:U.l.Nodup):NR U:=by unfold Ru.l at h;rw[List.nodup_cons]at h;obtain⟨h0,h⟩:=h;simp only[fE,not_or]at h0;rw[wS,wS,wS]at h;obtain⟨⟨⟨-,-,h1⟩,-,h2⟩,-,h3⟩:=h;refine⟨h0.1.1.1,h0.1.1.2,h0.1.2,h0.2,λb X hc=>h1 b X b hc rfl,λb X hc=>h2 b (by simp[X]) b hc rfl,λb X hc=>h3 b (by simp[X]) b hc rfl,λb X hc=>h2 b (by simp[X]) b hc rfl,λb X hc=>h3 b (by simp[X]) b hc rfl,λb X hc=>h3 b (by simp[X]) b hc rfl⟩
section
variable {w w':ek}{C:Co}{U U':Ru}{RO RO':List Nat}{K:Kc}{p:aU}{c:Cp}{t:fG}{used:Int}{hv hv':to}{jv lM:Nat->to}{s:St}{r r':Rn}
def Sep.u(h:Sep w C U RO):NR U:=Ru.rel (List.nodup_append.1 h.nd).2.1
def Sep.cu(h:Sep w C U RO){b:Nat}(X:b∈C.l):b∉U.l:=λhc=>(List.nodup_append.1 h.nd).2.2 b X b hc rfl
def Sep.ur(h:Sep w C U RO){b:Nat}(X:b∈RO):b∉U.l:=λhc=>h.ro b (by simp[hc]) X
def Sep.cr(h:Sep w C U RO){b:Nat}(X:b∈RO):b∉C.l:=λhc=>h.ro b (by simp[hc]) X
def Sep.uc(h:Sep w C U RO){b:Nat}(X:b∈U.l):b∉C.l:=λhc=>h.cu hc X
def dh.runs(h:dh w C U RO K p c t used hv jv s r)(f:aC U.l w w')(ou:U'.rb=U.rb)(ho:∀b,b∈RO->b∈RO')(hn:∀b,b∈RO'->b∈RO\/(w.heap.size<=b/\b<w'.heap.size/\b∉U'.l))
 (hr:xr w' U' C.mb RO' hv' lM r') (iE:(C.l++U'.l).Nodup) (hu:∀b,b∈U'.l->(b∈U.l\/w.heap.size<=b)/\b<w'.heap.size):dh w' C U' RO' K p c t used hv' lM s r':=by
 refine⟨?_,hr,iE,?_,?_,?_⟩
 ·rw[ou];exact(h.m.aG f (λb X=>h.sep.cu X) (λb X=>h.sep.ur X)).more ho
 ·intro b X;rcases List.mem_append.1 X with X|X
  ·exact dC (h.sep.lt b (by simp[X])) f.size
  ·exact(hu b X).2
 ·intro b X hc;rcases hn b hc with hc|⟨h1,h2,h3⟩
  ·rcases List.mem_append.1 X with X|X
   ·exact h.sep.cr hc X
   ·rcases(hu b X).1 with X|X
    ·exact h.sep.ur hc X
    ·have:=h.sep.dZ b hc;omega
  ·rcases List.mem_append.1 X with X|X
   ·have:=h.sep.lt b (by simp[X]);omega
   ·exact h3 X
 ·intro b X;rcases hn b X with X|X
  ·exact dC (h.sep.dZ b X) f.size
  ·exact X.2.1
def dh.kT(h:dh w C U RO K p c t used hv jv s r)(o:Nat)(v:to)(X:(#[.int .u64 r.key,Y r.at_,U.l8,U.kW,hv,U.oh,Y r.bG,U.kR,.bool r.done]:Array to).setIfInBounds o v=#[.int .u64 r'.key,Y r'.at_,U'.l8,U'.kW,hv',U'.oh,Y r'.bG,U'.kR,.bool r'.done])
 (hU:U'=U) (e1:r'.stack=r.stack) (e2:r'.loops=r.loops) (e3:r'.told=r.told) (e4:r'.bI=r.bI) (hh:rS w RO hv' r'.hand):dh (w.setCell (I U.rb o) v) C U RO K p c t used hv' jv s r':=by
 subst hU;have F:aC [U'.rb] w (w.setCell (I U'.rb o) v):=(aC.refl _ w).setCell az _;have F2:aC U'.l w (w.setCell (I U'.rb o) v):=F.mono (by intro k hk;simp at hk;subst hk;simp[Ru.l]);have R:=h.sep.u;have qU:∀b,b∈RO->b∉[U'.rb]:=λb X=>by have:=h.sep.ur X;simp[Ru.l]at this ⊢;exact this.1
 refine h.runs F2 rfl (λb X=>X) (λb X=> .inl X) ⟨?_,?_,?_,?_,?_,?_,?_⟩ h.sep.nd (λb X=>⟨.inl X,dC (h.sep.lt b (by simp[X])) F.size⟩)
 ·rw[<-X];exact h.r.dY.set o v
 ·rw[e1];exact h.r.l8.aG F λb X=>by simp;rintro rfl;exact R.s (aX.2 X)
 ·rw[e2];exact h.r.kW.aG F λb X=>by simp;rintro rfl;exact R.l (aX.2 X)
 ·rw[e3];exact h.r.oh.aG F λb X=>by simp;rintro rfl;exact R.t (aX.2 X)
 ·rw[e4];exact h.r.kR.aG F λb X=>by simp;rintro rfl;exact R.j (aX.2 X)
 ·rw[e4];exact λi u hu=>(h.r.jat i u hu).aG F qU
 ·exact hh.aG F qU
end
end Go.Ma
namespace Go.Vf
open Go.RowKit al.Vm
open al hiding aS aw an
open Ma (dW cy bd vb)
def aY(w:ek)(size:Nat)(v:to)(n:Nat)(g:Nat->to):Prop:=
 (v=Xd/\n=0)\/∃a cap,v=H (O a) n cap/\n<=cap/\cap<=maxLen/\∀o,o<n*size->a.spot=Xb/\Xf w (I a.block (a.off+o))=O (g o)
section
variable {w w':ek}{size n:Nat}{v:to}{g f:Nat->to}
def aY.val(h:aY w size v n g):∃a cap,v=H a n cap/\n<=cap/\cap<=maxLen:=by
 rcases h with⟨rfl,rfl⟩|⟨a,cap,rfl,h1,h2,-⟩
 ·exact⟨Xb,0,rfl,aL _,ck _⟩
 ·exact⟨O a,cap,rfl,h1,h2⟩
def aY.len(h:aY w size v n g):n<=maxLen:=by obtain⟨_,_,_,h1,h2⟩:=h.val;omega
def aY.some(h:aY w size v n g)(hn:0<n)(hs:0<size):∃b off cap,v=H (.some (I b off)) n cap/\n<=cap/\cap<=maxLen/\b<w.heap.size/\∀o,o<n*size->Xf w (I b (off+o))= .some (g o):=by
 rcases h with⟨_,h⟩|⟨⟨b,off,spot⟩,cap,rfl,h1,h2,h3⟩
 ·omega
 ·have h0:0<n*size:=Nat.mul_pos hn hs;obtain⟨e,c⟩:=h3 0 h0;dsimp only at e;subst e;exact⟨b,off,cap,rfl,h1,h2,ay c,λo ho=>(h3 o ho).2⟩
def aY.aG(h:aY w size v n g)(f:aC [] w w'):aY w' size v n g:=by
 rcases h with h|⟨a,cap,rfl,h1,h2,h3⟩
 ·exact .inl h
 ·refine .inr ⟨a,cap,rfl,h1,h2,λo ho=>⟨(h3 o ho).1,?_⟩⟩;have hc:=(h3 o ho).2;refine Eq.trans ?_ hc;exact aR (f.block a.block (ay hc) az)
def aY.zA{e:TypeId}(h:Row w e size v n g):aY w size v n g:=by
 rcases h.val with h0|⟨b,cap,rfl,h1,h2,-⟩
 ·exact .inl h0
 ·exact .inr ⟨(I b 0),cap,rfl,h1,h2,λo ho=>⟨rfl,by rw[Nat.zero_add];exact h.cell ho⟩⟩
structure Kp where
 g:to
 v:to
 t:to
 o:to
 c:to
def pV(K:Kp)(p:aU):to:= .agg #[K.g,K.v,K.t,K.o,Y p.aV,K.c]
structure gM(w:ek)(K:Kp)(p:aU):Prop where
 g:aY w 1 K.g p.ap.length (λi=> .bool (p.ap.getD i false))
 v:aY w 3 K.v p.vars.length (dW p)
 t:aY w 1 K.t p.aW.length (bd p.aW)
 o:aY w 1 K.o p.on.length (bd p.on)
 cd:aY w 5 K.c p.code.length (cy p)
variable {K:Kp}{p:aU}
def gM.aG(h:gM w K p)(f:aC [] w w'):gM w' K p:=⟨h.g.aG f,h.v.aG f,h.t.aG f,h.o.aG f,h.cd.aG f⟩
def gM.ins(h:gM w K p){i:Nat}(hi:i<p.code.length):∃b off cap,K.c=H (O (I b off)) p.code.length cap/\p.code.length<=cap/\cap<=maxLen/\
 Xf w (I b (off+i*5))=O (Y (ak p i).op)/\Xf w (I b (off+i*5+1))=O (Y (ak p i).a)/\Xf w (I b (off+i*5+2))=O (Y (ak p i).b)/\Xf w (I b (off+i*5+3))=O (Y (ak p i).c)/\Xf w (I b (off+i*5+4))=O (Y (ak p i).d):=by
 obtain⟨b,off,cap,hv,h1,h2,X,hc⟩:=h.cd.some G G;have key:∀k,k<5->Xf w (I b (off+i*5+k))=O (cy p (i*5+k)):=λk hk=>by rw[Nat.add_assoc];exact hc (i*5+k) G
 have hd:∀k,k<5->(i*5+k) / 5=i:=λk hk=>G;have hm:∀k,k<5->(i*5+k) % 5=k:=λk hk=>G;refine⟨b,off,cap,hv,h1,h2,(key 0 G).trans ?_,(key 1 G).trans ?_,(key 2 G).trans ?_,(key 3 G).trans ?_,(key 4 G).trans ?_⟩
 ·unfold cy;rw[hd 0 G,hm 0 G];rfl
 ·unfold cy;rw[hd 1 G,hm 1 G];rfl
 ·unfold cy;rw[hd 2 G,hm 2 G];rfl
 ·unfold cy;rw[hd 3 G,hm 3 G];rfl
 ·unfold cy;rw[hd 4 G,hm 4 G];rfl
def gM.gh(h:gM w K p){i:Nat}(hi:i<p.ap.length):∃b off cap,K.g=H (O (I b off)) p.ap.length cap/\p.ap.length<=cap/\cap<=maxLen/\Xf w (I b (off+i))=O (.bool (p.ap.getD i false)):=by obtain⟨b,off,cap,hv,h1,h2,X,hc⟩:=h.g.some G G;exact⟨b,off,cap,hv,h1,h2,hc i G⟩
end
end Go.Vf
section
def R3{p:Prop}(h:p:=by
 rcases Nat.lt_or_ge j (m*size)with be|E8
 ·exact be
 ·rw[List.getElem?_eq_none (by rw[gw];exact E8)]at hu;cases hu):p:=h
namespace al.Vm
open Go Go.RowKit
def ej{w w':ek}{row:Option Nat}(g:w.grownBy w' row):aC row.toList w w':=
 ⟨g.os,g.tape,g.output,g.size,λk hk hs=>g.block k hk (λe=>hs (by rw[<-e];simp))⟩
def gQ(N:Nat)(g f:Nat->to)(i:Nat):to:=if i<N then g i else f (i-N)
def zB(N M:Nat)(g f:Nat->to):fw (N+M) (gQ N g f)=fw N g++fw M f:=by
 rw[sC];congr 1
 ·exact qB λo ho=>by unfold gQ;rw[if_pos ho]
 ·unfold fw;exact List.map_congr_left λo ho=>by unfold gQ;rw[if_neg G];congr 1;omega
section
variable {P:Program}{w:ek}
def tu{o:Oper}{a:Act}{K:Act->ek->Prop}{Q:Exit->Act->ek->Prop}(s x:Operand)(t:TypeId)
 (ho:o.op= .call {callee:= .builtin .append,args:=#[s,x],argTypes:=#[t,t]})
 (e:TypeId) {size bytes:Nat} {z:to} (ht:P.underlying t=O (.slice e)) (hi:(P.info? e).map (λi=>(i.zero,i.size,i.bytes))=O (O z,size,bytes)) (Uk:z.cells.size=size) (nO:0<size)
 (v:to) (n:Nat) (g:Nat->to) (hs:a.eval s=v) (bC:Row w e size v n g)
 (ad:Addr) (m c:Nat) (f:Nat->to) (hx:a.eval x=H (O ad) m c) (rT:∀j,j<m*size->Xf w (ad.add j)=O (f j)) (h1:∀j,j<m*size->(f j).oneCell'=true)
 (Ul:n+m<=maxLen) (qG:(n+m)*bytes<=140737488355328)
 (h:∀v' w',Row w' e size v' (n+m) (gQ (n*size) g f)->aC v.ownBlock.toList w w'->(v'.ownBlock=v.ownBlock\/v'.ownBlock=O w.heap.size)->K (a.put o.dst v') w'):o.wp P a w K Q:=by
 obtain⟨i,zC,xS,MO,S_⟩:=info_parts hi;obtain⟨v',w',hr,h2,h3,-,h5⟩:=run_append_own_at (P:=P) w 0 t o.type e i z size bytes ht zC xS MO S_ Uk nO v n (fw (n*size) g) bC ad m c (fw (m*size) f) (by rw[gw])
  (λj u hu=>by
    have hj:j<m*size:=by exact R3
    rw[oW f hj]at hu;cases hu;exact rT j hj)
  (λu hu=>by
    unfold fw at hu;obtain⟨j,hj,rfl⟩:=List.mem_map.1 hu;exact h1 j (List.mem_range.1 hj)) Ul qG (ck _)
 unfold Oper.wp execOp;simp only[ho,resolve,invoke,builtin,Sem.run_bind,Sem.run_pure,Result.andThen_ok,List.map_toArray,List.map_cons,List.map_nil,hs,hx,hr];refine h v' w' ?_ (ej h3) h5;unfold Row;rw[Nat.add_mul,zB];exact h2
def cG{ops:Array Oper}{rest:List Oper}{o:Oper}{a:Act}{Q:Exit->Act->ek->Prop}(KH:o.guard=Xb)(s x:Operand)(t:TypeId)
 (ho:o.op= .call {callee:= .builtin .append,args:=#[s,x],argTypes:=#[t,t]})
 (e:TypeId) {size bytes:Nat} {z:to} (ht:P.underlying t=O (.slice e)) (hi:(P.info? e).map (λi=>(i.zero,i.size,i.bytes))=O (O z,size,bytes)) (Uk:z.cells.size=size) (nO:0<size)
 (v:to) (n:Nat) (g:Nat->to) (hs:a.eval s=v) (bC:Row w e size v n g)
 (ad:Addr) (m c:Nat) (f:Nat->to) (hx:a.eval x=H (O ad) m c) (rT:∀j,j<m*size->Xf w (ad.add j)=O (f j)) (h1:∀j,j<m*size->(f j).oneCell'=true)
 (Ul:n+m<=maxLen) (qG:(n+m)*bytes<=140737488355328)
 (h:∀v' w',Row w' e size v' (n+m) (gQ (n*size) g f)->aC v.ownBlock.toList w w'->(v'.ownBlock=v.ownBlock\/v'.ownBlock=O w.heap.size)->wpList P ops Q rest (a.put o.dst v') w'):wpList P ops Q (o::rest) a w:=
 wpList_plain KH λ_ hK=>tu s x t ho e ht hi Uk nO v n g hs bC ad m c f hx rT h1 Ul qG λv' w' h2 h3 h4=>hK _ _ (h v' w' h2 h3 h4)
def cU{ops:Array Oper}{o:Oper}{a:Act}{K:Act->ek->Prop}{Q:Exit->Act->ek->Prop}{E:Prop}(KH:o.guard=Xb)(s x:Operand)(t:TypeId)
 (ho:o.op= .call {callee:= .builtin .append,args:=#[s,x],argTypes:=#[t,t]})
 (e:TypeId) {size bytes:Nat} {z:to} (ht:P.underlying t=O (.slice e)) (hi:(P.info? e).map (λi=>(i.zero,i.size,i.bytes))=O (O z,size,bytes)) (Uk:z.cells.size=size) (nO:0<size)
 (v:to) (n:Nat) (g:Nat->to) (hs:a.eval s=v) (bC:Row w e size v n g)
 (ad:Addr) (m c:Nat) (f:Nat->to) (hx:a.eval x=H (O ad) m c) (rT:∀j,j<m*size->Xf w (ad.add j)=O (f j)) (h1:∀j,j<m*size->(f j).oneCell'=true)
 (Ul:n+m<=maxLen) (qG:(n+m)*bytes<=140737488355328)
 (h:∀v' w',Row w' e size v' (n+m) (gQ (n*size) g f)->aC v.ownBlock.toList w w'->(v'.ownBlock=v.ownBlock\/v'.ownBlock=O w.heap.size)->K (a.put o.dst v') w'):
 if Region.wanted o (yielded ops a.tmps)=true then Oper.wp P o a w K Q else E:=by
 have hw:Region.wanted o (yielded ops a.tmps)=true:=by simp[Region.wanted,KH]
 rw[if_pos hw];exact tu s x t ho e ht hi Uk nO v n g hs bC ad m c f hx rT h1 Ul qG h
end
end al.Vm
end
section
def WM{p:Prop}(h:p:=by
 exact λi u hu=>(h.r.jat i u hu).aG F qU):p:=h
namespace Go.Ma
open Go.RowKit al.Vm
open al hiding aS aw an
open eO (cw bP)
open Ix (dp)
section
variable {w w':ek}{C:Co}{U U':Ru}{RO RO':List Nat}{K:Kc}{p:aU}{c:Cp}{t:fG}{used:Int}{hv hv':to}{jv lM:Nat->to}{s:St}{r r':Rn}
def Un{p:Prop}(h:p:=by
 have:=h.sep.ur X;simp[Ru.l]at this ⊢;simp[this]):p:=h
def Uo{p:Prop}(h:p:=by
 have key:b∈U.l\/b∈vb v:=by simp only[Ru.l,ep,fE];rcases X with X|((X|X)|X)|X<;>simp[X]
 rcases key with X|X
 ·exact⟨.inl X,nO b X⟩
 ·refine⟨?_,by simpa using be b X⟩;rcases hs b X with X|X
  ·exact .inl (by simp[Ru.l,X])
  ·exact .inr X):p:=h
def dh.l8(h:dh w C U RO K p c t used hv jv s r){v:to}{l:List Int}(f:aC (vb U.l8) w w')(bC:Row w' 3 1 v l.length (λi=> Y (l.reverse.getD i 0)))(hs:∀b,b∈vb v->b∈vb U.l8\/w.heap.size<=b):dh (w'.setCell (I U.rb 2) v) C {U with l8:=v} RO K p c t used hv jv s {r with stack:=l}:=by
 have R:=h.sep.u;have F:aC (U.rb::vb U.l8) w (w'.setCell (I U.rb 2) v):=(f.mono (by intro k hk;simp[hk])).setCell az _;have F2:aC U.l w (w'.setCell (I U.rb 2) v):=F.mono (by intro k hk;simp at hk;rcases hk with rfl|hk;simp[Ru.l];simp[Ru.l,hk]);have qU:∀b,b∈RO->b∉U.rb::vb U.l8:=λb X=>by exact Un
 have hblk:aH w' U.rb 126 #[.int .u64 r.key,Y r.at_,U.l8,U.kW,hv,U.oh,Y r.bG,U.kR,.bool r.done]:=h.r.dY.aG f R.s;have be:∀b,b∈vb v->b<w'.heap.size:=λb X=>(gW bC b (aX.1 X)).2;have Xm:v.ownBlock≠O U.rb:=bC.fx hblk bz;refine h.runs (U':={U with l8:=v}) F2 rfl (λb X=>X) (λb X=> .inl X) ⟨?_,?_,?_,?_,?_,?_,?_⟩ ?_ (λb X=>?_)
 ·exact hblk.set 2 v
 ·exact bC.other Xm _ _
 ·exact h.r.kW.aG F λb X=>by simp;exact⟨by rintro rfl;exact R.l (aX.2 X),R.sl.symm b (aX.2 X)⟩
 ·exact h.r.oh.aG F λb X=>by simp;exact⟨by rintro rfl;exact R.t (aX.2 X),R.st.symm b (aX.2 X)⟩
 ·exact h.r.kR.aG F λb X=>by simp;exact⟨by rintro rfl;exact R.j (aX.2 X),R.sj.symm b (aX.2 X)⟩
 ·exact WM
 ·exact h.r.iE.aG F qU
 ·have e1:C.l++U.l=(C.l++[U.rb])++(vb U.l8++(vb U.kW++vb U.oh++vb U.kR)):=by simp[Ru.l]
  have e2:C.l++({U with l8:=v}:Ru).l=(C.l++[U.rb])++(vb v++(vb U.kW++vb U.oh++vb U.kR)):=by simp[Ru.l]
  rw[e2];refine ot (n:=w.heap.size) (v:=U.l8) ?_ (λb X=>?_) hs
  ·rw[<-e1];exact h.sep.nd
  ·rw[<-e1]at X;exact h.sep.lt b X
 ·simp only[Ru.l,ep,fE]at X;have nO:∀b,b∈U.l->b<(w'.setCell (I U.rb 2) v).heap.size:=λb X=>dC (h.sep.lt b (by simp[X])) F.size;exact Uo
def dh.kW(h:dh w C U RO K p c t used hv jv s r){v:to}{l:List Int}(f:aC (vb U.kW) w w')(bC:Row w' 3 1 v l.length (λi=> Y (l.reverse.getD i 0)))(hs:∀b,b∈vb v->b∈vb U.kW\/w.heap.size<=b):dh (w'.setCell (I U.rb 3) v) C {U with kW:=v} RO K p c t used hv jv s {r with loops:=l}:=by
 have R:=h.sep.u;have F:aC (U.rb::vb U.kW) w (w'.setCell (I U.rb 3) v):=(f.mono (by intro k hk;simp[hk])).setCell az _;have F2:aC U.l w (w'.setCell (I U.rb 3) v):=F.mono (by intro k hk;simp at hk;rcases hk with rfl|hk;simp[Ru.l];simp[Ru.l,hk]);have qU:∀b,b∈RO->b∉U.rb::vb U.kW:=λb X=>by exact Un
 have hblk:aH w' U.rb 126 #[.int .u64 r.key,Y r.at_,U.l8,U.kW,hv,U.oh,Y r.bG,U.kR,.bool r.done]:=h.r.dY.aG f R.l;have be:∀b,b∈vb v->b<w'.heap.size:=λb X=>(gW bC b (aX.1 X)).2;have Xm:v.ownBlock≠O U.rb:=bC.fx hblk bz;refine h.runs (U':={U with kW:=v}) F2 rfl (λb X=>X) (λb X=> .inl X) ⟨?_,?_,?_,?_,?_,?_,?_⟩ ?_ (λb X=>?_)
 ·exact hblk.set 3 v
 ·exact h.r.l8.aG F λb X=>by simp;exact⟨by rintro rfl;exact R.s (aX.2 X),R.sl b (aX.2 X)⟩
 ·exact bC.other Xm _ _
 ·exact h.r.oh.aG F λb X=>by simp;exact⟨by rintro rfl;exact R.t (aX.2 X),R.lt.symm b (aX.2 X)⟩
 ·exact h.r.kR.aG F λb X=>by simp;exact⟨by rintro rfl;exact R.j (aX.2 X),R.lj.symm b (aX.2 X)⟩
 ·exact WM
 ·exact h.r.iE.aG F qU
 ·have e1:C.l++U.l=(C.l++U.rb::vb U.l8)++(vb U.kW++(vb U.oh++vb U.kR)):=by simp[Ru.l]
  have e2:C.l++({U with kW:=v}:Ru).l=(C.l++U.rb::vb U.l8)++(vb v++(vb U.oh++vb U.kR)):=by simp[Ru.l]
  rw[e2];refine ot (n:=w.heap.size) (v:=U.kW) ?_ (λb X=>?_) hs
  ·rw[<-e1];exact h.sep.nd
  ·rw[<-e1]at X;exact h.sep.lt b X
 ·simp only[Ru.l,ep,fE]at X;have nO:∀b,b∈U.l->b<(w'.setCell (I U.rb 3) v).heap.size:=λb X=>dC (h.sep.lt b (by simp[X])) F.size;exact Uo
def dh.oh(h:dh w C U RO K p c t used hv jv s r){v:to}{l:List Nat}(f:aC (vb U.oh) w w')(bC:Row w' 46 1 v l.length (λi=> .int .u64 (l.getD i 0:Nat)))(hs:∀b,b∈vb v->b∈vb U.oh\/w.heap.size<=b):dh (w'.setCell (I U.rb 5) v) C {U with oh:=v} RO K p c t used hv jv s {r with told:=l}:=by
 have R:=h.sep.u;have F:aC (U.rb::vb U.oh) w (w'.setCell (I U.rb 5) v):=(f.mono (by intro k hk;simp[hk])).setCell az _;have F2:aC U.l w (w'.setCell (I U.rb 5) v):=F.mono (by intro k hk;simp at hk;rcases hk with rfl|hk;simp[Ru.l];simp[Ru.l,hk]);have qU:∀b,b∈RO->b∉U.rb::vb U.oh:=λb X=>by exact Un
 have hblk:aH w' U.rb 126 #[.int .u64 r.key,Y r.at_,U.l8,U.kW,hv,U.oh,Y r.bG,U.kR,.bool r.done]:=h.r.dY.aG f R.t;have be:∀b,b∈vb v->b<w'.heap.size:=λb X=>(gW bC b (aX.1 X)).2;have Xm:v.ownBlock≠O U.rb:=bC.fx hblk bz;refine h.runs (U':={U with oh:=v}) F2 rfl (λb X=>X) (λb X=> .inl X) ⟨?_,?_,?_,?_,?_,?_,?_⟩ ?_ (λb X=>?_)
 ·exact hblk.set 5 v
 ·exact h.r.l8.aG F λb X=>by simp;exact⟨by rintro rfl;exact R.s (aX.2 X),R.st b (aX.2 X)⟩
 ·exact h.r.kW.aG F λb X=>by simp;exact⟨by rintro rfl;exact R.l (aX.2 X),R.lt b (aX.2 X)⟩
 ·exact bC.other Xm _ _
 ·exact h.r.kR.aG F λb X=>by simp;exact⟨by rintro rfl;exact R.j (aX.2 X),R.tj.symm b (aX.2 X)⟩
 ·exact WM
 ·exact h.r.iE.aG F qU
 ·have e1:C.l++U.l=(C.l++U.rb::(vb U.l8++vb U.kW))++(vb U.oh++vb U.kR):=by simp[Ru.l]
  have e2:C.l++({U with oh:=v}:Ru).l=(C.l++U.rb::(vb U.l8++vb U.kW))++(vb v++vb U.kR):=by simp[Ru.l]
  rw[e2];refine ot (n:=w.heap.size) (v:=U.oh) ?_ (λb X=>?_) hs
  ·rw[<-e1];exact h.sep.nd
  ·rw[<-e1]at X;exact h.sep.lt b X
 ·simp only[Ru.l,ep,fE]at X;have nO:∀b,b∈U.l->b<(w'.setCell (I U.rb 5) v).heap.size:=λb X=>dC (h.sep.lt b (by simp[X])) F.size;exact Uo
def dh.kR(h:dh w C U RO K p c t used hv jv s r){v:to}{l:List vM}(f:aC (vb U.kR) w w')(bC:Row w' 1 1 v l.length (lM))(hs:∀b,b∈vb v->b∈vb U.kR\/w.heap.size<=b)(hj:∀i u,l.reverse[i]? =O u->iD (w'.setCell (I U.rb 7) v) C.mb RO' (lM i) u)(ho:∀b,b∈RO->b∈RO')(hn:∀b,b∈RO'->b∈RO\/(w.heap.size<=b/\b<w'.heap.size/\b∉vb v)):dh (w'.setCell (I U.rb 7) v) C {U with kR:=v} RO' K p c t used hv lM s {r with bI:=l}:=by
 have R:=h.sep.u;have F:aC (U.rb::vb U.kR) w (w'.setCell (I U.rb 7) v):=(f.mono (by intro k hk;simp[hk])).setCell az _;have F2:aC U.l w (w'.setCell (I U.rb 7) v):=F.mono (by intro k hk;simp at hk;rcases hk with rfl|hk;simp[Ru.l];simp[Ru.l,hk]);have qU:∀b,b∈RO->b∉U.rb::vb U.kR:=λb X=>by exact Un
 have hblk:aH w' U.rb 126 #[.int .u64 r.key,Y r.at_,U.l8,U.kW,hv,U.oh,Y r.bG,U.kR,.bool r.done]:=h.r.dY.aG f R.j;have be:∀b,b∈vb v->b<w'.heap.size:=λb X=>(gW bC b (aX.1 X)).2;have Xm:v.ownBlock≠O U.rb:=bC.fx hblk bz;refine h.runs (U':={U with kR:=v}) F2 rfl ho (λb X=>?_) ⟨?_,?_,?_,?_,?_,?_,?_⟩ ?_ (λb X=>?_)
 ·rcases hn b X with X|⟨h1,h2,h3⟩
  ·exact .inl X
  ·refine .inr ⟨h1,by simpa using h2,?_⟩;intro hc;simp only[Ru.l,ep,fE]at hc;rcases hc with rfl|((hc|hc)|hc)|hc
   ·have:=h.sep.lt U.rb (by simp[Ru.l]);omega
   ·have:=h.sep.lt b (by simp[Ru.l,hc]);omega
   ·have:=h.sep.lt b (by simp[Ru.l,hc]);omega
   ·have:=h.sep.lt b (by simp[Ru.l,hc]);omega
   ·exact h3 hc
 ·exact hblk.set 7 v
 ·exact h.r.l8.aG F λb X=>by simp;exact⟨by rintro rfl;exact R.s (aX.2 X),R.sj b (aX.2 X)⟩
 ·exact h.r.kW.aG F λb X=>by simp;exact⟨by rintro rfl;exact R.l (aX.2 X),R.lj b (aX.2 X)⟩
 ·exact h.r.oh.aG F λb X=>by simp;exact⟨by rintro rfl;exact R.t (aX.2 X),R.tj b (aX.2 X)⟩
 ·exact bC.other Xm _ _
 ·exact hj
 ·exact(h.r.iE.aG F qU).more ho
 ·have e1:C.l++U.l=(C.l++U.rb::(vb U.l8++vb U.kW++vb U.oh))++(vb U.kR++[]):=by simp[Ru.l]
  have e2:C.l++({U with kR:=v}:Ru).l=(C.l++U.rb::(vb U.l8++vb U.kW++vb U.oh))++(vb v++[]):=by simp[Ru.l]
  rw[e2];refine ot (n:=w.heap.size) (v:=U.kR) ?_ (λb X=>?_) hs
  ·rw[<-e1];exact h.sep.nd
  ·rw[<-e1]at X;exact h.sep.lt b X
 ·simp only[Ru.l,ep,fE]at X;have nO:∀b,b∈U.l->b<(w'.setCell (I U.rb 7) v).heap.size:=λb X=>dC (h.sep.lt b (by simp[X])) F.size;exact Uo
end
end Go.Ma
end
