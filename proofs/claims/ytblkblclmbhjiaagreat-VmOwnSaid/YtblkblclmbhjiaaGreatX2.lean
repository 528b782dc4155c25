import Derived.Test.YtblkblclmbhjiaaGreatX1
import Derived.RangeFuncBox
import Derived.Maps.AppendAt
import Derived.Lib.Bytes
import Derived.Deep.AppendLies
import Derived.StillTailTactics
import Derived.Deep.RegionLaw
import Derived.RangeFuncNested
import Derived.RangeFuncBound
import Derived.RangeFuncCalls
import Derived.RangeFuncLeaves
import Derived.Shelf.Abstract
import Derived.OwnWalkIn
import Derived.TacticsInMore
import Derived.LoopNIn
import Derived.LoopIn
import Derived.Deep.RegionHeld3
set_option linter.all false
set_option maxHeartbeats 40000000
set_option maxRecDepth 100000
open Go.Proofs.Tryz
open Option renaming some->H,none->K7
open Go renaming Value->UL,World->UK
open Go.Value renaming slice->to
open Go.Obj renaming cells->QP
open Go.Ending renaming returned->C8
open Go.World renaming cell?->UJ
abbrev dJ:=@Go.results_none
abbrev jy:=@List.getElem?_append_right
abbrev qS:=@List.length_append
abbrev oK:=@List.getElem?_append_left
abbrev y_:=@Go.info_parts
abbrev dz:=@Int.eq_ofNat_of_zero_le
abbrev AG:=@Go.step_append_lies
abbrev AJ:=@List.take_succ_eq_append_getElem
abbrev fk:=@Go.wpAnyH_ready
abbrev pP:=@Go.wpAnyH_take
abbrev dV:=@List.mem_append
abbrev fh:=@List.mem_cons
abbrev DV:=@List.getElem?_append
namespace Go.gR
open Go.RowKit aj
def Li:(prog.info? 199).map (λi=>(i.zero,i.size,i.bytes))=H (H (.agg #[.bool false,.int .u64 0,Y 0]),3,24):=by kernel_rfl
def Made(w:UK)(aE:Nat)(z:UL)(r:Ending)(w':UK):Prop:=
 r=C8 (.tuple #[UI (w.heap.size+1),Y 0])/\∃n e,Fit aE n e/\dI w' (w.heap.size+1) w.heap.size aE 0 n (du z λ_=>K7)/\aA [] w w'/\w'.heap.size=w.heap.size+2
def Ef(aE:Nat)(w:UK)(hn:aE<=4194304):
 Calls prog 57 #[Y aE] w (Made w aE (Y 0)):=by
 obtain⟨i0,hi,jn,nQ,qm⟩:=info_parts Li;have hmk:∀(n:Nat) (wx:UK),n<=16777216->(Instr.makeSlice 195 (Y n) (Y n)).run prog wx= .ok (to (H (G wx.heap.size 0)) n n) (wx.alloc (QP (madeCells #[.bool false,.int .u64 0,Y 0] (n*3)) 199)):=by intro n wx hn;have:=run_make (P:=prog) wx 195 199 i0 _ underlying195 hi jn .i64 .i64 n n O O (by rw[qm];omega) O;rw[nQ]at this;exact this
 have HMK:=Z hmk;clear hmk hi jn nQ qm;go_enter func57,ntmps57;go_wp2
 go_loopg [4] 30 (λf s4 wr=>w=wr/\∃e n:Nat,s4=Y n/\zN n e/\e+f=31/\n<=16777216/\(n=2\/n<4*aE))
 case atStart=>exact⟨rfl,1,2,rfl,⟨rfl,O,O⟩,rfl,O,.inl rfl⟩
 case round=>
  obtain⟨rfl,e,n,rfl,g,hf,hs,hl⟩:=hrel;by_cases h:n<2*aE
  ·have h1:=g.n;have h2:=g.ge;have h3:=g.le;have hg':gk≠0->zN (n*2) (e+1):=λ_=>⟨by rw[g.n,Nat.pow_succ],O,O⟩;have X:gk≠0:=by intro h0;have:e=31:=O;rw[this]at h1;omega
   have HG:=Z (hg' X);have HB:=Z X;clear hg' X g h1 HMK hl;go_wp2
   go_roundg (gk-1)
   case measure=>have:=HB.o;omega
   case rel=>exact⟨rfl,e+1,n*2,by go_num,HG.o,by have:=HB.o;omega,O,O⟩
  ·have L9:Fit aE n e:=⟨g,O,hl⟩;have hp:=g.pos;have HF:=Z L9;have h':=HMK.o n w hs;clear HMK g hl hf hs L9;go_wp2;go_ret2;refine⟨rfl,n,e,HF.o,dI.made (t:=197) (u:=199) O hp ?_ ?_,((aA.refl _ _).alloc _).alloc _,ay⟩
   ·have:=sY (w.alloc (QP (madeCells #[.bool false,.int .u64 0,Y 0] (n*3)) 199)) (QP #[Y aE,Y 0,to (H (G w.heap.size 0)) n n] 197);rwa[aM]at this
   ·rw[Below.heap_alloc _ _ _ ay];exact sY _ _
open Go.Sort Go.Lib
def iF(W:UK)(xs:List UL)(t:TypeId)(N:Nat)(hN:N=W.heap.size):∀j u,xs[j]? =H u->(W.alloc (QP xs.toArray t)).cell? (((G N 0):Addr).add j)=H u:=by
 intro j u hj;subst hN;have e:((G W.heap.size 0):Addr).add j=(G W.heap.size j):=by
  unfold Addr.add;split
  ·next h=>rw[h]
  ·simp
 rw[e,dp (sY W _)];simpa using hj
def cZ(S:Tb UL):Nat->List (Nat×Int)
 |0=>[]
 |i+1=>cZ S i++(match S i with|some (k,.int _ v)=>[(k,v)]|_=>[])
def mw(x:Nat×Int):List UL:=[.bool true,.int .u64 x.1,Y x.2]
def rM(l:List (Nat×Int)):List UL:=l.flatMap mw
def BN(a b:List (Nat×Int)):rM (a++b)=rM a++rM b:=by simp[rM]
def Az(S:Tb UL):∀i,(cZ S i).length<=i:=by
 intro i
 induction i with
 |zero=>simp[cZ]
 |succ i ih=>unfold cZ;split<;>simp<;>omega
def KU(L:List (Nat×Int)):∀i (hi:i<L.length) c,c<3->(rM L)[i*3+c]? =(mw L[i])[c]? :=by
 induction L with
 |nil=>intro i hi;simp at hi
 |cons x L ih=>
  intro i hi c hc;have hx:rM (x::L)=mw x++rM L:=by simp[rM]
  rw[hx];cases i with
  |zero=>rw[oK (by simp[mw];omega)];simp
  |succ i=>rw[jy (by simp[mw];omega)];have:=ih i (by simpa using hi) c hc;rw[show(i+1)*3+c - (mw x).length=i*3+c from by simp[mw];omega];simpa using this
def KW{w:UK}{g:Nat}{e:TypeId}{zF:Array UL}{L:List (Nat×Int)}(xM:w.heap[g]? =H (QP zF e (0,0)))(Jj:zF.toList.take (L.length*3)=rM L):HoldsK mw 3 w g 0 L.toArray:=by
 intro j hj;rw[size_flatK]at hj;simp only[List.size_toArray]at hj;have hi:j / 3<L.length:=O;refine⟨?_,eQ xM _⟩;rw[dp xM,get_flatK _ _ _ _ (by simpa using hj)];have h1:=KU L (j / 3) hi (j % 3) (Nat.mod_lt _ bd);rw[<-Jj,show j / 3*3+j % 3=j from by omega,List.getElem?_take,if_pos hj]at h1;rw[Nat.zero_add,<-Array.getElem?_toList,h1];have h2:L.toArray[j / 3]! =L[j / 3]:=by simp[hi]
 rw[h2];have h3:j % 3<(mw L[j / 3]).length:=by simp[mw];omega
 simp[h3]
def BO(w:UK)(base:Nat)(lv:UL)(L:List (Nat×Int)):Prop:=
 (L=[]/\lv=Pl)\/∃g cap,lv=to (H (G g 0)) L.length cap/\base<=g/\g<w.heap.size/\L≠[]/\
   ∀i (hi:i<L.length),UJ w (G g (i*3))=H (.bool true)/\UJ w (G g (i*3+1))=H (.int .u64 L[i].1)/\UJ w (G g (i*3+2))=H (Y L[i].2)
def zS{w:UK}{g cap base:Nat}{L:List (Nat×Int)}(h:HoldsK mw 3 w g 0 L.toArray)(X:base<=g)(hg:g<w.heap.size)(bm:L≠[]):BO w base (to (H (G g 0)) L.length cap) L:=by
 refine .inr ⟨g,cap,rfl,X,hg,bm,λi hi=>?_⟩;have key:∀c,c<3->UJ w (G g (i*3+c))=H ((mw L[i])[c]!):=by
  intro c hc;have:=(h (i*3+c) (by rw[size_flatK];simp;omega)).1;rw[get_flatK _ _ _ _ jz]at this;rw[Nat.zero_add,show(i*3+c) / 3=i from by omega,show(i*3+c) % 3=c from by omega]at this;have h2:L.toArray[i]! =L[i]:=by simp[hi]
  rw[h2]at this;exact this
 exact⟨key 0 bd,key 1 bd,key 2 bd⟩
def pQ{α:Type}[Inhabited α](enc:α->List UL)(k:Nat)(w:UK)(dS off m:Nat)(dk:Array α)(os:Array Obj)(j:Nat)(hj:j<w.heap.size)(bm:j≠dS):(Proofs.sortWorldK enc k w dS off m dk os).heap[j]? =w.heap[j]? :=by simp only[Proofs.sortWorldK,grow,putRowK,putRow,mapBlock,Go.Sort.ahead];rw[Array.getElem?_append_left (by simpa using hj),Array.getElem?_modify,if_neg (λe=>bm e.symm)]
def Eb{d d':Array (Nat×Int)}(h:PermIn 0 d.size d d'):d'.toList.Perm d.toList:=by
 obtain⟨h1,_,h3⟩:=h;have a:d'.extract 0 d.size=d':=by rw[<-h1];simp
 have b:d.extract 0 d.size=d:=by simp
 rw[a,b]at h3;exact h3
def Jk(x y:Nat×Int):Proofs.ltOf (λx y:Nat×Int=>Lib.compareInt x.1 y.1) x y=decide (x.1<y.1):=by
 unfold Proofs.ltOf Lib.compareInt;by_cases h1:x.1<y.1
 ·simp[h1]
 ·by_cases h2:y.1<x.1<;>simp[h1,h2]
def XX:SWO (Proofs.ltOf λx y:Nat×Int=>Lib.compareInt x.1 y.1) where
 irrefl x:=by rw[Jk];simp
 trans x y z h1 h2:=by rw[Jk]at*;simp at*;omega
 ntrans x y z h1 h2:=by rw[Jk]at*;simp at*;omega
def Ec{d:Array (Nat×Int)}{N:Nat}(hN:N=d.size)(h:SortedIn (Proofs.ltOf λx y:Nat×Int=>Lib.compareInt x.1 y.1) 0 N d):d.toList.Pairwise (λa b=>a.1<=b.1):=by rw[List.pairwise_iff_getElem];intro i j hi hj XK;have:=h i j (Nat.zero_le _) XK (by rw[hN];simpa using hj);rw[Jk]at this;simp only[Array.length_toList]at hi hj;rw[getElem!_pos d i hi,getElem!_pos d j hj]at this;simp at this;simpa using this
def GM{p:Prop}(h:p:=by
 go_enter func139,ntmps139;go_wp2;go_ret;exact⟨rfl,rfl⟩):p:=h
def dg(x y:Nat)(w:UK):Calls prog 139 #[.int .u64 x,.int .u64 y] w λe w'=>e=C8 (Y (Lib.compareInt x y))/\w=w':=by
 unfold Lib.compareInt;rcases Nat.lt_trichotomy x y with h|h|h
 ·have h1:(x:Int)<y:=O;rw[if_pos h1];clear h;exact GM
 ·subst h;rw[if_neg O,if_neg O];exact GM
 ·have h1:(y:Int)<x:=O;rw[if_neg O,if_pos h1];clear h;exact GM
def KY(x y:Nat×Int)(W:UK):Calls prog 138 #[.agg #[.bool true,.int .u64 x.1,Y x.2],.agg #[.bool true,.int .u64 y.1,Y y.2]] W λe w'=>e=C8 (Y (Lib.compareInt x.1 y.1))/\∃q os',w'=grow (W.drewN q) os':=by have Oa:=Z (λW'=>dg x.1 y.1 W');generalize Lib.compareInt x.1 y.1=r at Oa ⊢;go_enter func138,ntmps138;go_wp2_with (go_at_call 139;refine(Oa.o _).mono ?_;rintro e w' ⟨rfl,rfl⟩);go_ret;exact⟨rfl,0,_,by rw[alloc_eq_grow,alloc_eq_grow,grow_grow];rfl⟩
def KZ(dS off size:Nat)(w:UK):Proofs.CmpLays prog 138 #[] mw 3 (λx y=>Lib.compareInt x.1 y.1) dS off size w:=
 λ_ _ _ _ x y=>KY x y _
def Si(fv:UL)(w:UK):Calls prog 276 #[Pl,Y 0,Y 0,fv] w λe w'=>e=C8 (.tuple #[])/\w=w':=by go_enter func276,ntmps276;go_wp2;refine wp_loop_once ?_;go_wp2;go_end0;exact⟨rfl,rfl⟩
def Sj(fv:UL)(l:Int)(w:UK):Calls prog 227 #[Pl,Y 0,Y 0,Y l,fv] w λe w'=>e=C8 (.tuple #[])/\w=w':=by have a0f:=Z (Si fv w);go_enter func227,ntmps227;go_wp2;refine wp_loop_once ?_;go_wp2_with (go_at_call 276;refine a0f.o.mono ?_;rintro e w' ⟨rfl,rfl⟩);refine bodyPost_ret (dJ rfl _ _ _) rfl ?_;exact⟨rfl,rfl⟩
def Ob(fv:UL)(w:UK):Calls prog 137 #[Pl,fv] w λe w'=>e=C8 (.tuple #[])/\w=w':=by have H1:=Z (Proofs.Tryz.bits_Len 0 w O O);have H2:=Z (λl=>Sj fv l w);go_enter func137,ntmps137;go_wp2_with fail;refine H1.o.mono ?_;rintro e w' ⟨rfl,rfl⟩;go_wp2_with fail;refine(H2.o _).mono ?_;rintro e w' ⟨rfl,rfl⟩;go_wp2;go_end0;exact⟨rfl,rfl⟩
def Ed(w:UK)(L:List (Nat×Int))(w':UK):Prop:=
 Below w.heap.size w w'/\w.heap.size<w'.heap.size/\∃lv,Boxed w' w.heap.size 195 lv/\BO w' (w.heap.size+1) lv L
def BP(S:Tb UL)(n:Nat)(L:List (Nat×Int)):Prop:=L.Perm (cZ S n)/\L.Pairwise (λa b=>a.1<=b.1)
def EO{w:UK}{b s aE count n e:Nat}{S:Tb UL}(h:dI w b s aE count n (du (Y 0) S))(g:zN n e)(hint:∀i k u,S i=H (k,u)->∃x,u=Y x):
 Calls prog 65 #[UI b] w λr w'=>r=C8 (.func (.func 140) #[] #[UI w.heap.size])/\∃L,BP S n L/\Ed w L w':=by
 obtain⟨i0,hi,jn,nQ,qm⟩:=y_ (show(prog.info? 199).map (λi=>(i.zero,i.size,i.bytes))=H (H (.agg #[.bool false,.int .u64 0,Y 0]),3,24)by kernel_rfl);have Ri:n<=1099511627776:=g.small;obtain⟨cp,c2⟩:=h.c2;have HI:=Z h;have VF:=h.lb;have oC:=h.ls;have HN:=Z hint;clear h g hint;go_enter func65,ntmps65;go_wp2
 go_loopg [11] n (λf MV wr=>∃(i:Nat) (lv:UL),MV=Y i/\i+f=n/\Boxed wr w.heap.size 195 lv/\wr.ownsRow w.heap.size 199 3 lv (cZ S i).length (rM (cZ S i))/\Below w.heap.size w wr/\(cZ S i=[]->lv=Pl))
 case atStart=>exact⟨0,Pl,rfl,O,Boxed.new _ _ _,World.ownsRow_nil ..,(Below.refl _ w).alloc (Nat.le_refl _) _,λ_=>rfl⟩
 case round=>
  obtain⟨i,lv,rfl,hif,qC,gp,hB,jT⟩:=hrel;have XY:dI wr b s aE count n (du (Y 0) S):=HI.o.ju (hB.block b VF) (hB.block s oC);by_cases be:i<n
  ·have k0:=XY.k0 i be;have k1:=XY.k1 i be;have k2:=XY.k2 i be;have bc:=qC.cell;have bf:=qC.frozen;have kw:=hB.size;have wD:=qC.lt;cases hS:S i with
   |none=>
    have hc:du (Y 0) S i=(false,0,Y 0):=by unfold du;rw[hS]
    rw[hc]at k0 k1 k2;have he:cZ S (i+1)=cZ S i:=by simp only[cZ,hS,List.append_nil]
    have HW:=Z (And.intro qC (And.intro gp hB));have HE:=Z he;have HL:=Z jT;clear qC gp hB XY hc hS he jT;go_wp2_with fail
    go_roundg (gk-1)
    case measure=>omega
    case rel=>exact⟨i+1,lv,by go_num,O,HW.o.1.alloc _,by rw[HE.o];exact HW.o.2.1.alloc _,HW.o.2.2.alloc kw _,by rw[HE.o];exact HL.o⟩
   |some x=>
    obtain⟨k,u⟩:=x;obtain⟨v,rfl⟩:=HN.o i k u hS;have hc:du (Y 0) S i=(true,k,Y v):=by unfold du;rw[hS]
    rw[hc]at k0 k1 k2;have he:cZ S (i+1)=cZ S i++[(k,v)]:=by simp only[cZ,hS]
    have hle:=Az S i;have HE:=Z he;have HB:=Z hB;have HX:=Z qC;have HO:=Z gp;have C3:=Z (show(cZ S i).length+1<=maxLen by unfold maxLen;omega);have C4:=Z (show((cZ S i).length+1)*24<=140737488355328 by omega);have C2:=Z (show∀u∈mw (k,v),u.oneCell'=true by intro u hu;simp[mw]at hu;rcases hu with rfl|rfl|rfl<;>rfl);clear qC gp hB XY hc hS he jT;go_wp2_with ((at_builtin;refine wpList_append_own _ rfl _ _ 195 rfl w.heap.size 199 i0 (.agg #[.bool false,.int .u64 0,Y 0]) 3 24 underlying195 hi jn nQ qm rfl bd lv _ _ rfl ((HO.o.alloc _).alloc _) (G (wr.heap.size+1) 0) 1 1 (mw (k,v)) rfl rfl (iF _ (mw (k,v)) _ _ ay) C2.o C3.o C4.o jz ?_;intro v' w1 Oc gw GN;obtain⟨iD,Rj,VG,jZ,dC⟩:=(HX.o.alloc _).appended bd (HO.o.alloc _) jz (Nat.le_refl _) Oc gw;have pR:=iD.cell;have MX:=iD.frozen;have FY:=Z Rj;have sR:=Z VG;have eF:=Z dC;obtain⟨g',oh,rfl⟩:=ownsRow_succ Oc;clear iD Rj VG jZ dC Oc gw GN))
    go_roundg (gk-1)
    case measure=>omega
    case rel=>refine⟨i+1,_,by go_num,O,FY.o,?_,HB.o.trans (((Below.refl _ _).alloc kw _).trans eF.o),λh=>by rw[HE.o]at h;simp at h⟩;rw[HE.o,BN,qS];exact sR.o
  ·obtain rfl:i=n:=O;have hlen:=Az S i;rcases gp.2 with⟨rfl,h0⟩|⟨gb,cap,zF,rfl,vK,xM,xN,EN,LP,Jj⟩
   ·have GN:cZ S i=[]:=List.eq_nil_of_length_eq_zero h0;have bc:=qC.cell;have HF:Hid (∃L,BP S i L/\Ed w L wr):=Z ⟨[],⟨by rw[GN],.nil⟩,hB,qC.lt,_,qC,.inl ⟨rfl,rfl⟩⟩;have H2:=Z (Ob (.func (.func 138) #[] #[]) wr);clear GN qC gp hB XY h0 jT;go_wp2_with (go_at_call 137;refine H2.o.mono ?_;rintro e w' ⟨rfl,rfl⟩);go_ret;exact⟨rfl,HF.o⟩
   ·have bm:gb≠w.heap.size:=by intro e';have:=qC;unfold Boxed at this;rw[<-e',xM]at this;simp at this
    have hgs:gb<wr.heap.size:=(Array.getElem?_eq_some_iff.1 xM).1;have bc:=qC.cell;have wD:=qC.lt;have kw:=hB.size;by_cases hz:cZ S i=[]
    ·have:=jT hz;simp at this
    ·clear jT;have eg:∀args w,(callFunc 138 args).run prog w= .ok (.enter 138 args) w:=Proofs.enters_of func138 bh rfl;have hH:=KW xM Jj;have Oa:=Proofs.AnyQ.slices_SortFunc Proofs.Tryz.EP 3 isAgg199 sizeOf199 mw (λ_=>rfl) (λx v hv=>by simp[mw]at hv;rcases hv with rfl|rfl|rfl<;>rfl) (λx y=>Lib.compareInt x.1 y.1) XX 138 #[] gb 0 cap (cZ S i).toArray wr eg (KZ gb 0 _ wr) hH hgs jz;have VH:∀(d':Array (Nat×Int)) (m:Nat) (os:Array Obj),PermIn 0 (cZ S i).toArray.size (cZ S i).toArray d'->SortedIn (Proofs.ltOf λx y:Nat×Int=>Lib.compareInt x.1 y.1) 0 (cZ S i).toArray.size d'->
      ∃L,BP S i L/\Ed w L (Proofs.sortWorldK mw 3 wr gb 0 m d' os):=by
      intro d' m os hp hs;have hpl:=Eb hp;have hds:d'.size=(cZ S i).toArray.size:=hp.1;have VI:d'.toList.length=(cZ S i).length:=by simpa using hds
      have EM:=Proofs.size_sortWorldK_c mw 3 wr gb 0 m d' os;refine⟨d'.toList,⟨by simpa using hpl,Ec hds.symm hs⟩,?_,O,to (H (G gb 0)) (cZ S i).length cap,?_,?_⟩
      ·exact hB.trans ⟨rfl,rfl,rfl,EM,λk hk=>pQ mw 3 wr gb 0 m d' os k O O⟩
      ·unfold Boxed;rw[pQ mw 3 wr gb 0 m d' os _ wD (λe=>bm e.symm)];exact qC
      ·rw[<-VI];refine zS ?_ O O (λe'=>hz (List.eq_nil_of_length_eq_zero (by rw[<-VI,e'];rfl)));exact Proofs.holdsK_sortWorldK_c mw 3 wr gb 0 (cZ S i).toArray d' m os hH hgs hds
     have HP:=Z VH;have HC:=Z Oa;simp only[List.size_toArray]at HC HP;clear VH Oa hH eg qC gp hB XY xM xN EN LP Jj hz;generalize cZ S i=L0 at*;go_wp2_with fail;refine HC.o.mono ?_;rintro e w' ⟨rfl,d',m,os,hp,hs,rfl⟩;have HF:=Z (HP.o d' m os hp hs);go_wp2;go_ret;exact⟨rfl,HF.o⟩
end Go.gR
namespace Go.eB
open Go.RowKit aj.Vm
open aj hiding aR an ak
def XZ(w:UK)(ab:Nat)(V L:UL)(aE nl:Nat)(R':Raw)(n:Nat)(r:Ending)(w':UK):Prop:=
 r=C8 (.tuple #[Y n,Y 0])/\∃V',rL w' ab V' L aE nl R'/\aA (bp ab V L) w w'/\∀b,V'.ownBlock=H b->V.ownBlock=H b\/w.heap.size<=b
def AA:(prog.info? 202).map (λi=>(i.zero,i.size,i.bytes))=H (H (.agg #[.int .u64 0,Y 0,Y 0,Y 0,Y 0,Y 0,Y 0,Y 0]),8,64):=by kernel_rfl
def sh:List UL:=[.int .u64 0,Y 0,Y 0,Y 0,Y 0,Y 0,Y 0,Y 0]
def Sk{w:UK}{V:UL}{R:Raw}(h:w.ownsRow 0 202 8 V (R.made+1) (eY (R.made*8) (eI R)++sh)):Row w 202 8 V (R.made+1) (eI (rE R eh)):=by
 unfold Row;have e:eY ((R.made+1)*8) (eI (rE R eh))=eY (R.made*8) (eI R)++sh:=by
  rw[show(R.made+1)*8=R.made*8+8 by omega,rj];congr 1
  ·refine px λo ho=>?_;unfold eI rE;dsimp only;have:o / 8≠R.made:=O;rw[ak _ _ this,ak _ _ this,ak _ _ this]
  ·have hk:∀i,i<8->(R.made*8+i) / 8=R.made/\(R.made*8+i) % 8=i:=λi hi=>O;unfold sh;simp only[show List.range 8=[0,1,2,3,4,5,6,7]from rfl,List.map_cons,List.map_nil];unfold eI rE;dsimp only;simp only[(hk 0 O).1,(hk 0 O).2,(hk 1 O).1,(hk 1 O).2,(hk 2 O).1,(hk 2 O).2,(hk 3 O).1,(hk 3 O).2,(hk 4 O).1,(hk 4 O).2,(hk 5 O).1,(hk 5 O).2,(hk 6 O).1,(hk 6 O).2,(hk 7 O).1,(hk 7 O).2,an];rfl
 rw[e];exact h
def Od{w:UK}{ab nb cn lb cl aE nl q e:Nat}{R:Raw}(h:eE w ab nb cn lb cl aE nl R)(v:eU)(hq:q<nl)(he:e<=1){m:Nat}(tp:R.dm=(m:Int))(hm:m<R.made)(hu:R.used<aE)(dU:R.ends q e<0\/∃k:Nat,R.ends q e=(k:Int)/\k<R.made/\k≠m)(hc:R.dr q<=4194304)(BK:R.made<=aE)(rD:aE<=4194304)(jT:nl<=256):
 Calls prog 306 #[UI ab,Y q,Y e,bL v] w λr w'=>r=C8 (.tuple #[Y m,Y 0])/\aA [ab,nb,lb] w w'/\eE w' ab nb cn lb cl aE nl (ii R q e v):=by
 have wQ:Below w.heap.size w (w.alloc (QP #[.int .u64 v.key,Y (v.tg 0),Y (v.tg 1),Y (v.tg 2),Y (v.tg 3)] 118)):=(aB _ w).alloc (aL _) _;have Dj:=aF.new w 118 #[.int .u64 v.key,Y (v.tg 0),Y (v.tg 1),Y (v.tg 2),Y (v.tg 3)];have vI:=h.later wQ;have HI:=Z (KR vI.c hq he);have GH:=Z vI;have eV:=Z wQ;have vJ:=Z Dj;have hz:=vI.apart Dj;have HL:=Z (λwx (hx:eE wx ab nb cn lb cl aE nl (jW (wB R) m v))=>GG hx (n:=m) (by show m<R.made;exact hm) hq he dU (by show R.dr q<=_;exact hc) (by show R.made<=_;omega) jT);have HP:=Z (show ii R q e v={fP (jW (wB R) m v) m q e with used:=R.used+1}by unfold ii;rw[tp,aw O,aw O];rfl);have sA:=Z tp;have HUS:=Z (show(fP (jW (wB R) m v) m q e).used=R.used from rfl);have h0:=vI.h0;clear h vI wQ Dj dU hc tp;unfold bL;obtain⟨w1,jF⟩:∃w1,w1=w.alloc (QP #[.int .u64 v.key,Y (v.tg 0),Y (v.tg 1),Y (v.tg 2),Y (v.tg 3)] 118):=⟨_,rfl⟩;rw[<-jF]at HI GH eV vJ h0;obtain⟨d1,d2,d3⟩:=GH.o.ne;obtain⟨a1,a3,a4,k0,k1,k2,k3,k4,b5,b6,b7,fn,fa⟩:=GH.o.facts hm;obtain⟨g0,g1,g2,g3,g4,gf⟩:=jY vJ.o;rw[sA.o]at a3;go_enter func306,ntmps306;go_wp2_with fail;rw[<-jF];clear jF;have XU:Hid (aA [ab,nb,lb] w w1):=Z (aA.af eV.o);clear eV;generalize w.heap.size=bx at vJ hz g0 g1 g2 g3 g4 gf ⊢;have bm:((R.used:Int)==(aE:Int))=false:=by simp;omega
 refine HI.o.mono ?_;rintro r w' ⟨rfl,rfl⟩;go_wp2;go_region;go_wp2_with fail;obtain⟨w2,r_⟩:∃w2,w2=(w1.setCell (G ab 3) (Y (R.bP m 0))).drew:=⟨_,rfl⟩;rw[<-r_];have xO:wB R={R with dm:=R.bP m 0}:=by unfold wB;rw[sA.o];rfl
 have hX2:eE w2 ab nb cn lb cl aE nl (wB R):=by rw[r_,xO];exact(GH.o.D0 (R.bP m 0)).drewN 1
 have hR2:=vJ.o.aG (show aA [ab] w1 w2 by rw[r_];exact((aA.refl [ab] w1).setCell ay _).drew) jz;have hF2:aA [ab,nb,lb] w w2:=by rw[r_];exact(XU.o.setCell ay _).drew
 have lF:=Z hX2;have sR:=Z hR2;have Ay:=Z hF2;clear r_ xO hX2 hR2 hF2 a1 a3 a4 k0 k1 k2 k3 k4 b5 b6 b7 fn fa g0 g1 g2 g3 g4 gf h0 XU GH vJ HI;obtain⟨a1,a3,a4,k0,k1,k2,k3,k4,b5,b6,b7,fn,fa⟩:=lF.o.facts (n:=m) hm;obtain⟨g0,g1,g2,g3,g4,gf⟩:=jY sR.o;have vL:(wB R).made=R.made:=rfl;rw[vL]at a1;clear vL a3 a4;go_region;go_wp2_with fail;have GO:eE ((dL w2 nb (m*8) v).drewN 1) ab nb cn lb cl aE nl (jW (wB R) m v):=(lF.o.BJ (n:=m) hm v).drewN 1;have HF:=Z ((fZ (b:=nb) Ay.o ay (m*8) v).drewN 1);have HC:=Z (HL.o _ GO);clear GO;refine HC.o.mono ?_;rintro r w3 ⟨rfl,F3,X3⟩;have c4:=X3.h4;rw[HUS.o]at c4;have c4f:=X3.fa;have GI:=Z X3;have Dl:=Z F3;clear X3 F3 HL HC;go_wp2;go_ret2;refine⟨rfl,(HF.o.trans Dl.o).setCell ay _,?_⟩;rw[HP.o];exact GI.o.BH (R.used+1)
def appended{w w4:UK}{ab aE nl g cap:Nat}{V L:UL}{R:Raw}{o:Obj}(a0c:rL w ab V L aE nl R)(gp:w4.ownsRow 0 202 8 (to (H (G g 0)) (R.made+1) cap) (R.made+1) (eY (R.made*8) (eI R)++sh))
 (hg:(w.alloc o).grownBy w4 V.ownBlock) (si:V.ownBlock=H g\/g=w.heap.size+1):
 UJ w4 (G ab 1)=H V/\(∀o,w4.frozen? (G ab o)=false)/\aA (bp ab V L) w (w4.setCell (G ab 1) (to (H (G g 0)) (R.made+1) cap))/\
 rL (w4.setCell (G ab 1) (to (H (G g 0)) (R.made+1) cap)) ab (to (H (G g 0)) (R.made+1) cap) L aE nl (rE R eh)/\(V.ownBlock=H g\/w.heap.size<=g)/\aA (V.ownBlock.toList) w w4:=by
 have h4:aF w4 ab 191 #[Y aE,V,L,Y R.dm,Y R.used]:=(a0c.head.alloc o).grown hg (λe=>a0c.nb e.symm);have hn:=Sk gp;have hga:g≠ab:=by have:=hn.eZ h4 bd;simpa[Value.ownBlock]using this
 have hl:Row w4 194 3 L nl (k6 R):=(a0c.lists.alloc o).grown hg (by
  rcases a0c.lists.ne a0c.nodes bd with h|h
  ·exact .inl h
  ·exact .inr h)
 have zG:aA (V.ownBlock.toList) w w4:=by refine((aA.refl _ w).alloc o).trans ⟨hg.os,hg.tape,hg.output,hg.size,λk hk hs=>hg.block k hk ?_⟩;intro e;exact hs (by rw[<-e];simp)
 refine⟨h4.cell 1,h4.frozen,((zG.mono (T:=bp ab V L) (by intro k hk;simp[bp]at hk ⊢;exact .inr (.inl hk))).setCell (by simp[bp]) _),⟨h4.set 1 _,hn.other (by simp[Value.ownBlock];exact hga) _ _,hl.other a0c.lb _ _⟩,?_,zG⟩;rcases si with h|h
 ·exact .inl h
 ·exact .inr O
def GP{w:UK}{V:UL}{n:Nat}(h:(V=Pl/\n=0)\/∃b cap,V=to (H (G b 0)) n cap/\n<=cap/\cap<=maxLen/\b<w.heap.size)(wx:UK):
 (Builtin.len_ #[189] 3 #[V]).run prog wx= .ok (Y n) wx:=by
 rcases h with⟨rfl,rfl⟩|⟨b,cap,rfl,_⟩
 ·exact run_len_slice (P:=prog) wx 189 3 K7 0 0 bh
 ·exact run_len_slice (P:=prog) wx 189 3 (H (G b 0)) n cap bh
def Oe{w:UK}{ab lb cl aE nl q e:Nat}{V:UL}{R:Raw}(h:rL w ab V (to (H (G lb 0)) nl cl) aE nl R)(v:eU)(hq:q<nl)(he:e<=1)(tp:R.dm<0)(hu:R.used<aE)(dU:R.ends q e<0\/∃k:Nat,R.ends q e=(k:Int)/\k<R.made/\k≠R.made)(hc:R.dr q<=4194304)(Jl:R.made<4194304)(rD:aE<=4194304)(jT:nl<=256):
 Calls prog 306 #[UI ab,Y q,Y e,bL v] w (XZ w ab V (to (H (G lb 0)) nl cl) aE nl (ii R q e v) R.made):=by
 obtain⟨i0,hi,jn,nQ,qm⟩:=y_ AA;have wQ:Below w.heap.size w (w.alloc (QP #[.int .u64 v.key,Y (v.tg 0),Y (v.tg 1),Y (v.tg 2),Y (v.tg 3)] 118)):=(aB _ w).alloc (aL _) _;have Dj:=aF.new w 118 #[.int .u64 v.key,Y (v.tg 0),Y (v.tg 1),Y (v.tg 2),Y (v.tg 3)];have vI:=h.later wQ;have HI:=Z (KR vI hq he);have GH:=Z vI;have eV:=Z wQ;have vJ:=Z Dj;have HL:=Z (λ(wx:UK) (nb cn:Nat) (hx:eE wx ab nb cn lb cl aE nl (jW (rE R eh) R.made v))=>GG hx (n:=R.made) (by show R.made<R.made+1;omega) hq he (by rcases dU with h1|⟨k,h1,h2,h3⟩;exact .inl h1;exact .inr ⟨k,h1,by show k<R.made+1;omega,h3⟩) (by show R.dr q<=_;exact hc) (by show R.made+1<=_;omega) jT);have HP:=Z (show ii R q e v={fP (jW (rE R eh) R.made v) R.made q e with used:=R.used+1}by unfold ii;rw[bk tp,bk tp]);have HUS:=Z (show(fP (jW (rE R eh) R.made v) R.made q e).used=R.used from rfl);obtain⟨a0,a1,-,a3,a4⟩:=vI.head.c5;have iE:=h.nodes.val;have fI:V.ownBlock≠H ab:=h.nb;have dC:∀b,V.ownBlock=H b->b<w.heap.size:=λb X=>(fE h.nodes b X).2;have pz:=h.vl;have VF:=h.lb;have C2:∀u∈sh,u.oneCell'=true:=by decide
 have C3:R.made+1<=maxLen:=by unfold maxLen;omega
 have C4:(R.made+1)*64<=140737488355328:=O;have HC2:=Z C2;have HC3:=Z C3;have HC4:=Z C4;clear h vI wQ Dj dU hc C2 C3 C4;unfold bL;obtain⟨w1,jF⟩:∃w1,w1=w.alloc (QP #[.int .u64 v.key,Y (v.tg 0),Y (v.tg 1),Y (v.tg 2),Y (v.tg 3)] 118):=⟨_,rfl⟩;rw[<-jF]at HI GH eV vJ a0 a1 a3 a4;generalize X0:R.dm=NZ at*;have HFD:=Z X0;clear X0;have bm:((R.used:Int)==(aE:Int))=false:=by simp;omega
 have Of:=Z iE;have cR:=Z fI;have eF:=Z dC;have iy:=Z pz;have HLB:=Z VF;clear iE fI dC pz VF;have hlen:=GP Of.o;go_enter func306,ntmps306;go_wp2_with fail;rw[<-jF];clear jF;generalize gu:w.heap.size=bx at vJ ⊢;refine HI.o.mono ?_;rintro r w' ⟨rfl,rfl⟩;go_wp2;go_region;obtain⟨w2,r_⟩:∃w2,w2=w1.drew:=⟨_,rfl⟩;rw[<-r_];have lF:Hid (rL w2 ab V (to (H (G lb 0)) nl cl) aE nl R):=by rw[r_];exact Z (GH.o.drewN 1)
 have Ay:Hid (aA [] w w2):=by rw[r_];exact Z ((aA.af eV.o).drew)
 have sR:Hid (aF w2 bx 118 #[.int .u64 v.key,Y (v.tg 0),Y (v.tg 1),Y (v.tg 2),Y (v.tg 3)]):=by rw[r_];exact vJ.o
 have zH:Hid (w1.heap.size=w2.heap.size):=by rw[r_];exact Z rfl
 have b1:UJ w2 (G ab 1)=H V:=lF.o.head.cell 1;have b3:UJ w2 (G ab 3)=H (Y NZ):=by rw[<-HFD.o];exact lF.o.head.cell 3
 have lab:=lF.o.head.lt;clear a0 a1 a3 a4 r_ GH eV vJ HI;have yt:(w2.alloc (QP #[.int .u64 0,Y 0,Y 0,Y 0,Y 0,Y 0,Y 0,Y 0] 202)).heap.size=w2.heap.size+1:=by simp
 have tu:=Z yt;clear yt;go_wp2_with ((at_builtin;refine wpList_append_lies _ rfl _ _ 189 rfl 0 202 i0 (.agg #[.int .u64 0,Y 0,Y 0,Y 0,Y 0,Y 0,Y 0,Y 0]) 8 64 underlying189 hi jn nQ qm rfl bd V _ _ rfl ((lF.o.nodes).alloc _) (G w2.heap.size 0) 1 1 sh rfl rfl (gR.iF _ sh _ _ rfl) HC2.o bd HC3.o HC4.o (cK _) _ tu.o ?_;intro g cap w4 gp gw si AB;obtain⟨j1,j2,j3,j4,j5,j6⟩:=appended lF.o gp gw si;have J3:=Z j3;have J4:=Z j4;have J5:=Z j5;have J6:=Z j6;clear gp gw si j3 j4 j5 j6));obtain⟨w5,hw5⟩:∃w5,w5=w4.setCell (G ab 1) (to (H (G g 0)) (R.made+1) cap):=⟨_,rfl⟩;rw[<-hw5]at J3 J4 ⊢;have hX5:eE w5 ab g cap lb cl aE nl (rE R eh):=⟨J4.o,Nat.succ_pos _⟩;have hbv:bx∉bp ab V (to (H (G lb 0)) nl cl):=by have e1:=lF.o.head.ne sR.o bd;have e2:=lF.o.nodes.eZ sR.o bd;have e3:=lF.o.lists.eZ sR.o bd;simp[bp,Value.ownBlock]at e2 e3 ⊢;refine⟨λe=>e1 e.symm,e2,λe=>e3 e.symm⟩
 have hR5:=sR.o.aG J3.o hbv;have Og:=Z ((Ay.o.mono (T:=bp ab V (to (H (G lb 0)) nl cl)) ay).trans J3.o);have HG:Hid (V.ownBlock=H g\/w.heap.size<=g):=Z (by rcases J5.o with h1|h1;exact .inl h1;exact .inr (by have:=Ay.o.size;omega));have HX5:=Z hX5;obtain⟨d1,d2,d3⟩:=hX5.ne;have hn5:R.made<(rE R eh).made:=Nat.lt_succ_self _;obtain⟨a1,a3,a4,k0,k1,k2,k3,k4,b5,b6,b7,fn,fa⟩:=hX5.facts hn5;obtain⟨g0,g1,g2,g3,g4,gf⟩:=jY hR5;have MY:bx≠ab/\bx≠g/\bx≠lb:=hX5.apart hR5;have vL:(rE R eh).made=R.made+1:=rfl;rw[vL]at a1;clear vL a3 a4 hw5 hX5 hbv hR5 hn5 j1 j2 b1 b3 J3 J4 J5 J6 lF Ay sR zH tu Of cR eF iy HLB hlen lab;go_region;go_wp2_with fail;have hx6:eE ((dL w5 g (R.made*8) v).drewN 1) ab g cap lb cl aE nl (jW (rE R eh) R.made v):=(HX5.o.BJ (n:=R.made) (Nat.lt_succ_self _) v).drewN 1;have MZ:Hid (aA [g] w5 ((dL w5 g (R.made*8) v).drewN 1)):=Z ((fZ (b:=g) (aA.refl [g] w5) ay (R.made*8) v).drewN 1);have HC:=Z (HL.o _ _ _ hx6);clear hx6;refine HC.o.mono ?_;rintro r w7 ⟨rfl,F7,X7⟩;have c4:=X7.h4;rw[HUS.o]at c4;have c4f:=X7.fa;have HX7:=Z X7;have Rk:=Z F7;clear X7 F7 HL HC;go_wp2;go_ret2;refine⟨rfl,to (H (G g 0)) (R.made+1) cap,?_,?_,?_⟩
 ·rw[HP.o];exact(HX7.o.BH (R.used+1)).c
 ·have f1:aA (g::bp ab V (to (H (G lb 0)) nl cl)) w _:=(((Og.o.mono (by intro k hk;simp[hk])).trans (MZ.o.mono (by intro k hk;simp at hk;simp[hk]))).trans (Rk.o.mono (by intro k hk;simp[bp,Value.ownBlock]at hk ⊢;rcases hk with rfl|rfl|rfl<;>simp))).setCell (p:=(G ab 4)) (by simp[bp]) (Y (R.used+1));refine f1.Nx λk hk=>?_;rcases List.mem_cons.1 hk with rfl|hk
  ·rcases HG.o with h1|h1
   ·left;simp[bp,h1]
   ·exact .inr h1
  ·exact .inl hk
 ·intro b X;have:g=b:=by simpa[Value.ownBlock]using X
  subst this;exact HG.o
def bS(w:UK)(ab:Nat)(V L:UL)(aE nl:Nat)(a:Nd):Prop:=∃R A,rL w ab V L aE nl R/\sQ nl R A K7/\abs A=a/\R.made<=aE
def X5{l:List Nat}{n m:Nat}(rC:l.Nodup)(h:mu l n=(m:Int)):m≠n:=by
 induction l with
 |nil=>simp[mu]at h
 |cons a t ih=>
  have h2:=List.nodup_cons.1 rC;unfold mu at h;split at h
  ·next e=>
   subst e;cases t with
   |nil=>simp[hd]at h
   |cons b t=>simp[hd]at h;intro e;subst e;have:b=m:=O;subst this;exact h2.1 ay
  ·exact ih h2.2 h
section
variable {nl:Nat}{R:Raw}{A:Ar}
def AC(h:sQ nl R A K7){q n e:Nat}(hq:q<nl)(hn:n∈A.ls q)(he:e<=1):qy R n e:=by
 unfold qy;rw[h.bP q n e hq hn he];rcases XB (dir e (A.ls q)) n with h1|h1
 ·left;omega
 ·right;obtain⟨m,hm⟩:=dz h1;have fQ:=Jb hm;rw[jm]at fQ;exact⟨m,hm,by rw[h.made];exact h.zO q m hq fQ,X5 (mJ.2 (h.nd q hq)) hm⟩
def GQ(h:sQ nl R A K7){q:Nat}(hq:q<nl):(A.ls q).length<=R.used:=by rw[h.used];exact DP (f:=λq=>(A.ls q).length) hq
def BQ(h:sQ nl R A K7):R.used+A.fr.length=R.made:=by have:=h.XA;simp at this;rw[h.made];exact this
def Oh(h:sQ nl R A K7)(hm:R.made<=4194304)(jT:nl<=256){q n:Nat}(hq:q<nl)(hn:n∈A.ls q):Rm R nl n q:=by have h1:=GQ h hq;have h2:=BQ h;have h3:=yR hn;have h4:=h.dr q hq;exact⟨by rw[h.made];exact h.zO q n hq hn,hq,h.own q n hq hn,AC h hq hn O,AC h hq hn O,O,O,hm,jT,O,O⟩
def wR(h:sQ nl R A K7){q e:Nat}(hq:q<nl)(he:e<=1):R.ends q e<0/\A.ls q=[]\/∃k:Nat,R.ends q e=(k:Int)/\k∈A.ls q/\k=cN (abs A) q e:=by
 rw[h.ends q e hq he];unfold cN;show _\/∃k:Nat,_/\_/\k=(hd (dir (1-e) (A.ls q))).toNat;cases hh:dir (1-e) (A.ls q)with
 |nil=>
  left;refine⟨by simp[hd],?_⟩;cases hl:A.ls q with
  |nil=>rfl
  |cons x t=>
   have:x∈dir (1-e) (A.ls q):=by rw[jm,hl];simp
   rw[hh]at this;simp at this
 |cons x t=>right;refine⟨x,rfl,?_,by simp[hd]⟩;rw[<-jm (1-e),hh];simp
variable {w:UK}{ab aE:Nat}{V L:UL}{a:Nd}
def bS.aG{S:List Nat}{w':UK}(h:bS w ab V L aE nl a)(f:aA S w w')(hs:∀b,b∈bp ab V L->b∉S):bS w' ab V L aE nl a:=by obtain⟨R,A,hC,hR,hA,hm⟩:=h;exact⟨R,A,hC.aG f hs,hR,hA,hm⟩
def bS.later{w':UK}(h:bS w ab V L aE nl a)(b:Below w.heap.size w w'):bS w' ab V L aE nl a:=by obtain⟨R,A,hC,hR,hA,hm⟩:=h;exact⟨R,A,hC.later b,hR,hA,hm⟩
def bS.drewN(h:bS w ab V L aE nl a)(n:Nat):bS (w.drewN n) ab V L aE nl a:=by obtain⟨R,A,hC,hR,hA,hm⟩:=h;exact⟨R,A,hC.drewN n,hR,hA,hm⟩
def bS.lt(h:bS w ab V L aE nl a):∀b,b∈bp ab V L->b<w.heap.size:=by
 obtain⟨R,A,hC,hR,hA,hm⟩:=h;intro b X;simp[bp]at X;rcases X with rfl|X|X
 ·exact hC.head.lt
 ·exact(fE hC.nodes b X).2
 ·exact(fE hC.lists b X).2
def xP(h:bS w ab V L aE nl a){q:Nat}(hq:q<nl):Calls prog 204 #[UI ab,Y q] w λr w'=>r=C8 (Y (a.ls q).length)/\w=w':=by obtain⟨R,A,hC,hR,rfl,hm⟩:=h;have:=YA hC hq;rw[hR.dr q hq]at this;exact this
def AD(h:bS w ab V L aE nl a){q e:Nat}(hq:q<nl)(he:e<=1)(bm:a.ls q≠[]):Calls prog 134 #[UI ab,Y q,Y e] w λr w'=>r=C8 (.tuple #[Y (cN a q e),.bool true])/\w=w':=by
 obtain⟨R,A,hC,hR,rfl,hm⟩:=h;have:=NY hC hq he;rcases wR hR hq he with⟨_,h1⟩|⟨k,h1,h2,h3⟩
 ·exact absurd h1 bm
 ·rw[Av h1,h3]at this;exact this
def AE(h:bS w ab V L aE nl a){q e:Nat}(hq:q<nl)(he:e<=1)(bm:a.ls q=[]):Calls prog 134 #[UI ab,Y q,Y e] w λr w'=>r=C8 (.tuple #[Y 0,.bool false])/\w=w':=by
 obtain⟨R,A,hC,hR,rfl,hm⟩:=h;have:=NY hC hq he;rcases wR hR hq he with⟨h1,_⟩|⟨k,h1,h2,h3⟩
 ·rw[Aw h1]at this;exact this
 ·exfalso;have bm:A.ls q=[]:=bm;rw[bm]at h2;simp at h2
def GR(h:bS w ab V L aE nl a){q n e:Nat}(hq:q<nl)(hn:n∈a.ls q)(he:e<=1):Calls prog 135 #[UI ab,Y n,Y e] w λr w'=>r=C8 (eN (mu (dir e (a.ls q)) n))/\w=w':=by obtain⟨R,A,hC,hR,rfl,hm⟩:=h;have h1:n∈A.ls q:=hn;have:=XS hC (n:=n) (by rw[hR.made];exact hR.zO q n hq h1) (by rw[hR.own q n hq h1];omega) hm he;rw[hR.bP q n e hq h1 he]at this;exact this
def Oi(h:bS w ab V L aE nl a){q n:Nat}(hq:q<nl)(hn:n∈a.ls q):Calls prog 208 #[UI ab,Y n] w λr w'=>r=C8 (.tuple #[bL (a.val n),Y 0])/\Below w.heap.size w w':=by obtain⟨R,A,hC,hR,rfl,hm⟩:=h;have h1:n∈A.ls q:=hn;have:=As hC (n:=n) (by rw[hR.made];exact hR.zO q n hq h1) (by rw[hR.own q n hq h1];omega) hm;rw[hR.val]at this;exact this
def GS(h:bS w ab V L aE nl a){q n:Nat}(hq:q<nl)(hn:n∈a.ls q):Calls prog 60 #[UI ab,Y n] w λr w'=>r=C8 (.tuple #[Y q,.bool true])/\w=w':=by obtain⟨R,A,hC,hR,rfl,hm⟩:=h;have h1:n∈A.ls q:=hn;have:=XR hC (n:=n) (by rw[hR.made];exact hR.zO q n hq h1) (by rw[hR.own q n hq h1];omega) hm;rw[hR.own q n hq h1]at this;exact this
def uE{R:Raw}(h:rL w ab V L aE nl R){n q:Nat}(hn:n<R.made)(hq:q<nl):∃nb cn lb cl,V=to (H (G nb 0)) R.made cn/\L=to (H (G lb 0)) nl cl/\eE w ab nb cn lb cl aE nl R:=by obtain⟨nb,cn,rfl⟩:=qA h hn;obtain⟨lb,cl,rfl⟩:=qz h hq;exact⟨nb,cn,lb,cl,rfl,rfl,h,O⟩
def VJ(h:bS w ab V L aE nl a){q n:Nat}(hq:q<nl)(hn:n∈a.ls q)(x:eU):Calls prog 268 #[UI ab,Y n,bL x] w λr w'=>r=C8 (Y 0)/\aA (bp ab V L) w w'/\bS w' ab V L aE nl (KL a n x):=by
 obtain⟨R,A,hC,hR,rfl,hm⟩:=h;have h1:n∈A.ls q:=hn;have be:n<R.made:=by rw[hR.made];exact hR.zO q n hq h1
 obtain⟨nb,cn,lb,cl,rfl,rfl,hX⟩:=uE hC be hq;refine(NW hX be (by rw[hR.own q n hq h1];omega) hm x).mono ?_;rintro r w' ⟨rfl,f,x'⟩;exact⟨rfl,f,_,_,x'.c,BC hR n x,rfl,hm⟩
def VK{p:Prop}(h:p:=by
 refine⟨by rw[hR.val];rfl,f,_,A',?_,X6,K_,by rw[NP];exact hm⟩;have:=x'.c;rw[NP]at this;exact this):p:=h
def EL(h:bS w ab V L aE nl a)(oM:aE<=4194304)(jT:nl<=256){q e:Nat}(hq:q<nl)(he:e<=1)(bm:a.ls q≠[]):Calls prog 308 #[UI ab,Y q,Y e] w λr w'=>r=C8 (.tuple #[bL (a.val (cN a q e)),Y 0])/\aA (bp ab V L) w w'/\bS w' ab V L aE nl (takeN a q (cN a q e)):=by
 obtain⟨R,A,hC,hR,rfl,hm⟩:=h;rcases wR hR hq he with⟨_,h1⟩|⟨k,h1,h2,h3⟩
 ·exact absurd h1 bm
 ·rw[<-h3];have r:=Oh hR O jT hq h2;obtain⟨nb,cn,lb,cl,rfl,rfl,hX⟩:=uE hC r.hn hq;obtain⟨A',X6,K_⟩:=DT hR hq h2;refine(xL hX r he h1).mono ?_;rintro r' w' ⟨rfl,f,x'⟩;have NP:(kP R k).made=R.made:=(k_ R k).2.1;exact VK
def Ee(h:bS w ab V L aE nl a)(oM:aE<=4194304)(jT:nl<=256){q n:Nat}(hq:q<nl)(hn:n∈a.ls q):Calls prog 67 #[UI ab,Y n] w λr w'=>r=C8 (.tuple #[bL (a.val n),Y 0])/\aA (bp ab V L) w w'/\bS w' ab V L aE nl (takeN a q n):=by obtain⟨R,A,hC,hR,rfl,hm⟩:=h;have h2:n∈A.ls q:=hn;have r:=Oh hR O jT hq h2;obtain⟨nb,cn,lb,cl,rfl,rfl,hX⟩:=uE hC r.hn hq;obtain⟨A',X6,K_⟩:=DT hR hq h2;refine(N6 hX r hm).mono ?_;rintro r' w' ⟨rfl,f,x'⟩;have NP:(kP R n).made=R.made:=(k_ R n).2.1;exact VK
def X8(h:bS w ab V L aE nl a)(oM:aE<=4194304)(jT:nl<=256){q n e:Nat}(hq:q<nl)(hn:n∈a.ls q)(he:e<=1):Calls prog 274 #[UI ab,Y n,Y q,Y e] w λr w'=>r=C8 (Y 0)/\aA (bp ab V L) w w'/\bS w' ab V L aE nl (oI a n q e):=by
 obtain⟨R,A,hC,hR,rfl,hm⟩:=h;have h2:n∈A.ls q:=hn;have r:=Oh hR O jT hq h2;obtain⟨nb,cn,lb,cl,rfl,rfl,hX⟩:=uE hC r.hn hq;obtain⟨A',X6,K_⟩:=NQ hR hq h2 he;obtain⟨hcut,_⟩:=BB hR hq h2;have oC:∀k,k∈(r7 A n q).ls q->k∈A.ls q/\k≠n:=by intro k hk;have hk:k∈aR A.ls q ((A.ls q).erase n) q:=hk;rw[an]at hk;exact⟨List.mem_of_mem_erase hk,λe=>by subst e;exact(hR.nd q hq).not_mem_erase hk⟩
 have dU:(dt R n).ends q e<0\/∃m:Nat,(dt R n).ends q e=(m:Int)/\m<R.made/\m≠n:=by
  have:=hcut.ends q e hq he;have this:(dt R n).ends q e=_:=this;rw[this];cases hh:dir (1-e) ((r7 A n q).ls q)with
  |nil=>left;simp[hd]
  |cons x t=>
   right;have hx:x∈(r7 A n q).ls q:=by rw[<-jm (1-e),hh];simp
   obtain⟨h3,h4⟩:=oC x hx;exact⟨x,rfl,by rw[hR.made];exact hR.zO q x hq h3,h4⟩
 have hc:(dt R n).dr q<=4194304:=by
  have h5:(dt R n).dr q=_:=hcut.dr q hq;have h6:((r7 A n q).ls q).length=(A.ls q).length-1:=by show(aR A.ls q ((A.ls q).erase n) q).length=_;rw[an,An h2]
  have:=r.hc;have:=hR.dr q hq;omega
 refine(XV hX r hm hq he dU hc).mono ?_;rintro r' w' ⟨rfl,f,x'⟩;have NP:(rk R n q e).made=R.made:=(k_ R n).2.1;refine⟨rfl,f,_,A',?_,X6,K_,by rw[NP];exact hm⟩;have:=x'.c;rw[NP]at this;exact this
def Sl(w:UK)(ab:Nat)(V L:UL)(aE nl:Nat)(a':Nd)(n:Nat)(r:Ending)(w':UK):Prop:=
 r=C8 (.tuple #[Y n,Y 0])/\∃V',bS w' ab V' L aE nl a'/\aA (bp ab V L) w w'/\∀b,V'.ownBlock=H b->V.ownBlock=H b\/w.heap.size<=b
def X9(h:bS w ab V L aE nl a)(oM:aE<=4194304)(jT:nl<=256){q e:Nat}(hq:q<nl)(he:e<=1)(x:eU)(mR:(cT nl λq=>(a.ls q).length)<aE):
 Calls prog 306 #[UI ab,Y q,Y e,bL x] w (Sl w ab V L aE nl (gQ a q e x) (a.fs 0)):=by
 obtain⟨R,A,hC,hR,rfl,hm⟩:=h;have Vw:R.used<aE:=by rw[hR.used];exact mR
 have hul:=BQ hR;obtain⟨A',X6,K_,Vn⟩:=NO hR hq he x;have La:=GQ hR hq;have Rh:=hR.dr q hq;have dU:∀n,(n∈A.fr\/n=A.made)->R.ends q e<0\/∃k:Nat,R.ends q e=(k:Int)/\k<R.made/\k≠n:=by
  intro n hn;rcases wR hR hq he with⟨h1,_⟩|⟨k,h1,h2,_⟩
  ·exact .inl h1
  ·refine .inr ⟨k,h1,by rw[hR.made];exact hR.zO q k hq h2,?_⟩;intro e';subst e';rcases hn with hn|hn
   ·exact hR.sZ hq h2 hn
   ·have:=hR.zO q k hq h2;omega
 cases hf:A.fr with
 |nil=>
  have qw:R.dm<0:=by rw[hR.zP,hf];decide
  rw[hf]at hul;simp at hul;rw[bk qw]at Vn;obtain⟨lb,cl,rfl⟩:=qz hC hq;refine(Oe hC x hq he qw Vw (by have:=dU A.made (.inr rfl);rw[<-hR.made]at this;exact this) O O oM jT).mono ?_;rintro r w' ⟨rfl,V',hV,f,X⟩;refine⟨by rw[Vn],V',⟨_,A',hV,X6,K_,?_⟩,f,X⟩;unfold ii;rw[bk qw,bk qw];show R.made+1<=aE;omega
 |cons m t=>
  have zl:R.dm=(m:Int):=by rw[hR.zP,hf];rfl
  have fQ:m∈A.fr:=by rw[hf];simp
  have be:m<R.made:=by rw[hR.made];exact hR.NC m fQ
  rw[aw O,zl,Int.toNat_natCast]at Vn;obtain⟨nb,cn,lb,cl,rfl,rfl,hX⟩:=uE hC be hq;refine(Od hX x hq he zl be Vw (dU m (.inl fQ)) O hm oM jT).mono ?_;rintro r w' ⟨rfl,f,x'⟩;have NP:(ii R q e x).made=R.made:=by unfold ii;rw[aw O,aw O];rfl
  refine⟨by rw[Vn],_,⟨_,A',?_,X6,K_,by rw[NP];exact hm⟩,f,λb X=> .inl X⟩;have:=x'.c;rw[NP]at this;exact this
def AF:(prog.info? 194).map (λi=>(i.zero,i.size,i.bytes))=H (H (.agg #[Y 0,Y 0,Y 0]),3,24):=by kernel_rfl
def gL(i o:Nat):UL:=if o / 3<i/\o % 3<2 then Y (-1)else Y 0
def Oj:Raw:={made:=0,dm:= -1,used:=0,val:=λ_=>eh,own:=λ_=>0,bP:=λ_ _=>0,ends:=λ_ _=> -1,dr:=λ_=>0}
def BR:Nd:=⟨λ_=>[],λ_=>eh,λi=>i⟩
def xQ(n:Nat):(cT n λ_=>0)=0:=by
 induction n with
 |zero=>rfl
 |succ n ih=>show cT n _+0=0;rw[ih]
def Lb(nl:Nat):sQ nl Oj {made:=0,fr:=[],ls:=λ_=>[],val:=λ_=>eh} K7:=
 ⟨rfl,rfl,λ_ _=>List.Pairwise.nil,List.Pairwise.nil,λ_ _ _ h=>by simp at h,λ_ h=>by simp at h,λ_ _ _ h=>by simp at h,λ_ h=>by simp at h,λn h=>by simp at h,λ_ h=>by simp at h,
   λ_ _ _ _ h=>by simp at h,λq e _ he=>by show(-1:Int)=hd (dir (1-e) []);rw[RW];rfl,λ_ _=>rfl,rfl,λ_ h=>by simp at h,(xQ nl).symm,rfl⟩
def Lc:abs {made:=0,fr:=[],ls:=λ_=>[],val:=λ_=>eh}=BR:=by refine Nd.ext rfl rfl ?_;funext i;show 0+i=i;omega
def Sm(nl:Nat):∀o,o<nl*3->gL nl o=k6 Oj o:=by
 intro o ho;unfold gL k6;by_cases h:o % 3<2
 ·rw[bk ⟨O,h⟩,bk h];rfl
 ·rw[aw (λh'=>h h'.2),aw h];rfl
def Sn(i:Nat):(λo=>if o=i*3+1 then Y (-1)else if o=i*3 then Y (-1)else gL i o)=gL (i+1):=by
 funext o;unfold gL;by_cases h1:o=i*3+1
 ·rw[bk h1,bk ⟨O,O⟩]
 ·rw[aw h1];by_cases h2:o=i*3
  ·rw[bk h2,bk ⟨O,O⟩]
  ·rw[aw h2];by_cases h3:o / 3<i/\o % 3<2
   ·rw[bk h3,bk ⟨O,h3.2⟩]
   ·rw[aw h3,aw O]
structure Mk(w wr:UK)(aE nl i:Nat):Prop where
 head:aF wr (w.heap.size+1) 191 #[Y aE,Pl,to (H (G w.heap.size 0)) nl nl,Y (-1),Y 0]
 row:Row wr 194 3 (to (H (G w.heap.size 0)) nl nl) nl (gL i)
 aG:aA [] w wr
def Mk.next{w wr:UK}{aE nl i:Nat}(h:Mk w wr aE nl i)(hi:i<nl):Mk w ((wr.setCell (G w.heap.size (i*3)) (Y (-1))).setCell (G w.heap.size (i*3+1)) (Y (-1))) aE nl (i+1):=by have h1:=(h.row.set (o:=i*3) O (Y (-1))).set (o:=i*3+1) O (Y (-1));rw[Sn]at h1;exact⟨(h.head.other O _ _).other O _ _,h1,(h.aG.rY ay _).rY ay _⟩
def Ef(aE nl:Nat)(w:UK)(hm:aE<=4194304)(jT:nl<=256):
 Calls prog 56 #[Y aE,Y nl] w λe w'=>e=C8 (.tuple #[UI (w.heap.size+1),Y 0])/\aA [] w w'/\
  bS w' (w.heap.size+1) Pl (to (H (G w.heap.size 0)) nl nl) aE nl BR:=by
 obtain⟨i0,hi,jn,nQ,qm⟩:=y_ AF;have hmk:∀(n:Nat) (wx:UK),n<=256->(Instr.makeSlice 188 (Y n) (Y n)).run prog wx= .ok (to (H (G wx.heap.size 0)) n n) (wx.alloc (QP (madeCells #[Y 0,Y 0,Y 0] (n*3)) 194)):=by intro n wx hn;have:=run_make (P:=prog) wx 188 194 i0 _ underlying188 hi jn .i64 .i64 n n O O (by rw[qm];omega) O;rw[nQ]at this;exact this
 have Cr:=hmk nl w jT;have HM0:Hid (Mk w ((w.alloc (QP (madeCells #[Y 0,Y 0,Y 0] (nl*3)) 194)).alloc (QP #[Y aE,Pl,to (H (G w.heap.size 0)) nl nl,Y (-1),Y 0] 191)) aE nl 0):=by
  have b1:=aF.new w 194 (madeCells #[Y 0,Y 0,Y 0] (nl*3));have b2:=aF.new (w.alloc (QP (madeCells #[Y 0,Y 0,Y 0] (nl*3)) 194)) 191 #[Y aE,Pl,to (H (G w.heap.size 0)) nl nl,Y (-1),Y 0];rw[aM]at b2;refine⟨b2,Row.made (b1.alloc _) (by simp[madeCells]) (by unfold maxLen;omega) λo ho=>?_,((aA.refl [] w).alloc _).alloc _⟩;have hq:o=(o / 3)*3+o % 3:=O;obtain⟨m0,m1,m2⟩:=jk (Y 0) (Y 0) (Y 0) nl (o / 3) O;have h0:gL 0 o=Y 0:=by unfold gL;rw[aw O]
  rw[h0,hq];have hr:o % 3=0\/o % 3=1\/o % 3=2:=O;rcases hr with hr|hr|hr<;>rw[hr]
  ·exact m0
  ·exact m1
  ·exact m2
 clear hmk hi jn nQ qm;have t1:decide ((aE:Int)<0)=false:=by simp
 have t2:decide ((4194304:Int)<(aE:Int))=false:=by simp;omega
 have t3:decide ((nl:Int)<0)=false:=by simp
 have t4:decide ((256:Int)<(nl:Int))=false:=by simp;omega
 go_enter func56,ntmps56;go_wp2
 go_loopg [32] nl (λf s32 wr=>∃i:Nat,s32=Y i/\i+f=nl/\Hid (Mk w wr aE nl i))
 case atStart=>exact⟨0,rfl,O,HM0⟩
 case round=>
  clear HM0 Cr;obtain⟨i,rfl,hif,a0f⟩:=hrel;by_cases be:i<nl
  ·have c2:UJ wr (G (w.heap.size+1) 2)=H (to (H (G w.heap.size 0)) nl nl):=a0f.o.head.cell 2;have c0:=a0f.o.row.cell (o:=i*3) O;have c1:=a0f.o.row.cell (o:=i*3+1) O;have cf:=a0f.o.row.frozen;have HN:=Z (a0f.o.next be);have bm:w.heap.size+1≠w.heap.size:=O;clear a0f;generalize gL i (i*3)=x0 at*;generalize gL i (i*3+1)=x1 at*;go_wp2
   go_roundg (gk-1)
   case measure=>omega
   case rel=>exact⟨i+1,by go_num,O,HN⟩
  ·have hi:i=nl:=O;subst hi;clear be;go_wp2;go_ret2;refine⟨rfl,a0f.o.aG,_,_,⟨a0f.o.head,?_,a0f.o.row.congr (Sm i)⟩,Lb i,Lc,cK _⟩;exact Row.nil _ _ _ _
def wE(x:Nat×eU):List UL:=[Y x.1,.int .u64 x.2.key,Y (x.2.tg 0),Y (x.2.tg 1),Y (x.2.tg 2),Y (x.2.tg 3)]
def rN(l:List (Nat×eU)):List UL:=l.flatMap wE
def rowsOf(a:Nd)(l:List Nat):List (Nat×eU):=l.map λn=>(n,a.val n)
def BS(a b:List (Nat×eU)):rN (a++b)=rN a++rN b:=by simp[rN]
def Eg(a:Nd)(l:List Nat)(n:Nat):rowsOf a (l++[n])=rowsOf a l++[(n,a.val n)]:=by simp[rowsOf]
def kR(a:Nd)(l:List Nat):(rowsOf a l).length=l.length:=by simp[rowsOf]
def tz:(prog.info? 206).map (λi=>(i.zero,i.size,i.bytes))=H (H (.agg #[Y 0,.int .u64 0,Y 0,Y 0,Y 0,Y 0]),6,48):=by kernel_rfl
def bS.node(h:bS w ab V L aE nl a){q n:Nat}(hq:q<nl)(hn:n∈a.ls q):∃nb cn m,UJ w (G ab 1)=H (to (H (G nb 0)) m cn)/\n<m/\m<=aE/\
 UJ w (G nb (n*8))=H (.int .u64 (a.val n).key)/\UJ w (G nb (n*8+1))=H (Y ((a.val n).tg 0))/\UJ w (G nb (n*8+2))=H (Y ((a.val n).tg 1))/\
 UJ w (G nb (n*8+3))=H (Y ((a.val n).tg 2))/\UJ w (G nb (n*8+4))=H (Y ((a.val n).tg 3)):=by
 obtain⟨R,A,hC,hR,rfl,hm⟩:=h;have h2:n∈A.ls q:=hn;have be:n<R.made:=by rw[hR.made];exact hR.zO q n hq h2
 obtain⟨nb,cn,lb,cl,rfl,rfl,hX⟩:=uE hC be hq;obtain⟨k0,k1,k2,k3,k4⟩:=hX.aS be;rw[hR.val]at k0 k1 k2 k3 k4;exact⟨nb,cn,R.made,hX.h1,be,hm,k0,k1,k2,k3,k4⟩
def bS.tB(h:bS w ab V L aE nl a){q:Nat}(hq:q<nl):(a.ls q).length<=aE/\(a.ls q).Nodup:=by obtain⟨R,A,hC,hR,rfl,hm⟩:=h;have h1:=GQ hR hq;have h2:=BQ hR;have h3:(A.ls q).length<=aE:=O;exact⟨h3,hR.nd q hq⟩
structure Eh(w wr:UK)(a:Nd)(l pre:List Nat)(lv:UL):Prop where
 box:Boxed wr w.heap.size 203 lv
 own:wr.ownsRow w.heap.size 206 6 lv pre.length (rN (rowsOf a pre))
 rO:Below w.heap.size w wr
 nil:pre=[]->lv=Pl
def VL(h:bS w ab V L aE nl a)(oM:aE<=4194304){q:Nat}(hq:q<nl):
 Calls prog 64 #[UI ab,Y q,Y 0] w λr w'=>r=C8 (.func (.func 136) #[] #[UI w.heap.size])/\∃lv,Eh w w' a (a.ls q) (a.ls q) lv:=by
 obtain⟨i0,hi,jn,nQ,qm⟩:=y_ tz;obtain⟨hlen,gP⟩:=h.tB hq;have wQ:Below w.heap.size w (w.alloc (QP #[Pl] 203)):=(aB _ w).alloc (aL _) _;have H0:=Z (h.later wQ);have HA:=Z h;have aeZ:=h.lt ab (by simp[bp]);have eV:=Z wQ;have M0:=Z gP;have HS0:Hid (Eh w (w.alloc (QP #[Pl] 203)) a (a.ls q) [] Pl):=Z ⟨Boxed.new _ _ _,World.ownsRow_nil ..,wQ,λ_=>rfl⟩;have HPS:=Z (λ(bm:a.ls q≠[])=>AD H0.o hq (e:=0) O bm);have HPN:=Z (λ(bm:a.ls q=[])=>AE H0.o hq (e:=0) O bm);have GU:=Z (λ(wx:UK) (hx:bS wx ab V L aE nl a) (n:Nat) (hn:n∈a.ls q)=>GR hx hq hn (e:=1) O);clear h wQ gP;have key:∀(n0:Nat) (ok0:Bool),(ok0=true->∃rest,a.ls q=n0::rest)->(ok0=false->a.ls q=[])->
  Calls prog 134 #[UI ab,Y q,Y 0] (w.alloc (QP #[Pl] 203)) (λr w'=>r=C8 (.tuple #[Y n0,.bool ok0])/\w.alloc (QP #[Pl] 203)=w')->
  Calls prog 64 #[UI ab,Y q,Y 0] w λr w'=>r=C8 (.func (.func 136) #[] #[UI w.heap.size])/\∃lv,Eh w w' a (a.ls q) (a.ls q) lv:=by
  intro n0 ok0 h1 h2 Xy;have HPK:=Z Xy;have M4:=Z h1;have GV:=Z h2;clear Xy h1 h2;go_enter func64,ntmps64;go_wp2_with (go_at_call 134;refine HPK.o.mono ?_;rintro r w' ⟨rfl,rfl⟩);clear HPK
  go_loopg [8,9] (a.ls q).length (λf s8 s9 wr=>∃(n:Nat) (ok:Bool) (pre:List Nat) (lv:UL),s8=Y n/\s9= .bool ok/\Hid (pre.length+f=(a.ls q).length)/\Hid (ok=true->∃rest,a.ls q=pre++n::rest)/\Hid (ok=false->a.ls q=pre)/\Hid (Eh w wr a (a.ls q) pre lv))
  case atStart=>exact⟨n0,ok0,[],Pl,rfl,rfl,Z ay,M4,Z (λe=>GV.o e),HS0⟩
  case round=>
   clear HS0 M4 GV HPS HPN H0 eV;obtain⟨n,ok,pre,lv,rfl,rfl,HF,H1,H2,a0f⟩:=hrel;have bc:=a0f.o.box.cell;have bf:=a0f.o.box.frozen;cases ok
   ·have hl:=H2.o rfl;go_wp2;go_ret;have h':=a0f.o;rw[hl]at h';exact⟨rfl,lv,h'⟩
   ·obtain⟨rest,hl⟩:=H1.o rfl;have hn:n∈a.ls q:=by rw[hl];simp
    have hr:bS wr ab V L aE nl a:=HA.o.later a0f.o.rO;obtain⟨nb,cn,m,c1,hnm,BK,k0,k1,k2,k3,k4⟩:=hr.node hq hn;have XW:mu (dir 1 (a.ls q)) n=hd rest:=by show mu (a.ls q) n=_;rw[hl];refine kO ?_ _;intro hm;have:=M0.o;rw[hl]at this;exact(List.nodup_append.1 this).2.2 n hm n ay rfl
    have wD:=a0f.o.box.lt;have hpl:pre.length+1<=(a.ls q).length:=by rw[hl];simp
    have C3:=Z (show pre.length+1<=maxLen by unfold maxLen;omega);have C4:=Z (show(pre.length+1)*48<=140737488355328 by omega);have C2:=Z (show∀u∈wE (n,a.val n),u.oneCell'=true by intro u hu;simp[wE]at hu;rcases hu with rfl|rfl|rfl|rfl|rfl|rfl<;>rfl);obtain⟨n1,ok1,xy,hq1,nH⟩:∃(n1:Nat) (ok1:Bool),eN (hd rest)= .tuple #[Y n1,.bool ok1]/\(ok1=true->∃r2,a.ls q=(pre++[n])++n1::r2)/\(ok1=false->a.ls q=pre++[n]):=by
     cases rest with
     |nil=>exact⟨0,false,Aw bd,(λe=>by cases e),λ_=>hl⟩
     |cons m' r2=>exact⟨m',true,Av rfl,(λ_=>⟨r2,by rw[hl];simp⟩),(λe=>by cases e)⟩
    have Jd:=λ(wx:UK) (hx:bS wx ab V L aE nl a)=>GU.o wx hx n hn;rw[XW,xy]at Jd;have Rl:=Z Jd;have Ro:=Z hq1;have HQ2:=Z nH;clear xy hq1 nH Jd;have HN:=Z hn;have HL:=Z hl;have HX:=Z XW;clear hn hl XW hr H1 H2;have HXD:=Z (show Boxed wr.drew w.heap.size 203 lv from a0f.o.box);have VM:=Z (show wr.drew.ownsRow w.heap.size 206 6 lv pre.length (rN (rowsOf a pre))from a0f.o.own);have kw:w.heap.size<=wr.heap.size:=a0f.o.rO.size;generalize hv:a.val n=v at*;have HV:=Z hv;clear hv;go_wp2
    go_region_law ((refine AG _ rfl (.tmp 26) (.tmp 37) 203 rfl w.heap.size 206 i0 (.agg #[Y 0,.int .u64 0,Y 0,Y 0,Y 0,Y 0]) 6 48 underlying203 hi jn nQ qm rfl bd lv _ _ (by simp[Act.eval,Act.put]) (VM.o.alloc _) (G wr.heap.size 0) 1 1 (wE (n,v)) (by simp[Act.eval,Act.put]) rfl (gR.iF _ (wE (n,v)) _ _ ay) C2.o bd C3.o C4.o jz _ rfl ?_;intro g cap w1 gp gw si AB;obtain⟨iD,Rj,VG,jZ,dC⟩:=HXD.o.appended bd VM.o kw (aL _) gp gw;have pR:=iD.cell;have MX:=iD.frozen;have FY:=Z Rj;have sR:=Z VG;have eF:=Z dC;clear iD Rj VG jZ dC gp gw si))
    all_goals
     have Jm:=(a0f.o.rO.trans (az w.heap.size wr 1)).trans eF.o;have cR:=Z Jm;clear Jm;go_wp2_with fail;refine(Rl.o _ (HA.o.later cR.o)).mono ?_;rintro r w' ⟨rfl,rfl⟩;have tu:Hid (Eh w (w1.setCell (G w.heap.size 0) (to (H (G g 0)) (pre.length+1) cap)) a (a.ls q) (pre++[n]) (to (H (G g 0)) (pre.length+1) cap)):=Z ⟨FY.o,by rw[qS,Eg,BS,HV.o];exact sR.o,cR.o,λe=>by simp at e⟩;go_wp2_with fail
     go_roundg (gk-1)
     case measure=>have:=HF.o;omega
     case rel=>exact⟨n1,ok1,pre++[n],_,rfl,rfl,Z (by have:=HF.o;simp;omega),Ro,HQ2,tu⟩
 by_cases bm:a.ls q=[]
 ·exact key 0 false (λe=>by cases e) (λ_=>bm) (HPN.o bm)
 ·cases hl:a.ls q with
  |nil=>exact absurd hl bm
  |cons x t=>
   have hx:cN a q 0=x:=by unfold cN;show(hd (dir 1 (a.ls q))).toNat=x;rw[hl];rfl
   have:=HPS.o bm;rw[hx]at this;rw[<-hl];exact key x true (λ_=>⟨t,hl⟩) (λe=>by cases e) this
end
end Go.eB
section
def qX0{p:Prop}(h:p:=by
 have AB:g<wr.heap.size:=aH c0
 gi_wp2
 refine hR.mono ?_;rintro e W3 (⟨rfl,hJ3,l8⟩|⟨rfl,kd⟩)
 ·have HK:=Z (l8 g (by simp[dM]));have HJ:=Z hJ3;clear l8 hJ3
  gi_wp2
  go_roundw
  case rel=>exact⟨k+1,O,ay,by rw[<-HT.o];exact HJ.o,by rw[HK.o,Below.heap_alloc _ _ _ AB];exact HG.o⟩
  case measure=>simp[Proofs.intOf];omega
 ·have HJ:=Z kd;clear kd
  gi_wp2
  refine bodyPost_ret (dJ rfl _ _ _) rfl ?_;exact⟨⟨_,rfl⟩,.inr ⟨_,by rw[HT.o];exact List.take_prefix _ _,HJ.o⟩⟩):p:=h
def qX3{p:Prop}(h:p:=by
 obtain rfl:k=L.length:=O;have HJ:=Z Sp;clear Sp
 gi_wp2
 go_end0;exact⟨⟨_,rfl⟩,.inl ⟨_,rfl,by have:=HJ.o;rwa[List.take_length]at this⟩⟩):p:=h
def Ya{p:Prop}(h:p:=by
 have ht:L.take k++[L[k]]=L.take (k+1):=by rw[AJ be]
 have HT:=Z ht;have HG:=Z vK;clear ht vK X_ Sp;generalize L[k]=x at*;exact qX0):p:=h
def UO{p:Prop}(h:p:=by
 obtain⟨rfl,hj⟩:=hrel
 gi_wp2
 go_end0;exact⟨⟨_,rfl⟩,.inl ⟨_,rfl,hj⟩⟩):p:=h
namespace Go.gR
open Go.RowKit aj Go.Shelf
attribute [local go_sem] Oper.semAt_some
def wF(FB:List Nat)(W W':UK):Prop:=∀k,k∈FB->W'.heap[k]? =W.heap[k]?
def wF.t{FB:List Nat}{A B C:UK}(h:wF FB A B)(k:wF FB B C):wF FB A C:=λi hi=>(k i hi).trans (h i hi)
def wF.b{FB:List Nat}{w:UK}(hl:∀k,k∈FB->k<w.heap.size)(W:UK)(l:Nat)(o o':Obj)(hle:w.heap.size<=l)(_:W.heap[l]? =H o)(_:o.isCells=false)(_:o.isWalk=false):wF FB W (W.putObj l o'):=
 λk hk=>World.putObj_heap_other (by have:=hl k hk;omega)
def dM:UL->List Nat
 | .slice (H a) _ _=>[a.block]
 |_=>[]
def BO.ju{w w':UK}{base:Nat}{lv:UL}{L:List (Nat×Int)}(h:BO w base lv L)(X:∀k,k∈dM lv->w'.heap[k]? =w.heap[k]?)(hs:w.heap.size<=w'.heap.size):BO w' base lv L:=by
 rcases h with h|⟨g,cap,rfl,h1,h2,h3,h4⟩
 ·exact .inl h
 ·have e:=X g (by simp[dM]);refine .inr ⟨g,cap,rfl,h1,O,h3,λi hi=>?_⟩;have c:∀o,UJ w' (G g o)=UJ w (G g o):=λo=>dN e;rw[c,c,c];exact h4 i hi
def BT(F:Fence)(n:Nat)(hf:F.fn 140)(rm:F.round=K7)(hn:1<=n)(l B base:Nat)(lv:UL)(L:List (Nat×Int))(hlen:L.length<=1099511627776)(J Jx:List (Nat×Int)->UK->Prop)(Ol:Nat)
 (hJ:AbidesFrom Ol J)
 (hY:∀pre x W,J pre W->pre.length<L.length->YieldAt F (n-1) prog l #[.int .u64 x.1,Y x.2] W λe W'=>
   (e=C8 (.bool true)/\J (pre++[x]) W'/\wF (B::dM lv) W W')\/(e=C8 (.bool false)/\Jx (pre++[x]) W'))
 (W:UK) (hB:Boxed W B 195 lv) (hL:BO W base lv L) (h0:J [] W):
 CallsIn F n prog 140 #[.func (.yield l) #[] #[],UI B] W λe W'=>(∃v,e=C8 v)/\
  ((∃ys,ys=L/\J ys W')\/(∃pre,pre <+:L/\Jx pre W')):=by
 refine callsIn_of_wp func140 rfl hf ?_ rm;simp only[ntmps140,List.size_toArray,List.length_cons,List.length_nil,Nat.reduceAdd,Nat.reduceSub,Array.replicate_succ,Array.replicate_zero,List.push_toArray,List.append_toArray,List.nil_append,List.cons_append];have uF:=hB.cell;rcases hL with⟨rfl,rfl⟩|⟨g,cap,rfl,Jo,hg2,bm,hc⟩
 ·gi_wp2
  gi_loopw [7] (λi wr=>i=Y 0/\J [] wr) (λi _=>0)
  case atStart=>exact⟨rfl,h0⟩
  case round=>exact UO
 ·have HC:=Z hc;have HB:=Z hB;clear hc hB
  gi_wp2
  gi_loopw [7] (λi wr=>∃k:Nat,k<=L.length/\i=Y k/\J (L.take k) wr/\wr.heap[g]? =W.heap[g]?)
   (λi _=>L.length - (Proofs.intOf i).toNat)
  case atStart=>exact⟨0,Nat.zero_le _,rfl,by simpa using h0,rfl⟩
  case round=>
   obtain⟨k,hk,rfl,Sp,vK⟩:=hrel;by_cases be:k<L.length
   ·have VN:∀o,UJ wr (G g o)=UJ W (G g o):=λo=>dN vK;obtain⟨c0,c1,c2⟩:=HC.o k be;rw[<-VN]at c0 c1 c2;clear VN;have X_:J (L.take k) (wr.alloc (QP #[.bool true,.int .u64 L[k].1,Y L[k].2] 199)):=hJ _ _ _ K7 Sp (World.grownBy_alloc wr _ K7) (λr e=>by cases e);obtain⟨fn,tmps,assign,body,hy,hR⟩:=hY _ L[k] _ X_ (by rw[List.length_take];omega);exact Ya
   ·exact qX3
def sq(F:Fence)(n:Nat)(hf:F.fn 140)(rm:F.round=K7)(hn:1<=n)(B base:Nat)(lv:UL)(L:List (Nat×Int))(hlen:L.length<=1099511627776)
 (W:UK) (hB:Boxed W B 195 lv) (hL:BO W base lv L) (wD:∀k,k∈dM lv->k<W.heap.size):
 SeqStopsK F n prog 140 #[UI B] (λx:Nat×Int=>#[.int .u64 x.1,Y x.2]) (wF (B::dM lv)) (· =L) (· <+:L) L.length W:=by
 intro l J Jx W1 hW hJ hJx hY h0;have Jm:Boxed W1 B 195 lv:=(hW.block B hB.lt).trans hB;have Om:BO W1 base lv L:=hL.ju (λk hk=>hW.block k (wD k hk)) hW.size;exact BT F n hf rm hn l B base lv L hlen J Jx _ hJ hY W1 Jm Om h0
end Go.gR
end
namespace Go.eB
open Go.RowKit aj.Vm Go.Shelf
open aj hiding aR an ak
open gR (wF dM)
attribute [local go_sem] Oper.semAt_some
def wG(w:UK)(base:Nat)(lv:UL)(L:List (Nat×eU)):Prop:=
 (L=[]/\lv=Pl)\/∃g cap,lv=to (H (G g 0)) L.length cap/\base<=g/\g<w.heap.size/\L≠[]/\
   ∀i (hi:i<L.length),UJ w (G g (i*6))=H (Y L[i].1)/\UJ w (G g (i*6+1))=H (.int .u64 L[i].2.key)/\UJ w (G g (i*6+2))=H (Y (L[i].2.tg 0))/\
    UJ w (G g (i*6+3))=H (Y (L[i].2.tg 1))/\UJ w (G g (i*6+4))=H (Y (L[i].2.tg 2))/\UJ w (G g (i*6+5))=H (Y (L[i].2.tg 3))
def wG.ju{w w':UK}{base:Nat}{lv:UL}{L:List (Nat×eU)}(h:wG w base lv L)(X:∀k,k∈dM lv->w'.heap[k]? =w.heap[k]?)(hs:w.heap.size<=w'.heap.size):wG w' base lv L:=by
 rcases h with h|⟨g,cap,rfl,h1,h2,h3,h4⟩
 ·exact .inl h
 ·have e:=X g (by simp[dM]);refine .inr ⟨g,cap,rfl,h1,O,h3,λi hi=>?_⟩;have c:∀o,UJ w' (G g o)=UJ w (G g o):=λo=>dN e;rw[c,c,c,c,c,c];exact h4 i hi
def Ld(L:List (Nat×eU)):∀i (hi:i<L.length) c,c<6->(rN L)[i*6+c]? =(wE L[i])[c]? :=by
 induction L with
 |nil=>intro i hi;simp at hi
 |cons x L ih=>
  intro i hi c hc;have hx:rN (x::L)=wE x++rN L:=by simp[rN]
  rw[hx];cases i with
  |zero=>rw[oK (by simp[wE];omega)];simp
  |succ i=>rw[jy (by simp[wE];omega)];have:=ih i (by simpa using hi) c hc;rw[show(i+1)*6+c - (wE x).length=i*6+c from by simp[wE];omega];simpa using this
def wS{w wr:UK}{a:Nd}{l pre:List Nat}{lv:UL}(h:Eh w wr a l pre lv):wG wr w.heap.size lv (rowsOf a pre):=by
 by_cases hp:pre=[]
 ·subst hp;exact .inl ⟨rfl,h.nil rfl⟩
 ·have hl:0<pre.length:=by cases pre with|nil=>exact absurd rfl hp|cons x t=>simp
  rcases h.own.2 with⟨_,h0⟩|⟨g,cap,zF,hv,X,hg,_,_,_,_⟩
  ·omega
  ·subst hv;refine .inr ⟨g,cap,by rw[kR],X,(Array.getElem?_eq_some_iff.1 hg).1,by intro e;have:=bu List.length e;rw[kR]at this;simp at this;exact hp this,λi hi=>?_⟩;have key:∀c,c<6->∀u,(wE (rowsOf a pre)[i])[c]? =H u->UJ wr (G g (i*6+c))=H u:=by intro c hc u hu;have:=World.ownsRow.cells h.own (g:=g) rfl (i*6+c) u (by rw[Ld _ i hi c hc];exact hu);rwa[show((G g 0):Addr).add (i*6+c)=(G g (i*6+c))by unfold Addr.add;split<;>simp_all]at this
   exact⟨key 0 O _ rfl,key 1 O _ rfl,key 2 O _ rfl,key 3 O _ rfl,key 4 O _ rfl,key 5 O _ rfl⟩
def BT(F:Fence)(n:Nat)(hf:F.fn 136)(rm:F.round=K7)(hn:1<=n)(l B base:Nat)(lv:UL)(L:List (Nat×eU))(hlen:L.length<=1099511627776)(J Jx:List (Nat×eU)->UK->Prop)(Ol:Nat)
 (hJ:AbidesFrom Ol J)
 (hY:∀pre x W,J pre W->pre.length<L.length->YieldAt F (n-1) prog l #[Y x.1,bL x.2] W λe W'=>
   (e=C8 (.bool true)/\J (pre++[x]) W'/\wF (B::dM lv) W W')\/(e=C8 (.bool false)/\Jx (pre++[x]) W'))
 (W:UK) (hB:Boxed W B 203 lv) (hL:wG W base lv L) (h0:J [] W):
 CallsIn F n prog 136 #[.func (.yield l) #[] #[],UI B] W λe W'=>(∃v,e=C8 v)/\
  ((∃ys,ys=L/\J ys W')\/(∃pre,pre <+:L/\Jx pre W')):=by
 refine callsIn_of_wp func136 rfl hf ?_ rm;simp only[ntmps136,List.size_toArray,List.length_cons,List.length_nil,Nat.reduceAdd,Nat.reduceSub,Array.replicate_succ,Array.replicate_zero,List.push_toArray,List.append_toArray,List.nil_append,List.cons_append];have uF:=hB.cell;rcases hL with⟨rfl,rfl⟩|⟨g,cap,rfl,Jo,hg2,bm,hc⟩
 ·gi_wp2
  gi_loopw [7] (λi wr=>i=Y 0/\J [] wr) (λi _=>0)
  case atStart=>exact⟨rfl,h0⟩
  case round=>exact UO
 ·have HC:=Z hc;have HB:=Z hB;clear hc hB
  gi_wp2
  gi_loopw [7] (λi wr=>∃k:Nat,k<=L.length/\i=Y k/\J (L.take k) wr/\wr.heap[g]? =W.heap[g]?)
   (λi _=>L.length - (Proofs.intOf i).toNat)
  case atStart=>exact⟨0,cK _,rfl,by simpa using h0,rfl⟩
  case round=>
   obtain⟨k,hk,rfl,Sp,vK⟩:=hrel;by_cases be:k<L.length
   ·have VN:∀o,UJ wr (G g o)=UJ W (G g o):=λo=>dN vK;obtain⟨c0,c1,c2,c3,c4,c5⟩:=HC.o k be;rw[<-VN]at c0 c1 c2 c3 c4 c5;clear VN;have X_:J (L.take k) (wr.alloc (QP #[Y L[k].1,.int .u64 L[k].2.key,Y (L[k].2.tg 0),Y (L[k].2.tg 1),Y (L[k].2.tg 2),Y (L[k].2.tg 3)] 206)):=hJ _ _ _ K7 Sp (World.grownBy_alloc wr _ K7) (λr e=>by cases e);obtain⟨fn,tmps,assign,body,hy,hR⟩:=hY _ L[k] _ X_ (by rw[List.length_take];omega);unfold bL at hy;exact Ya
   ·exact qX3
def sq(F:Fence)(n:Nat)(hf:F.fn 136)(rm:F.round=K7)(hn:1<=n)(B base:Nat)(lv:UL)(L:List (Nat×eU))(hlen:L.length<=1099511627776)
 (W:UK) (hB:Boxed W B 203 lv) (hL:wG W base lv L) (wD:∀k,k∈dM lv->k<W.heap.size):
 SeqStopsK F n prog 136 #[UI B] (λx:Nat×eU=>#[Y x.1,bL x.2]) (wF (B::dM lv)) (· =L) (· <+:L) L.length W:=by
 intro l J Jx W1 hW hJ hJx hY h0;have Jm:Boxed W1 B 203 lv:=(hW.block B hB.lt).trans hB;have Om:wG W1 base lv L:=hL.ju (λk hk=>hW.block k (wD k hk)) hW.size;exact BT F n hf rm hn l B base lv L hlen J Jx _ hJ hY W1 Jm Om h0
def abZ{α:Type}(va:α->Nat×eU)(F:Fence)(n:Nat)(hf:F.fn 136)(rm:F.round=K7)(hn:1<=n)(l B base:Nat)(lv:UL)(L:List α)(hlen:L.length<=1099511627776)(J Jx:List α->UK->Prop)(Ol:Nat)
 (hJ:AbidesFrom Ol J)
 (hY:∀pre x W,J pre W->pre.length<L.length->YieldAt F (n-1) prog l #[Y (va x).1,bL (va x).2] W λe W'=>
   (e=C8 (.bool true)/\J (pre++[x]) W'/\wF (B::dM lv) W W')\/(e=C8 (.bool false)/\Jx (pre++[x]) W'))
 (W:UK) (hB:Boxed W B 203 lv) (hL:wG W base lv (L.map va)) (h0:J [] W):
 CallsIn F n prog 136 #[.func (.yield l) #[] #[],UI B] W λe W'=>(∃v,e=C8 v)/\
  ((∃ys,ys=L/\J ys W')\/(∃pre,pre <+:L/\Jx pre W')):=by
 refine callsIn_of_wp func136 rfl hf ?_ rm;simp only[ntmps136,List.size_toArray,List.length_cons,List.length_nil,Nat.reduceAdd,Nat.reduceSub,Array.replicate_succ,Array.replicate_zero,List.push_toArray,List.append_toArray,List.nil_append,List.cons_append];have uF:=hB.cell;rcases hL with⟨GN,rfl⟩|⟨g,cap,rfl,Jo,hg2,bm,hc⟩
 ·have acL:L=[]:=List.map_eq_nil_iff.1 GN;clear GN;subst acL
  gi_wp2
  gi_loopw [7] (λi wr=>i=Y 0/\J [] wr) (λi _=>0)
  case atStart=>exact⟨rfl,h0⟩
  case round=>exact UO
 ·have HC:=Z hc;have HB:=Z hB;clear hc hB;rw[List.length_map]at uF
  gi_wp2
  gi_loopw [7] (λi wr=>∃k:Nat,k<=L.length/\i=Y k/\J (L.take k) wr/\wr.heap[g]? =W.heap[g]?)
   (λi _=>L.length - (Proofs.intOf i).toNat)
  case atStart=>exact⟨0,cK _,rfl,by simpa using h0,rfl⟩
  case round=>
   obtain⟨k,hk,rfl,Sp,vK⟩:=hrel;by_cases be:k<L.length
   ·have VN:∀o,UJ wr (G g o)=UJ W (G g o):=λo=>dN vK;obtain⟨c0,c1,c2,c3,c4,c5⟩:=HC.o k (by rw[List.length_map];exact be);rw[List.getElem_map]at c0 c1 c2 c3 c4 c5;rw[<-VN]at c0 c1 c2 c3 c4 c5;clear VN;have X_:J (L.take k) (wr.alloc (QP #[Y (va L[k]).1,.int .u64 (va L[k]).2.key,Y ((va L[k]).2.tg 0),Y ((va L[k]).2.tg 1),Y ((va L[k]).2.tg 2),Y ((va L[k]).2.tg 3)] 206)):=hJ _ _ _ K7 Sp (World.grownBy_alloc wr _ K7) (λr e=>by cases e);obtain⟨fn,tmps,assign,body,hy,hR⟩:=hY _ L[k] _ X_ (by rw[List.length_take];omega);unfold bL at hy;have ht:L.take k++[L[k]]=L.take (k+1):=by rw[AJ be]
    have HT:=Z ht;have HG:=Z vK;clear ht vK X_ Sp;generalize L[k]=x at*;generalize va x=y at*;exact qX0
   ·exact qX3
def abX{α:Type}(va:α->Nat×eU)(F:Fence)(n:Nat)(hf:F.fn 136)(rm:F.round=K7)(hn:1<=n)(B base:Nat)(lv:UL)(L:List α)(hlen:L.length<=1099511627776)
 (W:UK) (hB:Boxed W B 203 lv) (hL:wG W base lv (L.map va)) (wD:∀k,k∈dM lv->k<W.heap.size):
 SeqStopsK F n prog 136 #[UI B] (λx:α=>#[Y (va x).1,bL (va x).2]) (wF (B::dM lv)) (· =L) (· <+:L) L.length W:=by
 intro l J Jx W1 hW hJ hJx hY h0;have Jm:Boxed W1 B 203 lv:=(hW.block B hB.lt).trans hB;have Om:wG W1 base lv (L.map va):=hL.ju (λk hk=>hW.block k (wD k hk)) hW.size;exact abZ va F n hf rm hn l B base lv L hlen J Jx _ hJ hY W1 Jm Om h0
end Go.eB
section
namespace aj.Vm
open Go Go.RowKit
def aF.AH{W:UK}{b:Nat}{T:TypeId}{cs:Array UL}(h:aF W b T cs):∃o:Obj,W.heap[b]? =H o/\o.isCells=true:=⟨_,h,rfl⟩
def Row.AH{W:UK}{e:TypeId}{size n:Nat}{v:UL}{g:Nat->UL}(h:Row W e size v n g){b:Nat}(X:v.ownBlock= .some b):∃o:Obj,W.heap[b]? = .some o/\o.isCells=true:=by
 rcases h.2 with⟨rfl,_⟩|⟨g',cap,zF,rfl,_,hg,_⟩
 ·simp[Value.ownBlock]at X
 ·simp[Value.ownBlock]at X;subst X;exact⟨_,hg,rfl⟩
end aj.Vm
namespace Go.Mk
open Go.RowKit aj Go.Shelf aj.Vm
open gR (wF dM)
structure Marks(W:UK)(Ds:List Nat):Prop where
 nd:Ds.Nodup
 at_:∀D,D∈Ds->W.heap[D]? =H (.deferred (H []))
def marksOf(Ds:List Nat):List Deferred:=Ds.map λD=>{target:= .collected D,args:=#[]}
structure Shut(Ds:List Nat)(W W':UK):Prop where
 os:W'.os=W.os
 tape:W'.tape=W.tape
 output:W'.output=W.output
 size:W'.heap.size=W.heap.size
 block:∀k,k∉Ds->W'.heap[k]? =W.heap[k]?
def tC{F:Fence}{n:Nat}{P:Program}{fn:Func}{tmps:Array UL}{R:Ending->UK->Prop}:∀(Ds:List Nat) (W:UK),Marks W Ds->
 (∀W',Shut Ds W W'->LeavesInM F n P fn tmps R [] .returning W')->LeavesInM F n P fn tmps R (marksOf Ds) .returning W:=by
 intro Ds
 induction Ds with
 |nil=>intro W _ h;exact h W ⟨rfl,rfl,rfl,rfl,λ_ _=>rfl⟩
 |cons D Ds ih=>
  intro W hM h;have hD:=hM.at_ D ay;have gP:=List.nodup_cons.1 hM.nd;refine⟨ay,.inl ⟨D,_,rfl,run_takeDeferred hD,?_⟩⟩;refine ih _ ⟨gP.2,λk hk=>?_⟩ λW' Ei=>?_
  ·exact(World.putObj_heap_other (by intro e;subst e;exact gP.1 hk)).trans (hM.at_ k (by simp[hk]))
  ·refine h W' ⟨Ei.os,Ei.tape,Ei.output,Ei.size.trans ay,λk hk=>?_⟩;simp only[List.mem_cons,not_or]at hk;exact(Ei.block k hk.2).trans (World.putObj_heap_other (λe=>hk.1 e))
def Shut.cells{Ds:List Nat}{W W':UK}(h:Shut Ds W W')(M:Marks W Ds){k:Nat}(hk:∃o:Obj,W.heap[k]? =H o/\o.isCells=true):W'.heap[k]? =W.heap[k]? :=by refine h.block k λhm=>?_;obtain⟨o,h1,h2⟩:=hk;rw[M.at_ k hm]at h1;cases h1;simp[Obj.isCells]at h2
def Shut.below{Ds:List Nat}{W W':UK}(h:Shut Ds W W'){B:Nat}(hB:∀D,D∈Ds->B<=D):Below B W W':=
 ⟨h.os,h.tape,h.output,by rw[h.size];exact aL _,λk hk=>h.block k λhm=>by have:=hB k hm;omega⟩
def Shut.aG{Ds:List Nat}{W W':UK}(h:Shut Ds W W'):aA Ds W W':=⟨h.os,h.tape,h.output,by rw[h.size];exact aL _,λk _ hk=>h.block k hk⟩
def Marks.nil(W:UK):Marks W []:=⟨.nil,λ_ h=>by simp at h⟩
def Marks.cons{W:UK}{Ds:List Nat}{D:Nat}(M:Marks W Ds)(hD:W.heap[D]? =H (.deferred (H [])))(h:D∉Ds):Marks W (D::Ds):=
 ⟨List.nodup_cons.2 ⟨h,M.nd⟩,λk hk=>by rcases List.mem_cons.1 hk with rfl|hk;exact hD;exact M.at_ k hk⟩
def Marks.keeps{W W':UK}{Ds:List Nat}(M:Marks W Ds)(h:∀k,k∈Ds->W'.heap[k]? =W.heap[k]?):Marks W' Ds:=⟨M.nd,λk hk=>(h k hk).trans (M.at_ k hk)⟩
def Marks.lt{W:UK}{Ds:List Nat}(M:Marks W Ds){D:Nat}(h:D∈Ds):D<W.heap.size:=(Array.getElem?_eq_some_iff.1 (M.at_ D h)).1
def Marks.not{W:UK}{Ds:List Nat}(M:Marks W Ds){k:Nat}(hk:∃o:Obj,W.heap[k]? =H o/\o.isCells=true):k∉Ds:=by intro hm;obtain⟨o,h1,h2⟩:=hk;rw[M.at_ k hm]at h1;cases h1;simp[Obj.isCells]at h2
def aN{P:Program}{Q:Exit->Act->UK->Prop}{a:Act}{w:UK}{c:Code}(R:Nat->Act->UK->Prop)(m:Nat)(h0:R m a w)(hz:∀a w,¬R 0 a w)
 (h:∀m a w,R (m+1) a w->c.wp P (Exit.then (R m) Q) a w):(Code.loop c).wp P Q a w:=by
 refine wp_loop_rounds m ?_
 induction m generalizing a w with
 |zero=>exact absurd h0 (hz a w)
 |succ m ih=>
  rw[oJ];refine wp_mono (h m a w h0) ?_;intro e a' w' hq;cases e with
  |normal=>exact ih hq
  |_=>exact hq
def On(W:UK)(k:Nat):Prop:=∃o:Obj,W.heap[k]? =H o/\o.isCells=true
def On.lt{W:UK}{k:Nat}(h:On W k):k<W.heap.size:=by obtain⟨o,h,-⟩:=h;exact(Array.getElem?_eq_some_iff.1 h).1
def On.grown{W W':UK}{row:Option Nat}{k:Nat}(hk:On W k)(hg:W.grownBy W' row)(hr:∀r,row=H r->∃o:Obj,W.heap[r]? =H o/\o.isCells=false):W'.heap[k]? =W.heap[k]? :=by refine hg.block k hk.lt λe=>?_;obtain⟨o,h1,h2⟩:=hk;obtain⟨o',h3,h4⟩:=hr k e.symm;rw[h1]at h3;cases h3;rw[h2]at h4;simp at h4
def tD(ops:Array Oper):Bool:=ops.all λo=>match o.op with| .defer _=>false|_=>true
def GW{ops:Array Oper}(h:tD ops=true){i:Nat}{o:Oper}(ho:ops[i]? =H o)(c:Call):o.op≠.defer c:=by intro e;unfold tD at h;have hm:o∈ops:=Array.mem_of_getElem? ho;have:=Array.all_eq_true_iff_forall_mem.1 h o hm;rw[e]at this;simp at this
def Le{P:Program}{row:String}{args:Array UL}{w:UK}{R:UL->UK->Prop}{l n:Nat}(h:Rows P row args w R):RowsIn (Fence.wide.inRound l) n P row args w R:=
 λc cs _=>let⟨v,w',r,s⟩:=h c cs;⟨v,w',r,stepsIn_wide.2 s⟩
def GX{P:Program}{o:Oper}{a:Act}{l n:Nat}{K:Act->UK->Prop}{Q:Exit->Act->UK->Prop}{r:Result Next}(h:o.upon P a K Q r):o.uponIn (Fence.wide.inRound l) n P a K Q r:=by
 cases r with
 |ok x w'=>
  cases x with
  |value v=>exact h
  |skip=>exact h
  |defer d=>exact h
  |enter f args=>exact⟨λhh=>by simp[Fence.wide]at hh,CallsIn.inRound l (callsIn_wide.2 h)⟩
  |row row args=>exact⟨λhh=>by simp[Fence.wide]at hh,Le h⟩
  |_=>exact absurd h (by simp[Oper.upon])
 |halt x w'=>cases x<;>exact h
def oN{P:Program}{md:Region.Mode}{ops:Array Oper}{Q:Exit->Act->UK->Prop}{l n:Nat}(hd:tD ops=true)(hQ:∀a w,¬Q .outgrown a w):∀(gS:Nat) (ei:Array Bool) (a:Act) (w:UK),
 wpAny P md ops Q gS ei a w->wpAnyIn (Fence.wide.inRound l) n P md ops Q gS ei a w
 |0,_,_,_,h=>h
 |gS+1,ei,a,w,h=>⟨h.1,λi hi=>by
   have h2:=h.2 i hi;unfold wpOp at h2;unfold wpOpIn;cases ho:ops[i]? with
   |none=>rw[ho]at h2;exact oN hd hQ gS _ _ _ h2
   |some o=>
    rw[ho]at h2;dsimp only at h2 ⊢;split
    ·next hw=>
     rw[bk hw]at h2;rcases h2 with h2|⟨-,a',w',h2⟩
     ·refine⟨λ_ _=>trivial,?_⟩;rw[Oper.semAt_eq _ _ _ (GW hd ho)];refine GX ?_;exact Oper.wp_mono (λa' w' h'=>oN hd hQ gS _ _ _ h') h2
     ·exact absurd h2 (hQ a' w')
    ·next hw=>
     rw[aw hw]at h2;exact⟨λ_ _=>trivial,oN hd hQ gS _ _ _ h2⟩⟩
def gT(Q:Exit->Act->UK->Prop)(e:Exit)(a:Act)(w:UK):Prop:=e= .normal/\Q .normal a w
def jx{Q:Exit->Act->UK->Prop}{c:List PanicEntry}{a:Act}{w:UK}{a0c:Prop}(h:gT Q (.panic c) a w):a0c:=by cases h.1
def bH{P:Program}{id:Nat}{ops:Array Oper}{Q:Exit->Act->UK->Prop}{a:Act}{w:UK}{S:UK->Prop}(hm:P.follows .mixedOrders=true)(hS:S w.drew)
 (h:S w.drew->wpAnyH P .any ops (gT Q) S ops.size (Array.replicate ops.size false) a w.drew):(Code.region id ops true).wp P Q a w:=
 Code.wp_mono (λe a w hq=>by obtain⟨rfl,hq⟩:=hq;exact hq) (wp_region_held_drew hm hS h)
def pA{P:Program}{id:Nat}{ops:Array Oper}{Q:Exit->Act->UK->Prop}{a:Act}{w:UK}{l n:Nat}{S:UK->Prop}(hm:P.follows .mixedOrders=true)(hd:tD ops=true)(hS:S w.drew)
 (h:S w.drew->wpAnyH P .any ops (gT Q) S ops.size (Array.replicate ops.size false) a w.drew):(Code.region id ops true).wpIn (Fence.wide.inRound l) n P Q a w:=by
 refine wpIn_mono (Q:=gT Q) ?_ (λe a w hq=>by obtain⟨rfl,hq⟩:=hq;exact hq);exact wpIn_region_any hm (oN hd (λa w hq=>by cases hq.1) _ _ _ _ (wpAny_of_held _ _ _ _ (h hS)))
end Go.Mk
end
namespace Go.Mk
open Go.RowKit aj Go.Shelf aj.Vm
def pB:Code->List Code
 | .loop c=>[c]
 | .seq a b=>pB a++pB b
 | .block _ c=>pB c
 | .scope c=>pB c
 | .cond _ a b=>pB a++pB b
 |_=>[]
def iS(b:Option Code)(k:Nat):Code:=((pB (b.getD .skip))[k]?).getD .skip
section
variable {P:Program}{ops:Array Oper}{md:Region.Mode}{Q:Exit->Act->UK->Prop}{S:UK->Prop}{oi:Oper}{v:UL}{gS:Nat}{ei:Array Bool}{a:Act}{w:UK}
def tk(i:Nat)(hi:ops[i]? =H oi)(hy:∀w,S w->(execOp a.eval oi).run P w= .ok (.value v) w)(hS:S w)(h:wpAnyH P md ops (gT Q) S gS (ei.setIfInBounds i true) (a.put oi.dst v) w)
 (hw:Region.wanted oi (yielded ops a.tmps)=true:=by rfl) (hs:Region.noSelect ops=true:=by kernel_rfl) (hf:Region.free md ops ei i=true:=by kernel_rfl) (hr:(Region.ready md ops ei).contains i=true:=by kernel_rfl):
 wpAnyH P md ops (gT Q) S (gS+1) ei a w:=
 pP hi hs hf hr (λ_ _ _ h=>jx h) (.inl ⟨hw,hy⟩) hS h
def sk(i:Nat)(hi:ops[i]? =H oi)(hS:S w)(h:wpAnyH P md ops (gT Q) S gS (ei.setIfInBounds i true) (a.put oi.dst undef) w)
 (hw:Region.wanted oi (yielded ops a.tmps)=false:=by rfl) (hs:Region.noSelect ops=true:=by kernel_rfl) (hf:Region.free md ops ei i=true:=by kernel_rfl) (hr:(Region.ready md ops ei).contains i=true:=by kernel_rfl):
 wpAnyH P md ops (gT Q) S (gS+1) ei a w:=
 pP hi hs hf hr (λ_ _ _ h=>jx h) (.inr ⟨hw,rfl⟩) hS h
def oD{rs:List Nat}(h:AllReadyH P md ops (gT Q) S gS ei a w rs)(hr:Region.ready md ops ei=rs:=by kernel_rfl)(bm:rs≠[]:=by simp):wpAnyH P md ops (gT Q) S (gS+1) ei a w:=fk hr bm h
end
end Go.Mk
namespace Go.Gd
open Go.RowKit aj aj.Vm
section
variable {P:Program}{ops:Array Oper}{Q:Exit->Act->UK->Prop}{md:Region.Mode}{D:List Nat}{S0 S1:UK->Prop}
def Not(D:List Nat)(l:Array Bool):Prop:=∀d,d∈D->l.getD d true=false
def Rp(D:List Nat)(S0 S1:UK->Prop)(l:Array Bool)(w:UK):Prop:=S0 w/\(Not D l->S1 w)
def my(P:Program)(md:Region.Mode)(ops:Array Oper)(Q:Exit->Act->UK->Prop)(D:List Nat)(S0 S1:UK->Prop):Nat->Array Bool->Act->UK->Prop
 |0,l,a,w=>Region.ready md ops l=[]/\Q .normal a w
 |f+1,l,a,w=>(Region.ready md ops l=[]->Q .normal a w)/\∀i,i∈Region.ready md ops l->wpOp P ops Q i (λa' w'=>Rp D S0 S1 (l.setIfInBounds i true) w'/\my P md ops Q D S0 S1 f (l.setIfInBounds i true) a' w') a w
def my.any:∀(f:Nat) (l:Array Bool) (a:Act) (w:UK),my P md ops Q D S0 S1 f l a w->wpAny P md ops Q f l a w
 |0,_,_,_,h=>h
 |f+1,l,a,w,h=>⟨h.1,λi hi=>wpOp_mono (λa' w' k=>my.any f _ a' w' k.2) (h.2 i hi)⟩
def jG(md:Region.Mode)(ops:Array Oper)(i:Nat):List Nat:=((List.range ops.size).foldl (λN k=>match ops[k]? with|some o=>if o.after.any (λe=>Region.binds md e&&N.contains e.on)then k::N else N|none=>N) [i])
def VO(md:Region.Mode)(ops:Array Oper)(N:List Nat)(i:Nat):Prop:=∀n,n∈N->n=i\/∃o,ops[n]? =H o/\∃e,e∈o.after/\Region.binds md e=true/\e.on∈N
def xR(md:Region.Mode)(ops:Array Oper)(N:List Nat)(i:Nat):Bool:=N.contains i&&N.all λn=>n==i||(match ops[n]? with|some o=>o.after.any (λe=>Region.binds md e&&N.contains e.on)|none=>false)
def Oo{N:List Nat}{i:Nat}(h:xR md ops N i=true):i∈N/\VO md ops N i:=by
 unfold xR at h;rw[Bool.and_eq_true]at h;refine⟨by simpa using h.1,λn hn=>?_⟩;have:=List.all_eq_true.1 h.2 n hn;rw[Bool.or_eq_true]at this;rcases this with this|h2
 ·exact .inl (by simpa using this)
 right;cases ho:ops[n]? with
 |none=>rw[ho]at h2;simp at h2
 |some o=>rw[ho]at h2;dsimp only at h2;obtain⟨e,he,X⟩:=Array.any_eq_true'.1 h2;rw[Bool.and_eq_true]at X;exact⟨o,rfl,e,he,X.1,by simpa using X.2⟩
def Jp{l:Array Bool}{j:Nat}(h:Not D l)(hj:j∉D):Not D (l.setIfInBounds j true):=λd hd=>by rw[getD_set_ne true (λe=>hj (by rw[e];exact hd))];exact h d hd
def Lf{l:Array Bool}{j:Nat}(h:Not D (l.setIfInBounds j true)):Not D l:=λd hd=>by
 have h1:=h d hd;by_cases e:j=d
 ·subst e;by_cases hj:j<l.size
  ·simp[Array.getD,hj]at h1
  ·simp[Array.getD,hj]at h1
 ·rw[getD_set_ne true e]at h1;exact h1
def Rp.VP{l:Array Bool}{j:Nat}{w:UK}(h:Rp D S0 S1 l w):Rp D S0 S1 (l.setIfInBounds j true) w:=⟨h.1,λhn=>h.2 (Lf hn)⟩
def Rp.set{l:Array Bool}{j:Nat}{w:UK}(h:Rp D S0 S1 (l.setIfInBounds j true) w)(hj:j∉D):Rp D S0 S1 l w:=⟨h.1,λhn=>h.2 (Jp hn hj)⟩
def first{i:Nat}{oi:Oper}{v:UL}{S:UK->Prop}{N:List Nat}(hi:ops[i]? =H oi)(Rg:∀(j:Nat) (o:Oper) cs b,ops[j]? =H o->o.op≠.select cs b)
 (hQ:∀c a w,Q (.panic c) (a.put oi.dst v) w->Q (.panic c) a w) (hW:VO md ops N i) (hiD:i∉D) (hC:∀l w,Not N l->Rp D S0 S1 l w->S w):
 ∀(f:Nat) (l:Array Bool) (a:Act) (w:UK),
  (∀j oj,ops[j]? =H oj->j≠i->l.getD j true=false->(∀e∈oj.after,Region.binds md e=true->e.on≠i)->oi.apart ops oj=true)->
  i∈Region.ready md ops l->YieldsIf P ops S oi v a->Rp D S0 S1 l w->Not N l->
  my P md ops Q D S0 S1 f (l.setIfInBounds i true) (a.put oi.dst v) w->my P md ops Q D S0 S1 (f+1) l a w:=by
 intro f
 induction f with
 |zero=>
  intro l a w _ hr hy hS hN a0f;refine⟨λh=>(by rw[h]at hr;cases hr),λj hj=>?_⟩;by_cases Rq:j=i
  ·subst Rq;exact hy.wpOp hi (hC l w hN hS) ⟨hS.VP,a0f⟩
  ·have:=ready_mono hj Rq;rw[a0f.1]at this;cases this
 |succ f ih=>
  intro l a w VQ hr hy hS hN a0f;refine⟨λh=>(by rw[h]at hr;cases hr),λj hj=>?_⟩;by_cases Rq:j=i
  ·subst Rq;exact hy.wpOp hi (hC l w hN hS) ⟨hS.VP,a0f⟩
  ·have h1:=a0f.2 j (ready_mono hj Rq);obtain⟨MG,oj,hoj,f_⟩:=mem_ready.1 hj;have Cq:∀e∈oj.after,Region.binds md e=true->e.on∉N:=λe he X hm=>by
    have a1:=f_ e he X;have a0:=hN _ hm;rcases Nat.lt_or_ge e.on l.size with h'|h'
    ·simp[h']at a0 a1;rw[a0]at a1;cases a1
    ·simp[Array.getElem?_eq_none h']at a1
   have Hr:∀e∈oj.after,Region.binds md e=true->e.on≠i:=λe he X xu=>by
    have a1:=f_ e he X;have a0:=(mem_ready.1 hr).1;rw[xu]at a1;rcases Nat.lt_or_ge i l.size with h'|h'
    ·simp[h']at a0 a1;rw[a0]at a1;cases a1
    ·simp[Array.getElem?_eq_none h']at a1
   have hjN:j∉N:=λhm=>by
    rcases hW j hm with e|⟨o,ho,e,he,X,xu⟩
    ·exact Rq e
    ·rw[hoj]at ho;cases ho;exact Cq e he X xu
   have h2:=wpOp_putIf hoj (VQ j oj hoj Rq MG Hr) (λcs b=>Rg i oi cs b hi) (λcs b=>Rg j oj cs b hoj) hQ hy h1;refine wpOp_mono (λa' w' h3=>?_) h2;obtain⟨y3,c3,H3⟩:=h3;rw[Array.setIfInBounds_comm _ _ (Ne.symm Rq)]at c3;have c4:=c3.set hiD;refine⟨c4,ih (l.setIfInBounds j true) a' w' (λk ok hk hki hun Sq=>VQ k ok hk hki ?_ Sq) (ready_mono hr (Ne.symm Rq)) y3 c4 (Jp hN hjN) ?_⟩
   ·by_cases hjk:j=k
    ·subst hjk;exact MG
    ·rw[getD_set_ne true hjk]at hun;exact hun
   ·rw[Array.setIfInBounds_comm _ _ Rq];exact H3
def Oq{N:List Nat}{l:Array Bool}(h:(N.all λd=> !(l.getD d true))=true):Not N l:=λd hd=>by simpa using List.all_eq_true.1 h d hd
def take{i:Nat}{oi:Oper}{v:UL}{f:Nat}{l:Array Bool}{a:Act}{w:UK}(hi:ops[i]? =H oi)(hs:Region.noSelect ops=true)(hf:Region.free md ops l i=true)(hr:(Region.ready md ops l).contains i=true)
 (hW:(xR md ops (jG md ops i) i&&D.all (λd=>d !=i&&(jG md ops i).contains d))=true) (hN:((jG md ops i).all λd=> !(l.getD d true))=true) (hQ:∀c a w,Q (.panic c) (a.put oi.dst v) w->Q (.panic c) a w) (hy:YieldsIf P ops (λw=>S0 w/\S1 w) oi v a) (hS:S0 w/\S1 w)
 (h:my P md ops Q D S0 S1 f (l.setIfInBounds i true) (a.put oi.dst v) w):my P md ops Q D S0 S1 (f+1) l a w:=by
 rw[Bool.and_eq_true]at hW;obtain⟨-,hw⟩:=Oo hW.1;have hD:∀d,d∈D->d≠i/\d∈jG md ops i:=λd hd=>by have:=List.all_eq_true.1 hW.2 d hd;rw[Bool.and_eq_true]at this;exact⟨by simpa using this.1,by simpa using this.2⟩
 exact first (N:=jG md ops i) hi (Region.noSelect_spec hs) hQ hw (λhm=>(hD i hm).1 rfl) (λl w hn hc=>⟨hc.1,hc.2 λd hd=>hn d (hD d hd).2⟩) f l a w (Region.free_spec hi hf) (by simpa using hr) hy ⟨hS.1,λ_=>hS.2⟩ (Oq hN) h
def Ot{i:Nat}{oi:Oper}{v:UL}{f:Nat}{l:Array Bool}{a:Act}{w:UK}(hi:ops[i]? =H oi)(hs:Region.noSelect ops=true)(hf:Region.free md ops l i=true)(hr:(Region.ready md ops l).contains i=true)
 (hW:(D.all λd=>d !=i)=true) (hN:([i].all λd=> !(l.getD d true))=true) (hQ:∀c a w,Q (.panic c) (a.put oi.dst v) w->Q (.panic c) a w) (hy:YieldsIf P ops S0 oi v a) (hS:S0 w/\S1 w)
 (h:my P md ops Q D S0 S1 f (l.setIfInBounds i true) (a.put oi.dst v) w):my P md ops Q D S0 S1 (f+1) l a w:=
 first (N:=[i]) hi (Region.noSelect_spec hs) hQ (λn hn=> .inl (by simpa using hn)) (λhm=>by have:=List.all_eq_true.1 hW i hm;simp at this) (λl w _ hc=>hc.1) f l a w (Region.free_spec hi hf) (by simpa using hr) hy ⟨hS.1,λ_=>hS.2⟩ (Oq hN) h
def eC(P:Program)(md:Region.Mode)(ops:Array Oper)(Q:Exit->Act->UK->Prop)(D:List Nat)(S0 S1:UK->Prop)(f:Nat)(l:Array Bool)(a:Act)(w:UK)(rs:List Nat):Prop:=
 ∀i,i∈rs->wpOp P ops Q i (λa' w'=>Rp D S0 S1 (l.setIfInBounds i true) w'/\my P md ops Q D S0 S1 f (l.setIfInBounds i true) a' w') a w
def eC.nil{f:Nat}{l:Array Bool}{a:Act}{w:UK}:eC P md ops Q D S0 S1 f l a w []:=λ_ h=>by cases h
def step{i:Nat}{o:Oper}{K:Act->UK->Prop}{a:Act}{w:UK}(ho:ops[i]? =H o)(h:if Region.wanted o (yielded ops a.tmps)=true then Oper.wp P o a w K Q else K (a.put o.dst undef) w):wpOp P ops Q i K a w:=by
 unfold wpOp;rw[ho];dsimp only;split
 ·next hw=>rw[bk hw]at h;exact .inl h
 ·next hw=>rw[aw hw]at h;exact h
def eC.cons{f:Nat}{l:Array Bool}{a:Act}{w:UK}{i:Nat}{o:Oper}{rs:List Nat}(ho:ops[i]? =H o)
 (h:∀K:Act->UK->Prop,Shut (∀a w,S0 w/\S1 w->(S0 w/\S1 w->my P md ops Q D S0 S1 f (l.setIfInBounds i true) a w)->K a w)->if Region.wanted o (yielded ops a.tmps)=true then Oper.wp P o a w K Q else K (a.put o.dst undef) w)
 (hs:eC P md ops Q D S0 S1 f l a w rs):eC P md ops Q D S0 S1 f l a w (i::rs):=λj hj=>by
 rcases List.mem_cons.1 hj with rfl|hj
 ·exact step ho (h _ (λa w hS hW=>⟨⟨hS.1,λ_=>hS.2⟩,hW hS⟩))
 ·exact hs j hj
def eC.last{f:Nat}{l:Array Bool}{a:Act}{w:UK}{i:Nat}{o:Oper}{rs:List Nat}(ho:ops[i]? =H o)(hD:(D.any λd=>(l.setIfInBounds i true).getD d true)=true)
 (h:∀K:Act->UK->Prop,Shut (∀a w,S0 w->my P md ops Q D S0 S1 f (l.setIfInBounds i true) a w->K a w)->if Region.wanted o (yielded ops a.tmps)=true then Oper.wp P o a w K Q else K (a.put o.dst undef) w)
 (hs:eC P md ops Q D S0 S1 f l a w rs):eC P md ops Q D S0 S1 f l a w (i::rs):=λj hj=>by
 rcases List.mem_cons.1 hj with rfl|hj
 ·refine step ho (h _ (λa w hS hW=>⟨⟨hS,λhN=>?_⟩,hW⟩));obtain⟨d,hd,X⟩:=List.any_eq_true.1 hD;rw[hN d hd]at X;cases X
 ·exact hs j hj
def ready{rs:List Nat}{f:Nat}{l:Array Bool}{a:Act}{w:UK}(hr:Region.ready md ops l=rs)(bm:rs≠[])(h:eC P md ops Q D S0 S1 f l a w rs):my P md ops Q D S0 S1 (f+1) l a w:=
 ⟨λh0=>absurd (hr▸h0) bm,hr▸h⟩
def done{l:Array Bool}{a:Act}{w:UK}(hr:Region.ready md ops l=[])(h:Q .normal a w):∀f,my P md ops Q D S0 S1 f l a w
 |0=>⟨hr,h⟩
 |_+1=>⟨λ_=>h,by rw[hr];simp⟩
variable {id:Nat}{a:Act}{w:UK}{l n:Nat}
def region(D:List Nat)(S0 S1:UK->Prop)(hm:P.follows .mixedOrders=true)(hS:S0 w.drew/\S1 w.drew)(h:S0 w.drew/\S1 w.drew->my P .any ops (Mk.gT Q) D S0 S1 ops.size (Array.replicate ops.size false) a w.drew):(Code.region id ops true).wp P Q a w:=
 Code.wp_mono (λe a w hq=>by obtain⟨rfl,hq⟩:=hq;exact hq) (wp_region_any hm (my.any _ _ _ _ (h hS)))
def pA(D:List Nat)(S0 S1:UK->Prop)(hm:P.follows .mixedOrders=true)(hd:Mk.tD ops=true)(hS:S0 w.drew/\S1 w.drew)(h:S0 w.drew/\S1 w.drew->my P .any ops (Mk.gT Q) D S0 S1 ops.size (Array.replicate ops.size false) a w.drew):(Code.region id ops true).wpIn (Fence.wide.inRound l) n P Q a w:=by refine wpIn_mono (Q:=Mk.gT Q) ?_ (λe a w hq=>by obtain⟨rfl,hq⟩:=hq;exact hq);exact wpIn_region_any hm (Mk.oN hd (λa w hq=>by cases hq.1) _ _ _ _ (my.any _ _ _ _ (h hS)))
end
end Go.Gd
namespace Go.Mk
open Go.RowKit aj Go.Shelf aj.Vm
section
variable {P:Program}{ops:Array Oper}{md:Region.Mode}{Q:Exit->Act->UK->Prop}{S0 S1:UK->Prop}{D:List Nat}{oi:Oper}{v:UL}{gS:Nat}{l:Array Bool}{a:Act}{w:UK}
def Rr(i:Nat)(hi:ops[i]? =H oi)(hy:∀w,S0 w/\S1 w->(execOp a.eval oi).run P w= .ok (.value v) w)(hS:S0 w/\S1 w)(h:Gd.my P md ops (gT Q) D S0 S1 gS (l.setIfInBounds i true) (a.put oi.dst v) w)
 (hw:Region.wanted oi (yielded ops a.tmps)=true:=by rfl) (hs:Region.noSelect ops=true:=by kernel_rfl) (hf:Region.free md ops l i=true:=by kernel_rfl) (hr:(Region.ready md ops l).contains i=true:=by kernel_rfl)
 (hW:(Gd.xR md ops (Gd.jG md ops i) i&&D.all (λd=>d !=i&&(Gd.jG md ops i).contains d))=true:=by kernel_rfl) (hN:((Gd.jG md ops i).all λd=> !(l.getD d true))=true:=by kernel_rfl):Gd.my P md ops (gT Q) D S0 S1 (gS+1) l a w:=
 Gd.take hi hs hf hr hW hN (λ_ _ _ h=>jx h) (.inl ⟨hw,hy⟩) hS h
def Yb{rs:List Nat}(h:Gd.eC P md ops (gT Q) D S0 S1 gS l a w rs)(hr:Region.ready md ops l=rs:=by kernel_rfl)(bm:rs≠[]:=by simp):Gd.my P md ops (gT Q) D S0 S1 (gS+1) l a w:=Gd.ready hr bm h
variable {S:UK->Prop}{ei:Array Bool}{a':Act}
def fC(i:Nat)(h:wpAnyH P md ops (gT Q) S gS (ei.setIfInBounds i true) a' w)
 (hS:S w:=by assumption)
 (hi:ops[i]? =H oi:=by rfl)
 (hy:∀w,S w->(execOp a.eval oi).run P w= .ok (.value v) w:=by
   intro wz fj
   (try dsimp only at fj)
   (try simp only[List.getElem_toArray,List.getElem_cons_zero,List.getElem_cons_succ])
   first|(go_simp;done)|(go_simp;with_reducible rfl))
 (ha:a'=a.put oi.dst v:=by
   (try simp only[Act.put,List.setIfInBounds_toArray,List.set_cons_zero,List.set_cons_succ,List.getElem_toArray,List.getElem_cons_zero,List.getElem_cons_succ])
   first|done|rfl)
 (hw:Region.wanted oi (yielded ops a.tmps)=true:=by rfl) (hs:Region.noSelect ops=true:=by kernel_rfl) (hf:Region.free md ops ei i=true:=by kernel_rfl) (hr:(Region.ready md ops ei).contains i=true:=by kernel_rfl):
 wpAnyH P md ops (gT Q) S (gS+1) ei a w:=tk i hi hy hS (ha▸h) hw hs hf hr
def tkL(i:Nat){W0:UK}{b o:Nat}{u:UL}(c:UJ W0 (G b o)=H u)(h:wpAnyH P md ops (gT Q) S gS (ei.setIfInBounds i true) a' w)
 (hS:S w:=by assumption)
 (hi:ops[i]? =H oi:=by rfl)
 (hy:UJ W0 (G b o)=H u->∀w,S w->(execOp a.eval oi).run P w= .ok (.value v) w:=by
   intro c wz fj;have y0:=(dN (fj.block _ (aH c))).trans c
   (try simp only[List.getElem_toArray,List.getElem_cons_zero,List.getElem_cons_succ])
   first|(go_simp;done)|(go_simp;with_reducible rfl))
 (ha:a'=a.put oi.dst v:=by
   (try simp only[Act.put,List.setIfInBounds_toArray,List.set_cons_zero,List.set_cons_succ,List.getElem_toArray,List.getElem_cons_zero,List.getElem_cons_succ])
   first|done|rfl)
 (hw:Region.wanted oi (yielded ops a.tmps)=true:=by rfl) (hs:Region.noSelect ops=true:=by kernel_rfl) (hf:Region.free md ops ei i=true:=by kernel_rfl) (hr:(Region.ready md ops ei).contains i=true:=by kernel_rfl):
 wpAnyH P md ops (gT Q) S (gS+1) ei a w:=tk i hi (hy c) hS (ha▸h) hw hs hf hr
def Sr(i:Nat)(h:wpAnyH P md ops (gT Q) S gS (ei.setIfInBounds i true) a' w)
 (hS:S w:=by assumption)
 (hi:ops[i]? =H oi:=by rfl)
 (ha:a'=a.put oi.dst undef:=by
   (try simp only[Act.put,List.setIfInBounds_toArray,List.set_cons_zero,List.set_cons_succ,List.getElem_toArray,List.getElem_cons_zero,List.getElem_cons_succ])
   first|done|rfl)
 (hw:Region.wanted oi (yielded ops a.tmps)=false:=by rfl) (hs:Region.noSelect ops=true:=by kernel_rfl) (hf:Region.free md ops ei i=true:=by kernel_rfl) (hr:(Region.ready md ops ei).contains i=true:=by kernel_rfl):
 wpAnyH P md ops (gT Q) S (gS+1) ei a w:=sk i hi hS (ha▸h) hw hs hf hr
def pt{p q:Prop}(hq:q)(h:q->p:=by
 intro hq
 (try simp only[Act.put,List.setIfInBounds_toArray,List.set_cons_zero,List.set_cons_succ,List.getElem_toArray,List.getElem_cons_zero,List.getElem_cons_succ])
 exact hq):p:=h hq
def Dm(i:Nat)(h:Gd.my P md ops (gT Q) D S0 S1 gS (l.setIfInBounds i true) a' w)
 (hS:S0 w/\S1 w:=by assumption)
 (hi:ops[i]? =H oi:=by rfl)
 (hy:∀w,S0 w/\S1 w->(execOp a.eval oi).run P w= .ok (.value v) w:=by
   intro wz fj
   (try dsimp only at fj)
   (try simp only[List.getElem_toArray,List.getElem_cons_zero,List.getElem_cons_succ])
   first|(go_simp;done)|(go_simp;with_reducible rfl))
 (ha:a'=a.put oi.dst v:=by
   (try simp only[Act.put,List.setIfInBounds_toArray,List.set_cons_zero,List.set_cons_succ,List.getElem_toArray,List.getElem_cons_zero,List.getElem_cons_succ])
   first|done|rfl)
 (hw:Region.wanted oi (yielded ops a.tmps)=true:=by rfl) (hs:Region.noSelect ops=true:=by kernel_rfl) (hf:Region.free md ops l i=true:=by kernel_rfl) (hr:(Region.ready md ops l).contains i=true:=by kernel_rfl)
 (hW:(Gd.xR md ops (Gd.jG md ops i) i&&D.all (λd=>d !=i&&(Gd.jG md ops i).contains d))=true:=by kernel_rfl) (hN:((Gd.jG md ops i).all λd=> !(l.getD d true))=true:=by kernel_rfl):Gd.my P md ops (gT Q) D S0 S1 (gS+1) l a w:=
 Rr i hi hy hS (ha▸h) hw hs hf hr hW hN
end
end Go.Mk
namespace Go.Su
open Go Go.RowKit aj
section
structure nR(n count aE e:Nat)(S:Tb UL):Prop where
 inv:Inv n S
 dr:dr n S=count
 le:count<=aE
 fit:Fit aE n e
 int:∀i k u,S i=H (k,u)->∃x,u=Y x
variable {n count aE e:Nat}{S:Tb UL}
def nR.pos(T:nR n count aE e S):0<n:=T.fit.Vq.pos
def nR.lt(T:nR n count aE e S):count<n:=by have:=T.le;have:=T.fit.ge;have:=T.pos;omega
def nR.zK(T:nR n count aE e S):∃em,em<n/\S em=K7:=By (by rw[T.dr];exact T.lt)
def xS{key:Nat}{v:Int}(h:∀i k u,S i=H (k,u)->∃x,u=Y x):∀i k u,putAt n S key (Y v) i=H (k,u)->∃x,u=Y x:=by
 intro i k u hi;unfold putAt at hi;by_cases e:i=find n S key
 ·subst e;rw[an]at hi;simp at hi;exact⟨v,hi.2.symm⟩
 ·rw[ak _ _ e]at hi;exact h i k u hi
def xT{p:Nat}{x:Option (Nat×UL)}(h:∀i k u,S i=H (k,u)->∃x,u=Y x)(hx:∀k u,x=H (k,u)->∃x,u=Y x):∀i k u,aR S p x i=H (k,u)->∃x,u=Y x:=by
 intro i k u hi;by_cases e:i=p
 ·subst e;rw[an]at hi;exact hx k u hi
 ·rw[ak _ _ e]at hi;exact h i k u hi
def Ej:∀(f:Nat) (S:Tb UL) (i k:Nat),(∀i k u,S i=H (k,u)->∃x,u=Y x)->∀j y u,gH n f S i k j=H (y,u)->∃x,u=Y x:=by
 intro f
 induction f with
 |zero=>intro S i k h;exact h
 |succ f ih=>
  intro S i k h;unfold gH;cases hs:S k with
  |none=>exact h
  |some p=>
   obtain⟨y,v⟩:=p;dsimp only;split
   ·exact ih _ _ _ (xT (xT h λk' u e=>h k k' u (hs.trans e)) λk u e=>by simp at e)
   ·exact ih _ _ _ h
def uG{p:Nat}(h:∀i k u,S i=H (k,u)->∃x,u=Y x):∀i k u,lJ n S p i=H (k,u)->∃x,u=Y x:=
 Ej n _ _ _ (xT h λk u e=>by simp at e)
end
end Go.Su
namespace Go.Ix
open Go.RowKit aj
open Su (nR xS uG)
def cX(w:UK)(b s aE count:Nat)(f:Nat->Option Nat):Prop:=
 ∃(n e:Nat) (S:Tb UL),dI w b s aE count n (du (Y 0) S)/\nR n count aE e S/\(∀k v,f k=H v↔∃p,p<n/\S p=H (k,Y (v:Nat)))/\∀p k u,p<n->S p=H (k,u)->∃v:Nat,u=Y v
section
variable {w w':UK}{b s aE count:Nat}{f:Nat->Option Nat}
def cX.aG{T:List Nat}(h:cX w b s aE count f)(g:aA T w w')(hs:b∉T/\s∉T):cX w' b s aE count f:=by obtain⟨n,e,S,h1,h2⟩:=h;exact⟨n,e,S,h1.aG g hs.1 hs.2,h2⟩
def cX.later(h:cX w b s aE count f)(g:Below w.heap.size w w'):cX w' b s aE count f:=h.aG (aA.af (S:=[]) g) ay
def cX.drewN(h:cX w b s aE count f)(m:Nat):cX (w.drewN m) b s aE count f:=by obtain⟨n,e,S,h1,h2⟩:=h;exact⟨n,e,S,h1.drewN m,h2⟩
def Ow{n count aE e:Nat}{S:Tb UL}(T:nR n count aE e S){k k':Nat}{u:UL}(h:S (find n S k)=H (k',u)):k'=k:=by obtain⟨em,qB,iR⟩:=T.zK;exact DH (rh qB iR k).1 h
def rn{n count aE e:Nat}{S:Tb UL}(T:nR n count aE e S)(hf:∀k v,f k=H v↔∃p,p<n/\S p=H (k,Y (v:Nat))){k v:Nat}(h:f k=H v):S (find n S k)=H (k,Y v):=by obtain⟨em,qB,iR⟩:=T.zK;obtain⟨p,hp,hs⟩:=(hf k v).1 h;rw[T.inv.Bw qB iR hp hs];exact hs
def oO{n count aE e:Nat}{S:Tb UL}(T:nR n count aE e S)(hf:∀k v,f k=H v↔∃p,p<n/\S p=H (k,Y (v:Nat)))(hn:∀p k u,p<n->S p=H (k,u)->∃v:Nat,u=Y v){k:Nat}(h:f k=K7):S (find n S k)=K7:=by
 cases hs:S (find n S k)with
 |none=>rfl
 |some x=>obtain⟨k',u⟩:=x;have hk:=Ow T hs;subst hk;have be:=jD T.pos S k';obtain⟨v,rfl⟩:=hn _ _ _ be hs;have:=(hf k' v).2 ⟨_,be,hs⟩;rw[h]at this;simp at this
def uH(h:cX w b s aE count f){key v:Nat}(hk:f key=H v):Calls prog 59 #[UI b,.int .u64 key] w λr w'=>r=C8 (.tuple #[Y v,.bool true])/\∃m,w'=w.drewN m:=by
 obtain⟨n,e,S,h1,T,hf,hn⟩:=h;obtain⟨em,qB,iR⟩:=T.zK;have:=gR.As h1 T.fit.Vq qB iR key;have hc:du (Y 0) S (find n S key)=(true,key,Y v):=by unfold du;rw[rn T hf hk]
 rw[hc]at this;exact this
def AI(h:cX w b s aE count f){key:Nat}(hk:f key=K7):Calls prog 59 #[UI b,.int .u64 key] w λr w'=>r=C8 (.tuple #[Y 0,.bool false])/\∃m,w'=w.drewN m:=by
 obtain⟨n,e,S,h1,T,hf,hn⟩:=h;obtain⟨em,qB,iR⟩:=T.zK;have:=gR.As h1 T.fit.Vq qB iR key;have hc:du (Y 0) S (find n S key)=(false,0,Y 0):=by unfold du;rw[oO T hf hn hk]
 rw[hc]at this;exact this
def Ox(h:cX w b s aE count f){key v:Nat}(hk:f key=K7)(hc:count<aE):Calls prog 307 #[UI b,.int .u64 key,Y v] w λr w'=>r=C8 (Y 0)/\aA [b,s] w w'/\cX w' b s aE (count+1) (Vm.aR f key (H v)):=by
 obtain⟨n,e,S,h1,T,hf,hn⟩:=h;obtain⟨em,qB,iR⟩:=T.zK;have ht:=oO T hf hn hk;have Rb:=T.fit.ge;refine(gR.Ss h1 T.fit.Vq qB iR key v hc O ht).mono ?_;rintro r w' ⟨rfl,g,h2⟩;have be:=jD T.pos S key;have M5:∀p,putAt n S key (Y (v:Nat)) p=if p=find n S key then H (key,Y (v:Nat))else S p:=λp=>rfl;refine⟨rfl,g,n,e,_,h2,⟨T.inv.put qB iR key _,by rw[zL T.pos ht,T.dr],O,T.fit,xS T.int⟩,λk x=>?_,λp k u hp hs=>?_⟩
 ·show(if k=key then H v else f k)=H x↔_;by_cases e1:k=key
  ·subst e1;rw[bk rfl];constructor
   ·intro h3;have:v=x:=sd h3;subst this;exact⟨_,be,by rw[M5,bk rfl]⟩
   ·rintro⟨p,hp,h3⟩;rw[M5]at h3;split at h3
    ·simp at h3;rw[show v=x by omega]
    ·have:=(hf k x).2 ⟨p,hp,h3⟩;rw[hk]at this;simp at this
  ·rw[aw e1,hf];constructor
   ·rintro⟨p,hp,h3⟩;refine⟨p,hp,?_⟩;rw[M5,aw]
    ·exact h3
    ·intro e2;rw[e2,ht]at h3;simp at h3
   ·rintro⟨p,hp,h3⟩;rw[M5]at h3;split at h3
    ·simp at h3;exact absurd h3.1.symm e1
    ·exact⟨p,hp,h3⟩
 ·rw[M5]at hs;split at hs
  ·simp at hs;exact⟨v,hs.2.symm⟩
  ·exact hn p k u hp hs
def ss(h:cX w b s aE (count+1) f){key v:Nat}(hk:f key=H v):Calls prog 66 #[UI b,.int .u64 key] w λr w'=>r=C8 (.tuple #[Y v,.bool true])/\aA [b,s] w w'/\cX w' b s aE count (Vm.aR f key K7):=by
 obtain⟨n,e,S,h1,T,hf,hn⟩:=h;obtain⟨em,qB,iR⟩:=T.zK;have ht:=rn T hf hk;have be:=jD T.pos S key;have Rh:=T.lt;refine(gR.Lh h1 T.fit.Vq T.inv O qB iR key ht T.int).mono ?_;rintro r w' ⟨rfl,g,h2⟩;have bm:find n S key≠em:=λe'=>by rw[e',iR]at ht;simp at ht
 have hD:=Ai.start T.inv be qB iR bm;have fQ:=Gv n (aj.aR S (find n S key) K7) (find n S key) (nx n (find n S key)) em hD (Nat.le_of_lt (sW (km be) qB));have jE:=Gx T.inv be qB iR (by rw[ht];simp);refine⟨rfl,g,n,e,_,h2,⟨(Gu T.inv be qB iR bm).1,by rw[T.dr]at jE;omega,by have:=T.le;omega,T.fit,uG T.int⟩,λk x=>?_,λp k u hp hs=>?_⟩
 ·show(if k=key then K7 else f k)=H x↔∃p,p<n/\lJ n S (find n S key) p=H (k,Y (x:Nat));rw[show(∃p,p<n/\lJ n S (find n S key) p=H (k,Y (x:Nat)))↔_ from fQ (k,Y (x:Nat))];have hu:∀p,aj.aR S (find n S key) K7 p=if p=find n S key then K7 else S p:=λp=>rfl;by_cases e1:k=key
  ·subst e1;rw[bk rfl];constructor
   ·intro h3;simp at h3
   ·rintro⟨p,hp,h3⟩;rw[hu]at h3;split at h3
    ·simp at h3
    ·next hpn=>exact absurd (T.inv.Bw qB iR hp h3).symm hpn
  ·rw[aw e1,hf];constructor
   ·rintro⟨p,hp,h3⟩;refine⟨p,hp,?_⟩;rw[hu,aw]
    ·exact h3
    ·intro e2;rw[e2,ht]at h3;simp at h3;exact e1 h3.1.symm
   ·rintro⟨p,hp,h3⟩;rw[hu]at h3;split at h3
    ·simp at h3
    ·exact⟨p,hp,h3⟩
 ·obtain⟨p',hp',h3⟩:=(fQ (k,u)).1 ⟨p,hp,hs⟩;have hu:aj.aR S (find n S key) K7 p'=if p'=find n S key then K7 else S p':=rfl;rw[hu]at h3;split at h3
  ·simp at h3
  ·exact hn p' k u hp' h3
def Z2(aE:Nat)(w:UK)(hm:aE<=4194304):Calls prog 57 #[Y aE] w λr w'=>r=C8 (.tuple #[UI (w.heap.size+1),Y 0])/\aA [] w w'/\cX w' (w.heap.size+1) w.heap.size aE 0 (λ_=>K7)/\w'.heap.size=w.heap.size+2:=by
 refine(gR.Ef aE w hm).mono ?_;rintro r w' ⟨rfl,n,e,F,h1,g,hz⟩;refine⟨rfl,g,⟨n,e,_,h1,⟨Inv.empty _,Nv _,Nat.zero_le _,F,λi k u h=>by simp at h⟩,λk v=>?_,λp k u _ h=>by simp at h⟩,hz⟩;constructor
 ·intro h;simp at h
 ·rintro⟨p,_,h⟩;simp at h
end
end Go.Ix
namespace Go.Ma
open Go.RowKit aj.Vm
open aj hiding aR an ak
open eB (bS bL)
open Ix (cX)
def vb(v:UL):List Nat:=v.ownBlock.toList
def aU{v:UL}{b:Nat}:b∈vb v↔v.ownBlock=H b:=by unfold vb;simp
structure Co where
 mb:Nat
 ab:Nat
 xb:Nat
 xs:Nat
 V:UL
 L:UL
 vs:UL
structure Ru where
 rb:Nat
 kS:UL
 j_:UL
 mV:UL
 jU:UL
def Co.l(C:Co):List Nat:=C.mb::C.xb::C.xs::(bp C.ab C.V C.L++vb C.vs)
def Ru.l(U:Ru):List Nat:=U.rb::(vb U.kS++vb U.j_++vb U.mV++vb U.jU)
structure Kc where
 g:UL
 v:UL
 t:UL
 o:UL
 c:UL
 qs:UL
 nd:Nat
 steps:Nat->UL
def dP(p:aQ)(o:Nat):UL:=let x:=p.vars.getD (o / 3) ⟨0,0,0⟩;if o % 3=0 then Y x.init else if o % 3=1 then Y x.lo else Y x.hi
def ci(p:aQ)(o:Nat):UL:=
 let x:=codeAt0 p (o / 5)
 if o % 5=0 then Y x.op else if o % 5=1 then Y x.a else if o % 5=2 then Y x.b else if o % 5=3 then Y x.c else Y x.d
where codeAt0 (p:aQ) (n:Nat):Ins:=p.code.getD n ⟨0,0,0,0,0⟩
def aX(l:List Int)(o:Nat):UL:=Y (l.getD o 0)
structure dZ where
 xX:Int
 mW:Int
 Ga:Int
 qG:Int
def iJ(K:Kc)(C:Co)(p:aQ)(c:Cp)(total:Int)(t:dZ)(used:Int)(rv:UL):Array UL:=
 #[K.g,K.v,K.t,K.o,Y p.aT,K.c,Y c.size,K.qs,Y K.nd,UI C.ab,UI C.xb,C.vs,Y total,
   Y t.xX,Y t.mW,Y t.Ga,Y t.qG,Y used,
   K.steps 0,K.steps 1,K.steps 2,K.steps 3,K.steps 4,K.steps 5,K.steps 6,K.steps 7,K.steps 8,K.steps 9,K.steps 10,K.steps 11,K.steps 12,K.steps 13,K.steps 14,K.steps 15,K.steps 16,K.steps 17,K.steps 18,K.steps 19,K.steps 20,
   K.steps 21,K.steps 22,K.steps 23,K.steps 24,K.steps 25,K.steps 26,K.steps 27,K.steps 28,K.steps 29,K.steps 30,K.steps 31,K.steps 32,K.steps 33,K.steps 34,K.steps 35,K.steps 36,K.steps 37,K.steps 38,K.steps 39,K.steps 40,K.steps 41,rv]
section
variable {w:UK}{b:Nat}{T:TypeId}{K:Kc}{C:Co}{p:aQ}{c:Cp}{n:Int}{t:dZ}{u:Int}{rv:UL}(h:aF w b T (iJ K C p c n t u rv))
include h
def mc9:UJ w (G b 9)=H (UI C.ab):=h.cell 9
def uL:UJ w (G b 60)=H rv:=h.cell 60
end
structure sw(w:UK)(K:Kc)(p:aQ)(c:Cp)(RO:List Nat):Prop where
 g:Row w 4 1 K.g p.bw.length (λi=> .bool (p.bw.getD i false))
 v:Row w 122 3 K.v p.vars.length (dP p)
 t:Row w 3 1 K.t p.aS.length (aX p.aS)
 o:Row w 3 1 K.o p.on.length (aX p.on)
 cd:Row w 40 5 K.c p.code.length (ci p)
 qs:Row w 3 1 K.qs c.aK.length (aX c.aK)
 ro:∀b,(b∈vb K.g\/b∈vb K.v\/b∈vb K.t\/b∈vb K.o\/b∈vb K.c\/b∈vb K.qs)->b∈RO
def sw.aG{w w':UK}{K:Kc}{p:aQ}{c:Cp}{RO S:List Nat}(h:sw w K p c RO)(f:aA S w w')(hs:∀b,b∈RO->b∉S):sw w' K p c RO:=
 ⟨h.g.aG f λb X=>hs b (h.ro b (.inl (aU.2 X))),h.v.aG f λb X=>hs b (h.ro b (.inr (.inl (aU.2 X)))),h.t.aG f λb X=>hs b (h.ro b (.inr (.inr (.inl (aU.2 X))))),
   h.o.aG f λb X=>hs b (h.ro b (.inr (.inr (.inr (.inl (aU.2 X)))))),h.cd.aG f λb X=>hs b (h.ro b (.inr (.inr (.inr (.inr (.inl (aU.2 X))))))),h.qs.aG f λb X=>hs b (h.ro b (.inr (.inr (.inr (.inr (.inr (aU.2 X))))))),h.ro⟩
def sw.more{w:UK}{K:Kc}{p:aQ}{c:Cp}{RO RO':List Nat}(h:sw w K p c RO)(hs:∀b,b∈RO->b∈RO'):sw w K p c RO':=
 ⟨h.g,h.v,h.t,h.o,h.cd,h.qs,λb X=>hs b (h.ro b X)⟩
def e_(p:aQ)(a:Nd):Nat:=cT p.bw.length λq=>(a.ls q).length
structure qH(w:UK)(C:Co)(RO:List Nat)(K:Kc)(p:aQ)(c:Cp)(s:St)(t:dZ)(used:Int)(rv:UL):Prop where
 bg:aF w C.mb 113 (iJ K C p c s.total t used rv)
 prog:sw w K p c RO
 ar:bS w C.ab C.V C.L K.nd p.bw.length s.a
 ix:cX w C.xb C.xs K.nd (e_ p s.a) s.f
 vs:Row w 3 1 C.vs p.vars.length (λi=> Y (s.vars i))
def qH.aG{w w':UK}{C:Co}{RO S:List Nat}{K:Kc}{p:aQ}{c:Cp}{s:St}{t:dZ}{used:Int}{rv:UL}(h:qH w C RO K p c s t used rv)(f:aA S w w')(hs:∀b,b∈C.l->b∉S)(hr:∀b,b∈RO->b∉S):qH w' C RO K p c s t used rv:=
 ⟨h.bg.aG f (hs _ (by simp[Co.l])),h.prog.aG f hr,h.ar.aG f (λb X=>hs b (by simp[Co.l,X])),h.ix.aG f ⟨hs _ (by simp[Co.l]),hs _ (by simp[Co.l])⟩,h.vs.aG f λb X=>hs b (by simp[Co.l,aU.2 X])⟩
def qH.more{w:UK}{C:Co}{RO RO':List Nat}{K:Kc}{p:aQ}{c:Cp}{s:St}{t:dZ}{used:Int}{rv:UL}(h:qH w C RO K p c s t used rv)(hs:∀b,b∈RO->b∈RO'):qH w C RO' K p c s t used rv:=
 ⟨h.bg,h.prog.more hs,h.ar,h.ix,h.vs⟩
def aP(x:eU):Array UL:=#[.int .u64 x.key,Y (x.tg 0),Y (x.tg 1),Y (x.tg 2),Y (x.tg 3)]
def gK(w:UK)(mb:Nat)(RO:List Nat)(v:UL):uC->Prop
 | .var i pW=>∃(x1 x2 x3:Nat) (op b c d:Int),v= .func (.func 215) #[] #[.pointer (H ⟨x1,0,K7⟩),.pointer (H ⟨x2,0,K7⟩),.pointer (H ⟨x3,0,K7⟩)]/\
     aF w x1 3 #[Y pW]/\aF w x2 35 #[UI mb]/\aF w x3 40 #[Y op,Y i,Y b,Y c,Y d]/\x1∈RO/\x2∈RO/\x3∈RO
 | .mark pW=>∃(x1 x2:Nat),v= .func (.func 269) #[] #[.pointer (H ⟨x1,0,K7⟩),.pointer (H ⟨x2,0,K7⟩)]/\
     aF w x1 35 #[UI mb]/\aF w x2 118 (aP pW)/\x1∈RO/\x2∈RO
 | .cut q e=>∃(x1 x2 x3:Nat),v= .func (.func 271) #[] #[.pointer (H ⟨x1,0,K7⟩),.pointer (H ⟨x2,0,K7⟩),.pointer (H ⟨x3,0,K7⟩)]/\
     aF w x1 35 #[UI mb]/\aF w x2 3 #[Y q]/\aF w x3 3 #[Y e]/\x1∈RO/\x2∈RO/\x3∈RO
 | .put q e x=>∃(x1 x2 x3 x4:Nat),v= .func (.func 275) #[] #[.pointer (H ⟨x1,0,K7⟩),.pointer (H ⟨x2,0,K7⟩),.pointer (H ⟨x3,0,K7⟩),.pointer (H ⟨x4,0,K7⟩)]/\
     aF w x1 35 #[UI mb]/\aF w x2 3 #[Y q]/\aF w x3 3 #[Y e]/\aF w x4 118 (aP x)/\x1∈RO/\x2∈RO/\x3∈RO/\x4∈RO
 | .out q x ahead=>∃(x1 x2 x3 x4:Nat) (av:UL),v= .func (.func 273) #[] #[.pointer (H ⟨x1,0,K7⟩),.pointer (H ⟨x2,0,K7⟩),.pointer (H ⟨x3,0,K7⟩),.pointer (H ⟨x4,0,K7⟩)]/\
     aF w x1 35 #[UI mb]/\aF w x2 3 #[Y q]/\aF w x3 118 (aP x)/\aF w x4 24 #[av]/\Row w 3 1 av ahead.length (λi=> Y (ahead.getD i 0:Nat))/\
     x1∈RO/\x2∈RO/\x3∈RO/\x4∈RO/\∀b,b∈vb av->b∈RO
def gK.aG{w w':UK}{mb:Nat}{RO S:List Nat}{v:UL}{u:uC}(h:gK w mb RO v u)(f:aA S w w')(hs:∀b,b∈RO->b∉S):gK w' mb RO v u:=by
 cases u with
 |var i pW=>obtain⟨x1,x2,x3,op,b,c,d,h0,h1,h2,h3,r1,r2,r3⟩:=h;exact⟨x1,x2,x3,op,b,c,d,h0,h1.aG f (hs _ r1),h2.aG f (hs _ r2),h3.aG f (hs _ r3),r1,r2,r3⟩
 |mark pW=>obtain⟨x1,x2,h0,h1,h2,r1,r2⟩:=h;exact⟨x1,x2,h0,h1.aG f (hs _ r1),h2.aG f (hs _ r2),r1,r2⟩
 |cut q e=>obtain⟨x1,x2,x3,h0,h1,h2,h3,r1,r2,r3⟩:=h;exact⟨x1,x2,x3,h0,h1.aG f (hs _ r1),h2.aG f (hs _ r2),h3.aG f (hs _ r3),r1,r2,r3⟩
 |put q e x=>obtain⟨x1,x2,x3,x4,h0,h1,h2,h3,h4,r1,r2,r3,r4⟩:=h;exact⟨x1,x2,x3,x4,h0,h1.aG f (hs _ r1),h2.aG f (hs _ r2),h3.aG f (hs _ r3),h4.aG f (hs _ r4),r1,r2,r3,r4⟩
 |out q x ahead=>obtain⟨x1,x2,x3,x4,av,h0,h1,h2,h3,h4,h5,r1,r2,r3,r4,r5⟩:=h;exact⟨x1,x2,x3,x4,av,h0,h1.aG f (hs _ r1),h2.aG f (hs _ r2),h3.aG f (hs _ r3),h4.aG f (hs _ r4),h5.aG f (λb X=>hs b (r5 b (aU.2 X))),r1,r2,r3,r4,r5⟩
def gK.more{w:UK}{mb:Nat}{RO RO':List Nat}{v:UL}{u:uC}(h:gK w mb RO v u)(hs:∀b,b∈RO->b∈RO'):gK w mb RO' v u:=by
 cases u with
 |var i pW=>obtain⟨x1,x2,x3,op,b,c,d,h0,h1,h2,h3,r1,r2,r3⟩:=h;exact⟨x1,x2,x3,op,b,c,d,h0,h1,h2,h3,hs _ r1,hs _ r2,hs _ r3⟩
 |mark pW=>obtain⟨x1,x2,h0,h1,h2,r1,r2⟩:=h;exact⟨x1,x2,h0,h1,h2,hs _ r1,hs _ r2⟩
 |cut q e=>obtain⟨x1,x2,x3,h0,h1,h2,h3,r1,r2,r3⟩:=h;exact⟨x1,x2,x3,h0,h1,h2,h3,hs _ r1,hs _ r2,hs _ r3⟩
 |put q e x=>obtain⟨x1,x2,x3,x4,h0,h1,h2,h3,h4,r1,r2,r3,r4⟩:=h;exact⟨x1,x2,x3,x4,h0,h1,h2,h3,h4,hs _ r1,hs _ r2,hs _ r3,hs _ r4⟩
 |out q x ahead=>obtain⟨x1,x2,x3,x4,av,h0,h1,h2,h3,h4,h5,r1,r2,r3,r4,r5⟩:=h;exact⟨x1,x2,x3,x4,av,h0,h1,h2,h3,h4,h5,hs _ r1,hs _ r2,hs _ r3,hs _ r4,λb X=>hs b (r5 b X)⟩
def qI(w:UK)(RO:List Nat)(v:UL):Option eU->Prop
 |none=>v=to K7 0 0
 |some x=>∃b cap,v=to (H ⟨b,0,K7⟩) 1 cap/\aF w b 118 (aP x)/\b∈RO
def qI.aG{w w':UK}{RO S:List Nat}{v:UL}{x:Option eU}(h:qI w RO v x)(f:aA S w w')(hs:∀b,b∈RO->b∉S):qI w' RO v x:=by
 cases x with
 |none=>exact h
 |some x=>obtain⟨b,cap,h0,h1,h2⟩:=h;exact⟨b,cap,h0,h1.aG f (hs _ h2),h2⟩
def qI.more{w:UK}{RO RO':List Nat}{v:UL}{x:Option eU}(h:qI w RO v x)(hs:∀b,b∈RO->b∈RO'):qI w RO' v x:=by
 cases x with
 |none=>exact h
 |some x=>obtain⟨b,cap,h0,h1,h2⟩:=h;exact⟨b,cap,h0,h1,hs _ h2⟩
structure vN(w:UK)(U:Ru)(mb:Nat)(RO:List Nat)(hv:UL)(jv:Nat->UL)(r:Rn):Prop where
 dS:aF w U.rb 126 #[.int .u64 r.key,Y r.at_,U.kS,U.j_,hv,U.mV,Y r.bY,U.jU,.bool r.done]
 kS:Row w 3 1 U.kS r.stack.length (λi=> Y (r.stack.reverse.getD i 0))
 j_:Row w 3 1 U.j_ r.loops.length (λi=> Y (r.loops.reverse.getD i 0))
 mV:Row w 46 1 U.mV r.told.length (λi=> .int .u64 (r.told.getD i 0:Nat))
 jU:Row w 1 1 U.jU r.bz.length jv
 jat:∀i u,r.bz.reverse[i]? =H u->gK w mb RO (jv i) u
 gP:qI w RO hv r.hand
def vN.aG{w w':UK}{U:Ru}{mb:Nat}{RO S:List Nat}{hv:UL}{jv:Nat->UL}{r:Rn}(h:vN w U mb RO hv jv r)(f:aA S w w')(hs:∀b,b∈U.l->b∉S)(hr:∀b,b∈RO->b∉S):vN w' U mb RO hv jv r:=
 ⟨h.dS.aG f (hs _ (by simp[Ru.l])),h.kS.aG f (λb X=>hs b (by simp[Ru.l,aU.2 X])),h.j_.aG f (λb X=>hs b (by simp[Ru.l,aU.2 X])),h.mV.aG f (λb X=>hs b (by simp[Ru.l,aU.2 X])),h.jU.aG f (λb X=>hs b (by simp[Ru.l,aU.2 X])),
   λi u hu=>(h.jat i u hu).aG f hr,h.gP.aG f hr⟩
def vN.more{w:UK}{U:Ru}{mb:Nat}{RO RO':List Nat}{hv:UL}{jv:Nat->UL}{r:Rn}(h:vN w U mb RO hv jv r)(hs:∀b,b∈RO->b∈RO'):vN w U mb RO' hv jv r:=
 ⟨h.dS,h.kS,h.j_,h.mV,h.jU,λi u hu=>(h.jat i u hu).more hs,h.gP.more hs⟩
structure Sep(w:UK)(C:Co)(U:Ru)(RO:List Nat):Prop where
 nd:(C.l++U.l).Nodup
 lt:∀b,b∈C.l++U.l->b<w.heap.size
 ro:∀b,b∈C.l++U.l->b∉RO
 dO:∀b,b∈RO->b<w.heap.size
def Sep.grow{w w':UK}{C:Co}{U:Ru}{RO:List Nat}(h:Sep w C U RO)(hs:w.heap.size<=w'.heap.size):Sep w' C U RO:=
 ⟨h.nd,λb X=>eJ (h.lt b X) hs,h.ro,λb X=>eJ (h.dO b X) hs⟩
structure cS(w:UK)(C:Co)(U:Ru)(RO:List Nat)(K:Kc)(p:aQ)(c:Cp)(t:dZ)(used:Int)(hv:UL)(jv:Nat->UL)(s:St)(r:Rn):Prop where
 m:qH w C RO K p c s t used (UI U.rb)
 r:vN w U C.mb RO hv jv r
 sep:Sep w C U RO
def cS.later{w w':UK}{C:Co}{U:Ru}{RO:List Nat}{K:Kc}{p:aQ}{c:Cp}{t:dZ}{used:Int}{hv:UL}{jv:Nat->UL}{s:St}{r:Rn}(h:cS w C U RO K p c t used hv jv s r)(b:Below w.heap.size w w'):cS w' C U RO K p c t used hv jv s r:=
 ⟨h.m.aG (aA.af (S:=[]) b) ay ay,h.r.aG (aA.af (S:=[]) b) ay ay,h.sep.grow b.size⟩
def cS.drewN{w:UK}{C:Co}{U:Ru}{RO:List Nat}{K:Kc}{p:aQ}{c:Cp}{t:dZ}{used:Int}{hv:UL}{jv:Nat->UL}{s:St}{r:Rn}(h:cS w C U RO K p c t used hv jv s r)(n:Nat):cS (w.drewN n) C U RO K p c t used hv jv s r:=
 h.later (az _ _ n)
def BV(v v':UL):Prop:=∀b,b∈vb v->b∉vb v'
def BV.symm{v v':UL}(h:BV v v'):BV v' v:=λb X jV=>h b jV X
def Ek(v:UL):vb v=[]\/∃b,vb v=[b]:=by unfold vb;cases v.ownBlock<;>simp
def mX{A B:List Nat}{v v':UL}{n:Nat}(h:(A++(vb v++B)).Nodup)(hl:∀b,b∈A++(vb v++B)->b<n)(hs:∀b,b∈vb v'->b∈vb v\/n<=b):(A++(vb v'++B)).Nodup:=by
 rcases Ek v' with e|⟨b,e⟩
 ·rw[e];refine h.sublist ?_;exact List.Sublist.append_left (List.Sublist.append_right (List.nil_sublist _) B) A
 ·rcases hs b (by rw[e];simp)with X|X
  ·rcases Ek v with e'|⟨b',e'⟩
   ·rw[e']at X;simp at X
   ·rw[e']at X;simp at X;subst X;rw[e,<-e'];exact h
  ·have hA:b∉A:=λhx=>by have:=hl b (by simp[hx]);omega
   have hB:b∉B:=λhx=>by have:=hl b (by simp[hx]);omega
   have h':(A++B).Nodup:=h.sublist (List.Sublist.append_left (List.sublist_append_right _ _) A);rw[e];rw[vH]at h' ⊢;refine⟨h'.1,?_,?_⟩
   ·simp[hB,h'.2.1]
   ·intro x hx y hy;rcases List.mem_append.1 hy with hy|hy
    ·simp at hy;subst hy;intro e2;subst e2;exact hA hx
    ·exact h'.2.2 x hx y hy
structure sf(U:Ru):Prop where
 s:U.rb∉vb U.kS
 l:U.rb∉vb U.j_
 t:U.rb∉vb U.mV
 j:U.rb∉vb U.jU
 sl:BV U.kS U.j_
 st:BV U.kS U.mV
 sj:BV U.kS U.jU
 lt:BV U.j_ U.mV
 lj:BV U.j_ U.jU
 tj:BV U.mV U.jU
def Ru.rel{U:Ru}(h:U.l.Nodup):sf U:=by unfold Ru.l at h;rw[List.nodup_cons]at h;obtain⟨h0,h⟩:=h;simp only[dV,not_or]at h0;rw[vH,vH,vH]at h;obtain⟨⟨⟨-,-,h1⟩,-,h2⟩,-,h3⟩:=h;refine⟨h0.1.1.1,h0.1.1.2,h0.1.2,h0.2,λb X hc=>h1 b X b hc rfl,λb X hc=>h2 b (by simp[X]) b hc rfl,λb X hc=>h3 b (by simp[X]) b hc rfl,λb X hc=>h2 b (by simp[X]) b hc rfl,λb X hc=>h3 b (by simp[X]) b hc rfl,λb X hc=>h3 b (by simp[X]) b hc rfl⟩
section
variable {w w':UK}{C:Co}{U U':Ru}{RO RO':List Nat}{K:Kc}{p:aQ}{c:Cp}{t:dZ}{used:Int}{hv hv':UL}{jv kT:Nat->UL}{s:St}{r r':Rn}
def Sep.u(h:Sep w C U RO):sf U:=Ru.rel (List.nodup_append.1 h.nd).2.1
def Sep.cu(h:Sep w C U RO){b:Nat}(X:b∈C.l):b∉U.l:=λhc=>(List.nodup_append.1 h.nd).2.2 b X b hc rfl
def Sep.ur(h:Sep w C U RO){b:Nat}(X:b∈RO):b∉U.l:=λhc=>h.ro b (by simp[hc]) X
def Sep.cr(h:Sep w C U RO){b:Nat}(X:b∈RO):b∉C.l:=λhc=>h.ro b (by simp[hc]) X
def Sep.uc(h:Sep w C U RO){b:Nat}(X:b∈U.l):b∉C.l:=λhc=>h.cu hc X
def cS.runs(h:cS w C U RO K p c t used hv jv s r)(f:aA U.l w w')(oE:U'.rb=U.rb)(ho:∀b,b∈RO->b∈RO')(hn:∀b,b∈RO'->b∈RO\/(w.heap.size<=b/\b<w'.heap.size/\b∉U'.l))
 (hr:vN w' U' C.mb RO' hv' kT r') (gP:(C.l++U'.l).Nodup) (hu:∀b,b∈U'.l->(b∈U.l\/w.heap.size<=b)/\b<w'.heap.size):cS w' C U' RO' K p c t used hv' kT s r':=by
 refine⟨?_,hr,gP,?_,?_,?_⟩
 ·rw[oE];exact(h.m.aG f (λb X=>h.sep.cu X) (λb X=>h.sep.ur X)).more ho
 ·intro b X;rcases List.mem_append.1 X with X|X
  ·exact eJ (h.sep.lt b (by simp[X])) f.size
  ·exact(hu b X).2
 ·intro b X hc;rcases hn b hc with hc|⟨h1,h2,h3⟩
  ·rcases List.mem_append.1 X with X|X
   ·exact h.sep.cr hc X
   ·rcases(hu b X).1 with X|X
    ·exact h.sep.ur hc X
    ·have:=h.sep.dO b hc;omega
  ·rcases List.mem_append.1 X with X|X
   ·have:=h.sep.lt b (by simp[X]);omega
   ·exact h3 X
 ·intro b X;rcases hn b X with X|X
  ·exact eJ (h.sep.dO b X) f.size
  ·exact X.2.1
def cS.jW(h:cS w C U RO K p c t used hv jv s r)(o:Nat)(v:UL)(X:(#[.int .u64 r.key,Y r.at_,U.kS,U.j_,hv,U.mV,Y r.bY,U.jU,.bool r.done]:Array UL).setIfInBounds o v=#[.int .u64 r'.key,Y r'.at_,U'.kS,U'.j_,hv',U'.mV,Y r'.bY,U'.jU,.bool r'.done])
 (hU:U'=U) (e1:r'.stack=r.stack) (e2:r'.loops=r.loops) (e3:r'.told=r.told) (e4:r'.bz=r.bz) (hh:qI w RO hv' r'.hand):cS (w.setCell (G U.rb o) v) C U RO K p c t used hv' jv s r':=by
 subst hU;have F:aA [U'.rb] w (w.setCell (G U'.rb o) v):=(aA.refl _ w).setCell ay _;have F2:aA U'.l w (w.setCell (G U'.rb o) v):=F.mono (by intro k hk;simp at hk;subst hk;simp[Ru.l]);have R:=h.sep.u;have rm:∀b,b∈RO->b∉[U'.rb]:=λb X=>by have:=h.sep.ur X;simp[Ru.l]at this ⊢;exact this.1
 refine h.runs F2 rfl (λb X=>X) (λb X=> .inl X) ⟨?_,?_,?_,?_,?_,?_,?_⟩ h.sep.nd (λb X=>⟨.inl X,eJ (h.sep.lt b (by simp[X])) F.size⟩)
 ·rw[<-X];exact h.r.dS.set o v
 ·rw[e1];exact h.r.kS.aG F λb X=>by simp;rintro rfl;exact R.s (aU.2 X)
 ·rw[e2];exact h.r.j_.aG F λb X=>by simp;rintro rfl;exact R.l (aU.2 X)
 ·rw[e3];exact h.r.mV.aG F λb X=>by simp;rintro rfl;exact R.t (aU.2 X)
 ·rw[e4];exact h.r.jU.aG F λb X=>by simp;rintro rfl;exact R.j (aU.2 X)
 ·rw[e4];exact λi u hu=>(h.r.jat i u hu).aG F rm
 ·exact hh.aG F rm
end
end Go.Ma
namespace Go.Vf
open Go.RowKit aj.Vm
open aj hiding aR an ak
open Ma (dP ci aX vb)
def aZ(w:UK)(size:Nat)(v:UL)(n:Nat)(g:Nat->UL):Prop:=
 (v=Pl/\n=0)\/∃a cap,v=to (H a) n cap/\n<=cap/\cap<=maxLen/\∀o,o<n*size->a.spot=K7/\UJ w (G a.block (a.off+o))=H (g o)
section
variable {w w':UK}{size n:Nat}{v:UL}{g f:Nat->UL}
def aZ.val(h:aZ w size v n g):∃a cap,v=to a n cap/\n<=cap/\cap<=maxLen:=by
 rcases h with⟨rfl,rfl⟩|⟨a,cap,rfl,h1,h2,-⟩
 ·exact⟨K7,0,rfl,aL _,cK _⟩
 ·exact⟨H a,cap,rfl,h1,h2⟩
def aZ.len(h:aZ w size v n g):n<=maxLen:=by obtain⟨_,_,_,h1,h2⟩:=h.val;omega
def aZ.some(h:aZ w size v n g)(hn:0<n)(hs:0<size):∃b off cap,v=to (.some (G b off)) n cap/\n<=cap/\cap<=maxLen/\b<w.heap.size/\∀o,o<n*size->UJ w (G b (off+o))= .some (g o):=by
 rcases h with⟨_,h⟩|⟨⟨b,off,spot⟩,cap,rfl,h1,h2,h3⟩
 ·omega
 ·have h0:0<n*size:=Nat.mul_pos hn hs;obtain⟨e,c⟩:=h3 0 h0;dsimp only at e;subst e;exact⟨b,off,cap,rfl,h1,h2,aH c,λo ho=>(h3 o ho).2⟩
def aZ.aG(h:aZ w size v n g)(f:aA [] w w'):aZ w' size v n g:=by
 rcases h with h|⟨a,cap,rfl,h1,h2,h3⟩
 ·exact .inl h
 ·refine .inr ⟨a,cap,rfl,h1,h2,λo ho=>⟨(h3 o ho).1,?_⟩⟩;have hc:=(h3 o ho).2;refine Eq.trans ?_ hc;exact dN (f.block a.block (aH hc) ay)
def aZ.vd{e:TypeId}(h:Row w e size v n g):aZ w size v n g:=by
 rcases h.val with h0|⟨b,cap,rfl,h1,h2,-⟩
 ·exact .inl h0
 ·exact .inr ⟨(G b 0),cap,rfl,h1,h2,λo ho=>⟨rfl,by rw[Nat.zero_add];exact h.cell ho⟩⟩
structure Kp where
 g:UL
 v:UL
 t:UL
 o:UL
 c:UL
def pV(K:Kp)(p:aQ):UL:= .agg #[K.g,K.v,K.t,K.o,Y p.aT,K.c]
structure fW(w:UK)(K:Kp)(p:aQ):Prop where
 g:aZ w 1 K.g p.bw.length (λi=> .bool (p.bw.getD i false))
 v:aZ w 3 K.v p.vars.length (dP p)
 t:aZ w 1 K.t p.aS.length (aX p.aS)
 o:aZ w 1 K.o p.on.length (aX p.on)
 cd:aZ w 5 K.c p.code.length (ci p)
variable {K:Kp}{p:aQ}
def fW.aG(h:fW w K p)(f:aA [] w w'):fW w' K p:=⟨h.g.aG f,h.v.aG f,h.t.aG f,h.o.aG f,h.cd.aG f⟩
def fW.ins(h:fW w K p){i:Nat}(hi:i<p.code.length):∃b off cap,K.c=to (H (G b off)) p.code.length cap/\p.code.length<=cap/\cap<=maxLen/\
 UJ w (G b (off+i*5))=H (Y (al p i).op)/\UJ w (G b (off+i*5+1))=H (Y (al p i).a)/\UJ w (G b (off+i*5+2))=H (Y (al p i).b)/\UJ w (G b (off+i*5+3))=H (Y (al p i).c)/\UJ w (G b (off+i*5+4))=H (Y (al p i).d):=by
 obtain⟨b,off,cap,hv,h1,h2,X,hc⟩:=h.cd.some O O;have key:∀k,k<5->UJ w (G b (off+i*5+k))=H (ci p (i*5+k)):=λk hk=>by rw[Nat.add_assoc];exact hc (i*5+k) O
 have hd:∀k,k<5->(i*5+k) / 5=i:=λk hk=>O;have hm:∀k,k<5->(i*5+k) % 5=k:=λk hk=>O;refine⟨b,off,cap,hv,h1,h2,(key 0 O).trans ?_,(key 1 O).trans ?_,(key 2 O).trans ?_,(key 3 O).trans ?_,(key 4 O).trans ?_⟩
 ·unfold ci;rw[hd 0 O,hm 0 O];rfl
 ·unfold ci;rw[hd 1 O,hm 1 O];rfl
 ·unfold ci;rw[hd 2 O,hm 2 O];rfl
 ·unfold ci;rw[hd 3 O,hm 3 O];rfl
 ·unfold ci;rw[hd 4 O,hm 4 O];rfl
def fW.gh(h:fW w K p){i:Nat}(hi:i<p.bw.length):∃b off cap,K.g=to (H (G b off)) p.bw.length cap/\p.bw.length<=cap/\cap<=maxLen/\UJ w (G b (off+i))=H (.bool (p.bw.getD i false)):=by obtain⟨b,off,cap,hv,h1,h2,X,hc⟩:=h.g.some O O;exact⟨b,off,cap,hv,h1,h2,hc i O⟩
end
end Go.Vf
section
def YQ{p:Prop}(h:p:=by
 rw[List.getElem?_eq_none (by rw[fO];exact Rb)]at hu;cases hu):p:=h
namespace aj.Vm
open Go Go.RowKit
def eK{w w':UK}{row:Option Nat}(g:w.grownBy w' row):aA row.toList w w':=
 ⟨g.os,g.tape,g.output,g.size,λk hk hs=>g.block k hk (λe=>hs (by rw[<-e];simp))⟩
def fY(N:Nat)(g f:Nat->UL)(i:Nat):UL:=if i<N then g i else f (i-N)
def xA(N M:Nat)(g f:Nat->UL):eY (N+M) (fY N g f)=eY N g++eY M f:=by
 rw[rj];congr 1
 ·exact px λo ho=>by unfold fY;rw[if_pos ho]
 ·unfold eY;exact List.map_congr_left λo ho=>by unfold fY;rw[if_neg O];congr 1;omega
section
variable {P:Program}{w:UK}
def rK{o:Oper}{a:Act}{K:Act->UK->Prop}{Q:Exit->Act->UK->Prop}(s x:Operand)(t:TypeId)
 (ho:o.op= .call {callee:= .builtin .append,args:=#[s,x],argTypes:=#[t,t]})
 (e:TypeId) {size bytes:Nat} {z:UL} (ht:P.underlying t=H (.slice e)) (hi:(P.info? e).map (λi=>(i.zero,i.size,i.bytes))=H (H z,size,bytes)) (Nz:z.cells.size=size) (kw:0<size)
 (v:UL) (n:Nat) (g:Nat->UL) (hs:a.eval s=v) (bo:Row w e size v n g)
 (ad:Addr) (m c:Nat) (f:Nat->UL) (hx:a.eval x=to (H ad) m c) (qt:∀j,j<m*size->UJ w (ad.add j)=H (f j)) (h1:∀j,j<m*size->(f j).oneCell'=true)
 (RV:n+m<=maxLen) (mP:(n+m)*bytes<=140737488355328)
 (h:∀v' w',Row w' e size v' (n+m) (fY (n*size) g f)->aA v.ownBlock.toList w w'->(v'.ownBlock=v.ownBlock\/v'.ownBlock=H w.heap.size)->K (a.put o.dst v') w'):o.wp P a w K Q:=by
 obtain⟨i,FU,vG,MU,NA⟩:=info_parts hi;obtain⟨v',w',hr,h2,h3,-,h5⟩:=run_append_own_at (P:=P) w 0 t o.type e i z size bytes ht FU vG MU NA Nz kw v n (eY (n*size) g) bo ad m c (eY (m*size) f) (by rw[fO])
  (λj u hu=>by
    have hj:j<m*size:=by
     rcases Nat.lt_or_ge j (m*size)with be|Rb
     ·exact be
     ·exact YQ
    rw[nN f hj]at hu;cases hu;exact qt j hj)
  (λu hu=>by
    unfold eY at hu;obtain⟨j,hj,rfl⟩:=List.mem_map.1 hu;exact h1 j (List.mem_range.1 hj)) RV mP (cK _)
 unfold Oper.wp execOp;simp only[ho,resolve,invoke,builtin,Sem.run_bind,Sem.run_pure,Result.andThen_ok,List.map_toArray,List.map_cons,List.map_nil,hs,hx,hr];refine h v' w' ?_ (eK h3) h5;unfold Row;rw[Nat.add_mul,xA];exact h2
def bX{ops:Array Oper}{rest:List Oper}{o:Oper}{a:Act}{Q:Exit->Act->UK->Prop}(Bz:o.guard=K7)(s x:Operand)(t:TypeId)
 (ho:o.op= .call {callee:= .builtin .append,args:=#[s,x],argTypes:=#[t,t]})
 (e:TypeId) {size bytes:Nat} {z:UL} (ht:P.underlying t=H (.slice e)) (hi:(P.info? e).map (λi=>(i.zero,i.size,i.bytes))=H (H z,size,bytes)) (Nz:z.cells.size=size) (kw:0<size)
 (v:UL) (n:Nat) (g:Nat->UL) (hs:a.eval s=v) (bo:Row w e size v n g)
 (ad:Addr) (m c:Nat) (f:Nat->UL) (hx:a.eval x=to (H ad) m c) (qt:∀j,j<m*size->UJ w (ad.add j)=H (f j)) (h1:∀j,j<m*size->(f j).oneCell'=true)
 (RV:n+m<=maxLen) (mP:(n+m)*bytes<=140737488355328)
 (h:∀v' w',Row w' e size v' (n+m) (fY (n*size) g f)->aA v.ownBlock.toList w w'->(v'.ownBlock=v.ownBlock\/v'.ownBlock=H w.heap.size)->wpList P ops Q rest (a.put o.dst v') w'):wpList P ops Q (o::rest) a w:=
 wpList_plain Bz λ_ hK=>rK s x t ho e ht hi Nz kw v n g hs bo ad m c f hx qt h1 RV mP λv' w' h2 h3 h4=>hK _ _ (h v' w' h2 h3 h4)
def cJ{ops:Array Oper}{o:Oper}{a:Act}{K:Act->UK->Prop}{Q:Exit->Act->UK->Prop}{E:Prop}(Bz:o.guard=K7)(s x:Operand)(t:TypeId)
 (ho:o.op= .call {callee:= .builtin .append,args:=#[s,x],argTypes:=#[t,t]})
 (e:TypeId) {size bytes:Nat} {z:UL} (ht:P.underlying t=H (.slice e)) (hi:(P.info? e).map (λi=>(i.zero,i.size,i.bytes))=H (H z,size,bytes)) (Nz:z.cells.size=size) (kw:0<size)
 (v:UL) (n:Nat) (g:Nat->UL) (hs:a.eval s=v) (bo:Row w e size v n g)
 (ad:Addr) (m c:Nat) (f:Nat->UL) (hx:a.eval x=to (H ad) m c) (qt:∀j,j<m*size->UJ w (ad.add j)=H (f j)) (h1:∀j,j<m*size->(f j).oneCell'=true)
 (RV:n+m<=maxLen) (mP:(n+m)*bytes<=140737488355328)
 (h:∀v' w',Row w' e size v' (n+m) (fY (n*size) g f)->aA v.ownBlock.toList w w'->(v'.ownBlock=v.ownBlock\/v'.ownBlock=H w.heap.size)->K (a.put o.dst v') w'):
 if Region.wanted o (yielded ops a.tmps)=true then Oper.wp P o a w K Q else E:=by
 have hw:Region.wanted o (yielded ops a.tmps)=true:=by simp[Region.wanted,Bz]
 rw[if_pos hw];exact rK s x t ho e ht hi Nz kw v n g hs bo ad m c f hx qt h1 RV mP h
end
end aj.Vm
end
section
def Sx{p:Prop}(h:p:=by
 exact λi u hu=>(h.r.jat i u hu).aG F rm):p:=h
namespace Go.Ma
open Go.RowKit aj.Vm
open aj hiding aR an ak
open eB (bS bL)
open Ix (cX)
section
variable {w w':UK}{C:Co}{U U':Ru}{RO RO':List Nat}{K:Kc}{p:aQ}{c:Cp}{t:dZ}{used:Int}{hv hv':UL}{jv kT:Nat->UL}{s:St}{r r':Rn}
def Sy{p:Prop}(h:p:=by
 have:=h.sep.ur X;simp[Ru.l]at this ⊢;simp[this]):p:=h
def Sz{p:Prop}(h:p:=by
 have key:b∈U.l\/b∈vb v:=by simp only[Ru.l,fh,dV];rcases X with X|((X|X)|X)|X<;>simp[X]
 rcases key with X|X
 ·exact⟨.inl X,kw b X⟩
 ·refine⟨?_,by simpa using be b X⟩;rcases hs b X with X|X
  ·exact .inl (by simp[Ru.l,X])
  ·exact .inr X):p:=h
def cS.kS(h:cS w C U RO K p c t used hv jv s r){v:UL}{l:List Int}(f:aA (vb U.kS) w w')(bo:Row w' 3 1 v l.length (λi=> Y (l.reverse.getD i 0)))(hs:∀b,b∈vb v->b∈vb U.kS\/w.heap.size<=b):cS (w'.setCell (G U.rb 2) v) C {U with kS:=v} RO K p c t used hv jv s {r with stack:=l}:=by
 have R:=h.sep.u;have F:aA (U.rb::vb U.kS) w (w'.setCell (G U.rb 2) v):=(f.mono (by intro k hk;simp[hk])).setCell ay _;have F2:aA U.l w (w'.setCell (G U.rb 2) v):=F.mono (by intro k hk;simp at hk;rcases hk with rfl|hk;simp[Ru.l];simp[Ru.l,hk]);have rm:∀b,b∈RO->b∉U.rb::vb U.kS:=λb X=>by exact Sy
 have hblk:aF w' U.rb 126 #[.int .u64 r.key,Y r.at_,U.kS,U.j_,hv,U.mV,Y r.bY,U.jU,.bool r.done]:=h.r.dS.aG f R.s;have be:∀b,b∈vb v->b<w'.heap.size:=λb X=>(fE bo b (aU.1 X)).2;have VR:v.ownBlock≠H U.rb:=bo.eZ hblk bd;refine h.runs (U':={U with kS:=v}) F2 rfl (λb X=>X) (λb X=> .inl X) ⟨?_,?_,?_,?_,?_,?_,?_⟩ ?_ (λb X=>?_)
 ·exact hblk.set 2 v
 ·exact bo.other VR _ _
 ·exact h.r.j_.aG F λb X=>by simp;exact⟨by rintro rfl;exact R.l (aU.2 X),R.sl.symm b (aU.2 X)⟩
 ·exact h.r.mV.aG F λb X=>by simp;exact⟨by rintro rfl;exact R.t (aU.2 X),R.st.symm b (aU.2 X)⟩
 ·exact h.r.jU.aG F λb X=>by simp;exact⟨by rintro rfl;exact R.j (aU.2 X),R.sj.symm b (aU.2 X)⟩
 ·exact Sx
 ·exact h.r.gP.aG F rm
 ·have e1:C.l++U.l=(C.l++[U.rb])++(vb U.kS++(vb U.j_++vb U.mV++vb U.jU)):=by simp[Ru.l]
  have e2:C.l++({U with kS:=v}:Ru).l=(C.l++[U.rb])++(vb v++(vb U.j_++vb U.mV++vb U.jU)):=by simp[Ru.l]
  rw[e2];refine mX (n:=w.heap.size) (v:=U.kS) ?_ (λb X=>?_) hs
  ·rw[<-e1];exact h.sep.nd
  ·rw[<-e1]at X;exact h.sep.lt b X
 ·simp only[Ru.l,fh,dV]at X;have kw:∀b,b∈U.l->b<(w'.setCell (G U.rb 2) v).heap.size:=λb X=>eJ (h.sep.lt b (by simp[X])) F.size;exact Sz
def cS.j_(h:cS w C U RO K p c t used hv jv s r){v:UL}{l:List Int}(f:aA (vb U.j_) w w')(bo:Row w' 3 1 v l.length (λi=> Y (l.reverse.getD i 0)))(hs:∀b,b∈vb v->b∈vb U.j_\/w.heap.size<=b):cS (w'.setCell (G U.rb 3) v) C {U with j_:=v} RO K p c t used hv jv s {r with loops:=l}:=by
 have R:=h.sep.u;have F:aA (U.rb::vb U.j_) w (w'.setCell (G U.rb 3) v):=(f.mono (by intro k hk;simp[hk])).setCell ay _;have F2:aA U.l w (w'.setCell (G U.rb 3) v):=F.mono (by intro k hk;simp at hk;rcases hk with rfl|hk;simp[Ru.l];simp[Ru.l,hk]);have rm:∀b,b∈RO->b∉U.rb::vb U.j_:=λb X=>by exact Sy
 have hblk:aF w' U.rb 126 #[.int .u64 r.key,Y r.at_,U.kS,U.j_,hv,U.mV,Y r.bY,U.jU,.bool r.done]:=h.r.dS.aG f R.l;have be:∀b,b∈vb v->b<w'.heap.size:=λb X=>(fE bo b (aU.1 X)).2;have VR:v.ownBlock≠H U.rb:=bo.eZ hblk bd;refine h.runs (U':={U with j_:=v}) F2 rfl (λb X=>X) (λb X=> .inl X) ⟨?_,?_,?_,?_,?_,?_,?_⟩ ?_ (λb X=>?_)
 ·exact hblk.set 3 v
 ·exact h.r.kS.aG F λb X=>by simp;exact⟨by rintro rfl;exact R.s (aU.2 X),R.sl b (aU.2 X)⟩
 ·exact bo.other VR _ _
 ·exact h.r.mV.aG F λb X=>by simp;exact⟨by rintro rfl;exact R.t (aU.2 X),R.lt.symm b (aU.2 X)⟩
 ·exact h.r.jU.aG F λb X=>by simp;exact⟨by rintro rfl;exact R.j (aU.2 X),R.lj.symm b (aU.2 X)⟩
 ·exact Sx
 ·exact h.r.gP.aG F rm
 ·have e1:C.l++U.l=(C.l++U.rb::vb U.kS)++(vb U.j_++(vb U.mV++vb U.jU)):=by simp[Ru.l]
  have e2:C.l++({U with j_:=v}:Ru).l=(C.l++U.rb::vb U.kS)++(vb v++(vb U.mV++vb U.jU)):=by simp[Ru.l]
  rw[e2];refine mX (n:=w.heap.size) (v:=U.j_) ?_ (λb X=>?_) hs
  ·rw[<-e1];exact h.sep.nd
  ·rw[<-e1]at X;exact h.sep.lt b X
 ·simp only[Ru.l,fh,dV]at X;have kw:∀b,b∈U.l->b<(w'.setCell (G U.rb 3) v).heap.size:=λb X=>eJ (h.sep.lt b (by simp[X])) F.size;exact Sz
def cS.mV(h:cS w C U RO K p c t used hv jv s r){v:UL}{l:List Nat}(f:aA (vb U.mV) w w')(bo:Row w' 46 1 v l.length (λi=> .int .u64 (l.getD i 0:Nat)))(hs:∀b,b∈vb v->b∈vb U.mV\/w.heap.size<=b):cS (w'.setCell (G U.rb 5) v) C {U with mV:=v} RO K p c t used hv jv s {r with told:=l}:=by
 have R:=h.sep.u;have F:aA (U.rb::vb U.mV) w (w'.setCell (G U.rb 5) v):=(f.mono (by intro k hk;simp[hk])).setCell ay _;have F2:aA U.l w (w'.setCell (G U.rb 5) v):=F.mono (by intro k hk;simp at hk;rcases hk with rfl|hk;simp[Ru.l];simp[Ru.l,hk]);have rm:∀b,b∈RO->b∉U.rb::vb U.mV:=λb X=>by exact Sy
 have hblk:aF w' U.rb 126 #[.int .u64 r.key,Y r.at_,U.kS,U.j_,hv,U.mV,Y r.bY,U.jU,.bool r.done]:=h.r.dS.aG f R.t;have be:∀b,b∈vb v->b<w'.heap.size:=λb X=>(fE bo b (aU.1 X)).2;have VR:v.ownBlock≠H U.rb:=bo.eZ hblk bd;refine h.runs (U':={U with mV:=v}) F2 rfl (λb X=>X) (λb X=> .inl X) ⟨?_,?_,?_,?_,?_,?_,?_⟩ ?_ (λb X=>?_)
 ·exact hblk.set 5 v
 ·exact h.r.kS.aG F λb X=>by simp;exact⟨by rintro rfl;exact R.s (aU.2 X),R.st b (aU.2 X)⟩
 ·exact h.r.j_.aG F λb X=>by simp;exact⟨by rintro rfl;exact R.l (aU.2 X),R.lt b (aU.2 X)⟩
 ·exact bo.other VR _ _
 ·exact h.r.jU.aG F λb X=>by simp;exact⟨by rintro rfl;exact R.j (aU.2 X),R.tj.symm b (aU.2 X)⟩
 ·exact Sx
 ·exact h.r.gP.aG F rm
 ·have e1:C.l++U.l=(C.l++U.rb::(vb U.kS++vb U.j_))++(vb U.mV++vb U.jU):=by simp[Ru.l]
  have e2:C.l++({U with mV:=v}:Ru).l=(C.l++U.rb::(vb U.kS++vb U.j_))++(vb v++vb U.jU):=by simp[Ru.l]
  rw[e2];refine mX (n:=w.heap.size) (v:=U.mV) ?_ (λb X=>?_) hs
  ·rw[<-e1];exact h.sep.nd
  ·rw[<-e1]at X;exact h.sep.lt b X
 ·simp only[Ru.l,fh,dV]at X;have kw:∀b,b∈U.l->b<(w'.setCell (G U.rb 5) v).heap.size:=λb X=>eJ (h.sep.lt b (by simp[X])) F.size;exact Sz
def cS.jU(h:cS w C U RO K p c t used hv jv s r){v:UL}{l:List uC}(f:aA (vb U.jU) w w')(bo:Row w' 1 1 v l.length (kT))(hs:∀b,b∈vb v->b∈vb U.jU\/w.heap.size<=b)(hj:∀i u,l.reverse[i]? =H u->gK (w'.setCell (G U.rb 7) v) C.mb RO' (kT i) u)(ho:∀b,b∈RO->b∈RO')(hn:∀b,b∈RO'->b∈RO\/(w.heap.size<=b/\b<w'.heap.size/\b∉vb v)):cS (w'.setCell (G U.rb 7) v) C {U with jU:=v} RO' K p c t used hv kT s {r with bz:=l}:=by
 have R:=h.sep.u;have F:aA (U.rb::vb U.jU) w (w'.setCell (G U.rb 7) v):=(f.mono (by intro k hk;simp[hk])).setCell ay _;have F2:aA U.l w (w'.setCell (G U.rb 7) v):=F.mono (by intro k hk;simp at hk;rcases hk with rfl|hk;simp[Ru.l];simp[Ru.l,hk]);have rm:∀b,b∈RO->b∉U.rb::vb U.jU:=λb X=>by exact Sy
 have hblk:aF w' U.rb 126 #[.int .u64 r.key,Y r.at_,U.kS,U.j_,hv,U.mV,Y r.bY,U.jU,.bool r.done]:=h.r.dS.aG f R.j;have be:∀b,b∈vb v->b<w'.heap.size:=λb X=>(fE bo b (aU.1 X)).2;have VR:v.ownBlock≠H U.rb:=bo.eZ hblk bd;refine h.runs (U':={U with jU:=v}) F2 rfl ho (λb X=>?_) ⟨?_,?_,?_,?_,?_,?_,?_⟩ ?_ (λb X=>?_)
 ·rcases hn b X with X|⟨h1,h2,h3⟩
  ·exact .inl X
  ·refine .inr ⟨h1,by simpa using h2,?_⟩;intro hc;simp only[Ru.l,fh,dV]at hc;rcases hc with rfl|((hc|hc)|hc)|hc
   ·have:=h.sep.lt U.rb (by simp[Ru.l]);omega
   ·have:=h.sep.lt b (by simp[Ru.l,hc]);omega
   ·have:=h.sep.lt b (by simp[Ru.l,hc]);omega
   ·have:=h.sep.lt b (by simp[Ru.l,hc]);omega
   ·exact h3 hc
 ·exact hblk.set 7 v
 ·exact h.r.kS.aG F λb X=>by simp;exact⟨by rintro rfl;exact R.s (aU.2 X),R.sj b (aU.2 X)⟩
 ·exact h.r.j_.aG F λb X=>by simp;exact⟨by rintro rfl;exact R.l (aU.2 X),R.lj b (aU.2 X)⟩
 ·exact h.r.mV.aG F λb X=>by simp;exact⟨by rintro rfl;exact R.t (aU.2 X),R.tj b (aU.2 X)⟩
 ·exact bo.other VR _ _
 ·exact hj
 ·exact(h.r.gP.aG F rm).more ho
 ·have e1:C.l++U.l=(C.l++U.rb::(vb U.kS++vb U.j_++vb U.mV))++(vb U.jU++[]):=by simp[Ru.l]
  have e2:C.l++({U with jU:=v}:Ru).l=(C.l++U.rb::(vb U.kS++vb U.j_++vb U.mV))++(vb v++[]):=by simp[Ru.l]
  rw[e2];refine mX (n:=w.heap.size) (v:=U.jU) ?_ (λb X=>?_) hs
  ·rw[<-e1];exact h.sep.nd
  ·rw[<-e1]at X;exact h.sep.lt b X
 ·simp only[Ru.l,fh,dV]at X;have kw:∀b,b∈U.l->b<(w'.setCell (G U.rb 7) v).heap.size:=λb X=>eJ (h.sep.lt b (by simp[X])) F.size;exact Sz
end
end Go.Ma
end
namespace Go.Ma
open Go.RowKit aj.Vm
open aj hiding aR an ak
open eB (bS bL)
open Ix (cX)
structure Kept(RO:List Nat)(w w':UK):Prop where
 os:w'.os=w.os
 tape:w'.tape=w.tape
 output:w'.output=w.output
 size:w.heap.size<=w'.heap.size
 block:∀k,k∈RO->w'.heap[k]? =w.heap[k]?
def Kept.refl(RO:List Nat)(w:UK):Kept RO w w:=⟨rfl,rfl,rfl,aL _,λ_ _=>rfl⟩
def Kept.trans{RO RO':List Nat}{a b c:UK}(h:Kept RO a b)(k:Kept RO' b c)(hs:∀b,b∈RO->b∈RO'):Kept RO a c:=
 ⟨k.os.trans h.os,k.tape.trans h.tape,k.output.trans h.output,Nat.le_trans h.size k.size,λi hi=>(k.block i (hs i hi)).trans (h.block i hi)⟩
def Kept.dn{RO S:List Nat}{w w':UK}(f:aA S w w')(hs:∀b,b∈RO->b∉S)(hl:∀b,b∈RO->b<w.heap.size):Kept RO w w':=
 ⟨f.os,f.tape,f.output,f.size,λk hk=>f.block k (hl k hk) (hs k hk)⟩
def aF.kept{RO:List Nat}{w w':UK}{b:Nat}{T:TypeId}{cs:Array UL}(h:aF w b T cs)(k:Kept RO w w')(X:b∈RO):aF w' b T cs:=h.of (k.block b X)
def In(w:UK)(mb rb:Nat)(RO:List Nat)(K:Kc)(p:aQ)(c:Cp)(t:dZ)(used:Int)(x:SR):Prop:=
 ∃C U hv jv,C.mb=mb/\U.rb=rb/\cS w C U RO K p c t used hv jv x.1 x.2
def cF(w:UK)(mb rb:Nat)(RO:List Nat)(K:Kc)(p:aQ)(c:Cp)(t:dZ)(used:Int)(v:UL)(x:SR)(r:Ending)(w':UK):Prop:=
 r=C8 v/\∃RO',(∀b,b∈RO->b∈RO')/\In w' mb rb RO' K p c t used x/\Kept RO w w'
def Oy{w w1 w4:UK}{old:UL}{g n cap a0f:Nat}(X:Below w.heap.size w w1)(hg:w1.grownBy w4 old.ownBlock)(si:old.ownBlock=H g\/g=a0f)(hH:w1.heap.size=a0f):
 aA (vb old) w w4/\∀b,b∈vb (to (H (G g 0)) n cap)->b∈vb old\/w.heap.size<=b:=by
 refine⟨(aA.af X).trans ⟨hg.os,hg.tape,hg.output,hg.size,λk hk hs=>hg.block k hk ?_⟩,λb jV=>?_⟩
 ·intro e;exact hs (by unfold vb;rw[<-e];simp)
 ·have:=aU.1 jV;simp[Value.ownBlock]at this;subst this;rcases si with h|h
  ·exact .inl (aU.2 h)
  ·have:=X.size;exact .inr O
def oQ{w:UK}{e:TypeId}{v:UL}{n:Nat}{f f':Nat->UL}{x:UL}(h:w.ownsRow 0 e 1 v (n+1) (eY (n*1) f++[x]))(h1:∀i,i<n->f' i=f i)(h2:f' n=x):Row w e 1 v (n+1) f':=by
 unfold Row;have e1:eY ((n+1)*1) f'=eY (n*1) f++[x]:=by
  rw[show(n+1)*1=n*1+1 by omega,rj];congr 1
  ·exact px λo ho=>h1 o O
  ·simp[h2]
 rw[e1];exact h
def xY:(prog.info? 3).map (λi=>(i.zero,i.size,i.bytes))=H (H (Y 0),1,8):=by kernel_rfl
def lu{α:Type}(x d:α)(l:List α):(∀i,i<l.length->(x::l).reverse.getD i d=l.reverse.getD i d)/\(x::l).reverse.getD l.length d=x:=by
 constructor
 ·intro i hi;simp[List.getD,DV,hi]
 ·simp[List.getD]
section
variable {w w':UK}{C:Co}{U U':Ru}{RO RO':List Nat}{K:Kc}{p:aQ}{c:Cp}{t:dZ}{used:Int}{hv hv':UL}{jv kT:Nat->UL}{s:St}{r r':Rn}
def cS.i_(h:cS w C U RO K p c t used hv jv s r):In w C.mb U.rb RO K p c t used (s,r):=⟨C,U,hv,jv,rfl,rfl,h⟩
def cS.Z1(h:cS w C U RO K p c t used hv jv s r)(f:aA (vb U.kS) w w'):UJ w' (G U.rb 2)=H U.kS/\(∀o,w'.frozen? (G U.rb o)=false)/\UJ w' (G C.mb 60)=H (UI U.rb):=by have hr:=h.r.dS.aG f h.sep.u.s;have hm:=h.m.bg.aG f (λhc=>h.sep.cu (b:=C.mb) (by simp[Co.l]) (by simp[Ru.l,hc]));exact⟨hr.cell 2,hr.frozen,hm.cell 60⟩
def mY(h:cS w C U RO K p c t used hv jv s r)(n:Int)(hl:r.stack.length<1000000):
 Calls prog 203 #[UI C.mb,Y n] w (cF w C.mb U.rb RO K p c t used (.tuple #[]) (s,r.push n)):=by
 obtain⟨i0,hi,jn,nQ,qm⟩:=y_ xY;have sS:=uL h.m.bg;have r2:UJ w (G U.rb 2)=H U.kS:=h.r.dS.cell 2;have lm:=h.m.bg.lt;have lr:=h.r.dS.lt;have HD:=Z (h.drewN 1);have C3:=Z (show r.stack.length+1<=maxLen by unfold maxLen;omega);have C4:=Z (show(r.stack.length+1)*8<=140737488355328 by omega);have a0f:=Z h;clear h;go_enter func203,ntmps203;go_wp2
 go_region_law ((refine AG _ rfl (.tmp 14) (.tmp 16) 24 rfl 0 3 i0 (Y 0) 1 8 underlying24 hi jn nQ qm rfl bd U.kS _ _ (by simp[Act.eval,Act.put]) (HD.o.r.kS.alloc _) (G w.heap.size 0) 1 1 [Y n] (by simp[Act.eval,Act.put]) rfl (gR.iF _ [Y n] _ _ ay) (by simp[Value.oneCell']) bd C3.o C4.o ay _ rfl ?_;intro g cap w4 gp gw si AB;obtain⟨zG,xZ⟩:=Oy (w:=w) (n:=r.stack.length+1) (cap:=cap) ((az w.heap.size w 1).alloc (aL _) _) gw si rfl;obtain⟨c2,f2,c60⟩:=a0f.o.Z1 zG;have HO:=Z gp;have HF:=Z zG;have HS:=Z xZ;clear gp gw si AB zG xZ))
 all_goals
  go_wp2;refine bK (dJ rfl _ _ _) rfl ?_;obtain⟨q1,q2⟩:=lu n 0 r.stack;have bo:=oQ (f':=λi=> Y ((n::r.stack).reverse.getD i 0)) HO.o (λi hi=>by show Value.int _ _=Value.int _ _;rw[q1 i hi]) (by show Value.int _ _=Value.int _ _;rw[q2]);have A:=a0f.o.kS HF.o (l:=n::r.stack) bo HS.o;exact⟨rfl,RO,λb X=>X,A.i_,Kept.dn (S:=U.l) ((HF.o.mono (by intro k hk;simp[Ru.l,hk])).setCell (by simp[Ru.l]) _) (λb X=>a0f.o.sep.ur X) a0f.o.sep.dO⟩
def tI(k cap b:Nat)(wx:UK):(Builtin.len_ #[24] 3 #[to (H (G b 0)) k cap]).run prog wx= .ok (Y k) wx:=
 run_len_slice (P:=prog) wx 24 3 (H (G b 0)) k cap bh
def nT{α:Type}(x d:α)(l:List α):(x::l).reverse.getD l.length d=x:=(lu x d l).2
def xL(h:cS w C U RO K p c t used hv jv s r){n:Int}{rest:List Int}(fL:r.stack=n::rest)(hl:rest.length<1000000):
 Calls prog 210 #[UI C.mb] w (cF w C.mb U.rb RO K p c t used (Y n) (s,r.pop)):=by
 have sS:=uL h.m.bg;have r2:UJ w (G U.rb 2)=H U.kS:=h.r.dS.cell 2;have rf:∀o,w.frozen? (G U.rb o)=false:=h.r.dS.frozen;have bo:=h.r.kS;rw[fL]at bo;obtain⟨b,cap,iD,pR,mZ,X⟩:=bo.some ay;rw[iD]at r2 bo;have gU:UJ w (G b rest.length)=H (Y n):=by rw[bo.cell (o:=rest.length) ay];rw[nT]
 have vO:=bo.less (k:=rest.length) ay;have lM:Row w 3 1 (to (H (G b 0)) rest.length cap) rest.length (λi=> Y (rest.reverse.getD i 0)):=vO.congr λo ho=>by show Value.int _ _=Value.int _ _;rw[(lu n 0 rest).1 o O]
 have HN:=Z lM;have a0f:=Z h;have HV:=Z iD;have lN:=Z fL;clear h lM vO bo fL iD;simp only[List.length_cons]at r2 pR;generalize hk:rest.length=k at*;have hlen:=tI (k+1) cap b;go_enter func210,ntmps210;go_wp2;go_region;go_wp2;go_ret;have iD:U.kS=to (H (G b 0)) (k+1) cap:=by rw[HV.o,List.length_cons,hk]
 have GZ:∀x,x∈vb (to (H (G b 0)) k cap)->x∈vb U.kS:=λx hx=>by rw[iD];exact hx
 have A:=(a0f.o.kS (aA.refl _ w) (l:=rest) (by rw[hk];exact HN.o) (λx hx=> .inl (GZ x hx))).drewN 1;have hr:r.pop={r with stack:=rest}:=by unfold Rn.pop;rw[lN.o];rfl
 exact⟨rfl,RO,λb X=>X,by rw[hr];exact A.i_,(Kept.dn (S:=U.l) (((aA.refl _ w).setCell (by simp[Ru.l]) _).drewN 1) (λb X=>a0f.o.sep.ur X) a0f.o.sep.dO)⟩
def Jq(h:cS w C U RO K p c t used hv jv s r){n:Int}{rest:List Int}(fL:r.loops=n::rest)(hl:rest.length<1000000)(a:Nat):
 Calls prog 213 #[UI C.mb,Y a] w (cF w C.mb U.rb RO K p c t used (.tuple #[]) (s,wO r a)):=by
 have sS:=uL h.m.bg;have r2:UJ w (G U.rb 3)=H U.j_:=h.r.dS.cell 3;have rf:∀o,w.frozen? (G U.rb o)=false:=h.r.dS.frozen;have bo:=h.r.j_;rw[fL]at bo;obtain⟨b,cap,iD,pR,mZ,X⟩:=bo.some ay;rw[iD]at r2 bo;have vO:=bo.less (k:=rest.length) ay;have lM:Row w 3 1 (to (H (G b 0)) rest.length cap) rest.length (λi=> Y (rest.reverse.getD i 0)):=vO.congr λo ho=>by show Value.int _ _=Value.int _ _;rw[(lu n 0 rest).1 o O]
 have HN:=Z lM;have a0f:=Z h;have HV:=Z iD;have lN:=Z fL;clear h lM vO bo fL iD;simp only[List.length_cons]at r2 pR;generalize hk:rest.length=k at*;have hlen:=tI (k+1) cap b;go_enter func213,ntmps213;go_wp2;go_region;have iD:U.j_=to (H (G b 0)) (k+1) cap:=by rw[HV.o,List.length_cons,hk]
 have GZ:∀x,x∈vb (to (H (G b 0)) k cap)->x∈vb U.j_:=λx hx=>by rw[iD];exact hx
 have hr:wO r a={r with loops:=rest,at_:=a}:=by unfold wO;rw[lN.o];rfl
 obtain⟨w1,jF⟩:∃w1,w1=(w.setCell (G U.rb 3) (to (H (G b 0)) k cap)).drew:=⟨_,rfl⟩;have A:cS w1 C {U with j_:=to (H (G b 0)) k cap} RO K p c t used hv jv s {r with loops:=rest}:=by rw[jF];exact(a0f.o.j_ (aA.refl _ w) (l:=rest) (by rw[hk];exact HN.o) (λx hx=> .inl (GZ x hx))).drewN 1
 have F:aA U.l w w1:=by rw[jF];exact((aA.refl U.l w).setCell (p:=(G U.rb 3)) (by simp[Ru.l]) (to (H (G b 0)) k cap)).drewN 1
 rw[<-jF];have n60:UJ w1 (G C.mb 60)=H (UI U.rb):=A.m.bg.cell 60;have n1:UJ w1 (G U.rb 1)=H (Y r.at_):=A.r.dS.cell 1;have nf:∀o,w1.frozen? (G U.rb o)=false:=A.r.dS.frozen;have HA:=Z A;have HF:=Z F;clear A F r2 sS rf;clear jF;go_wp2;refine bK (dJ rfl _ _ _) rfl ?_;rw[hr];exact⟨rfl,RO,λb X=>X,(HA.o.jW 1 (Y a) (r':={r with loops:=rest,at_:=a}) rfl rfl rfl rfl rfl rfl HA.o.r.gP).i_,Kept.dn (HF.o.setCell (by simp[Ru.l]) _) (λb X=>a0f.o.sep.ur X) a0f.o.sep.dO⟩
def aI(i:Ins):Array UL:=#[Y i.op,Y i.a,Y i.b,Y i.c,Y i.d]
def aV(i:Ins):UL:= .agg (aI i)
def Kept.af{RO:List Nat}{w w':UK}(b:Below w.heap.size w w')(hl:∀b,b∈RO->b<w.heap.size):Kept RO w w':=
 Kept.dn (S:=[]) (aA.af b) ay hl
def Kept.less{RO RO':List Nat}{w w':UK}(h:Kept RO' w w')(hs:∀b,b∈RO->b∈RO'):Kept RO w w':=
 ⟨h.os,h.tape,h.output,h.size,λk hk=>h.block k (hs k hk)⟩
def cF.pre{w w1 w':UK}{mb rb:Nat}{RO pS:List Nat}{K:Kc}{p:aQ}{c:Cp}{t:dZ}{used:Int}{v:UL}{x:SR}{r:Ending}(h:cF w1 mb rb pS K p c t used v x r w')(k:Kept RO w w1)(hs:∀b,b∈RO->b∈pS):cF w mb rb RO K p c t used v x r w':=by obtain⟨h1,RO',h2,h3,h4⟩:=h;exact⟨h1,RO',λb X=>h2 b (hs b X),h3,k.trans h4 hs⟩
def cS.add(h:cS w C U RO K p c t used hv jv s r){x:Nat}(h1:x<w.heap.size)(h2:x∉C.l)(h3:x∉U.l):cS w C U (x::RO) K p c t used hv jv s r:=by
 refine⟨h.m.more (λb X=>by simp[X]),h.r.more (λb X=>by simp[X]),h.sep.nd,h.sep.lt,λb X hc=>?_,λb X=>?_⟩
 ·rcases List.mem_cons.1 hc with rfl|hc
  ·rcases List.mem_append.1 X with X|X
   ·exact h2 X
   ·exact h3 X
  ·exact h.sep.ro b X hc
 ·rcases List.mem_cons.1 X with rfl|X
  ·exact h1
  ·exact h.sep.dO b X
def cS.box(h:cS w C U RO K p c t used hv jv s r)(o:Obj):cS (w.alloc o) C U (w.heap.size::RO) K p c t used hv jv s r:=
 (h.later ((aB _ w).alloc (aL _) _)).add ay (λhc=>by have:=h.sep.lt _ (List.mem_append_left _ hc);omega) (λhc=>by have:=h.sep.lt _ (List.mem_append_right C.l hc);omega)
def l6{p:Prop}(h:p:=by
 go_wp2_with fail;refine HP.o.mono ?_;intro e w' hd;have sT:=hd.pre (RO:=RO) (Kept.af HB.o a0f.o.sep.dO) (λb X=>by simp[X]);obtain⟨rfl,mI⟩:=sT;go_wp2;exact bK (dJ rfl _ _ _) rfl ⟨rfl,mI⟩):p:=h
def x_(h:cS w C U RO K p c t used hv jv s r)(i:Ins)(hl:r.stack.length<1000000):
 Calls prog 102 #[UI C.mb,aV i] w (cF w C.mb U.rb RO K p c t used (.tuple #[]) (s,r.push i.a)):=by
 have H0:=h.box (QP (aI i) 40);have HB:=Z ((aB w.heap.size w).alloc (aL _) (QP (aI i) 40));have hP:=mY H0 i.a hl;have e1:(w.alloc (QP (aI i) 40)).cell? (G w.heap.size 1)=H (Y i.a):=(aF.new w 40 (aI i)).cell 1;have HP:=Z hP;have a0f:=Z h;clear h hP H0;unfold aV;unfold aI at*;go_enter func102,ntmps102;exact l6
def G0(h:cS w C U RO K p c t used hv jv s r)(i:Ins){k:Nat}(hk:i.a=k)(jZ:k<p.vars.length)(hl:r.stack.length<1000000):
 Calls prog 103 #[UI C.mb,aV i] w (cF w C.mb U.rb RO K p c t used (.tuple #[]) (s,r.push (s.vars k))):=by
 have H0:=(h.box (QP (aI i) 40)).drewN 1;have HB:=Z (((aB w.heap.size w).alloc (aL _) (QP (aI i) 40)).trans (az _ _ 1));have hP:=mY H0 (s.vars k) hl;have e1:(w.alloc (QP (aI i) 40)).cell? (G w.heap.size 1)=H (Y k):=by rw[<-hk];exact(aF.new w 40 (aI i)).cell 1
 have e5:(w.alloc (QP (aI i) 40)).cell? (G C.mb 11)=H C.vs:=H0.m.bg.cell 11;obtain⟨b,cap,iD,pR,mZ,X⟩:=H0.m.vs.some O;rw[iD]at e5;have gU:(w.alloc (QP (aI i) 40)).cell? (G b k)=H (Y (s.vars k)):=by have h3:=H0.m.vs;rw[iD]at h3;exact h3.cell (o:=k) O
 have HP:=Z hP;have a0f:=Z h;clear h hP H0 hk;unfold aV;unfold aI at*;generalize Oz:s.vars k=vk at*;generalize p.vars.length=nv at*;obtain⟨w1,jF⟩:∃w1,w1=w.alloc (QP #[Y i.op,Y i.a,Y i.b,Y i.c,Y i.d] 40):=⟨_,rfl⟩;rw[<-jF]at HP HB e1 e5 gU;go_enter func103,ntmps103;go_wp2_with fail;rw[<-jF];clear jF
 go_still_tail 9,bh
 change wpList _ _ _ _ _ (w1.drewN 1);generalize w1.drewN 1=w2 at*;exact l6
def S5{p:Prop}(h:p:=by
 go_wp2_with fail;refine HP.o.mono ?_;intro e w' hd;have sT:=hd.pre (RO:=RO) (Kept.af HB.o a0f.o.sep.dO) (λb X=>by simp[X]);obtain⟨rfl,mI⟩:=sT;go_wp2;exact bK (dJ rfl _ _ _) rfl ⟨rfl,mI⟩):p:=h
def ads(h:cS w C U RO K p c t used hv jv s r)(i:Ins){k:Nat}(hk:i.a=k)(jZ:k<p.bw.length)(hl:r.stack.length<1000000):
 Calls prog 104 #[UI C.mb,aV i] w (cF w C.mb U.rb RO K p c t used (.tuple #[]) (s,r.push (s.a.ls k).length)):=by
 have H0:=(h.box (QP (aI i) 40)).drewN 1;have HB:=Z (((aB w.heap.size w).alloc (aL _) (QP (aI i) 40)).trans (az _ _ 1));have hP:=mY H0 (s.a.ls k).length hl;have e1:(w.alloc (QP (aI i) 40)).cell? (G w.heap.size 1)=H (Y k):=by rw[<-hk];exact(aF.new w 40 (aI i)).cell 1
 have e5:(w.alloc (QP (aI i) 40)).cell? (G C.mb 9)=H (UI C.ab):=H0.m.bg.cell 9;have sD:=Z (eB.xP H0.m.ar jZ);have HP:=Z hP;have a0f:=Z h;clear h hP H0 hk;unfold aV;unfold aI at*;generalize(s.a.ls k).length=n at*;obtain⟨w1,jF⟩:∃w1,w1=w.alloc (QP #[Y i.op,Y i.a,Y i.b,Y i.c,Y i.d] 40):=⟨_,rfl⟩;rw[<-jF]at HP HB sD e1 e5;go_enter func104,ntmps104;go_wp2_with fail;rw[<-jF];clear jF;refine wp_region_still_tail 8 bh bh ?_;simp only[List.take_succ_cons,List.take_zero,List.drop_succ_cons,List.drop_zero]
 iterate 7 still_step
 still_call (sD.o.mono λe w' h=>⟨h.1,h.2.symm⟩)
 refine wpStill_nil ?_;change wpList _ _ _ _ _ (w1.drewN 1);generalize w1.drewN 1=w2 at*;exact S5
def adr(h:cS w C U RO K p c t used hv jv s r)(i:Ins){k:Nat}(hk:i.a=k)(jZ:k<c.aK.length)(hl:r.stack.length<1000000):
 Calls prog 105 #[UI C.mb,aV i] w (cF w C.mb U.rb RO K p c t used (.tuple #[]) (s,r.push (c.aK.getD k 0))):=by
 have H0:=(h.box (QP (aI i) 40)).drewN 1;have HB:=Z (((aB w.heap.size w).alloc (aL _) (QP (aI i) 40)).trans (az _ _ 1));have hP:=mY H0 (c.aK.getD k 0) hl;have e1:(w.alloc (QP (aI i) 40)).cell? (G w.heap.size 1)=H (Y k):=by rw[<-hk];exact(aF.new w 40 (aI i)).cell 1
 have e5:(w.alloc (QP (aI i) 40)).cell? (G C.mb 7)=H K.qs:=H0.m.bg.cell 7;obtain⟨b,cap,iD,pR,mZ,X⟩:=H0.m.prog.qs.some O;rw[iD]at e5;have gU:(w.alloc (QP (aI i) 40)).cell? (G b k)=H (Y (c.aK.getD k 0)):=by have h3:=H0.m.prog.qs;rw[iD]at h3;exact h3.cell (o:=k) O
 have HP:=Z hP;have a0f:=Z h;clear h hP H0 hk;unfold aV;unfold aI at*;generalize Oz:c.aK.getD k 0=vk at*;generalize c.aK.length=nv at*;obtain⟨w1,jF⟩:∃w1,w1=w.alloc (QP #[Y i.op,Y i.a,Y i.b,Y i.c,Y i.d] 40):=⟨_,rfl⟩;rw[<-jF]at HP HB e1 e5 gU;go_enter func105,ntmps105;go_wp2_with fail;rw[<-jF];clear jF
 go_still_tail 10,bh
 change wpList _ _ _ _ _ (w1.drewN 1);generalize w1.drewN 1=w2 at*;exact S5
def adp(h:cS w C U RO K p c t used hv jv s r)(i:Ins)(hl:r.stack.length<1000000):
 Calls prog 106 #[UI C.mb,aV i] w (cF w C.mb U.rb RO K p c t used (.tuple #[]) (s,r.push c.size)):=by
 have H0:=(h.box (QP (aI i) 40));have HB:=Z (((aB w.heap.size w).alloc (aL _) (QP (aI i) 40)));have hP:=mY H0 c.size hl;have e5:(w.alloc (QP (aI i) 40)).cell? (G C.mb 6)=H (Y c.size):=H0.m.bg.cell 6;have HP:=Z hP;have a0f:=Z h;clear h hP H0;unfold aV;unfold aI at*;go_enter func106,ntmps106;exact S5
def JH(h:cS w C U RO K p c t used hv jv s r)(i:Ins)(hl:r.stack.length<1000000):
 Calls prog 107 #[UI C.mb,aV i] w (cF w C.mb U.rb RO K p c t used (.tuple #[]) (s,r.push s.total)):=by
 have H0:=(h.box (QP (aI i) 40));have HB:=Z (((aB w.heap.size w).alloc (aL _) (QP (aI i) 40)));have hP:=mY H0 s.total hl;have e5:(w.alloc (QP (aI i) 40)).cell? (G C.mb 12)=H (Y s.total):=H0.m.bg.cell 12;have HP:=Z hP;have a0f:=Z h;clear h hP H0;unfold aV;unfold aI at*;go_enter func107,ntmps107;exact S5
def ZW{p:Prop}(h:p:=by
 go_wp2;exact bK (dJ rfl _ _ _) rfl ⟨rfl,_,λb X=>by simp[X],HS.o.i_,HK.o⟩):p:=h
def abj(h:cS w C U RO K p c t used hv jv s r)(i:Ins):
 Calls prog 101 #[UI C.mb,aV i] w (cF w C.mb U.rb RO K p c t used (.tuple #[]) (s,{r with done:=true})):=by
 have H0:=h.box (QP (aI i) 40);have HB:=Z ((aB w.heap.size w).alloc (aL _) (QP (aI i) 40));have e60:(w.alloc (QP (aI i) 40)).cell? (G C.mb 60)=H (UI U.rb):=H0.m.bg.cell 60;have e8:(w.alloc (QP (aI i) 40)).cell? (G U.rb 8)=H (.bool r.done):=H0.r.dS.cell 8;have ef:∀o,(w.alloc (QP (aI i) 40)).frozen? (G U.rb o)=false:=H0.r.dS.frozen;have HS:=Z (H0.jW 8 (.bool true) (r':={r with done:=true}) rfl rfl rfl rfl rfl rfl H0.r.gP);have HK:=Z (Kept.dn (S:=U.l) ((aA.af (S:=U.l) HB.o).setCell (p:=(G U.rb 8)) (by simp[Ru.l]) (.bool true)) (λb X=>h.sep.ur X) h.sep.dO);clear h H0;unfold aV;unfold aI at*;go_enter func101,ntmps101;exact ZW
def O2(h:cS w C U RO K p c t used hv jv s r)(i:Ins){k:Nat}(hk:i.a=k):
 Calls prog 113 #[UI C.mb,aV i] w (cF w C.mb U.rb RO K p c t used (.tuple #[]) (s,{r with at_:=k})):=by
 have H0:=h.box (QP (aI i) 40);have HB:=Z ((aB w.heap.size w).alloc (aL _) (QP (aI i) 40));have e1:(w.alloc (QP (aI i) 40)).cell? (G w.heap.size 1)=H (Y k):=by rw[<-hk];exact(aF.new w 40 (aI i)).cell 1
 have e60:(w.alloc (QP (aI i) 40)).cell? (G C.mb 60)=H (UI U.rb):=H0.m.bg.cell 60;have e8:(w.alloc (QP (aI i) 40)).cell? (G U.rb 1)=H (Y r.at_):=H0.r.dS.cell 1;have ef:∀o,(w.alloc (QP (aI i) 40)).frozen? (G U.rb o)=false:=H0.r.dS.frozen;have HS:=Z ((H0.jW 1 (Y k) (r':={r with at_:=k}) rfl rfl rfl rfl rfl rfl H0.r.gP).drewN 1);have HK:=Z (Kept.dn (S:=U.l) (((aA.af (S:=U.l) HB.o).setCell (p:=(G U.rb 1)) (by simp[Ru.l]) (Y k)).drewN 1) (λb X=>h.sep.ur X) h.sep.dO);clear h H0 hk;unfold aV;unfold aI at*;obtain⟨w1,jF⟩:∃w1,w1=w.alloc (QP #[Y i.op,Y i.a,Y i.b,Y i.c,Y i.d] 40):=⟨_,rfl⟩;rw[<-jF]at HS HB HK e1 e60 e8 ef;go_enter func113,ntmps113;go_wp2_with fail;rw[<-jF];clear jF;go_region;exact ZW
end
end Go.Ma
section
def mm{p:Prop}(h:p:=by
 rw[<-X]at sT;obtain⟨rfl,mI⟩:=sT;go_wp2;exact bK (dJ rfl _ _ _) rfl ⟨rfl,mI⟩):p:=h
namespace Go.Ma
open Go.RowKit aj.Vm
open aj hiding aR an ak
open eB (bS bL)
open Ix (cX)
def rp(r:Rn)(k:Nat):Rn:=if r.iX=0 then{r.pop with at_:=k}else r.pop
def yf(r:Rn)(k:Nat):Rn:=if r.iX=0 then wO r.pop k else r.pop
def yh(r:Rn)(k:Nat):Rn:=if r.loops.headD 0=0 then wO r k else{r with loops:=(r.loops.headD 0-1)::r.loops.tail}
section
variable {w w':UK}{C:Co}{U U':Ru}{RO RO':List Nat}{K:Kc}{p:aQ}{c:Cp}{t:dZ}{used:Int}{hv hv':UL}{jv kT:Nat->UL}{s:St}{r r':Rn}{mb rb:Nat}
def cS.tJ(h:cS w C U RO K p c t used hv jv s r)(h1:C.mb=mb)(h2:U.rb=rb):In w mb rb RO K p c t used (s,r):=⟨C,U,hv,jv,h1,h2,h⟩
def aF.lA{b:Nat}{T:TypeId}{cs:Array UL}(h:aF w b T cs)(k:Kept RO w w')(X:b∈RO):aF w' b T cs:=h.of (k.block b X)
def OA(h:cS w C U RO K p c t used hv jv s r)(i:Ins){k:Nat}(hk:i.a=k){n:Int}{rest:List Int}(fL:r.stack=n::rest)(hl:rest.length<1000000):
 Calls prog 114 #[UI C.mb,aV i] w (cF w C.mb U.rb RO K p c t used (.tuple #[]) (s,rp r k)):=by
 have H0:=h.box (QP (aI i) 40);have HP:=Z (xL H0 fL hl);have kE:=Z (aF.new w 40 (aI i));have nG:=Z (Kept.af (RO:=RO) ((aB w.heap.size w).alloc (aL _) (QP (aI i) 40)) h.sep.dO);have zT:=Z hk;have BW:=Z (show r.iX=n by unfold Rn.iX;rw[fL];rfl);clear h H0 hk;unfold aV;unfold aI at*;go_enter func114,ntmps114;go_wp2_with fail;generalize gu:w.heap.size=bx at HP kE ⊢;refine HP.o.mono ?_;rintro e w' ⟨rfl,RO',ho,⟨C',U',hv',kT,oR,oE,A⟩,xE⟩;have sS:UJ w' (G C.mb 60)=H (UI U.rb):=by rw[<-oR,<-oE];exact A.m.bg.cell 60
 have r1:UJ w' (G U.rb 1)=H (Y r.at_):=by rw[<-oE];exact A.r.dS.cell 1
 have rf:∀o,w'.frozen? (G U.rb o)=false:=by rw[<-oE];exact A.r.dS.frozen
 have e1:UJ w' (G bx 1)=H (Y k):=by rw[<-zT.o];exact(aF.lA kE.o xE ay).cell 1
 have HA:=Z A;have El:=Z (nG.o.trans xE (λb X=>by simp[X]));have HO:=Z (show∀b,b∈RO->b∈RO' from λb X=>ho b (by simp[X]));have HM:=Z oR;have HR:=Z oE;clear A xE ho oR oE HP kE gu nG;by_cases hn:n=0
 ·subst hn;go_wp2;go_region;go_wp2;refine bK (dJ rfl _ _ _) rfl ⟨rfl,RO',HO.o,?_,?_⟩
  ·have X:rp r k={r.pop with at_:=k}:=by unfold rp;rw[bk BW.o]
   rw[X];have A2:=((HA.o.jW 1 (Y k) (r':={r.pop with at_:=k}) rfl rfl rfl rfl rfl rfl HA.o.r.gP).drewN 1).tJ HM.o HR.o;rw[HR.o]at A2;exact A2
  ·refine El.o.trans (RO':=RO') (Kept.dn (S:=U'.l) (((aA.refl _ w').setCell (by rw[<-HR.o];simp[Ru.l]) _).drewN 1) (λb X=>HA.o.sep.ur X) HA.o.sep.dO) HO.o
 ·have hz:(n==0)=false:=by simpa using hn
  go_wp2;refine bK (dJ rfl _ _ _) rfl ⟨rfl,RO',HO.o,?_,El.o⟩;have X:rp r k=r.pop:=by unfold rp;rw[aw (by rw[BW.o];exact hn)]
  rw[X];exact HA.o.tJ HM.o HR.o
def Yc(h:cS w C U RO K p c t used hv jv s r)(i:Ins){k:Nat}(hk:i.a=k){n:Int}{rest:List Int}(fL:r.stack=n::rest)(hl:rest.length<1000000){m:Int}{lrest:List Int}(Z0:r.loops=m::lrest)(La:lrest.length<1000000):
 Calls prog 117 #[UI C.mb,aV i] w (cF w C.mb U.rb RO K p c t used (.tuple #[]) (s,yf r k)):=by
 have H0:=h.box (QP (aI i) 40);have HP:=Z (xL H0 fL hl);have kE:=Z (aF.new w 40 (aI i));have nG:=Z (Kept.af (RO:=RO) ((aB w.heap.size w).alloc (aL _) (QP (aI i) 40)) h.sep.dO);have zT:=Z hk;have BW:=Z (show r.iX=n by unfold Rn.iX;rw[fL];rfl);clear h H0 hk;unfold aV;unfold aI at*;go_enter func117,ntmps117;go_wp2_with fail;generalize gu:w.heap.size=bx at HP kE ⊢;refine HP.o.mono ?_;rintro e w' ⟨rfl,RO',ho,⟨C',U',hv',kT,oR,oE,A⟩,xE⟩;have sS:UJ w' (G C.mb 60)=H (UI U.rb):=by rw[<-oR,<-oE];exact A.m.bg.cell 60
 have r1:UJ w' (G U.rb 1)=H (Y r.at_):=by rw[<-oE];exact A.r.dS.cell 1
 have rf:∀o,w'.frozen? (G U.rb o)=false:=by rw[<-oE];exact A.r.dS.frozen
 have e1:UJ w' (G bx 1)=H (Y k):=by rw[<-zT.o];exact(aF.lA kE.o xE ay).cell 1
 have HA:=Z A;have El:=Z (nG.o.trans xE (λb X=>by simp[X]));have HO:=Z (show∀b,b∈RO->b∈RO' from λb X=>ho b (by simp[X]));have HM:=Z oR;have HR:=Z oE;clear A xE ho oR oE HP kE gu nG;by_cases hn:n=0
 ·subst hn;have HL:=Z (Jq HA.o (n:=m) (rest:=lrest) Z0 La k);rw[HM.o]at HL;go_wp2_with fail;refine HL.o.mono ?_;intro e w2 hd;have sT:=hd.pre (RO:=RO) El.o HO.o;rw[HR.o]at sT;have X:yf r k=wO r.pop k:=by unfold yf;rw[bk BW.o]
  exact mm
 ·have hz:(n==0)=false:=by simpa using hn
  go_wp2;refine bK (dJ rfl _ _ _) rfl ⟨rfl,RO',HO.o,?_,El.o⟩;have X:yf r k=r.pop:=by unfold yf;rw[aw (by rw[BW.o];exact hn)]
  rw[X];exact HA.o.tJ HM.o HR.o
end
end Go.Ma
end
